/-
  PART 5 OF THE PROOF (no conditions).
-/
import Derived.Test.YtiimabnndpeioaaGreatDoorSX4
import Derived.Calls
import Derived.LaidMore
import Derived.MakeChecks
import Derived.OpenShut
import Derived.ProofKit
import Derived.Stop.Joined
import Derived.Test.YtiimabnndpeioaaGreatDoorRows
import GoSem.ClaimJoined
set_option linter.unusedSectionVars false
set_option linter.unusedSimpArgs false
set_option linter.unusedVariables false
set_option linter.constructorNameAsVariable false
set_option linter.defProp false
noncomputable section
set_option maxRecDepth 100000
set_option maxHeartbeats 16000000
namespace Go.Am
namespace Sx
def jh(F:Tx)(H a:Tp):Prop:=∀r∈F,∀x,H[r]?=some x->x.alive=true->a[r]?=some x
structure HEff where
 set:Option (Nat×HObj)
 push:Option (HObj×(Nat->Value))
 v:Value
def HEff.put(e:HEff)(H:Tp):Tp:=match e.set with
 |some p=>H.set p.1 p.2
 |none=>H
def HEff.heap(e:HEff)(H:Tp):Tp:=match e.push with
 |some p=>e.put H++[p.1]
 |none=>e.put H
def HEff.val(e:HEff)(n:Nat):Value:=match e.push with
 |some p=>p.2 n
 |none=>e.v
def CQ(b:Prop)(F W:Tx)(f:Tp->Option (List HObj×Value))(H:Tp):Prop:=
 ∀H' v,f H=some (H',v)->∃e:HEff,H'=e.heap H/\v=e.val H.length/\(∀p,e.set=some p->p.1∈W/\∃x,H[p.1]?=some x/\x.alive=true)/\(∀p,e.push=some p->b/\Fresh p.2/\p.1.alive=true)/\
  ∀a,jh F H a->f a=some (e.heap a,e.val a.length)
def Sn(F:Tx)(f:Tp->Ti)(H:Tp):Prop:=∀v,f H=some v->∀a,jh F H a->f a=some v
def fY{F:Tx}{H a:Tp}(h:jh F H a){r:Nat}(c:r∈F){vs:Tk}{e:Nat}{b:Bool}(d:H[r]?=some (.cells vs e b)):a[r]?=some (.cells vs e b):=h r c _ d rfl
def gN{F:Tx}{H d:Tp}(h:jh F H d){r:Nat}(f:r∈F){b:Th}{c:Nat}(a:A8 H r=some (b,c)):H[r]?=some (.map b c)/\A8 d r=some (b,c):=by
 unfold A8 at a;split at a
 next e=>
  cases a;exact⟨e,by unfold A8;rw[h r f _ e rfl]⟩
 ·cases a
def vw{C:Cfg}{H g:Tp}{esz:Nat}{x:Value}{p:List Value×Nat}(c:dS C H esz x=some p){F:Tx}(k:∀r∈adr x,r∈F)(h:jh F H g):dS C g esz x=some p:=by
 unfold dS at c ⊢;split at c
 ·exact c
 next a f j=>
  split at c
  next d=>simp only[d,if_true];exact c
  next d=>
   split at c
   next i=>
    simp only[d,if_false,i,if_true];split at c
    next m e b hid=>
     have l:a.block∈adr (.slice (some a) f j):=by
      simp[adr,i,qs]
     rw[fY h (k _ l) hid];exact c
    ·cases c
   ·cases c
 ·exact c
 ·cases c
def vO{c:Prop}{F W:Tx}{H:Tp}(a:c)(x:HObj)(mk:Nat->Value)(e:x.alive=true)(d:Fresh mk):CQ c F W (λH=>some (H++[x],mk H.length)) H:=by
 intro f v h;cases h;exact⟨⟨none,some (x,mk),undef⟩,rfl,rfl,λp b=>(by cases b),λp b=>by cases b;exact⟨a,d,e⟩,λg _=>rfl⟩
def sn{d:Prop}{F W:Tx}{f:Tp->Option (List HObj×Value)}{H:Tp}{v:Value}(h:f H=some (H,v))(c:∀a,jh F H a->f a=some (a,v)) :
  ∃e:HEff,H=e.heap H/\v=e.val H.length/\(∀p,e.set=some p->p.1∈W/\∃x,H[p.1]?=some x/\x.alive=true)/\(∀p,e.push=some p->d/\Fresh p.2/\p.1.alive=true)/\∀a,jh F H a->f a=some (e.heap a,e.val a.length):=
 ⟨⟨none,none,v⟩,rfl,rfl,λp b=>(by cases b),λp b=>(by cases b),c⟩
def sj{d:Prop}{F W:Tx}{f:Tp->Option (List HObj×Value)}{H:Tp}{x:HObj}{mk:Nat->Value}(b:d)(i:x.alive=true)(h:Fresh mk)(g:∀a,jh F H a->f a=some (a++[x],mk a.length)) :
  ∃e:HEff,H++[x]=e.heap H/\mk H.length=e.val H.length/\(∀p,e.set=some p->p.1∈W/\∃x,H[p.1]?=some x/\x.alive=true)/\(∀p,e.push=some p->d/\Fresh p.2/\p.1.alive=true)/\∀a,jh F H a->f a=some (e.heap a,e.val a.length):=
 ⟨⟨none,some (x,mk),undef⟩,rfl,rfl,λp c=>(by cases c),λp c=>by cases c;exact⟨b,h,i⟩,g⟩
def sq{j:Prop}{F W:Tx}{f:Tp->Option (List HObj×Value)}{H:Tp}{i:Nat}{x y:HObj}{v:Value}(g:i∈W)(h:H[i]?=some y)(d:y.alive=true)(c:∀a,jh F H a->f a=some (a.set i x,v)) :
  ∃e:HEff,H.set i x=e.heap H/\v=e.val H.length/\(∀p,e.set=some p->p.1∈W/\∃x,H[p.1]?=some x/\x.alive=true)/\(∀p,e.push=some p->j/\Fresh p.2/\p.1.alive=true)/\∀a,jh F H a->f a=some (e.heap a,e.val a.length):=
 ⟨⟨some (i,x),none,v⟩,rfl,rfl,λp b=>by cases b;exact⟨g,y,h,d⟩,λp b=>(by cases b),c⟩
def zj{Q:Prop}{C:Cfg}{t:TJ}{s x:Value}{H:Tp}{F W:Tx}(B:Q)(M:∀r∈adr s,r∈F/\r∈W)(U:∀r∈adr x,r∈F):CQ Q F W (fK C t s x) H:=by
 intro X v c;unfold fK at c;split at c
 case h_2=>cases c
 rename_i P T
 split at c
 ·cases c
 rename_i b R
 split at c
 ·cases c
 rename_i N
 split at c
 ·cases c
 rename_i V
 split at c
 ·cases c
 rename_i w n J
 have d:∀f,jh F H f->fK C t s x f=(match (motive:=Value->Option (List HObj×Value)) s with
   | .slice none 0 0=>
    if n=0 then some (f,.slice none 0 0)
    else if bb n b.bytes then some (f++[.cells w b.size true],.slice (some ⟨f.length,0,qs b.size⟩) n 0)else none
   | .slice (some a) g I=>
    if a.spot≠qs b.size then none else
    match f[a.block]? with
    |some (.cells G e rw)=>
     if e≠b.size then none else
     match cut G a.off (g*b.size)with
     |none=>none
     |some z=>
      match I with
      |0=>
       if n=0 then some (f,.slice (some a) g 0)
       else if rw&&bb (g+n) b.bytes then
        some (f.set a.block .dead++[.cells (z++w) b.size true],.slice (some ⟨f.length,0,qs b.size⟩) (g+n) 0)
       else none
      |cap+1=>
       if g+n<=cap then
        if rw then(splice G (a.off+g*b.size) w).map λE=>(f.set a.block (.cells E e true),.slice (some a) (g+n) (cap+1))
        else if n=0 then some (f,.slice (some a) g (cap+1))else none
       else if bb (g+n) b.bytes then
        some (f++[.cells (z++w) b.size true],.slice (some ⟨f.length,0,qs b.size⟩) (g+n) 0)
       else none
    |_=>none
   |_=>none):=by
  intro f j;unfold fK;simp only[T,R,N,if_false,V,vw J U j];rfl
 split at c
 ·split at c
  next o=>
   cases c;exact sn (by rw[d H λ_ _ _ h _=>h];simp only[o,if_true]) λf j=>by rw[d f j];simp only[o,if_true]
  next o=>
   split at c
   next u=>
    cases c;exact sj (mk:=λk=>.slice (some ⟨k,0,qs b.size⟩) n 0) B rfl (.slice _ _ _) λf j=>by rw[d f j];simp only[o,if_false,u,if_true]
   ·cases c
 next a g I=>
  split at c
  ·cases c
  rename_i l
  have K:a.block∈adr (.slice (some a) g I):=by
   simp only[ne_eq,Classical.not_not]at l;simp[adr,l,qs]
  split at c
  case h_2=>cases c
  rename_i G e O hid
  split at c
  ·cases c
  rename_i A
  split at c
  ·cases c
  rename_i z i
  have m:∀ {f},jh F H f->f[a.block]?=some (.cells G e O):=λj=>fY j (M _ K).1 hid;split at c
  ·split at c
   next o=>
    cases c;exact sn (by rw[d H λ_ _ _ h _=>h];simp only[l,hid,A,i,o,if_true,if_false]) λf j=>by rw[d f j];simp only[l,m j,A,i,o,if_true,if_false]
   next o=>
    split at c
    next u=>
     cases c;refine⟨⟨some (a.block,.dead),some (.cells (z++w) b.size true,λk=>.slice (some ⟨k,0,qs b.size⟩) (g+n) 0),undef⟩,rfl,rfl,λp L=>by cases L;exact⟨(M _ K).2,_,hid,rfl⟩,λp L=>by cases L;exact⟨B,.slice _ _ _,rfl⟩,λf j=>?_⟩;rw[d f j];simp only[l,m j,A,i,o,u,if_true,if_false];rfl
    ·cases c
  ·split at c
   next cap q=>
    split at c
    next y=>
     obtain⟨E,D,S⟩:=qag.1 c;cases S;exact sq (M _ K).2 hid rfl λf j=>by rw[d f j];simp only[l,m j,A,i,q,y,if_true,if_false,D,BP]
    next y=>
     split at c
     next o=>
      cases c;exact sn (by rw[d H λ_ _ _ h _=>h];simp only[l,hid,A,i,q,o,y,if_true,if_false];simp[o];omega) λf j=>by rw[d f j];simp only[l,m j,A,i,q,y,o,if_true,if_false];simp[o];omega
     ·cases c
   next cap q=>
    split at c
    next u=>
     cases c;exact sj (mk:=λk=>.slice (some ⟨k,0,qs b.size⟩) (g+n) 0) B rfl (.slice _ _ _) λf j=>by rw[d f j];simp only[l,m j,A,i,q,u,if_true,if_false]
    ·cases c
 ·cases c
def KJ{b:Prop}{C:Cfg}{t:TJ}{d x:Value}{H:Tp}{F W:Tx}(e:∀r∈adr d,r∈F/\r∈W)(f:∀r∈adr x,r∈F):CQ b F W (DO C t d x) H:=by
 intro c v a;cases a
def HS{b:Prop}{C:Cfg}{t:TJ}{x:Value}{H:Tp}{F W:Tx}(d:∀r∈adr x,r∈F/\r∈W):CQ b F W (tO C t x) H:=by
 intro c v a;cases a
def HV{g:Prop}{C:Cfg}{t:TJ}{id off:Nat}{x:Value}{H:Tp}{F W:Tx}(h1:id∈F)(b:id∈W):CQ g F W (jm C t id off x) H:=by
 intro i v a;unfold jm at a;split at a
 next k e hid=>
  obtain⟨h,f,d⟩:=qag.1 a;cases d;refine sq b hid rfl λj c=>?_;unfold jm;simp only[fY c h1 hid,f,BP]
 ·cases a
def qv{s:Prop}{C:Cfg}{t:TJ}{m k x:Value}{H:Tp}{F W:Tx}(q:∀r∈adr m,r∈F/\r∈W):CQ s F W (cH C t m k x) H:=by
 intro u v a;unfold cH at a;split at a
 case h_2=>cases a
 rename_i z y id l
 split at a
 ·cases a
 rename_i d
 split at a
 ·cases a
 rename_i w c g
 obtain⟨e,n⟩:=q id (by simp[adr]);have j:=(gN (λ_ _ _ h _=>h:jh F H H) e g).1;split at a
 ·cases a
 next b=>
  cases a;refine sq n j rfl λo f=>?_;unfold cH;simp only[l,d,(gN f e g).2,b];rfl
 next i b=>
  split at a
  next p=>
   cases a;refine sq n j rfl λo f=>?_;unfold cH;simp only[l,d,(gN f e g).2,b,p];rfl
  ·cases a
def HU{b:Prop}{C:Cfg}{t:TJ}{m k:Value}{H:Tp}{F W:Tx}(d:∀r∈adr m,r∈F/\r∈W):CQ b F W (iw C t m k) H:=by
 intro c v a;cases a
def zm{b:Prop}{m s x:Value}{H:Tp}{F W:Tx}(d:∀r∈adr m,r∈F/\r∈W):CQ b F W (fg m s x) H:=by
 intro c v a;cases a
def zk{b:Prop}{C:Cfg}{t:TJ}{m k:Value}{H:Tp}{F W:Tx}(d:∀r∈adr m,r∈F/\r∈W):CQ b F W (nP C t m k) H:=by
 intro c v a;cases a
def KK{g:Prop}{C:Cfg}{t:TJ}{l c:Value}{H:Tp}{F W:Tx}(d:g):CQ g F W (dx C t l c) H:=by
 intro r v a;unfold dx at a;split at a
 case h_2=>cases a
 rename_i q h e i j o
 split at a
 case h_2=>cases a
 rename_i b n
 split at a
 ·cases a
 rename_i f
 split at a
 case h_2=>cases a
 rename_i z p
 split at a
 next m=>
  cases a;refine sj (mk:=λk=>.slice (some ⟨k,0,qs b.size⟩) q.toNat (h.toNat+1)) d rfl (.slice _ _ _) λs _=>?_;unfold dx;simp only[i,j,o,n,f,p,m,and_self,if_true,if_false]
 ·cases a
def zn{C:Cfg}{t:TJ}{m k:Value}{ok:Bool}{H:Tp}{F:Tx}(g:∀r∈adr m,r∈F):Sn F (dI C t m k ok) H:=by
 intro v a h e;unfold dI at a;unfold dI;split at a
 case h_2=>cases a
 rename_i o j l
 split at a
 ·cases a
 rename_i b
 simp only[b];split at a
 ·cases a
 rename_i z n
 split at a
 ·exact a
 next id=>
  have d:=g id (by simp[adr]);split at a
  ·cases a
  rename_i i c f
  simp only[(gN e d f).2];exact a
 ·cases a
def O7{C:Cfg}{t:TJ}{a:Addr}{d c e:Ti}{H:Tp}{F:Tx}(f:∀r∈adr (.pointer (some a)),r∈F):Sn F (kE C t a d c e) H:=by
 intro v b;cases b
end Sx
namespace Sx
def Cj(pts:Tx)(ρ:Tf)(o:Oper):Tx:=(dg pts o).1.flatMap λx=>adrK (dg pts o).2 (ρ x)
def Fa(pts:Tx)(ρ:Tf)(o:Oper):Tx:=(eO pts o).flatMap λx=>adr (ρ x)
def Em(N:Tb)(pts:Tx)(o:Oper):Bool:=
 match aw N pts o with
 |some .hw=>(match o.op with
  | .call c=>(match c.callee with
   | .builtin _=>true
   |_=>false)
  |_=>true)
 |some .hr=>(match o.op with
  | .call c=>(match c.callee with
   | .builtin _=>true
   |_=>false)
  |_=>true)
 |some _=>true
 |none=>false
def dy{C:Cfg}{ρ:Tf}{o:Oper}{e:Eff}(h:cJ C ρ o=some e):∃v,e = .val v:=by
 unfold cJ at h;split at h
 ·split at h
  ·split at h
   ·cases h;exact⟨_,rfl⟩
   ·cases h
  ·cases h
 ·cases h
def dK{x:Ti}{e:Eff}(h:x.map Eff.val=some e):∃v,e = .val v:=by
 obtain⟨v,_,rfl⟩:=qag.1 h;exact⟨v,rfl⟩
def Lb{a:Ti}{b:Option Eff}{e:Eff}(c:b=some e->∃v,e = .val v)(h:oR a b=some e):∃v,e = .val v:=by
 unfold oR at h;split at h
 ·cases h;exact⟨_,rfl⟩
 ·exact c h
def Sl(Q a:Prop)(F W:Tx):Eff->Prop
 | .hop f=>∀H,CQ a F W f H
 | .hget f=>∀H,Sn F f H
 | .call _ _=>Q
 | .yield _ _=>Q
 |_=>True
def bZ{Q a:Prop}{F W:Tx}{e:Eff}(h:∃v,e = .val v):Sl Q a F W e:=by
 obtain⟨v,rfl⟩:=h;trivial
def jl{v:Value}{p:Nat×Nat}(h:iq v=some p):adr v=[p.1]:=by
 unfold iq at h;split at h
 next a=>
  split at h
  next c=>
   cases h;cases b:a.spot with
   |none=>simp[adr,b]
   |some k=>rw[b]at c;cases c
  ·cases h
 ·cases h
def xu{Q c:Prop}{C:Cfg}{pts:Tx}{d:Tn}{t:TJ}{v:Value}{e:Eff}{F W:Tx}(a:∀x,d=some x->pts.getD x 0≠x+2->c)(h:cI C pts d t v=some e):Sl Q c F W e:=by
 unfold cI at h;split at h
 ·cases h
 ·split at h
  ·cases h
  ·split at h
   ·cases h
   ·split at h
    ·cases h;trivial
    next b=>
     cases h;exact λH=>vO (a _ rfl b) (.cells v.cells.toList (lK C.P t) true) (λn=>.pointer (some ⟨n,0,none⟩)) rfl .ptr
def Hh{C:Cfg}{pts:Tx}{ρ:Tf}{o:Oper}{e:Eff}(g:aq C pts ρ o=some e):Sl (∃c f,o.op = .call c/\c.callee = .value f) (dt pts o=true) (Cj pts ρ o) (Fa pts ρ o) e:=by
 unfold aq at g;split at g
 ·cases g;trivial
 ·cases g;trivial
 ·split at g
  ·cases g;trivial
  ·cases g
 next t h=>
  obtain⟨z,_,g⟩:=qaA.1 g;exact xu (λx D y=>by simp only[dt,h,D];cases J:Nat.beq (pts.getD x 0) (x+2)with
   |false=>rfl
   |true=>exact absurd (AW J) y) g
 next t x h=>
  exact xu (λx D y=>by simp only[dt,h,D];cases J:Nat.beq (pts.getD x 0) (x+2)with
   |false=>rfl
   |true=>exact absurd (AW J) y) g
 ·split at g
  ·exact bZ (dK g)
  ·cases g
 next t n U h=>
  split at g
  ·obtain⟨r,_,rfl⟩:=qag.1 g;exact λH=>vO (by simp only[dt,h]) (.cells r.2 r.1 true) (λk=>.slice (some ⟨k,0,qs r.1⟩) n (n+1)) rfl (.slice _ _ _)
  ·cases g
 next t a h=>
  unfold dV at g;split at g
  next E=>
   split at g
   next p y=>
    cases g;intro H v B L G;obtain⟨O,A,I⟩:=qaA.1 B;have K:p.1∈Cj pts ρ o:=by simp[Cj,dg,adrK,h,E,jl y]
    refine qaA.2 ⟨O,?_,I⟩;unfold fj at A ⊢;split at A
    next hid=>cases A;rw[fY G K hid]
    ·cases A
   ·obtain⟨p,_,rfl⟩:=qag.1 g;exact λH v B L _=>B
  ·obtain⟨p,_,g⟩:=qaA.1 g;exact bZ (dK g)
  ·obtain⟨p,_,rfl⟩:=qag.1 g;trivial
 next t a x h=>
  unfold eN at g;split at g
  ·cases g
  ·split at g
   next E=>
    obtain⟨p,y,rfl⟩:=qag.1 g;exact λH=>HV (by simp[Cj,dg,adrK,h,E,jl y]) (by simp[Fa,eO,h,E,jl y])
   ·cases g
   ·obtain⟨p,_,rfl⟩:=qag.1 g;trivial
 ·split at g<;>cases g<;>trivial
 ·split at g
  ·split at g
   ·split at g
    ·cases g;trivial
    ·cases g
   ·exact bZ (dy g)
  ·split at g
   ·split at g
    ·cases g;trivial
    ·cases g
   ·exact bZ (dy g)
  ·exact bZ (dy g)
 ·split at g
  ·cases g
  ·cases g;trivial
 next t r h=>
  split at g
  ·cases g;exact λH=>vO (by simp only[dt,h]) (.map [] 0) (λn=>.map (some n)) rfl .map
  ·cases g
 next t l c h=>
  cases g;exact λH=>KK (by simp only[dt,h])
 next t x R P S h=>
  split at g
  next a D=>
   split at g
   ·exact bZ (dK g)
   ·cases g;exact λH=>O7 λr i=>by simp[Cj,dg,adrK,V9,h,D];exact i
  ·exact bZ (Lb dy g)
 ·exact bZ (dK g)
 ·exact bZ (dK g)
 ·exact bZ (dK g)
 ·exact bZ (dK g)
 next t m k T h=>
  split at g
  ·exact bZ (dK g)
  ·cases g;exact λH=>zn λr i=>by simp[Cj,dg,adrK,h];exact i
 next t m k v h=>
  cases g;exact λH=>qv λr i=>⟨by simp[Cj,dg,adrK,h];exact i,by simp[Fa,eO,h];exact i⟩
 next t m k v h=>
  cases g;exact λH=>qv λr i=>⟨by simp[Cj,dg,adrK,h];exact i,by simp[Fa,eO,h];exact i⟩
 next t m k h=>
  cases g;exact λH=>HU λr i=>⟨by simp[Cj,dg,adrK,h];exact i,by simp[Fa,eO,h];exact i⟩
 next t m s v h=>
  cases g;exact λH=>zm λr i=>⟨by simp[Cj,dg,adrK,h];exact i,by simp[Fa,eO,h];exact i⟩
 ·split at g
  ·split at g
   ·cases g
   ·exact bZ (dK g)
  ·cases g
 next c h=>
  unfold ge at g;simp only at g;cases q:c.callee with
  |invoke r m=>simp only[q]at g;cases g
  |builtin b=>
   simp only[q]at g;unfold bc at g;split at g
   next s x t j F=>
    split at g
    ·cases g
    ·cases g;have w:∃a b,c.args.toList=[a,b]/\ρ a=s/\ρ b=x:=by
      match c.args.toList,j with
      | [a,b],j=>simp at j;exact⟨a,b,rfl,j.1,j.2⟩
     obtain⟨a,b,u,rfl,rfl⟩:=w;exact λH=>zj (by simp only[dt,h,q]) (λr i=>⟨by simp[Cj,dg,adrK,h,q,u,i],by simp[Fa,eO,h,q,u,i]⟩) λr i=>by simp[Cj,dg,adrK,h,q,u,i]
   next x t j F=>
    split at g
    ·cases g;trivial
    next id Q=>
     cases g;have one:∃a,c.args.toList=[a]/\ρ a = .map (some id):=by
      cases M:c.args.toList with
      |nil=>rw[M]at j;cases j
      |cons a l=>
       rw[M]at j;cases l with
       |nil=>exact⟨a,rfl,by simpa using j⟩
       |cons b l=>simp at j
     obtain⟨a,u,N⟩:=one;intro H v B L G;obtain⟨p,A,I⟩:=qag.1 B;have K:id∈Cj pts ρ o:=by simp[Cj,dg,adrK,V8,h,q,u,N]
     exact qag.2 ⟨p,(gN G K A).2,I⟩
    ·cases g;trivial
    ·exact bZ (dy g)
   ·split at g
    ·cases g;trivial
    ·cases g;trivial
    ·cases g;trivial
    ·cases g
   next d x t j F=>
    cases g;have w:∃a b,c.args.toList=[a,b]/\ρ a=d/\ρ b=x:=by
     match c.args.toList,j with
     | [a,b],j=>simp at j;exact⟨a,b,rfl,j.1,j.2⟩
    obtain⟨a,b,u,rfl,rfl⟩:=w;exact λH=>KJ (λr i=>⟨by simp[Cj,dg,adrK,h,q,u,i],by simp[Fa,eO,h,q,u,i]⟩) λr i=>by simp[Cj,dg,adrK,h,q,u,i]
   next m k t j F=>
    cases g;have w:∃a b,c.args.toList=[a,b]/\ρ a=m/\ρ b=k:=by
     match c.args.toList,j with
     | [a,b],j=>simp at j;exact⟨a,b,rfl,j.1,j.2⟩
    obtain⟨a,b,u,rfl,rfl⟩:=w;exact λH=>zk λr i=>⟨by simp[Cj,dg,adrK,h,q,u,i],by simp[Fa,eO,h,q,u,i]⟩
   next x t j F=>
    cases g;have one:∃a,c.args.toList=[a]/\ρ a=x:=by
     match c.args.toList,j with
     | [a],j=>simp at j;exact⟨a,rfl,j⟩
    obtain⟨a,u,rfl⟩:=one;exact λH=>HS λr i=>⟨by simp[Cj,dg,adrK,h,q,u,i],by simp[Fa,eO,h,q,u,i]⟩
   ·exact bZ (dy g)
  |value f=>
   simp only[q]at g;split at g
   ·cases g
   ·split at g
    ·split at g
     ·cases g;exact⟨c,f,h,q⟩
     ·cases g
    ·split at g
     ·cases g;exact⟨c,f,h,q⟩
     ·cases g
    ·cases g
 ·exact bZ (dy g)
 ·exact bZ (dy g)
 ·cases g
section
variable [Val] {C:Cfg} {B:Below} {N:Tb} {pts:Tx} {ops:Tl}
def rg(N:Tb)(pts:Tx)(ops:Tl)(o:Oper)(σ τ:St):Prop:=
 (∀t∈bj ops o,τ.tmps[t]?=σ.tmps[t]?)/\(match aw N pts o with
 |some (.row s _)=>τ.loc[s]?=σ.loc[s]?
 |_=>True)/\jh (Cj pts (ke σ.tmps) o) σ.heap τ.heap
def fc(dst:Tn)(e:HEff)(rw:Option (Nat×Option (Tk)))(k:To)(τ:St):St:=
 ({ tmps:=τ.tmps,loc:=(match rw with|some p=>τ.loc.set p.1 p.2|none=>τ.loc),heap:=(match k with
  |none=>e.heap τ.heap
  |some k=>match e.push with
   |some p=>(e.put τ.heap).set k p.1
   |none=>e.put τ.heap) }:St).put dst (match k with
  |none=>e.val τ.heap.length
  |some k=>e.val k)
def HW(S:BH N B){i:Nat}{o:Oper}(F:ops[i]?=some o)(r:Em N pts o=true){σ σ':St}(A:aj C B pts ops i σ σ') :
  ∃(e:HEff) (rw:Option (Nat×Option (Tk))),σ'=fc o.dst e rw none σ/\(∀p,rw=some p->aw N pts o=some (.row p.1 true))/\(e.push≠none->aw N pts o=some .hw)/\
   (∀p,e.set=some p->p.1∈Fa pts (ke σ.tmps) o/\∃x,σ.heap[p.1]?=some x/\x.alive=true)/\(∀p,e.push=some p->dt pts o=true/\Fresh p.2/\p.1.alive=true)/\
   ∀τ,rg N pts ops o σ τ->∀t:Nat->Option Nat,
    (e.push=none->t i=none->dZ C B pts ops t i τ (fc o.dst e rw none τ))/\
    (∀p k,e.push=some p->t i=some k->(e.put τ.heap)[k]?=some .dead->dZ C B pts ops t i τ (fc o.dst e rw (some k) τ)):=by
 have G:aw N pts o≠none:=by intro h;unfold Em at r;rw[h]at r;cases r
 by_cases d:aw N pts o=some .hr∨aw N pts o=some .hw
 case neg=>
  obtain⟨e,M,E,O⟩:=iN S F G A;have U:e.hp=none:=by
   cases y:e.hp with
   |none=>rfl
   |some x=>exact absurd (.inr (E.2 (by rw[y];simp))) d
  have I:∀τ,e.on o.dst τ=fc o.dst ⟨none,none,e.v⟩ e.rw none τ:=λτ=>by
   unfold Ef.on fc;rw[U];rfl
  refine⟨⟨none,none,e.v⟩,e.rw,by rw[M,I],E.1,λh=>absurd rfl h,λp b=>(by cases b),λp b=>(by cases b),λτ hτ t=>⟨λ_ n=>?_,λp k b=>(by cases b)⟩⟩;unfold dZ;rw[n];rw[←I];refine O τ ⟨hτ.1,?_⟩;have:=hτ.2.1;cases H:aw N pts o with
  |none=>exact absurd H G
  |some m=>
   rw[H]at this d;cases m with
   |hr=>exact absurd (.inl rfl) d
   |hw=>exact absurd (.inr rfl) d
   |row s w=>exact this
   |_=>trivial
 case pos=>
  unfold aj at A;simp only[F]at A;have hwτ:∀τ,rg N pts ops o σ τ->cw ops τ.tmps o=cw ops σ.tmps o:=λτ hτ=>wH hτ.1;have val:∀v:Value,σ'=σ.put o.dst v->(∀τ,rg N pts ops o σ τ->aj C B pts ops i τ (τ.put o.dst v))->
    ∃(e:HEff) (rw:Option (Nat×Option (Tk))),σ'=fc o.dst e rw none σ/\(∀p,rw=some p->aw N pts o=some (.row p.1 true))/\(e.push≠none->aw N pts o=some .hw)/\
     (∀p,e.set=some p->p.1∈Fa pts (ke σ.tmps) o/\∃x,σ.heap[p.1]?=some x/\x.alive=true)/\(∀p,e.push=some p->dt pts o=true/\Fresh p.2/\p.1.alive=true)/\
     ∀τ,rg N pts ops o σ τ->∀t:Nat->Option Nat,
      (e.push=none->t i=none->dZ C B pts ops t i τ (fc o.dst e rw none τ))/\
      (∀p k,e.push=some p->t i=some k->(e.put τ.heap)[k]?=some .dead->dZ C B pts ops t i τ (fc o.dst e rw (some k) τ)):=by
   intro v D h;refine⟨⟨none,none,v⟩,none,D,λp b=>(by cases b),λh=>absurd rfl h,λp b=>(by cases b),λp b=>(by cases b),λτ hτ t=>⟨λ_ n=>?_,λp k b=>(by cases b)⟩⟩;unfold dZ;rw[n];exact h τ hτ
  split at A
  ·exact A.elim
  next hw=>
   refine val undef A λτ hτ=>?_;unfold aj;simp only[F,hwτ τ hτ,hw]
  next hw=>
   have step:∀ {τ τ':St},rg N pts ops o σ τ->((∃e,aq C pts (ke τ.tmps) o=some e/\lV B e o.dst τ τ')∨(∃v,kI C τ.tmps o v/\τ'=τ.put o.dst v))->aj C B pts ops i τ τ':=by
    intro τ τ' hτ h;unfold aj;simp only[F,hwτ τ hτ,hw];exact h
   rcases A with⟨e,y,hr⟩|⟨v,D,rfl⟩
   ·have yτ:∀τ,rg N pts ops o σ τ->aq C pts (ke τ.tmps) o=some e:=λτ hτ=>by
     rw[nU N pts G (xQ hτ.1)];exact y
    have a:=ij (N:=N) (λ_=>rfl) G y;have j:=Hh y;cases e with
    |val v=>
     obtain⟨p,b,rfl⟩:=hr;cases b;exact val v rfl λτ hτ=>step hτ (.inl ⟨_,yτ τ hτ,_,rfl,rfl⟩)
    |lnew s Y=>
     have a:aw N pts o=some (.row s true):=a;rw[a]at d;rcases d with h|h<;>cases h
    |lget s f=>
     have a:aw N pts o=some (.row s false):=a;rw[a]at d;rcases d with h|h<;>cases h
    |lset s f=>
     have a:aw N pts o=some (.row s true):=a;rw[a]at d;rcases d with h|h<;>cases h
    |hget f=>
     obtain⟨p,b,rfl⟩:=hr;simp only[aY]at b;obtain⟨v,D,rfl⟩:=qag.1 b;refine val v rfl λτ hτ=>step hτ (.inl ⟨_,yτ τ hτ,(τ,v),?_,rfl⟩);simp only[aY,j _ _ D _ hτ.2.2,BP]
    |hop f=>
     obtain⟨p,b,rfl⟩:=hr;simp only[aY]at b;obtain⟨q,D,rfl⟩:=qag.1 b;obtain⟨e,V,W,X,P,Q⟩:=j σ.heap q.1 q.2 D;refine⟨e,none,?_,λp b=>(by cases b),λ_=>a,X,P,λτ hτ t=>⟨λb n=>?_,λp k b n T=>?_⟩⟩
     ·unfold fc;rw[V,W]
     ·unfold dZ;rw[n];exact step hτ (.inl ⟨_,yτ τ hτ,({ τ with heap:=e.heap τ.heap },e.val τ.heap.length),by simp only[aY,Q _ hτ.2.2,BP],rfl⟩)
     ·unfold dZ;rw[n];refine⟨o,f,e.put τ.heap,p.1,p.2,F,by rw[hwτ τ hτ];exact hw,yτ τ hτ,?_,?_,T,(P p b).2.1,?_⟩
      ·rw[Q _ hτ.2.2];unfold HEff.heap HEff.val;rw[b]
      ·unfold HEff.put;split<;>simp
      ·unfold fc HEff.val;rw[b]
    |call f u=>
     exfalso;have a:(aw N pts o=some (.neu f)/\N f=some (2*u.length))∨(aw N pts o=some .hr/\N f=some (2*u.length+1))∨aw N pts o=some .hw:=a;rcases a with⟨h,_⟩|⟨h,_⟩|h
     ·rw[h]at d;rcases d with h|h<;>cases h
     ·obtain⟨c,g,J,K⟩:=j;unfold Em at r;simp only[h,J,K]at r;cases r
     ·obtain⟨c,g,J,K⟩:=j;unfold Em at r;simp only[h,J,K]at r;cases r
    |yield l u=>
     exfalso;have a:aw N pts o=some .hw:=a;obtain⟨c,g,J,K⟩:=j;unfold Em at r;simp only[a,J,K]at r;cases r
   ·refine val v rfl λτ hτ=>step hτ (.inr ⟨v,?_,rfl⟩);obtain⟨M,E,O,R⟩:=D;have z:=xQ hτ.1;refine⟨M,?_,O,λw=>?_⟩
    ·rw[qac]at E ⊢;intro x L;rw[z x L];exact E x L
    ·rw[execOp_congr N pts G (ρ':=λx=>Cu (ke σ.tmps x)) λx L=>by rw[z x L]];exact R w
end
end Sx
namespace Sx
section
variable [Val] {C:Cfg} {B:Below} {N:Tb} {pts:Tx} {ops:Tl}
def CM(S:Nat->St->St->Prop):Tx->St->St->Prop
 | [],σ,σ'=>σ'=σ
 |i :: l,σ,σ'=>∃σ₁,S i σ σ₁/\CM S l σ₁ σ'
def oL{S:Nat->St->St->Prop}{i:Nat}{post:Tx}:∀(pre:Tx),(∀k∈pre,∀σ σ₁ σ':St,S k σ σ₁->S i σ₁ σ'->∃τ,S i σ τ/\S k τ σ')->
  ∀σ σ':St,CM S (pre++i :: post) σ σ'->CM S (i :: (pre++post)) σ σ'
 | [],_,σ,σ',h=>h
 |k :: pre,a,σ,σ',⟨σ₁,h1,b⟩=>by
  obtain⟨σ₂,c,d⟩:=oL pre (λk g=>a k (by simp[g])) σ₁ σ' b;obtain⟨τ,e,f⟩:=a k (by simp) σ σ₁ σ₂ h1 c;exact⟨τ,e,σ₂,f,d⟩
def EH{S:Nat->St->St->Prop}(f:∀(i:Nat) o,ops[i]?=some o->∀e∈o.after.toList,Region.binds .any e=true->e.on<i)
  (l:∀i k:Nat,i<ops.size->k<i->Anc ops k i∨∀σ σ₁ σ':St,S k σ σ₁->S i σ₁ σ'->∃τ,S i σ τ/\S k τ σ'):∀(fuel t:Nat) (a:Array Bool),a.size=ops.size->(Ci ops.size a).length=fuel->
  (∀(x:Nat) o,a.getD x true=true->ops[x]?=some o->∀e∈o.after.toList,Region.binds .any e=true->a.getD e.on false=true)->
  ∀σ σ':St,CM S (Ci ops.size a) σ σ'->CM S (Region.linearise.go .any ops fuel t a []) σ σ'/\(Region.linearise.go .any ops fuel t a []).Nodup/\∀x∈Region.linearise.go .any ops fuel t a [],a.getD x true=false
 |0,t,a,_,P,_,σ,σ',h=>by
  have:Ci ops.size a=[]:=qa6.1 P;rw[this]at h;simpa[Region.linearise.go]using h
 |fuel+1,t,a,ad,P,G,σ,σ',h=>by
  simp only[Region.linearise.go];generalize J:((List.range ops.size).filter λi=>!a.getD i true&&((ops[i]?).map (·.after.all λe=>!Region.binds .any e||a.getD e.on false)).getD false)=rs;have n:∀i∈rs,i<ops.size/\a.getD i true=false/\∀o,ops[i]?=some o->∀e∈o.after.toList,Region.binds .any e=true->a.getD e.on false=true:=by
   intro i O;rw[←J,qaO,qad]at O;obtain⟨T,U⟩:=O;simp only[wa,R2]at U;refine⟨T,U.1,λo w e E D=>?_⟩;have M:=U.2;rw[w]at M;simp only[BP,Ie]at M;rw[qcY]at M;have:=M e (by simpa using E);rw[D]at this;simpa using this
  have Z:rs≠[]:=by
   have hu:Ci ops.size a≠[]:=by intro e;rw[e]at P;cases P
   obtain⟨K,tl,z⟩:=qdA hu;have W:K∈Ci ops.size a:=by rw[z];simp
   have m:=W;rw[Ci,qaO,qad]at m;have c:K∈rs:=by
    rw[←J,qaO,qad];refine⟨m.1,?_⟩;simp only[wa];refine⟨m.2,?_⟩;have w:ops[K]?=some ops[K]:=by simp[m.1]
    rw[w];simp only[BP,Ie];rw[qcY];intro e E;cases D:Region.binds .any e with
    |false=>simp
    |true=>
     have ag:=f K _ w e (by simpa using E) D;simp only[BS,qdN];by_cases b:a.getD e.on true=true
     ·have Q:e.on<a.size:=by omega
      rw[C1]at b ⊢;rw[M7 Q]at b ⊢;exact b
     ·exfalso;have v:e.on∈Ci ops.size a:=by
       rw[Ci,qaO,qad];exact⟨by omega,by simpa using b⟩
      rw[z]at v;rcases qas.1 v with v|v
      ·omega
      ·have Q:(Ci ops.size a).Pairwise (· < ·):=qcP _ RX;rw[z,qba]at Q;have:=Q.1 _ v;omega
   intro e;rw[e]at c;cases c
  have g:0<rs.length:=qbl.2 Z;have H:rs[t%rs.length]?=some (rs[t%rs.length]'(Il _ g)):=Be (Il _ g);rw[H];simp only;generalize O:rs[t%rs.length]'(Il _ g)=i;have c:i∈rs:=by rw[←O];exact qdj _
  obtain⟨i1,i2,i3⟩:=n i c;rw[linearise_go_acc,List.reverse_singleton,List.singleton_append];have X:i∈(List.range ops.size).filter λj=>!a.getD j true:=by
   rw[qaO,qad];exact⟨i1,by simp[i2]⟩
  obtain⟨A,post,R,e2,e3⟩:=ie qcT X;have I:=lX R;have p:Ci ops.size (a.setIfInBounds i true)=A++post:=by
   rw[←e2];unfold Ci;refine qdK λj hj=>?_;rw[C1,C1,RZ];by_cases u:i=j
   ·subst u;rw[mc rfl,mc (by omega)];simp
   ·rw[ra u];have:(j != i)=true:=by simpa using λe=>u e.symm
    simp[this]
  have Y:=oL (S:=S) (i:=i) (post:=post) A (λk hk σ σ₁ σ' s1 s2=>by
   obtain⟨m1,m2⟩:=e3 k hk;rw[qaO,qad]at m1;rcases l i k i1 (I k hk)with F|V
   ·exfalso;have:=pW G F i3;have L:=m1.2;rw[C1]at this L;rw[M7 (by omega)]at this L;simp only[Ie]at this L;rw[this]at L;cases L
   ·exact V _ _ _ s1 s2) σ σ'
  obtain⟨σ₁,s1,s2⟩:=Y (by rw[←R];exact h);obtain⟨r1,r2,r3⟩:=EH f l fuel (t / rs.length) (a.setIfInBounds i true) (by simp[ad]) (by
    rw[p];have:(Ci ops.size a).length=(A++post).length+1:=by
     show(List.filter _ _).length=_;rw[R];simp;omega
    omega) (by
    intro x o r w e E D;have s:∀y,a.getD y false=true->(a.setIfInBounds i true).getD y false=true:=by
     intro y hy;rw[C1]at hy ⊢;rw[RZ];split
     next T=>
      subst T;rw[mc (by omega)];rfl
     ·exact hy
    by_cases d:x=i
    ·subst d;exact s _ (i3 o w e E D)
    ·refine s _ (G x o ?_ w e E D);rw[C1,RZ,ra (λe=>d e.symm)]at r;rw[C1];exact r) σ₁ σ' (by rw[p];exact s2)
  have q:∀x∈Region.linearise.go .any ops fuel (t / rs.length) (a.setIfInBounds i true) [],x≠i/\a.getD x true=false:=by
   intro x r;have:=r3 x r;rw[C1,RZ]at this;by_cases d:i=x
   ·subst d;rw[mc rfl,mc (by omega)]at this;cases this
   ·rw[ra d]at this;exact⟨B9 d,by rw[C1];exact this⟩
  refine⟨⟨σ₁,s1,r1⟩,qbU.2 ⟨λv=>(q i v).1 rfl,r2⟩,λx r=>?_⟩;rcases qas.1 r with rfl|r
  ·exact i2
  ·exact(q x r).2
end
end Sx
namespace Sx
def eM(a:List (Nat×HObj))(H:Tp):Tp:=a.foldl (λH p=>H.set p.1 p.2) H
def fv:∀(a:List (Nat×HObj)) (H:Tp),(eM a H).length=H.length
 | [],H=>rfl
 |p :: a,H=>by
  show(eM a (H.set p.1 p.2)).length=_;rw[fv a];simp
def kA{r:Nat}:∀ {a:List (Nat×HObj)} {H:Tp},(∀p∈a,p.1≠r)->(eM a H)[r]?=H[r]?
 | [],H,_=>rfl
 |p :: a,H,h=>by
  show(eM a (H.set p.1 p.2))[r]?=_;rw[kA λq b=>h q (BF _ b),B5 (h p (by simp))]
def uX{i:Nat}{x:HObj}:∀ {a:List (Nat×HObj)} {H:Tp},(∀p∈a,p.1≠i)->eM a (H.set i x)=(eM a H).set i x
 | [],H,_=>rfl
 |p :: a,H,h=>by
  show eM a ((H.set i x).set p.1 p.2)=(eM a (H.set p.1 p.2)).set i x;rw[List.set_comm _ _ (B9 (h p (by simp))),uX λq b=>h q (BF _ b)]
def iQ:∀ {a b:List (Nat×HObj)} {H:Tp},(∀p∈a,∀q∈b,p.1≠q.1)->eM a (eM b H)=eM b (eM a H)
 | [],b,H,_=>rfl
 |p :: a,b,H,h=>by
  show eM a ((eM b H).set p.1 p.2)=eM b (eM a (H.set p.1 p.2));rw[←uX λq c=>B9 (h p (by simp) q c)];exact iQ λq c=>h q (BF _ c)
section
variable [Val] {C:Cfg} {B:Below} {N:Tb} {pts:Tx} {ops:Tl}
structure Rec where
 σ:St
 e:HEff
 rw:Option (Nat×Option (Tk))
 k:Option Nat
def Rec.on(r:Rec)(o:Oper)(τ:St):St:=fc o.dst r.e r.rw r.k τ
def Rec.sees(N:Tb)(pts:Tx)(ops:Tl)(r:Rec)(o:Oper)(τ:St):Prop:=
 rg N pts ops o r.σ τ/\∀k,r.k=some k->(r.e.put τ.heap)[k]?=some .dead
def Rec.slot(r:Rec):List (Nat×HObj):=match r.k,r.e.push with
 |some k,some p=>[(k,p.1)]
 |_,_=>[]
def Rec.ws(r:Rec):List (Nat×HObj):=r.e.set.toList++r.slot
structure Rec.Ok(C:Cfg)(B:Below)(N:Tb)(pts:Tx)(ops:Tl)(i:Nat)(o:Oper)(r:Rec):Prop where
 row:∀p,r.rw=some p->aw N pts o=some (.row p.1 true)
 wr:∀p,r.e.set=some p->p.1∈Fa pts (ke r.σ.tmps) o
 kp:r.k=none↔r.e.push=none
 fr:∀p,r.e.push=some p->Fresh p.2/\aw N pts o=some .hw/\dt pts o=true
 step:∀τ,r.sees N pts ops o τ->∀sl:Nat->Option Nat,sl i=r.k->dZ C B pts ops sl i τ (r.on o τ)
def eJ(e:HEff)(H:Tp):e.put H=eM e.set.toList H:=by
 unfold HEff.put;cases e.set<;>rfl
def gn{r:Rec}{o:Oper}{τ:St}(h:r.k=none↔r.e.push=none):(r.on o τ).heap=eM r.ws τ.heap:=by
 unfold Rec.on fc;rw[kq];unfold Rec.ws Rec.slot;cases a:r.k with
 |none=>
  simp only[HEff.heap,h.1 a,eJ,Cx]
 |some k=>
  cases b:r.e.push with
  |none=>rw[h.2 b]at a;cases a
  |some p=>
   simp only[eJ];show(eM r.e.set.toList τ.heap).set k p.1=_;unfold eM;rw[qcM];rfl
def oQ{r:Rec}{o:Oper}{τ:St}:(r.on o τ).loc=(match r.rw with|some p=>τ.loc.set p.1 p.2|none=>τ.loc):=by
 unfold Rec.on fc;rw[sP]
 all_goals (cases r.rw<;>rfl)
def Rec.val(r:Rec):Value:=match r.k with
 |some k=>r.e.val k
 |none=>r.e.v
def nn{r:Rec}{o:Oper}{τ:St}(h:r.k=none↔r.e.push=none):(r.on o τ).tmps=(match o.dst with|some d=>τ.tmps.set d r.val|none=>τ.tmps):=by
 unfold Rec.on fc;rw[sQ];unfold Rec.val;cases a:r.k with
 |none=>simp only[HEff.val,h.1 a];all_goals (cases o.dst<;>rfl)
 |some k=>cases o.dst<;>rfl
def Eg:MC->MC->Bool
 | .row s w,.row a w'=>!Nat.beq s a||(!w && !w')
 |_,_=>true
def Mw(N:Tb)(pts:Tx)(ops:Tl)(a b:Oper):Bool:=
 match aw N pts a,aw N pts b with
 |some m,some n=>Eg m n&&bw a.dst (bj ops b)&&bw b.dst (bj ops a)&&bi a.dst b.dst
 |_,_=>false
def qf{d:Tn}{l:Tx}(a:bw d l=true):∀t∈l,∀x,d=some x->x≠t:=by
 intro t c x e b;subst e b;simp only[bw,R2,qcQ,decide_eq_false_iff_not]at a;exact a c
def GS{a b:Oper}{m n:MC}{f rb:Rec}{J:Nat}(F:aw N pts a=some m)(g:aw N pts b=some n)(k:f.Ok C B N pts ops J a)(i:Eg m n=true∨Eg n m=true)(G:bw a.dst (bj ops b)=true)
  (E:∀p∈f.ws,p.1∉Cj pts (ke rb.σ.tmps) b) {τ:St}:rg N pts ops b rb.σ (f.on a τ)↔rg N pts ops b rb.σ τ:=by
 have o:∀t∈bj ops b,(f.on a τ).tmps[t]?=τ.tmps[t]?:=λt o=>by
  unfold Rec.on fc;exact sO λx j=>qf G t o x j
 have A:∀s w,aw N pts b=some (.row s w)->(f.on a τ).loc[s]?=τ.loc[s]?:=λs w D=>by
  rw[oQ];cases q:f.rw with
  |none=>rfl
  |some p=>
   have y:=k.row p q;rw[F]at y;rw[g]at D;cases y;cases D;have:p.1≠s:=by
    intro H;subst H;rcases i with h|h<;>simp[Eg]at h
   show(τ.loc.set p.1 p.2)[s]?=_;rw[B5 this]
 have z:∀r∈Cj pts (ke rb.σ.tmps) b,(f.on a τ).heap[r]?=τ.heap[r]?:=λr d=>by
  rw[gn k.kp];exact kA λp I e=>E p I (e▸d)
 constructor
 ·rintro⟨u,l,v⟩;refine⟨λt h=>by rw[←o t h];exact u t h,?_,λr d x j c=>by rw[←z r d];exact v r d x j c⟩;rw[g]at l ⊢;cases n<;>first|trivial|(rename_i s w;exact(A s w g).symm.trans l)
 ·rintro⟨u,l,v⟩;refine⟨λt h=>by rw[o t h];exact u t h,?_,λr d x j c=>by rw[z r d];exact v r d x j c⟩;rw[g]at l ⊢;cases n<;>first|trivial|(rename_i s w;exact(A s w g).trans l)
def swapR{a b:Oper}{c rb:Rec}{O P:Nat}(d:c.Ok C B N pts ops O a)(f:rb.Ok C B N pts ops P b)(i:Mw N pts ops a b=true)
  (L:∀p∈c.ws,p.1∉Cj pts (ke rb.σ.tmps) b) (M:∀p∈rb.ws,p.1∉Cj pts (ke c.σ.tmps) a) (r:∀p∈c.ws,∀q∈rb.ws,p.1≠q.1) {τ:St} (J:c.sees N pts ops a τ) (K:rb.sees N pts ops b (c.on a τ)) :
  rb.sees N pts ops b τ/\c.sees N pts ops a (rb.on b τ)/\rb.on b (c.on a τ)=c.on a (rb.on b τ):=by
 unfold Mw at i;split at i
 case h_2=>cases i
 rename_i m n z A
 simp only[wa]at i;obtain⟨⟨⟨t,c2⟩,c3⟩,c4⟩:=i;have R:=GS (rb:=rb) z A d (.inl t) c2 L (τ:=τ);have Q:=GS (rb:=c) A z f (.inr t) c3 M (τ:=τ);refine⟨⟨R.1 K.1,λk h=>?_⟩,⟨Q.2 J.1,λk h=>?_⟩,?_⟩
 ·have j:=K.2 k h;have w:∃p,rb.e.push=some p:=by
   cases l:rb.e.push with
   |none=>rw[f.kp.2 l]at h;cases h
   |some p=>exact⟨p,rfl⟩
  obtain⟨p,l⟩:=w;have g:(k,p.1)∈rb.ws:=by simp[Rec.ws,Rec.slot,h,l]
  rw[gn d.kp,eJ,←iQ (λq o s i e=>r q o s (D9 _ i) e),kA (λq o e=>r q o _ g e)]at j;rw[eJ];exact j
 ·have j:=J.2 k h;have v:∃p,c.e.push=some p:=by
   cases l:c.e.push with
   |none=>rw[d.kp.2 l]at h;cases h
   |some p=>exact⟨p,rfl⟩
  obtain⟨p,l⟩:=v;have g:(k,p.1)∈c.ws:=by simp[Rec.ws,Rec.slot,h,l]
  rw[gn f.kp,eJ,iQ (λq o s i e=>r q (D9 _ o) s i e),kA (λq o e=>r _ g q o e.symm)];rw[eJ]at j;exact j
 ·have j:(rb.on b (c.on a τ)).tmps=(c.on a (rb.on b τ)).tmps:=by
   rw[nn f.kp,nn d.kp,nn d.kp,nn f.kp];cases D:a.dst with
   |none=>rfl
   |some x=>
    cases E:b.dst with
    |none=>rfl
    |some y=>
     rw[D,E]at c4;have:x≠y:=by
      intro u;subst u;simp[bi]at c4
     exact set_comm _ _ _ this
  have H:(rb.on b (c.on a τ)).loc=(c.on a (rb.on b τ)).loc:=by
   rw[oQ,oQ,oQ,oQ];cases D:c.rw with
   |none=>rfl
   |some p=>
    cases E:rb.rw with
    |none=>rfl
    |some q=>
     have F:=d.row p D;have G:=f.row q E;rw[z]at F;rw[A]at G;cases F;cases G;have:p.1≠q.1:=by
      intro u;rw[u]at t;simp[Eg]at t
     exact set_comm _ _ _ this
  have I:(rb.on b (c.on a τ)).heap=(c.on a (rb.on b τ)).heap:=by
   rw[gn f.kp,gn d.kp,gn d.kp,gn f.kp];exact(iQ r).symm
  generalize rb.on b (c.on a τ)=x at *;generalize c.on a (rb.on b τ)=y at *;cases x;cases y;simp only at j H I;subst j;subst H;subst I;rfl
end
end Sx
namespace Sx
section
variable [Val] {C:Cfg} {B:Below} {N:Tb} {pts:Tx} {ops:Tl}
def St.padTo(σ:St)(m:Nat):St:=σ.pad (m - σ.heap.length)
def Im(N:Tb)(pts:Tx)(ops:Tl)(a:Nat->Rec)(i:Nat)(τ τ':St):Prop:=∃o,ops[i]?=some o/\(a i).sees N pts ops o τ/\τ'=(a i).on o τ
def kz{D:Tp}:∀ {a:List (Nat×HObj)} {H:Tp},(∀p∈a,p.1<H.length)->eM a (H++D)=eM a H++D
 | [],H,_=>rfl
 |p :: a,H,h=>by
  show eM a ((H++D).set p.1 p.2)=eM a (H.set p.1 p.2)++D;rw[qdr _ _ (h p (by simp)),kz λq b=>by
   have:=h q (BF _ b);simpa using this]
structure RunOk(C:Cfg)(B:Below)(N:Tb)(pts:Tx)(ops:Tl)(l:Tx)(σ σ':St)(rc:Nat->Rec):Prop where
 len:σ.heap.length<=σ'.heap.length
 ok:∀i∈l,∀o,ops[i]?=some o->(rc i).Ok C B N pts ops i o
 slot:∀i∈l,∀k,(rc i).k=some k->σ.heap.length<=k/\k<σ'.heap.length
 inj:∀i∈l,∀j∈l,∀k,(rc i).k=some k->(rc j).k=some k->i=j
 keep:∀t,(∀j∈l,∀o,ops[j]?=some o->o.dst≠some t)->σ'.tmps[t]?=σ.tmps[t]?
 args:∀i∈l,∀t,(∀j∈l,i<=j->∀o,ops[j]?=some o->o.dst≠some t)->σ'.tmps[t]?=(rc i).σ.tmps[t]?
 res:∀i∈l,∀o d v,ops[i]?=some o->o.dst=some d->(∀j∈l,i<j->∀o,ops[j]?=some o->o.dst≠some d)->σ'.tmps[d]?=some v->v=(rc i).val
 run:∀m,σ'.heap.length<=m->CM (Im N pts ops rc) l (St.padTo σ m) (St.padTo σ' m)
def Hi{dst:Tn}{e:HEff}{rw:Option (Nat×Option (Tk))}{σ:St}:(fc dst e rw none σ).heap.length=σ.heap.length+(match e.push with|some _=>1|none=>0):=by
 unfold fc;rw[kq];simp only[HEff.heap,HEff.put];cases e.push<;>cases e.set<;>simp
def kU{dst:Tn}{e:HEff}{rw:Option (Nat×Option (Tk))}{k:To}{σ:St}:(fc dst e rw k σ).tmps=(match dst with|some d=>σ.tmps.set d (match k with|none=>e.val σ.heap.length|some k=>e.val k)|none=>σ.tmps):=by
 unfold fc;rw[sQ]
 all_goals (cases dst<;>rfl)
def P2(G:BH N B){i:Nat}{o:Oper}(J:ops[i]?=some o)(H:Em N pts o=true){σ σ₁:St}(L:aj C B pts ops i σ σ₁) :
  ∃r:Rec,r.σ=σ/\r.Ok C B N pts ops i o/\σ.heap.length<=σ₁.heap.length/\(∀k,r.k=some k->k=σ.heap.length/\k<σ₁.heap.length)/\
   (∀t,o.dst≠some t->σ₁.tmps[t]?=σ.tmps[t]?)/\(∀d v,o.dst=some d->σ₁.tmps[d]?=some v->v=r.val)/\
   ∀m,σ₁.heap.length<=m->r.sees N pts ops o (St.padTo σ m)/\St.padTo σ₁ m=r.on o (St.padTo σ m):=by
 obtain⟨e,rw,g,E,F,z,A,D⟩:=HW (N:=N) G J H L;have b:σ₁.heap.length=σ.heap.length+(match e.push with|some _=>1|none=>0):=by rw[g];exact Hi
 refine⟨⟨σ,e,rw,match e.push with|some _=>some σ.heap.length|none=>none⟩,rfl,⟨E,λp a=>(z p a).1,?_,λp a=>⟨(A p a).2.1,F (by rw[show e.push=some p from a];simp),(A p a).1⟩,?_⟩,by omega,?_,?_,?_,?_⟩
 ·cases a:e.push<;>simp
 ·intro τ hτ sl hsl;unfold Rec.on;simp only at hsl ⊢;cases a:e.push with
  |none=>
   rw[a]at hsl;exact(D τ hτ.1 sl).1 a hsl
  |some p=>
   rw[a]at hsl;refine(D τ hτ.1 sl).2 p _ a hsl (hτ.2 _ ?_);simp only[a]
 ·intro k c;simp only at c;cases a:e.push with
  |none=>rw[a]at c;cases c
  |some p=>
   rw[a]at c b;cases c;exact⟨rfl,by simp only at b;omega⟩
 ·intro t M;rw[g];unfold fc;exact sO λx l e=>M (by rw[l,e])
 ·intro d v I j;rw[g,kU,I]at j;simp only[Eb]at j;split at j
  ·split at j
   ·cases j;unfold Rec.val;simp only[HEff.val];cases a:e.push<;>rfl
   ·cases j
  next s=>exact absurd trivial s
 ·intro m Q;have q:(St.padTo σ m).heap=σ.heap++List.replicate (m - σ.heap.length) .dead:=rfl;have f:∀p∈e.set.toList,p.1<σ.heap.length:=λp a=>by
   obtain⟨_,x,l,_⟩:=z p (by simpa using a);exact(qbg.1 l).1
  refine⟨⟨⟨λt _=>rfl,?_,λr _ x l _=>?_⟩,λk c=>?_⟩,?_⟩
  ·cases aw N pts o with
   |none=>trivial
   |some O=>cases O<;>first|trivial|rfl
  ·rw[q,BZ (qbg.1 l).1];exact l
  ·simp only at c;cases a:e.push with
   |none=>rw[a]at c;cases c
   |some p=>
    rw[a]at c b;cases c;simp only at b ⊢;rw[eJ,q,kz f,Cv (by rw[fv];exact Ah _),fv,Ic,IG,mc (by omega)]
  · -- the same state
   have u:(St.padTo σ₁ m).tmps=((⟨σ,e,rw,match e.push with|some _=>some σ.heap.length|none=>none⟩ : Rec).on o (St.padTo σ m)).tmps:=by
    show σ₁.tmps=_;unfold Rec.on;rw[g,kU,kU];show _=(match o.dst with|some d=>σ.tmps.set d _|none=>σ.tmps);cases o.dst with
    |none=>rfl
    |some d=>
     simp only[HEff.val];cases a:e.push<;>rfl
   have w:(St.padTo σ₁ m).loc=((⟨σ,e,rw,match e.push with|some _=>some σ.heap.length|none=>none⟩ : Rec).on o (St.padTo σ m)).loc:=by
    show σ₁.loc=_;unfold Rec.on;rw[g];unfold fc;rw[sP,sP];rfl
   have y:(St.padTo σ₁ m).heap=((⟨σ,e,rw,match e.push with|some _=>some σ.heap.length|none=>none⟩ : Rec).on o (St.padTo σ m)).heap:=by
    show σ₁.heap++List.replicate (m - σ₁.heap.length) .dead=_;unfold Rec.on;have n:σ₁.heap=e.heap σ.heap:=by rw[g];unfold fc;rw[kq]
    unfold fc;rw[kq,q];cases a:e.push with
    |none=>
     rw[a]at b;simp only[a,HEff.heap,eJ]at n ⊢;rw[kz f,n];simp only[fv]
    |some p=>
     rw[a]at b;simp only at b;simp only[a,HEff.heap,eJ]at n ⊢;rw[kz f,n];have K:m - σ.heap.length=(m - σ.heap.length - 1)+1:=by omega
     rw[K,qcE];rw[RY _ _ (by rw[fv];exact Ah _),fv,Ic,qc1];simp only[A6,Bv,fv,C6,Vj,AO,AG];rw[show m - (σ.heap.length+(0+1))=m - σ.heap.length - 1 by omega]
   generalize P:(⟨σ,e,rw,match e.push with|some _=>some σ.heap.length|none=>none⟩ : Rec).on o (St.padTo σ m)=X at *;generalize St.padTo σ₁ m=Y at *;cases X;cases Y;simp only at u w y;subst u;subst w;subst y;rfl
def qO{S a:Nat->St->St->Prop}:∀ {l:Tx},(∀i∈l,∀σ σ',S i σ σ'->a i σ σ')->∀ {σ σ':St},CM S l σ σ'->CM a l σ σ'
 | [],_,_,_,h=>h
 |i :: l,b,σ,σ',⟨σ₁,h1,c⟩=>⟨σ₁,b i (by simp) _ _ h1,qO (λj d=>b j (BF _ d)) c⟩
def Gr(I:BH N B):∀(l:Tx) (σ σ':St),l.Pairwise (· < ·)->(∀i∈l,∃o,ops[i]?=some o/\Em N pts o=true)->bJ C B pts ops l σ σ'->∃D:Nat->Rec,RunOk C B N pts ops l σ σ' D
 | [],σ,σ',_,_,h=>by
  have:σ'=σ:=h;subst this;exact⟨λ_=>⟨σ',⟨none,none,undef⟩,none,none⟩,Ah _,λ_ h=>(by cases h),λ_ h=>(by cases h),λ_ h=>(by cases h),λ_ _=>rfl,λ_ h=>(by cases h),λ_ h=>(by cases h),λ_ _=>rfl⟩
 |i :: l,σ,σ',A,z,⟨σ₁,O,P⟩=>by
  obtain⟨o,u,Q⟩:=z i (by simp);obtain⟨r,rfl,T,U,F,M,V,W⟩:=P2 I u Q O;rw[qba]at A;obtain⟨D,R⟩:=Gr I l σ₁ σ' A.2 (λj a=>z j (BF _ a)) P;have E:∀j∈l,j≠i:=λj a e=>by have:=A.1 j a;omega
  have c:∀j∈l,(if j=i then r else D j)=D j:=λj a=>ra (E j a);refine⟨λj=>if j=i then r else D j,Es U R.len,?_,?_,?_,?_,?_,?_,?_⟩
  ·intro j a s g;rcases qas.1 a with rfl|a
   ·simp only[if_true];rw[u]at g;cases g;exact T
   ·simp only[c j a];exact R.ok j a s g
  ·intro j a k p;rcases qas.1 a with rfl|a
   ·simp only[if_true]at p;obtain⟨G,H⟩:=F k p;have:=R.len;omega
   ·simp only[c j a]at p;have:=R.slot j a k p;omega
  ·intro j a f b k p n;rcases qas.1 a with q1|q1<;>rcases qas.1 b with q|q
   ·rw[q1,q]
   ·simp only[q1,if_true]at p;simp only[c f q]at n;have G:=F k p;have H:=R.slot f q k n;omega
   ·simp only[q,if_true]at n;simp only[c j q1]at p;have G:=F k n;have H:=R.slot j q1 k p;omega
   ·simp only[c j q1]at p;simp only[c f q]at n;exact R.inj j q1 f q k p n
  ·intro t w;rw[R.keep t λj a=>w j (BF _ a)];exact M t (w i (by simp) o u)
  ·intro j a t w;rcases qas.1 a with rfl|a
   ·simp only[if_true];have x:∀f∈l,∀s,ops[f]?=some s->s.dst≠some t:=λf b=>w f (BF _ b) (Nat.le_of_lt (A.1 f b));rw[R.keep t x];exact M t (w j (by simp) (Ah _) o u)
   ·simp only[c j a];exact R.args j a t λf b=>w f (BF _ b)
  ·intro j a s d v g J y L;rcases qas.1 a with rfl|a
   ·simp only[if_true];rw[u]at g;cases g;refine V d v J ?_;rw[←R.keep d λf b=>y f (BF _ b) (A.1 f b)];exact L
   ·simp only[c j a];exact R.res j a s d v g J (λf b=>y f (BF _ b)) L
  ·intro m K;obtain⟨X,Y⟩:=W m (Es R.len K);refine⟨St.padTo σ₁ m,⟨o,u,?_,?_⟩,?_⟩
   ·simp only[if_true];exact X
   ·simp only[if_true];exact Y
   ·refine qO (λj a τ τ' h=>?_) (R.run m K);obtain⟨s,q1,q,S⟩:=h;exact⟨s,q1,by simp only[c j a];exact q,by simp only[c j a];exact S⟩
end
end Sx
namespace Sx
section
variable [Val] {C:Cfg} {B:Below} {N:Tb} {pts:Tx} {ops:Tl}
def Ip(o:Oper)(σ:St):AL N pts ops o σ σ:=by
 refine⟨λ_ _=>rfl,?_⟩;cases aw N pts o with
 |none=>trivial
 |some m=>cases m<;>first|trivial|rfl
def Iq{o:Oper}{σ τ:St}(h:AL N pts ops o σ τ):AL N pts ops o τ σ:=by
 refine⟨λt b=>(h.1 t b).symm,?_⟩;have h:=h.2;cases a:aw N pts o with
 |none=>trivial
 |some m=>rw[a]at h;cases m<;>first|trivial|exact h.symm
def fW{o:Oper}{σ τ ρ:St}(h:AL N pts ops o σ τ)(h':AL N pts ops o τ ρ):AL N pts ops o σ ρ:=by
 refine⟨λt a=>(h'.1 t a).trans (h.1 t a),?_⟩;have h:=h.2;have h':=h'.2;cases b:aw N pts o with
 |none=>trivial
 |some m=>rw[b]at h h';cases m<;>first|trivial|exact h'.trans h
structure Loc(C:Cfg)(B:Below)(N:Tb)(pts:Tx)(ops:Tl)(j:Nat)(b:Oper)(f:Ef)(τ τ':St):Prop where
 is:τ'=f.on b.dst τ
 tc:tD (aw N pts b) f
 st:∀ρ,AL N pts ops b τ ρ->aj C B pts ops j ρ (f.on b.dst ρ)
def tS(N:Tb)(pts:Tx)(ops:Tl)(a b:Oper):Bool:=
 match aw N pts a,aw N pts b with
 |some m,some n=>m.ok2 n&&bw a.dst (bj ops b)&&bw b.dst (bj ops a)&&bi a.dst b.dst
 |_,_=>false
def MF{i j:Nat}{a b:Oper}{e f:Ef}(d:tS N pts ops a b=true){τ τ₁ τ':St}(h1:Loc C B N pts ops i a e τ τ₁)(c:Loc C B N pts ops j b f τ₁ τ') :
  Loc C B N pts ops j b f τ (f.on b.dst τ)/\Loc C B N pts ops i a e (f.on b.dst τ) τ'/\AL N pts ops b τ₁ τ:=by
 unfold tS at d;split at d
 next m n k l=>
  simp only[wa]at d;obtain⟨⟨⟨g,c2⟩,c3⟩,c4⟩:=d;have o:AL N pts ops b τ₁ τ:=by
   rw[h1.is];exact Iq (yG k l (.inl g) c2 h1.tc τ)
  have p:AL N pts ops a τ (f.on b.dst τ):=yG l k (.inr g) c3 c.tc τ;refine⟨⟨rfl,c.tc,λρ hρ=>c.st ρ (fW o hρ)⟩,⟨?_,h1.tc,λρ hρ=>h1.st ρ (fW p hρ)⟩,o⟩;rw[c.is,h1.is];exact Gc k l g c4 h1.tc c.tc τ
 ·cases d
def Ee(N:Tb)(pts:Tx)(ops:Tl)(a b:Oper):Bool:=
 (match aw N pts a with
 |some .hr=>true
 |_=>false)&&((match aw N pts b with
 |some .hw=>true
 |_=>false)&&(bw a.dst (bj ops b)&&(bw b.dst (bj ops a)&&(bw a.dst (bj ops a)&&bi a.dst b.dst))))
def kS{o:Oper}(b:aw N pts o=some .hr){e:Ef}(a:tD (aw N pts o) e):e.rw=none/\e.hp=none:=by
 rw[b]at a;constructor
 ·cases h:e.rw with
  |none=>rfl
  |some p=>have:=a.1 p h;cases this
 ·cases h:e.hp with
  |none=>rfl
  |some p=>have:=a.2 (by rw[h];simp);cases this
def iA{e:Ef}{d:Tn}{σ:St}{t:Nat}(h:∀x,d=some x->x≠t):(e.on d σ).tmps[t]?=σ.tmps[t]?:=by
 unfold Ef.on;exact sO h
def bO{d:Tn}{l:Tx}(h:bw d l=true){t:Nat}(a:t∈l):∀x,d=some x->x≠t:=by
 intro x b e;subst e;rw[b]at h;simp only[bw,R2,qcQ,decide_eq_false_iff_not]at h;exact h a
def Qo{k i:Nat}{a b:Oper}{e f:Ef}(j:Ee N pts ops a b=true){τ τ₁ τ':St}(h1:Loc C B N pts ops k a e τ τ₁)(g:Loc C B N pts ops i b f τ₁ τ')(v:∀ρ,AL N pts ops a τ' ρ->aj C B pts ops k ρ (e.on a.dst ρ)) :
  Loc C B N pts ops i b f τ (f.on b.dst τ)/\Loc C B N pts ops k a e (f.on b.dst τ) τ'/\AL N pts ops a τ' (f.on b.dst τ):=by
 unfold Ee at j;simp only[wa]at j;obtain⟨m,c2,c3,c4,c5,c6⟩:=j;have r:aw N pts a=some .hr:=by
  split at m
  ·assumption
  ·cases m
 have z:aw N pts b=some .hw:=by
  split at c2
  ·assumption
  ·cases c2
 obtain⟨u,n⟩:=kS r h1.tc;have c:∀σ:St,(e.on a.dst σ).heap=σ.heap:=λσ=>by rw[dW,n];rfl
 have D:AL N pts ops b τ₁ τ:=by
  refine⟨λt l=>?_,?_⟩
  ·rw[h1.is];exact(iA (bO c3 l)).symm
  ·rw[z];show τ.heap=τ₁.heap;rw[h1.is,c]
 have d:τ'=e.on a.dst (f.on b.dst τ):=by
  rw[g.is,h1.is];have o:(f.on b.dst (e.on a.dst τ)).tmps=(e.on a.dst (f.on b.dst τ)).tmps:=by
   simp only[sG];cases d:a.dst with
   |none=>rfl
   |some x=>
    cases A:b.dst with
    |none=>rfl
    |some y=>
     rw[d,A]at c6;have:x≠y:=by intro w;subst w;simp[bi]at c6
     exact set_comm _ _ _ this
  have p:(f.on b.dst (e.on a.dst τ)).loc=(e.on a.dst (f.on b.dst τ)).loc:=by
   simp only[xN,u]
  have q:(f.on b.dst (e.on a.dst τ)).heap=(e.on a.dst (f.on b.dst τ)).heap:=by
   simp only[dW,n,qdo]
  generalize f.on b.dst (e.on a.dst τ)=x at *;generalize e.on a.dst (f.on b.dst τ)=y at *;cases x;cases y;simp only at o p q;subst o;subst p;subst q;rfl
 have s:AL N pts ops a τ' (f.on b.dst τ):=by
  rw[d];refine⟨λt l=>(iA (bO c5 l)).symm,?_⟩;rw[r];exact(c _).symm
 exact⟨⟨rfl,g.tc,λρ hρ=>g.st ρ (fW D hρ)⟩,⟨d,h1.tc,λρ hρ=>v ρ (fW s hρ)⟩,s⟩
def P4(q:Nat->Nat->Oper->Oper->Bool)(j:Nat)(b:Oper)(m:Nat):Tu->Nat->Bool
 | [],_=>true
 |a :: l,n=>(Nat.testBit m n||q n j a b)&&P4 q j b m l (n+1)
def D7(q:Nat->Nat->Oper->Oper->Bool)(ms:Tx):Tu->Tu->Nat->Bool
 |_,[],_=>true
 |pre,b :: l,i=>P4 q i b (ms.getD i 0) pre 0&&D7 q ms (pre++[b]) l (i+1)
def Gt{q:Nat->Nat->Oper->Oper->Bool}{i:Nat}{b:Oper}{m:Nat}:∀ {l:Tu} {k:Nat},P4 q i b m l k=true->∀(j:Nat) a,l[j]?=some a->m.testBit (k+j)=true∨q (k+j) i a b=true
 | [],k,_,j,a,h=>by simp at h
 |a :: l,k,h,j,c,d=>by
  simp only[P4,wa,Cz]at h;cases j with
  |zero=>simp at d;subst d;exact h.1
  |succ j=>
   have:=Gt h.2 j c (by simpa using d)
   rwa [show k+1+j=k+(j+1)by omega]at this
def xV{q:Nat->Nat->Oper->Oper->Bool}{ms:Tx}:∀ {l pre:Tu} {i:Nat},pre.length=i->D7 q ms pre l i=true->∀(j:Nat) b,l[j]?=some b->∀(k:Nat) a,k<i+j->(pre++l)[k]?=some a->(ms.getD (i+j) 0).testBit k=true∨q k (i+j) a b=true
 | [],pre,i,_,_,j,b,h,_,_,_,_=>by simp at h
 |b :: l,pre,i,f,h,j,c,e,k,a,g,d=>by
  simp only[D7,wa]at h;cases j with
  |zero=>
   simp at e;subst e;rw[BZ (by omega)]at d;have:=Gt h.1 k a d;simpa using this
  |succ j=>
   have:=xV (pre:=pre++[b]) (i:=i+1) (by simp[f]) h.2 j c (by simpa using e) k a (by omega) (by simpa using d)
   rwa [show i+1+j=i+(j+1)by omega]at this
def EM(i:BH N B)(a:∀(j:Nat) b,ops[j]?=some b->aw N pts b≠none){j:Nat}{b:Oper}(c:ops[j]?=some b){τ τ':St}(h:aj C B pts ops j τ τ'):∃f,Loc C B N pts ops j b f τ τ':=by
 obtain⟨f,d,e,g⟩:=iN i c (a j b c) h;exact⟨f,d,e,g⟩
def qF{S:Nat->St->St->Prop}(a:∀i σ σ',S i σ σ'->aj C B pts ops i σ σ'):∀ {l:Tx} {σ σ':St},CM S l σ σ'->bJ C B pts ops l σ σ'
 | [],_,_,h=>h
 |_ :: _,_,_,⟨σ₁,h1,b⟩=>⟨σ₁,a _ _ _ h1,qF a b⟩
end
end Sx
namespace Sx
section
variable [Val] {C:Cfg} {B:Below} {N:Tb} {pts:Tx} {ops:Tl}
def zx{a b:Tn}(k:bi a b=true){e f:Ef}(j:e.rw=none)(c:e.hp=none)(τ:St):f.on b (e.on a τ)=e.on a (f.on b τ):=by
 have i:∀σ:St,(e.on a σ).heap=σ.heap:=λσ=>by rw[dW,c];rfl
 have d:(f.on b (e.on a τ)).tmps=(e.on a (f.on b τ)).tmps:=by
  simp only[sG];cases a with
  |none=>rfl
  |some x=>
   cases b with
   |none=>rfl
   |some y=>
    have:x≠y:=by intro l;subst l;simp[bi]at k
    exact set_comm _ _ _ this
 have g:(f.on b (e.on a τ)).loc=(e.on a (f.on b τ)).loc:=by
  simp only[xN,j]
 have h:(f.on b (e.on a τ)).heap=(e.on a (f.on b τ)).heap:=by
  simp only[dW,c,qdo]
 generalize f.on b (e.on a τ)=x at *;generalize e.on a (f.on b τ)=y at *;cases x;cases y;simp only at d g h;subst d;subst g;subst h;rfl
def wn{a b:Oper}(c:Ee N pts ops a b=true):aw N pts a=some .hr/\aw N pts b=some .hw/\bw a.dst (bj ops b)=true/\bw b.dst (bj ops a)=true/\bw a.dst (bj ops a)=true/\bi a.dst b.dst=true:=by
 unfold Ee at c;simp only[wa]at c;obtain⟨d,c2,c3,c4,c5,c6⟩:=c;have e:aw N pts a=some .hr:=by
  split at d
  ·assumption
  ·cases d
 have f:aw N pts b=some .hw:=by
  split at c2
  ·assumption
  ·cases c2
 exact⟨e,f,c3,c4,c5,c6⟩
def Qm{k i:Nat}{a b:Oper}{e f:Ef}(l:Ee N pts ops b a=true){τ τ₁ τ':St}(h1:Loc C B N pts ops k a e τ τ₁)(c:Loc C B N pts ops i b f τ₁ τ')(j:∀ρ,AL N pts ops b τ ρ->aj C B pts ops i ρ (f.on b.dst ρ)) :
  Loc C B N pts ops i b f τ (f.on b.dst τ)/\Loc C B N pts ops k a e (f.on b.dst τ) τ':=by
 obtain⟨m,n,c3,c4,c5,c6⟩:=wn l;obtain⟨g,d⟩:=kS m c.tc;refine⟨⟨rfl,c.tc,j⟩,⟨?_,h1.tc,λρ hρ=>h1.st ρ (fW ⟨λt o=>iA (bO c3 o),?_⟩ hρ)⟩⟩
 ·rw[c.is,h1.is];exact(zx c6 g d τ).symm
 ·rw[n];show(f.on b.dst τ).heap=τ.heap;rw[dW,d];rfl
def D0(k i:Nat):List (Nat×Nat)->Bool
 | []=>false
 |p :: l=>match Nat.beq p.1 k,Nat.beq p.2 i with
  |true,true=>true
  |_,_=>D0 k i l
def sw{k i:Nat}:∀ {l:List (Nat×Nat)},D0 k i l=true->(k,i)∈l
 | [],h=>by cases h
 |p :: l,h=>by
  unfold D0 at h;split at h
  next h1 a=>
   rw[←AW h1,←AW a];exact Cw
  ·exact BF _ (sw h)
def Ur(N:Tb)(pts:Tx)(ops:Tl)(c:List (Nat×Nat))(n j:Nat)(a b:Oper):Bool:=
 tS N pts ops a b||((Ee N pts ops a b&&D0 n j c)||(Ee N pts ops b a&&D0 j n c))
def Qk(ops:Tl):Tu->Bool
 | []=>true
 |b :: l=>bw b.dst (bj ops b)&&((l.all λa=>bw a.dst (bj ops b)&&bi a.dst b.dst)&&Qk ops l)
def xv(N:Tb)(pts:Tx)(ops:Tl)(a:List (Nat×Nat)):Bool:=
 fM ops.toList 0&&(ops.toList.all (λo=>(aw N pts o).isSome)&&(Qk ops ops.toList&&D7 (Ur N pts ops a) (CR ops.toList []) [] ops.toList 0))
def wC:∀ {l:Tu},Qk ops l=true->∀(j:Nat) b,l[j]?=some b->∀(n:Nat) a,l[n]?=some a->(j<=n->bw a.dst (bj ops b)=true)/\(j<n->bi a.dst b.dst=true)
 | [],_,j,b,h,_,_,_=>by simp at h
 |c :: l,h,j,b,e,n,a,d=>by
  simp only[Qk,wa,qac]at h;obtain⟨h1,f,g⟩:=h;cases j with
  |zero=>
   simp at e;subst e;cases n with
   |zero=>simp at d;subst d;exact⟨λ_=>h1,λh=>absurd h (by omega)⟩
   |succ n=>
    have:=f a (Ap (by simpa using d));exact⟨λ_=>this.1,λ_=>this.2⟩
  |succ j=>
   cases n with
   |zero=>exact⟨λh=>absurd h (by omega),λh=>absurd h (by omega)⟩
   |succ n=>
    have:=wC g j b (by simpa using e) n a (by simpa using d);exact⟨λh=>this.1 (by omega),λh=>this.2 (by omega)⟩
def Sf{σ':St}:∀(m i:Nat) (τ:St) (b:List (Tp)),opsTr C B pts ops (List.range' i m) τ b σ'->
  ∃st:Nat->St,st i=τ/\st (i+m)=σ'/\(∀j,i<=j->j<i+m->aj C B pts ops j (st j) (st (j+1)))/\∀j,j<m->b[j]?=some (st (i+j+1)).heap
 |0,i,τ,b,h=>by
  obtain⟨_,rfl⟩:=h;exact⟨λ_=>σ',rfl,rfl,λj _ _=>absurd (show j<i+0 by assumption) (by omega),λj d=>absurd d (by omega)⟩
 |m+1,i,τ,b,h=>by
  rw[qdk]at h;obtain⟨σ₁,c,g,e,l⟩:=h;subst e;obtain⟨st,f,o,p,q⟩:=Sf m (i+1) σ₁ c l;refine⟨λj=>if j=i then τ else st j,by simp,?_,λj k n=>?_,λj d=>?_⟩
  ·show(if i+(m+1)=i then τ else st (i+(m+1)))=σ';rw[ra (by omega),show i+(m+1)=i+1+m by omega];exact o
  ·show aj C B pts ops j (if j=i then τ else st j) (if j+1=i then τ else st (j+1));rw[ra (show ¬j+1=i by omega)];by_cases a:j=i
   ·subst a;rw[mc rfl,f];exact g
   ·rw[ra a];exact p j (by omega) (by omega)
  ·show _=some (if i+j+1=i then τ else st (i+j+1)).heap;rw[ra (by omega)];cases j with
   |zero=>rw[show i+0+1=i+1 by omega,f];rfl
   |succ j=>
    rw[IF,q j (by omega)];rw[show i+1+j+1=i+(j+1)+1 by omega]
def EP(C:Cfg)(B:Below)(N:Tb)(pts:Tx)(ops:Tl)(e:Nat->Ef)(st:Nat->St)(σ':St)(j:Nat)(τ τ':St):Prop:=
 ∃b,ops[j]?=some b/\Loc C B N pts ops j b (e j) τ τ'/\(∀t∈bj ops b,τ.tmps[t]?=σ'.tmps[t]?)/\(aw N pts b=some .hw->τ.heap=(st j).heap/\τ'.heap=(st (j+1)).heap)
def FM{o:Oper}{e:Ef}(b:tD (aw N pts o) e)(a:aw N pts o≠some .hw):e.hp=none:=by
 cases h:e.hp with
 |none=>rfl
 |some p=>exact absurd (b.2 (by rw[h];simp)) a
def wT{a b:Oper}(c:tS N pts ops a b=true):aw N pts a≠some .hw∨aw N pts b≠some .hw:=by
 unfold tS at c;split at c
 next m n f g=>
  simp only[wa]at c;by_cases d:aw N pts a=some .hw
  ·by_cases e:aw N pts b=some .hw
   ·rw[d]at f;rw[e]at g;cases f;cases g;exact absurd c.1.1.1 (by decide)
   ·exact .inr e
  ·exact .inl d
 ·cases c
def yS{a b:Oper}(c:tS N pts ops a b=true):bw b.dst (bj ops a)=true:=by
 unfold tS at c;split at c
 ·simp only[wa]at c;exact c.1.2
 ·cases c
def KQ{P:List (Nat×Nat)}{e:Nat->Ef}{st:Nat->St}{σ':St}(M:∀k i,(k,i)∈P->i<ops.size->∀a,ops[k]?=some a->aw N pts a=some .hr->∀ρ,AL N pts ops a { σ' with heap:=(if k<=i then(st (i+1)).heap else(st i).heap) } ρ->aj C B pts ops k ρ ((e k).on a.dst ρ))
  (Q:D7 (Ur N pts ops P) (CR ops.toList []) [] ops.toList 0=true) (j n:Nat) (O:j<ops.size) (S:n<j) :
  Anc ops n j∨∀τ τ₁ τ':St,EP C B N pts ops e st σ' n τ τ₁->EP C B N pts ops e st σ' j τ₁ τ'->∃ρ,EP C B N pts ops e st σ' j τ ρ/\EP C B N pts ops e st σ' n ρ τ':=by
 have r:ops[j]?=some ops[j]:=by simp[O]
 have s:ops[n]?=some (ops[n]'(by omega)):=by simp[show n<ops.size by omega]
 generalize ops[j]=y at r;generalize ops[n]'(by omega)=x at s;have c:=xV (pre:=[]) (i:=0) rfl Q j y (by simpa using r) n x (by omega) (by simpa using s);rw[BT]at c;rcases c with c|c
 ·exact .inl (rn ops.toList [] rfl (λi k h=>by simp at h) j n c)
 right;rintro τ τ₁ τ' ⟨T,H,l,A,I⟩ ⟨U,J,u,D,K⟩;rw[s]at H;cases H;rw[r]at J;cases J;unfold Ur at c;simp only[Cz,wa]at c;have v:τ₁.heap=(e n).hp.getD τ.heap:=by rw[l.is,dW]
 have p:τ'.heap=(e j).hp.getD τ₁.heap:=by rw[u.is,dW]
 have q:((e j).on y.dst τ).heap=(e j).hp.getD τ.heap:=dW;rcases c with c|⟨c,E⟩|⟨c,E⟩
 ·obtain⟨w,z,R⟩:=MF c l u;refine⟨_,⟨y,r,w,λt b=>(R.1 t b).trans (D t b),λg=>?_⟩,x,s,z,λt b=>(iA (bO (yS c) b)).trans (A t b),λg=>?_⟩
  ·have F:aw N pts x≠some .hw:=(wT c).resolve_right λh=>h g;rw[FM l.tc F]at v;obtain⟨m,o⟩:=K g;rw[q,←show τ₁.heap=τ.heap from v,←p];exact⟨m,o⟩
  ·have G:aw N pts y≠some .hw:=(wT c).resolve_left λh=>h g;rw[FM u.tc G]at p q;obtain⟨m,o⟩:=I g;exact⟨(show _=τ.heap from q).trans m,(show _=τ₁.heap from p).trans o⟩
 ·obtain⟨d,c2,c3,c4,c5,c6⟩:=wn c;obtain⟨m,o⟩:=K c2;have F:(e n).hp=none:=(kS d l.tc).2;rw[F]at v;have v:τ₁.heap=τ.heap:=v;have f:∀ρ,AL N pts ops x τ' ρ->AL N pts ops x { σ' with heap:=(if n<=j then(st (j+1)).heap else(st j).heap) } ρ:=by
   intro ρ hρ;refine⟨λt b=>?_,?_⟩
   ·rw[hρ.1 t b,u.is,iA (bO c4 b),l.is,iA (bO c5 b)];exact A t b
   ·rw[d];show ρ.heap=if n<=j then(st (j+1)).heap else(st j).heap
    rw[mc (by omega),←o];have:=hρ.2;rw[d]at this;exact this
  obtain⟨w,z,_⟩:=Qo c l u λρ hρ=>M n j (sw E) O x s d ρ (f ρ hρ);refine⟨_,⟨y,r,w,λt b=>?_,λ_=>?_⟩,x,s,z,λt b=>(iA (bO c4 b)).trans (A t b),λg=>?_⟩
  ·rw[←D t b,l.is];exact(iA (bO c3 b)).symm
  ·rw[q,←v,←p];exact⟨m,o⟩
  ·rw[d]at g;cases g
 ·obtain⟨d,c2,c3,c4,c5,c6⟩:=wn c;obtain⟨m,o⟩:=I c2;have G:(e j).hp=none:=(kS d u.tc).2;rw[G]at p q;have p:τ'.heap=τ₁.heap:=p;have q:((e j).on y.dst τ).heap=τ.heap:=q;have L:∀t∈bj ops y,τ.tmps[t]?=σ'.tmps[t]?:=λt b=>by
   rw[←D t b,l.is];exact(iA (bO c4 b)).symm
  have f:∀ρ,AL N pts ops y τ ρ->AL N pts ops y { σ' with heap:=(if j<=n then(st (n+1)).heap else(st n).heap) } ρ:=by
   intro ρ hρ;refine⟨λt b=>?_,?_⟩
   ·rw[hρ.1 t b];exact L t b
   ·rw[d];show ρ.heap=if j<=n then(st (n+1)).heap else(st n).heap
    rw[ra (by omega),←m];have:=hρ.2;rw[d]at this;exact this
  obtain⟨w,z⟩:=Qm c l u λρ hρ=>M j n (sw E) (by omega) y r d ρ (f ρ hρ);refine⟨_,⟨y,r,w,L,λg=>?_⟩,x,s,z,λt b=>(iA (bO c3 b)).trans (A t b),λ_=>?_⟩
  ·rw[d]at g;cases g
  ·rw[q,p];exact⟨m,o⟩
def GF(e:BH N B)(a:∀(j:Nat) b,ops[j]?=some b->aw N pts b≠none){st:Nat->St}{t i:Nat}:∀(m:Nat),(∀j,i<=j->j<i+m->aj C B pts ops j (st j) (st (j+1))/\∀b,ops[j]?=some b->∀x,b.dst=some x->x≠t)->(st (i+m)).tmps[t]?=(st i).tmps[t]?
 |0,_=>rfl
 |m+1,h=>by
  obtain⟨h1,g⟩:=h (i+m) (by omega) (by omega);rw[←GF e a m λj c k=>h j c (by omega),show i+(m+1)=i+m+1 by omega];cases d:ops[i+m]? with
  |none=>
   have:st (i+m+1)=st (i+m):=by simpa[aj,d]using h1
   rw[this]
  |some b=>
   obtain⟨f,c⟩:=EM e a d h1;rw[c.is];exact iA (g b d)
def L8{S:Nat->St->St->Prop}{st:Nat->St}:∀(m i:Nat),(∀j,i<=j->j<i+m->S j (st j) (st (j+1)))->CM S (List.range' i m) (st i) (st (i+m))
 |0,i,_=>rfl
 |m+1,i,h=>by
  rw[qdk];refine⟨st (i+1),h i (by omega) (by omega),?_⟩;have:=L8 m (i+1) λj a b=>h j (by omega) (by omega)
  rwa [show i+1+m=i+(m+1)by omega]at this
def Nm(Q:BH N B){ps:List (Nat×Nat)}(p:xv N pts ops ps=true){σ σ':St}{E:List (Tp)}(h1:opsTr C B pts ops (List.range ops.size) σ E σ')(h2:AgainAt C B pts ops σ E σ' ps):eD C B pts ops σ σ':=by
 unfold xv at p;simp only[wa]at p;obtain⟨g1,g2,g3,g4⟩:=p;have l:∀(j:Nat) b,ops[j]?=some b->aw N pts b≠none:=by
  intro j b c A;have Y:b∈ops.toList:=by have:=qdb c;simpa using this
  have:=qac.1 g2 b Y;rw[A]at this;cases this
 have r:∀ {i:Nat} {o:Oper},ops[i]?=some o->i<ops.size:=λs=>(qaQ.1 s).1;rw[U9]at h1;obtain⟨st,s1,s2,O,P⟩:=Sf ops.size 0 σ E h1;rw[BT]at s2;have O:∀j,j<ops.size->aj C B pts ops j (st j) (st (j+1)):=λj c=>O j (by omega) (by omega);have P:∀j,j<ops.size->E[j]?=some (st (j+1)).heap:=λj c=>by have:=P j c;rwa [BT]at this
 have T:∀j,∃f,∀b,ops[j]?=some b->Loc C B N pts ops j b f (st j) (st (j+1)):=by
  intro j;cases c:ops[j]? with
  |none=>exact⟨⟨.nilFunc,none,none⟩,λb h=>by cases h⟩
  |some b=>
   obtain⟨f,U⟩:=EM Q l c (O j (r c));exact⟨f,λb' h=>by cases h;exact U⟩
 obtain⟨e,A⟩:=Classical.axiomOfChoice T;have m:∀(j:Nat) (t:Nat),j<=ops.size->(∀n,j<=n->∀a,ops[n]?=some a->∀x,a.dst=some x->x≠t)->σ'.tmps[t]?=(st j).tmps[t]?:=by
  intro j t c h;have:=GF (t:=t) (i:=j) Q l (ops.size - j) λn h3 h4=>⟨O n (by omega),h n h3⟩
  rwa [show j+(ops.size - j)=ops.size by omega,s2]at this
 have q:∀(j:Nat) b,ops[j]?=some b->∀t∈bj ops b,(st j).tmps[t]?=σ'.tmps[t]?:=by
  intro j b c t ht;refine(m j t (Nat.le_of_lt (r c)) λn K a u x L=>?_).symm;exact bO ((wC g3 j b (by simpa using c) n a (by simpa using u)).1 K) ht x L
 have R:∀k i,i<ops.size->atM σ.heap E (k,i)=if k<=i then(st (i+1)).heap else(st i).heap:=by
  intro k i s;unfold atM;show List.getD (σ.heap :: E) (match Nat.ble k i with|true=>i+1|false=>i) σ.heap=_;by_cases D:k<=i
  ·rw[Bg D,mc D,List.getD_eq_getElem?_getD,IF,P i s];rfl
  ·rw[show Nat.ble k i=false by rw[←CO];exact λh=>D (qdh h),ra D,List.getD_eq_getElem?_getD];cases i with
   |zero=>rw[s1];rfl
   |succ i=>rw[IF,P i (by omega)];rfl
 have U:∀k i,(k,i)∈ps->i<ops.size->∀a,ops[k]?=some a->aw N pts a=some .hr->∀ρ,AL N pts ops a { σ' with heap:=(if k<=i then(st (i+1)).heap else(st i).heap) } ρ->aj C B pts ops k ρ ((e k).on a.dst ρ):=by
  intro k i Y s a u hr;obtain⟨σ₂,M,o,d,x,I,J,q3,q4⟩:=h2 (k,i) Y;have I:ops[k]?=some o:=I;rw[u]at I;cases I;rw[R k i s]at M;obtain⟨g,V⟩:=EM Q l u M;have hl:=A k a u;obtain⟨f1,f2⟩:=kS hr V.tc;obtain⟨f3,f4⟩:=kS hr hl.tc;have W:g=e k:=by
   have D:σ'.tmps[d]?=(st (k+1)).tmps[d]?:=m (k+1) d (r u) λn K b v y hy=>by
    have:=(wC g3 k a (by simpa using u) n b (by simpa using v)).2 (by omega);intro h;subst h;rw[hy,J]at this;simp[bi]at this
   have F:(g.on a.dst { σ' with heap:=(if k<=i then(st (i+1)).heap else(st i).heap) }).tmps[d]?=some x:=by rw[←V.is];exact q4
   have G:((e k).on a.dst (st k)).tmps[d]?=some x:=by rw[←hl.is,←D];exact q3
   rw[sG,J]at F G;simp only[Eb]at F G;rw[mc trivial]at F G;split at F
   ·split at G
    ·generalize e k=z at *;cases g;cases z;simp only at *;cases F;cases G
     simp_all
    ·cases G
   ·cases F
  subst W;exact V.st
 have H:CM (EP C B N pts ops e st σ') (List.range ops.size) σ σ':=by
  rw[U9];have:=L8 (S:=EP C B N pts ops e st σ') (st:=st) ops.size 0 λj _ c=>by
   rw[BT]at c;have v:ops[j]?=some ops[j]:=by simp[c]
   exact⟨_,v,A j _ v,q j _ v,λ_=>⟨rfl,rfl⟩⟩
  rwa [BT,s1,s2]at this
 have w:∀(i:Nat) o,ops[i]?=some o->∀e∈o.after.toList,Region.binds .any e=true->e.on<i:=by
  intro i o Z e A v;have:=fD g1 i o (by simpa using Z) e A v;omega
 have hz:Ci ops.size (Array.replicate ops.size false)=List.range ops.size:=by
  unfold Ci;rw[qdv];intro i s;rw[qad]at s;rw[C1,VT,mc s];rfl
 refine .inl λt=>?_;obtain⟨M,_,_⟩:=EH (S:=EP C B N pts ops e st σ') w (λj n c K=>KQ U g4 j n c K) ops.size t (Array.replicate ops.size false) (by simp) (by rw[hz];simp) (λx o L Z=>by
  have X:x<ops.size:=r Z;rw[C1,VT,mc X]at L;cases L) σ σ' (by rw[hz];exact H)
 refine qF (λj τ τ' hS=>?_) M;obtain⟨b',I,J,_,_⟩:=hS;rw[J.is];exact J.st τ (Ip b' τ)
end
end Sx
namespace Sx
section
variable [Val] {C:Cfg} {B:Below} {N:Tb} {pts:Tx} {ops:Tl}
def yk(q:Oper->Oper->Bool)(b:Oper)(m:Nat):Tu->Nat->Bool
 | [],_=>true
 |a :: l,k=>(Nat.testBit m k||q a b)&&yk q b m l (k+1)
def sI(q:Oper->Oper->Bool)(ms:Tx):Tu->Tu->Nat->Bool
 |_,[],_=>true
 |pre,b :: l,i=>yk q b (ms.getD i 0) pre 0&&sI q ms (pre++[b]) l (i+1)
def uU{q:Oper->Oper->Bool}{b:Oper}{m:Nat}:∀ {l:Tu} {k:Nat},yk q b m l k=true->∀(j:Nat) a,l[j]?=some a->m.testBit (k+j)=true∨q a b=true
 | [],k,_,j,a,h=>by simp at h
 |a :: l,k,h,j,c,d=>by
  simp only[yk,wa,Cz]at h;cases j with
  |zero=>simp at d;subst d;exact h.1
  |succ j=>
   have:=uU h.2 j c (by simpa using d)
   rwa [show k+1+j=k+(j+1)by omega]at this
def qG{q:Oper->Oper->Bool}{ms:Tx}:∀ {l pre:Tu} {i:Nat},pre.length=i->sI q ms pre l i=true->∀(j:Nat) b,l[j]?=some b->∀(k:Nat) a,k<i+j->(pre++l)[k]?=some a->(ms.getD (i+j) 0).testBit k=true∨q a b=true
 | [],pre,i,_,_,j,b,h,_,_,_,_=>by simp at h
 |b :: l,pre,i,f,h,j,c,e,k,a,g,d=>by
  simp only[sI,wa]at h;cases j with
  |zero=>
   simp at e;subst e;rw[BZ (by omega)]at d;have:=uU h.1 k a d;simpa using this
  |succ j=>
   have:=qG (pre:=pre++[b]) (i:=i+1) (by simp[f]) h.2 j c (by simpa using e) k a (by omega) (by simpa using d)
   rwa [show i+1+j=i+(j+1)by omega]at this
def tW{b:Oper}{m i:Nat}:∀ {l:Tu} {k:Nat} (j:Nat) a,l[j]?=some a->m.testBit (k+j)=false->Jw pts a b=true->(k+j,i)∈tV pts b m i l k
 | [],k,j,a,h,_,_=>by simp at h
 |a :: l,k,j,c,d,e,f=>by
  unfold tV;cases j with
  |zero=>
   simp at d;subst d;simp only[Vf]at e ⊢;rw[e,f];simp
  |succ j=>
   have:=tW (i:=i) (k:=k+1) j c (by simpa using d) (by rwa [show k+1+j=k+(j+1)by omega]) f;rw[show k+1+j=k+(j+1)by omega]at this;split
   ·exact this
   ·exact BF _ this
def tU{ms:Tx}:∀ {l pre:Tu} {i:Nat},pre.length=i->∀(j:Nat) b,l[j]?=some b->∀(k:Nat) a,k<i+j->(pre++l)[k]?=some a->(ms.getD (i+j) 0).testBit k=false->Jw pts a b=true->(k,i+j)∈wX pts ms pre l i
 | [],pre,i,_,j,b,h,_,_,_,_,_,_=>by simp at h
 |b :: l,pre,i,g,j,c,e,k,a,n,d,m,f=>by
  unfold wX;rw[qar];cases j with
  |zero=>
   simp at e;subst e;rw[BZ (by omega)]at d;have:=tW (pts:=pts) (i:=i) (k:=0) k a d (by simpa using m) f;left;simpa using this
  |succ j=>
   right;have:=tU (pre:=pre++[b]) (i:=i+1) (by simp[g]) j c (by simpa using e) k a (by omega) (by simpa using d) (by rwa [show i+1+j=i+(j+1)by omega]) f
   rwa [show i+1+j=i+(j+1)by omega]at this
def opT(pts:Tx)(o:Oper):Tx:=((dg pts o).1++eO pts o).filterMap λx=>match x with
 | .tmp t=>some t
 |_=>none
def Qi(pts:Tx):Tu->Tu->Bool
 |_,[]=>true
 |pre,b :: l=>bw b.dst (opT pts b)&&(pre.all λa=>bw b.dst (opT pts a)&&bi a.dst b.dst)&&Qi pts (pre++[b]) l
def wB:∀ {l pre:Tu},Qi pts pre l=true->∀(j:Nat) b,l[j]?=some b->∀(k:Nat) a,(pre++l)[k]?=some a->(k<=pre.length+j->bw b.dst (opT pts a)=true)/\(k<pre.length+j->bi a.dst b.dst=true)
 | [],pre,_,j,b,h,_,_,_=>by simp at h
 |b :: l,pre,h,j,c,e,k,a,d=>by
  simp only[Qi,wa,qac]at h;obtain⟨⟨h1,i⟩,m⟩:=h;cases j with
  |zero=>
   simp at e;subst e;refine⟨λf=>?_,λf=>?_⟩
   ·rcases Bu k pre.length with g|n
    ·rw[BZ g]at d;exact(i a (Ap d)).1
    ·obtain rfl:k=pre.length:=by omega
     rw[Cv (Ah _),Ic]at d;simp at d;subst d;exact h1
   ·rw[BZ (by omega)]at d;exact(i a (Ap d)).2
  |succ j=>
   have:=wB m j c (by simpa using e) k a (by simpa using d);simp only[Bv,C6,Vj]at this;exact⟨λf=>this.1 (by omega),λf=>this.2 (by omega)⟩
def E2(N:Tb)(pts:Tx)(ops:Tl):Bool:=
 fM ops.toList 0&&(ops.toList.all (Em N pts)&&(ops.toList.any (dt pts)&&(ops.toList.all (λo=>!dt pts o||o.dst.isSome)&&(Qi pts [] ops.toList&&sI (λa b=>Mw N pts ops a b && !gZ a b) (CR ops.toList []) [] ops.toList 0))))
def xy(N:Tb)(pts:Tx)(ops:Tl)(j:Nat)(b:Oper)(m:Nat):Tu->Nat->List (Nat×Nat)
 | [],_=>[]
 |a :: l,n=>match Nat.testBit m n||tS N pts ops a b,Ee N pts ops a b with
  |true,_=>xy N pts ops j b m l (n+1)
  |false,true=>(n,j) :: xy N pts ops j b m l (n+1)
  |false,false=>(j,n) :: xy N pts ops j b m l (n+1)
def EO(N:Tb)(pts:Tx)(ops:Tl)(ms:Tx):Tu->Tu->Nat->List (Nat×Nat)
 |_,[],_=>[]
 |pre,b :: l,i=>xy N pts ops i b (ms.getD i 0) pre 0++EO N pts ops ms (pre++[b]) l (i+1)
def Uq(N:Tb)(pts:Tx)(ops:Tl):Option (List (Nat×Nat)):=
 match xv N pts ops (EO N pts ops (CR ops.toList []) [] ops.toList 0)with
 |true=>some ((5000,0) :: EO N pts ops (CR ops.toList []) [] ops.toList 0)
 |false=>none
def S5(N:Tb):Dr:=λpts ops=>match wY pts ops with
 | []=>match uS N pts ops with
  |true=>some []
  |false=>Uq N pts ops
 |p :: a=>match manyOf (p :: a),splOf (p :: a),E2 N pts ops with
  |none,none,true=>some (p :: a)
  |_,_,_=>none
def Km{o:Oper}(h:BB pts o=0):(dg pts o).1=[]/\eO pts o=[]/\dt pts o=false:=by
 obtain⟨dst,k,i,pos,d,guard⟩:=o;cases k<;>simp only[BB]at h<;>first|(exact⟨rfl,rfl,rfl⟩)|(exact absurd h (by decide))|skip
 case alloc t=>cases g:dt pts ⟨dst,.alloc t,i,pos,d,guard⟩with
  |true=>rw[g]at h;cases h
  |false=>exact⟨rfl,rfl,rfl⟩
 case box t x=>cases g:dt pts ⟨dst,.box t x,i,pos,d,guard⟩with
  |true=>rw[g]at h;cases h
  |false=>exact⟨rfl,rfl,rfl⟩
 case load t a=>
  split at h
  ·cases h
  next j=>
   refine⟨?_,rfl,rfl⟩;simp only[dg]
 case store t a x=>
  split at h
  ·cases h
  next j=>
   refine⟨?_,?_,rfl⟩
   ·simp only[dg]
   ·simp only[eO]
 case call c=>
  cases e:c.callee with
  |builtin b=>
   rw[e]at h;simp only[dg,eO,dt,e];cases b<;>first|(exact⟨rfl,rfl,rfl⟩)|(exact absurd h (by simp))
  |value f=>simp only[dg,eO,dt,e];exact⟨trivial,trivial,trivial⟩
  |invoke r m=>simp only[dg,eO,dt,e];exact⟨trivial,trivial,trivial⟩
def Ru{o:Oper}(h:BB pts o=1):eO pts o=[]/\dt pts o=false:=by
 obtain⟨dst,j,i,pos,d,guard⟩:=o;cases j<;>simp only[BB]at h<;>first|(exact⟨rfl,rfl⟩)|(exact absurd h (by decide))|skip
 case alloc t=>cases g:dt pts ⟨dst,.alloc t,i,pos,d,guard⟩with
  |true=>rw[g]at h;cases h
  |false=>exact⟨rfl,rfl⟩
 case box t x=>cases g:dt pts ⟨dst,.box t x,i,pos,d,guard⟩with
  |true=>rw[g]at h;cases h
  |false=>exact⟨rfl,rfl⟩
 case store t a x=>split at h<;>cases h
 case call c=>
  cases e:c.callee with
  |builtin b=>
   rw[e]at h;simp only[eO,dt,e];cases b<;>first|(exact⟨rfl,rfl⟩)|(exact absurd h (by simp))
  |value f=>simp only[eO,dt,e];exact⟨trivial,trivial⟩
  |invoke r m=>simp only[eO,dt,e];exact⟨trivial,trivial⟩
def rX(o:Oper):BB pts o=0∨BB pts o=1∨BB pts o=2:=by
 obtain⟨dst,d,e,pos,b,guard⟩:=o;cases d<;>simp only[BB]<;>first|(exact .inl trivial)|(exact .inr (.inl trivial))|(exact .inr (.inr trivial))|skip
 case alloc t=>split<;>simp
 case box t x=>split<;>simp
 case load t a=>split<;>simp
 case store t a x=>split<;>simp
 case call c=>split<;>first|(split<;>simp)|simp
end
end Sx
namespace Sx
section
variable [Val] {C:Cfg} {B:Below} {N:Tb} {pts:Tx} {ops:Tl}
def HG{mk:Nat->Value}(h:Fresh mk)(k:Nat):adr (mk k)=[k]:=by
 cases h<;>simp[adr,qs]
def yu{S:Nat->St->St->Prop}{c:Nat->To}(b:∀i σ σ',S i σ σ'->dZ C B pts ops c i σ σ'):∀ {l:Tx},l.Nodup->∀ {σ σ':St},CM S l σ σ'->iS C B pts ops c l σ σ'
 | [],_,_,_,h=>h
 |i :: l,a,σ,σ',⟨σ₁,h1,d⟩=>by
  rw[qbU]at a;exact⟨a.1,σ₁,b i _ _ h1,yu b a.2 d⟩
def Py{o:Oper}{t:Nat}(h:Operand.tmp t∈(dg pts o).1++eO pts o):t∈opT pts o:=by
 unfold opT;exact qaH.2 ⟨.tmp t,h,rfl⟩
def Nn [Kno](hN:BH N B)(F:E2 N pts ops=true){σ σ':St}(h:bJ C B pts ops (List.range ops.size) σ σ')(ap:Fc pts ops σ'.tmps (wY pts ops)):eD C B pts ops σ σ':=by
 simp only[E2,wa]at F;obtain⟨g1,g2,g3,g4,g5,g6⟩:=F;have a0:∀i∈List.range ops.size,∃o,ops[i]?=some o/\Em N pts o=true:=by
  intro i c;rw[qad]at c;exact⟨ops[i],by simp[c],qac.1 g2 _ (by simp)⟩
 obtain⟨f,R⟩:=Gr hN (List.range ops.size) σ σ' RX a0 h;have M:∀ {i:Nat} {o:Oper},ops[i]?=some o->i<ops.size:=λc=>(qaQ.1 c).1;have u:∀ {i:Nat} {o:Oper},ops[i]?=some o->i∈List.range ops.size:=λc=>qad.2 (M c);have hl:∀ {i:Nat} {o:Oper},ops[i]?=some o->ops.toList[i]?=some o:=λc=>by simpa using c
 have an:∀ {i:Nat} {o:Oper},ops[i]?=some o->∀x∈(dg pts o).1++eO pts o,ke σ'.tmps x=ke (f i).σ.tmps x:=by
  intro i o c x A;refine lw λt ht=>?_;subst ht;refine R.args i (u c) t λj hj I o' J Q=>?_;have:=(wB g5 j o' (hl J) i o (by simpa using c)).1 (by simpa using I);exact qf this t (Py A) t Q rfl
 have hF:∀ {i:Nat} {o:Oper},ops[i]?=some o->∀r∈Cj pts (ke (f i).σ.tmps) o,r∈VM pts σ'.tmps o:=by
  intro i o c r T;unfold Cj at T;unfold VM;obtain⟨x,A,T⟩:=qa2.1 T;exact qa2.2 ⟨x,A,by rw[an c x (D9 _ A)];exact T⟩
 have hW:∀ {i:Nat} {o:Oper},ops[i]?=some o->DQ pts σ'.tmps o->∀p∈(f i).ws,p.1∈Nd pts σ'.tmps o:=by
  intro i o c ay p hp;have K:=R.ok i (u c) o c;unfold Rec.ws at hp;unfold Nd;rw[qa2];rcases qar.1 hp with hp|hp
  ·have:=K.wr p (by simpa using hp);unfold Fa at this;obtain⟨x,A,T⟩:=qa2.1 this;exact⟨x,D9 _ A,by rw[an c x (LV _ A)];exact T⟩
  ·unfold Rec.slot at hp;split at hp
   next k q y z=>
    have hp:p=(k,q.1):=by simpa using hp
    subst hp;obtain⟨f1,f2,Y⟩:=K.fr q z;have Z:BB pts o=2:=by
     rcases rX (pts:=pts) o with w|w|w
     ·rw[(Km w).2.2]at Y;cases Y
     ·rw[(Ru w).2]at Y;cases Y
     ·exact w
    have aE:o.dst.isSome=true:=by
     have:=qac.1 g4 o (Ap (hl c));rw[Y]at this;simpa using this
    obtain⟨d,Q⟩:=qbu.1 aE;obtain⟨v,hv⟩:=ay d Q Z;have ar:=R.res i (u c) o d v c Q (λj hj I o' J ax=>by
     have:=(wB g5 j o' (hl J) i o (by simpa using c)).2 (by simpa using I);rw[Q,ax]at this;simp[bi]at this) hv
    refine⟨.tmp d,tu Q Z,?_⟩;have ho:ke σ'.tmps (.tmp d)=v:=by simp[ke,List.getD_eq_getElem?_getD,hv]
    rw[ho,ar];unfold Rec.val HEff.val;rw[y];simp only[z];rw[HG f1];exact qav.2 rfl
   ·cases hp
 have g:∀ {i:Nat} {o:Oper},ops[i]?=some o->BB pts o≠2->(f i).ws=[]:=by
  intro i o c hc;have K:=R.ok i (u c) o c;have hw:eO pts o=[]/\dt pts o=false:=by
   rcases rX (pts:=pts) o with w|w|w
   ·exact(Km w).2
   ·exact Ru w
   ·exact absurd w hc
  have W:(f i).e.set=none:=by
   cases hs:(f i).e.set with
   |none=>rfl
   |some p=>
    have:=K.wr p hs;unfold Fa at this;rw[hw.1]at this;cases this
  have X:(f i).e.push=none:=by
   cases hs:(f i).e.push with
   |none=>rfl
   |some p=>have:=(K.fr p hs).2.2;rw[hw.2]at this;cases this
  unfold Rec.ws Rec.slot;rw[W,X];cases (f i).k<;>rfl
 have E:∀ {i:Nat} {o:Oper},BB pts o=0->Cj pts (ke (f i).σ.tmps) o=[]:=by
  intro i o hc;unfold Cj;rw[(Km hc).1];rfl
 refine .inr ⟨λi=>if i<ops.size then(f i).k else none,σ'.heap.length - σ.heap.length,g3,?_,?_,λt=>?_⟩
 ·intro i k y;simp only at y;split at y
  next c=>
   have:=R.slot i (qad.2 c) k y;omega
  ·cases y
 ·intro i j k y D;simp only at y D;split at y
  next c=>
   split at D
   next hj=>
    exact R.inj i (qad.2 c) j (qad.2 hj) k y D
   ·cases D
  ·cases y
 have H:∀(i:Nat) o,ops[i]?=some o->∀e∈o.after.toList,Region.binds .any e=true->e.on<i:=by
  intro i o ho e he m;have:=fD g1 i o (by simpa using ho) e he m;omega
 have L:∀i k:Nat,i<ops.size->k<i->Anc ops k i∨∀τ τ₁ τ':St,Im N pts ops f k τ τ₁->Im N pts ops f i τ₁ τ'->∃ρ,Im N pts ops f i τ ρ/\Im N pts ops f k ρ τ':=by
  intro i k c a2;have m:ops[i]?=some ops[i]:=by simp[c]
  have n:ops[k]?=some (ops[k]'(by omega)):=by simp[show k<ops.size by omega]
  generalize ops[i]=b at m;generalize ops[k]'(by omega)=a at n;have z:=qG (pre:=[]) (i:=0) rfl g6 i b (by simpa using m) k a (by omega) (by simpa using n);rw[BT]at z;cases O:(List.getD (CR ops.toList []) i 0).testBit k with
  |true=>exact .inl (rn ops.toList [] rfl (λi k h=>by simp at h) i k O)
  |false=>
   right;rw[O]at z;have z:=z.resolve_left (by simp);simp only[wa]at z;obtain⟨q1,q2⟩:=z;have d:(∀p∈(f k).ws,p.1∉Cj pts (ke (f i).σ.tmps) b)/\(∀p∈(f i).ws,p.1∉Cj pts (ke (f k).σ.tmps) a)/\(∀p∈(f k).ws,∀q∈(f i).ws,p.1≠q.1):=by
    cases s:Jw pts a b with
    |true=>
     have hm:=tU (pts:=pts) (ms:=CR ops.toList []) (l:=ops.toList) (pre:=[]) (i:=0) rfl i b (by simpa using m) k a (by omega) (by simpa using n) (by rw[BT];exact O) s;rw[BT]at hm;obtain⟨a',b',U,V,s1,s2,s3,s4,s5⟩:=ap (k,i) hm;have U:ops[k]?=some a':=U;have V:ops[i]?=some b':=V;rw[n]at U;rw[m]at V;cases U;cases V;exact⟨λp hp hf=>s1 _ (hW n s4 p hp) (hF m _ hf),λp hp hf=>s3 _ (hW m s5 p hp) (hF n _ hf),λp hp q z e=>s2 _ (hW n s4 p hp) (e▸hW m s5 q z)⟩
    |false=>
     have s:Nat.ble 3 (BB pts a+BB pts b)=false:=by
      unfold Jw at s;cases he:gZ a b with
      |true=>rw[he]at q2;cases q2
      |false=>rw[he]at s;simpa using s
     have ag:¬3<=BB pts a+BB pts b:=λh=>by rw[Bg h]at s;cases s
     rcases rX (pts:=pts) a with W|W|W<;>rcases rX (pts:=pts) b with X|X|X
     ·rw[g n (by omega),g m (by omega)];exact⟨λ_ h=>(by cases h),λ_ h=>(by cases h),λ_ h=>(by cases h)⟩
     ·rw[g n (by omega),g m (by omega)];exact⟨λ_ h=>(by cases h),λ_ h=>(by cases h),λ_ h=>(by cases h)⟩
     ·rw[g n (by omega),E W];exact⟨λ_ h=>(by cases h),λ_ _ h=>(by cases h),λ_ h=>(by cases h)⟩
     ·rw[g n (by omega),g m (by omega)];exact⟨λ_ h=>(by cases h),λ_ h=>(by cases h),λ_ h=>(by cases h)⟩
     ·rw[g n (by omega),g m (by omega)];exact⟨λ_ h=>(by cases h),λ_ h=>(by cases h),λ_ h=>(by cases h)⟩
     ·omega
     ·rw[g m (by omega),E X];exact⟨λ_ _ h=>(by cases h),λ_ h=>(by cases h),λ_ _ _ h=>(by cases h)⟩
     ·omega
     ·omega
   rintro τ τ₁ τ' ⟨a1,P,h2,rfl⟩ ⟨b1,h3,h4,rfl⟩;rw[n]at P;rw[m]at h3;cases P;cases h3;obtain⟨w1,w2,w3⟩:=swapR (R.ok k (u n) a n) (R.ok i (u m) b m) q1 d.1 d.2.1 d.2.2 h2 h4;exact⟨_,⟨b,m,w1,rfl⟩,⟨a,n,w2,w3⟩⟩
 have hz:Ci ops.size (Array.replicate ops.size false)=List.range ops.size:=by
  unfold Ci;rw[qdv];intro i c;rw[qad]at c;rw[C1,VT,mc c];rfl
 have G:=R.run σ'.heap.length (Ah _);have ad:St.padTo σ' σ'.heap.length=σ':=by
  unfold St.padTo St.pad;rw[Ic];simp
 rw[ad]at G;obtain⟨U,V,_⟩:=EH (S:=Im N pts ops f) H L ops.size t (Array.replicate ops.size false) (by simp) (by rw[hz];simp) (λx o A ho=>by
  have ag:x<ops.size:=M ho;rw[C1,VT,mc ag]at A;cases A) _ _ (by rw[hz];exact G)
 refine yu (λi τ τ' hS=>?_) V U;obtain⟨o,P,h2,rfl⟩:=hS;exact(R.ok i (u P) o P).step τ h2 _ (by simp only[M P,if_true])
def Pa{a:List (Nat×Nat)}(h:Uq N pts ops=some a):∃l,manyOf a=some l/\xv N pts ops l=true:=by
 unfold Uq at h;split at h
 next b=>
  cases h;exact⟨_,rfl,b⟩
 ·cases h
def N7 [Kno]{C:Cfg}(b:∀f n,N f=some n->ET N C f n=true)(c:∀f args H r H',Kno.kh f args H r H'->N f=none∨(N f=some (2*args.length+1)/\H'=H)):DrOk C (S5 N):=by
 intro pts ops q h;unfold S5 at h;split at h
 ·split at h
  next a=>
   cases h;exact λn σ σ' g d=>X7 b c pts ops a n σ σ' g
  ·obtain⟨l,e,a⟩:=Pa h;rw[e];exact λn σ σ' d i j=>Nm (xH b c n).1.1 a i j
 next p s k=>
  split at h
  next m o a=>
   cases h;rw[m];simp only;rw[o];exact λn σ σ' g d=>Nn (xH b c n).1.1 a g (by rw[k];exact d)
  ·cases h
end
end Sx
end Go.Am
namespace Go.Am
open Sx Go.Proofs
def neuT:List (Nat×Nat):=[(32,6),(60,6),(35,4),(39,4),(33,4),(34,4),(38,4),(51,4),(57,2),(36,6),(84,4),(85,4),(86,4),(87,2),(88,2),(62,2),(94,2),(97,4),(121,2),(18,2),(64,4),(101,4),(65,4),(67,6),(126,2),(53,2),(102,4),(103,4),(132,6),(133,2),(134,2),(135,4),(104,4),(105,4),(136,2),(137,4),(173,2),(47,4),(76,4),(92,2),(119,2),(42,5),(41,5),(82,3),(78,3),(80,3),(23,2),(37,5)]
def F0(l:List (Nat×Nat))(f:Nat):To:=match l with
 | []=>none
 |p :: l=>match Nat.beq p.1 f with
  |true=>some p.2
  |false=>F0 l f
def Dd(f:TK):To:=F0 neuT f
def uC{f n:Nat}:∀ {l:List (Nat×Nat)},F0 l f=some n->(f,n)∈l
 |p :: l,h=>by
  unfold F0 at h;split at h
  next e=>
   cases h;have:=AW e;subst this;exact Cw
  ·exact BF _ (uC h)
def Pr:(neuT.all λp=>ET Dd cc p.1 p.2)=true:=by kernel_rfl
def Pp(f n:Nat)(h:Dd f=some n):ET Dd cc f n=true:=qac.1 Pr (f,n) (uC h)
def N6:Dr:=S5 Dd
def nF(k:Nat)(a:List An):Fn1:=fn1 cc.P k ((ab k).getD ⟨[],[]⟩) a
def iF {k:Nat} {g:Func} {a:List An} (h0:(xc k).C.P.funcs[k]?=some g) (h:(g.body,((g.name == "runtime.NumGoroutine")||(xc k).C.opq k),g.ntmps,g.results.toList,ab k)=(some (er (xc k) (nF k a).code),false,(nF k a).nt,(nF k a).rvs,some (nF k a).sg)):FnIs (xc k) ab k (nF k a):=by
 simp only[PZ]at h;exact⟨⟨g,h0,h.1,h.2.1,h.2.2.1,h.2.2.2.1⟩,rfl,h.2.2.2.2⟩
abbrev wb(k:Nat)(a:List An):(R b:Type)->Alg R b->TB->b->(TB->b->R)->R:=λR b A ls h K=>ak A (xc k) ab N6 (nF k a) ls h K
abbrev wd(k:Nat)(a:List An):Prop:=FnIs (xc k) ab k (nF k a)
def i4:wd 4 an4:=iF Tryz.func4 (by kernel_rfl)
def i6:wd 6 an6:=iF Tryz.func6 (by kernel_rfl)
def i7:wd 7 an7:=iF Tryz.func7 (by kernel_rfl)
def i8:wd 8 an8:=iF Tryz.func8 (by kernel_rfl)
def i9:wd 9 an9:=iF Tryz.func9 (by kernel_rfl)
def Rv:wd 10 Wc:=iF Tryz.func10 (by kernel_rfl)
def i13:wd 13 Wd:=iF Tryz.func13 (by kernel_rfl)
def i14:wd 14 We:=iF Tryz.func14 (by kernel_rfl)
def i15:wd 15 Wf:=iF Tryz.func15 (by kernel_rfl)
def i16:wd 16 Wh:=iF Tryz.func16 (by kernel_rfl)
def i17:wd 17 Wi:=iF Tryz.func17 (by kernel_rfl)
def i18:wd 18 Wj:=iF Tryz.func18 (by kernel_rfl)
def i20:wd 20 Wk:=iF Tryz.func20 (by kernel_rfl)
def i21:wd 21 Wl:=iF Tryz.func21 (by kernel_rfl)
def i22:wd 22 Wm:=iF Tryz.func22 (by kernel_rfl)
def i23:wd 23 Wn:=iF Tryz.func23 (by kernel_rfl)
def i24:wd 24 Wo:=iF Tryz.func24 (by kernel_rfl)
def i25:wd 25 Wp:=iF Tryz.func25 (by kernel_rfl)
def i26:wd 26 Wq:=iF Tryz.func26 (by kernel_rfl)
def i27:wd 27 Wr:=iF Tryz.func27 (by kernel_rfl)
def i28:wd 28 Ws:=iF Tryz.func28 (by kernel_rfl)
def i29:wd 29 Wt:=iF Tryz.func29 (by kernel_rfl)
def i30:wd 30 Wu:=iF Tryz.func30 (by kernel_rfl)
def i31:wd 31 Wv:=iF Tryz.func31 (by kernel_rfl)
def i32:wd 32 Ww:=iF Tryz.func32 (by kernel_rfl)
def i33:wd 33 Wx:=iF Tryz.func33 (by kernel_rfl)
def i34:wd 34 Wy:=iF Tryz.func34 (by kernel_rfl)
def i35:wd 35 Wz:=iF Tryz.func35 (by kernel_rfl)
def i36:wd 36 WA:=iF Tryz.func36 (by kernel_rfl)
def i37:wd 37 WB:=iF Tryz.func37 (by kernel_rfl)
def i38:wd 38 WC:=iF Tryz.func38 (by kernel_rfl)
def i39:wd 39 WD:=iF Tryz.func39 (by kernel_rfl)
def i41:wd 41 WE:=iF Tryz.func41 (by kernel_rfl)
def i42:wd 42 WF:=iF Tryz.func42 (by kernel_rfl)
def i43:wd 43 WG:=iF Tryz.func43 (by kernel_rfl)
def i44:wd 44 WH:=iF Tryz.func44 (by kernel_rfl)
def i45:wd 45 WI:=iF Tryz.func45 (by kernel_rfl)
def i46:wd 46 WJ:=iF Tryz.func46 (by kernel_rfl)
def i47:wd 47 WK:=iF Tryz.func47 (by kernel_rfl)
def i48:wd 48 WL:=iF Tryz.func48 (by kernel_rfl)
def i49:wd 49 WM:=iF Tryz.func49 (by kernel_rfl)
def i50:wd 50 WN:=iF Tryz.func50 (by kernel_rfl)
def i51:wd 51 WO:=iF Tryz.func51 (by kernel_rfl)
def i52:wd 52 WP:=iF Tryz.func52 (by kernel_rfl)
def i53:wd 53 WS:=iF Tryz.func53 (by kernel_rfl)
def i56:wd 56 WT:=iF Tryz.func56 (by kernel_rfl)
def i57:wd 57 WU:=iF Tryz.func57 (by kernel_rfl)
def i58:wd 58 WV:=iF Tryz.func58 (by kernel_rfl)
def i59:wd 59 WW:=iF Tryz.func59 (by kernel_rfl)
def i60:wd 60 WX:=iF Tryz.func60 (by kernel_rfl)
def i61:wd 61 WY:=iF Tryz.func61 (by kernel_rfl)
def i62:wd 62 WZ:=iF Tryz.func62 (by kernel_rfl)
def i63:wd 63 W0:=iF Tryz.func63 (by kernel_rfl)
def i64:wd 64 W1:=iF Tryz.func64 (by kernel_rfl)
def i65:wd 65 W2:=iF Tryz.func65 (by kernel_rfl)
def i66:wd 66 W3:=iF Tryz.func66 (by kernel_rfl)
def i67:wd 67 W4:=iF Tryz.func67 (by kernel_rfl)
def i68:wd 68 W5:=iF Tryz.func68 (by kernel_rfl)
def i69:wd 69 W6:=iF Tryz.func69 (by kernel_rfl)
def i70:wd 70 W7:=iF Tryz.func70 (by kernel_rfl)
def i71:wd 71 W8:=iF Tryz.func71 (by kernel_rfl)
def i72:wd 72 W9:=iF Tryz.func72 (by kernel_rfl)
def i73:wd 73 Xa:=iF Tryz.func73 (by kernel_rfl)
def i74:wd 74 Xb:=iF Tryz.func74 (by kernel_rfl)
def i75:wd 75 Xc:=iF Tryz.func75 (by kernel_rfl)
def i76:wd 76 Xd:=iF Tryz.func76 (by kernel_rfl)
def i77:wd 77 Xe:=iF Tryz.func77 (by kernel_rfl)
def i78:wd 78 Xf:=iF Tryz.func78 (by kernel_rfl)
def i79:wd 79 Xg:=iF Tryz.func79 (by kernel_rfl)
def i80:wd 80 Xh:=iF Tryz.func80 (by kernel_rfl)
def i81:wd 81 Xi:=iF Tryz.func81 (by kernel_rfl)
def i82:wd 82 Xj:=iF Tryz.func82 (by kernel_rfl)
def i83:wd 83 Xk:=iF Tryz.func83 (by kernel_rfl)
def i84:wd 84 Xl:=iF Tryz.func84 (by kernel_rfl)
def i85:wd 85 Xm:=iF Tryz.func85 (by kernel_rfl)
def i86:wd 86 Xn:=iF Tryz.func86 (by kernel_rfl)
def i87:wd 87 Xo:=iF Tryz.func87 (by kernel_rfl)
def i88:wd 88 Xp:=iF Tryz.func88 (by kernel_rfl)
def i89:wd 89 Xq:=iF Tryz.func89 (by kernel_rfl)
def i90:wd 90 Xr:=iF Tryz.func90 (by kernel_rfl)
def i91:wd 91 Xs:=iF Tryz.func91 (by kernel_rfl)
def i92:wd 92 Xt:=iF Tryz.func92 (by kernel_rfl)
def i93:wd 93 Xu:=iF Tryz.func93 (by kernel_rfl)
def i94:wd 94 Xv:=iF Tryz.func94 (by kernel_rfl)
def i95:wd 95 Xw:=iF Tryz.func95 (by kernel_rfl)
def i97:wd 97 Xx:=iF Tryz.func97 (by kernel_rfl)
def i98:wd 98 Xy:=iF Tryz.func98 (by kernel_rfl)
def i99:wd 99 Xz:=iF Tryz.func99 (by kernel_rfl)
def ZJ:wd 100 Qy:=iF Tryz.func100 (by kernel_rfl)
def ZK:wd 101 Qz:=iF Tryz.func101 (by kernel_rfl)
def ZL:wd 102 QA:=iF Tryz.func102 (by kernel_rfl)
def i103:wd 103 QB:=iF Tryz.func103 (by kernel_rfl)
def ZM:wd 104 QC:=iF Tryz.func104 (by kernel_rfl)
def i105:wd 105 QD:=iF Tryz.func105 (by kernel_rfl)
def ZN:wd 106 QE:=iF Tryz.func106 (by kernel_rfl)
def ZO:wd 107 QF:=iF Tryz.func107 (by kernel_rfl)
def i116:wd 116 QH:=iF Tryz.func116 (by kernel_rfl)
def ZP:wd 117 QI:=iF Tryz.func117 (by kernel_rfl)
def ZQ:wd 118 QJ:=iF Tryz.func118 (by kernel_rfl)
def ZR:wd 119 QK:=iF Tryz.func119 (by kernel_rfl)
def ZS:wd 120 QL:=iF Tryz.func120 (by kernel_rfl)
def ZT:wd 121 QM:=iF Tryz.func121 (by kernel_rfl)
def ZU:wd 122 QN:=iF Tryz.func122 (by kernel_rfl)
def ZV:wd 123 QO:=iF Tryz.func123 (by kernel_rfl)
def ZW:wd 124 QP:=iF Tryz.func124 (by kernel_rfl)
def ZX:wd 125 QQ:=iF Tryz.func125 (by kernel_rfl)
def ZY:wd 126 QR:=iF Tryz.func126 (by kernel_rfl)
def ZZ:wd 127 QS:=iF Tryz.func127 (by kernel_rfl)
def Z0:wd 128 QT:=iF Tryz.func128 (by kernel_rfl)
def Z1:wd 129 QU:=iF Tryz.func129 (by kernel_rfl)
def i130:wd 130 QV:=iF Tryz.func130 (by kernel_rfl)
def Z2:wd 131 QW:=iF Tryz.func131 (by kernel_rfl)
def Z3:wd 132 QX:=iF Tryz.func132 (by kernel_rfl)
def Z4:wd 133 QY:=iF Tryz.func133 (by kernel_rfl)
def i134:wd 134 QZ:=iF Tryz.func134 (by kernel_rfl)
def i135:wd 135 Q0:=iF Tryz.func135 (by kernel_rfl)
def Z5:wd 136 Q3:=iF Tryz.func136 (by kernel_rfl)
def Z6:wd 137 Q4:=iF Tryz.func137 (by kernel_rfl)
def Z7:wd 138 Q5:=iF Tryz.func138 (by kernel_rfl)
def Z8:wd 144 Q6:=iF Tryz.func144 (by kernel_rfl)
def Z9:wd 152 Q7:=iF Tryz.func152 (by kernel_rfl)
def i160:wd 160 Q8:=iF Tryz.func160 (by kernel_rfl)
def i166:wd 166 Q9:=iF Tryz.func166 (by kernel_rfl)
def i169:wd 169 Ra:=iF Tryz.func169 (by kernel_rfl)
def i170:wd 170 Rb:=iF Tryz.func170 (by kernel_rfl)
def i171:wd 171 Rc:=iF Tryz.func171 (by kernel_rfl)
def i172:wd 172 Rd:=iF Tryz.func172 (by kernel_rfl)
def i173:wd 173 Re:=iF Tryz.func173 (by kernel_rfl)
def i174:wd 174 Rf:=iF Tryz.func174 (by kernel_rfl)
def i175:wd 175 Rg:=iF Tryz.func175 (by kernel_rfl)
def e8:@f8=wb 8 an8:=by kernel_rfl
def e14:@f14=wb 14 We:=by kernel_rfl
def e18:@VH=wb 18 Wj:=by kernel_rfl
def e27:@f27=wb 27 Wr:=by kernel_rfl
def e28:@YS=wb 28 Ws:=by kernel_rfl
def e32:@f32=wb 32 Ww:=by kernel_rfl
def e47:@YY=wb 47 WK:=by kernel_rfl
def e60:@f60=wb 60 WX:=by kernel_rfl
def e69:@f69=wb 69 W6:=by kernel_rfl
def e70:@f70=wb 70 W7:=by kernel_rfl
def e75:@f75=wb 75 Xc:=by kernel_rfl
def e76:@Y5=wb 76 Xd:=by kernel_rfl
def e78:@Y6=wb 78 Xf:=by kernel_rfl
def e79:@Y7=wb 79 Xg:=by kernel_rfl
def e90:@f90=wb 90 Xr:=by kernel_rfl
def Ya:@JP=wb 102 QA:=by kernel_rfl
def Yj:@OA=wb 122 QN:=by kernel_rfl
def Yl:@JV=wb 124 QP:=by kernel_rfl
def Yv:@J0=wb 137 Q4:=by kernel_rfl
def e13:@f13=wb 13 Wd:=by kernel_rfl
def e15:@f15=wb 15 Wf:=by kernel_rfl
def e22:@f22=wb 22 Wm:=by kernel_rfl
def e24:@f24=wb 24 Wo:=by kernel_rfl
def e30:@YT=wb 30 Wu:=by kernel_rfl
def e33:@YU=wb 33 Wx:=by kernel_rfl
def e34:@YV=wb 34 Wy:=by kernel_rfl
def e37:@f37=wb 37 WB:=by kernel_rfl
def e46:@YX=wb 46 WJ:=by kernel_rfl
def e51:@VI=wb 51 WO:=by kernel_rfl
def e53:@VJ=wb 53 WS:=by kernel_rfl
def e59:@f59=wb 59 WW:=by kernel_rfl
def e63:@f63=wb 63 W0:=by kernel_rfl
def e66:@f66=wb 66 W3:=by kernel_rfl
def e72:@f72=wb 72 W9:=by kernel_rfl
def e88:@Zg=wb 88 Xp:=by kernel_rfl
def e93:@f93=wb 93 Xu:=by kernel_rfl
def e95:@f95=wb 95 Xw:=by kernel_rfl
def Yd:@Ow=wb 107 QF:=by kernel_rfl
def e116:@YK=wb 116 QH:=by kernel_rfl
def Yk:@JU=wb 123 QO:=by kernel_rfl
def e134:@YM=wb 134 QZ:=by kernel_rfl
def Yu:@JZ=wb 136 Q3:=by kernel_rfl
def Yx:@OE=wb 144 Q6:=by kernel_rfl
def YA:@OI=wb 169 Ra:=by kernel_rfl
def e4:@f4=wb 4 an4:=by kernel_rfl
def e7:@f7=wb 7 an7:=by kernel_rfl
def e25:@f25=wb 25 Wp:=by kernel_rfl
def e26:@f26=wb 26 Wq:=by kernel_rfl
def e35:@f35=wb 35 Wz:=by kernel_rfl
def e36:@f36=wb 36 WA:=by kernel_rfl
def e38:@YW=wb 38 WC:=by kernel_rfl
def e39:@f39=wb 39 WD:=by kernel_rfl
def e41:@f41=wb 41 WE:=by kernel_rfl
def e43:@f43=wb 43 WG:=by kernel_rfl
def e44:@f44=wb 44 WH:=by kernel_rfl
def e52:@f52=wb 52 WP:=by kernel_rfl
def e56:@f56=wb 56 WT:=by kernel_rfl
def e67:@VL=wb 67 W4:=by kernel_rfl
def e74:@f74=wb 74 Xb:=by kernel_rfl
def e81:@Y9=wb 81 Xi:=by kernel_rfl
def e94:@TW=wb 94 Xv:=by kernel_rfl
def e97:@Zi=wb 97 Xx:=by kernel_rfl
def e98:@Zj=wb 98 Xy:=by kernel_rfl
def X9:@Hq=wb 101 Qz:=by kernel_rfl
def Yn:@JW=wb 126 QR:=by kernel_rfl
def Yo:@DR=wb 127 QS:=by kernel_rfl
def Yq:@OC=wb 129 QU:=by kernel_rfl
def Yr:@JX=wb 131 QW:=by kernel_rfl
def e171:@YR=wb 171 Rc:=by kernel_rfl
def YE:@J3=wb 175 Rg:=by kernel_rfl
def e9:@f9=wb 9 an9:=by kernel_rfl
def e17:@f17=wb 17 Wi:=by kernel_rfl
def e45:@f45=wb 45 WI:=by kernel_rfl
def e50:@f50=wb 50 WN:=by kernel_rfl
def e57:@YZ=wb 57 WU:=by kernel_rfl
def e73:@f73=wb 73 Xa:=by kernel_rfl
def e80:@Y8=wb 80 Xh:=by kernel_rfl
def e85:@Zd=wb 85 Xm:=by kernel_rfl
def e87:@Zf=wb 87 Xo:=by kernel_rfl
def e92:@Zh=wb 92 Xt:=by kernel_rfl
def Yb:@JQ=wb 104 QC:=by kernel_rfl
def Yp:@OB=wb 128 QT:=by kernel_rfl
def e130:@YL=wb 130 QV:=by kernel_rfl
def Ys:@JY=wb 132 QX:=by kernel_rfl
def e135:@YN=wb 135 Q0:=by kernel_rfl
def Yz:@OH=wb 160 Q8:=by kernel_rfl
def e170:@YQ=wb 170 Rb:=by kernel_rfl
def YD:@OJ=wb 174 Rf:=by kernel_rfl
def e29:@f29=wb 29 Wt:=by kernel_rfl
def e31:@f31=wb 31 Wv:=by kernel_rfl
def e42:@f42=wb 42 WF:=by kernel_rfl
def e48:@f48=wb 48 WL:=by kernel_rfl
def e64:@Y3=wb 64 W1:=by kernel_rfl
def e65:@Y4=wb 65 W2:=by kernel_rfl
def e68:@f68=wb 68 W5:=by kernel_rfl
def e77:@f77=wb 77 Xe:=by kernel_rfl
def e82:@Za=wb 82 Xj:=by kernel_rfl
def X8:@Ou=wb 100 Qy:=by kernel_rfl
def Yc:@Ov=wb 106 QE:=by kernel_rfl
def Yf:@Oy=wb 118 QJ:=by kernel_rfl
def Yg:@JR=wb 119 QK:=by kernel_rfl
def Yi:@JT=wb 121 QM:=by kernel_rfl
def Yw:@OD=wb 138 Q5:=by kernel_rfl
def e166:@YP=wb 166 Q9:=by kernel_rfl
def YB:@J1=wb 172 Rd:=by kernel_rfl
def e6:@f6=wb 6 an6:=by kernel_rfl
def e10:@f10=wb 10 Wc:=by kernel_rfl
def e16:@YO=wb 16 Wh:=by kernel_rfl
def e20:@f20=wb 20 Wk:=by kernel_rfl
def e21:@f21=wb 21 Wl:=by kernel_rfl
def e23:@f23=wb 23 Wn:=by kernel_rfl
def e49:@f49=wb 49 WM:=by kernel_rfl
def e58:@Y0=wb 58 WV:=by kernel_rfl
def e61:@Y1=wb 61 WY:=by kernel_rfl
def e62:@Y2=wb 62 WZ:=by kernel_rfl
def e71:@f71=wb 71 W8:=by kernel_rfl
def e83:@Zb=wb 83 Xk:=by kernel_rfl
def e84:@Zc=wb 84 Xl:=by kernel_rfl
def e86:@Ze=wb 86 Xn:=by kernel_rfl
def e89:@f89=wb 89 Xq:=by kernel_rfl
def e91:@f91=wb 91 Xs:=by kernel_rfl
def e99:@f99=wb 99 Xz:=by kernel_rfl
def e103:@YI=wb 103 QB:=by kernel_rfl
def e105:@YJ=wb 105 QD:=by kernel_rfl
def Ye:@Ox=wb 117 QI:=by kernel_rfl
def Yh:@Oz=wb 120 QL:=by kernel_rfl
def Ym:@Hr=wb 125 QQ:=by kernel_rfl
def Yt:@Hs=wb 133 QY:=by kernel_rfl
def Yy:@OG=wb 152 Q7:=by kernel_rfl
def YC:@J2=wb 173 Re:=by kernel_rfl
end Go.Am
namespace Go.Am
namespace Sx
def IR(P:TD)(a:TJ->DataW Unit->Option (Tk)):List (Nat×TypeId)->List (DataW Unit)->Nat->Option (Tk)
 | [],[],_=>some []
 |(o,t) :: l,d :: ds,off=>match Nat.beq o off,a t d with
  |true,some v=>match Nat.beq v.length (P.cellsOf t),IR P a l ds (off+v.length)with
   |true,some vs=>some (v++vs)
   |_,_=>none
  |_,_=>none
 |_,_,_=>none
def V3(P:TD):Nat->TJ->DataW Unit->Option (Tk)
 |0,_,_=>none
 |a+1,t,d=>match P.underlying t,d with
  |some .bool,.lit (.bool b)=>some [.bool b]
  |some (.int k),.lit (.int _ n)=>some [.int k n]
  |some (.struct c),.agg ds=>match IR P (V3 P a) (c.toList.map λf=>(f.offset,f.type)) ds 0 with
   |some vs=>if vs.length=P.cellsOf t then some vs else none
   |none=>none
  |some (.array n e),.agg ds=>match IR P (V3 P a) ((List.range n).map λi=>(i*P.cellsOf e,e)) ds 0 with
   |some vs=>if vs.length=P.cellsOf t then some vs else none
   |none=>none
  |_,_=>none
section
variable {P:TD} {w:World} {base:Nat} {spare:Tt} {held:Bool} {enc:TypeId×Value->Unit}
def E0{h:TJ->DataW Unit->Option (Tk)}{fuel:Nat}(c:∀t d vs,h t d=some vs->∀cs p,DataW.trod enc P w base spare held fuel t cs=some (d,p)->cs=vs){α:Type}(o:α->Nat)(ty:α->TJ)(cs:Tk) :
  ∀(l:List α) (xs:List (DataW Unit×List MemPlace)) (off:Nat) (vs:Tk),l.mapM (λa=>DataW.trod enc P w base spare held fuel (ty a) ((cs.drop (o a)).take (P.cellsOf (ty a))))=some xs->
   IR P h (l.map λa=>(o a,ty a)) (xs.map (·.1)) off=some vs->(cs.drop off).take vs.length=vs
 | [],xs,off,vs,h1,b=>by
  simp only[qdP,qdy,B7]at h1;subst h1;simp only[Dk,IR,B7]at b;subst b;simp
 |a :: l,xs,off,vs,h1,b=>by
  rw[LU]at h1;obtain⟨x,j,h1⟩:=qaA.1 h1;obtain⟨n,k,h1⟩:=qaA.1 h1;cases h1;simp only[A5,IR]at b;split at b
  next v e i=>
   split at b
   next q f e4=>
    cases b;have e:=AW e;have f:=AW f;have g:=c _ _ _ i _ _ j;have m:=E0 c o ty cs l n _ _ k e4;rw[e,←f]at g;rw[Bv,qdQ,g,LS];rw[m]
   ·cases b
  ·cases b
def MR:∀(l:Nat) (t:TJ) (d:DataW Unit) (vs:Tk),V3 P l t d=some vs->∀(fuel:Nat) (cs:Tk) (p:List MemPlace),DataW.trod enc P w base spare held fuel t cs=some (d,p)->cs=vs
 |0,_,_,_,h=>by cases h
 |l+1,t,d,vs,h=>by
  intro fuel cs p a;cases fuel with
  |zero=>simp[DataW.trod]at a
  |succ fuel=>
   have j:∀t d vs,V3 P l t d=some vs->∀cs p,DataW.trod enc P w base spare held fuel t cs=some (d,p)->cs=vs:=λt d vs h cs p=>MR l t d vs h fuel cs p;simp only[V3]at h;split at h
   next b e=>
    cases h;simp only[DataW.trod,e]at a;split at a<;>simp_all
   next k y n e=>
    cases h;simp only[DataW.trod,e]at a;split at a<;>first|cases a|skip
    all_goals first
     |(split at a<;>first|(rename_i u;simp at a;obtain⟨⟨rfl,rfl⟩,_⟩:=a;rw[u.1];done)|(cases a;done))
     |simp_all
   next x r e=>
    split at h
    next v c=>
     split at h
     next s=>
      cases h;simp only[DataW.trod,e]at a;split at a
      next e4=>
       obtain⟨o,m,g⟩:=qag.1 a;simp only[PZ,DataW.agg.injEq]at g;rw[←g.1]at c;have:=E0 j (λf:Field=>f.offset) (λf:Field=>f.type) cs _ o 0 _ m c;rw[Gl,CJ (by omega)]at this;exact this
      ·cases a
     ·cases h
    ·cases h
   next n q r e=>
    split at h
    next v c=>
     split at h
     next s=>
      cases h;simp only[DataW.trod,e]at a;split at a
      next e4=>
       obtain⟨o,m,g⟩:=qag.1 a;simp only[PZ,DataW.agg.injEq]at g;rw[←g.1]at c;have:=E0 j (λi=>i*P.cellsOf q) (λ_=>q) cs _ o 0 _ m c;rw[Gl,CJ (by omega)]at this;exact this
      ·cases a
     ·cases h
    ·cases h
   ·cases h
end
section
variable [Val]
def um [Glo]{W:World}{g:Nat}{vs:Tk}(h0:Nat.blt g gB=true)(h1:vs.all bg=true)(f:vs.all flat=true)(h:∃c e fr,W.heap[g]?=some (.cells c e fr)/\c.toList=vs) :
  BV g<W.heap.size/\vs.all bg=true/\∃c e fr,W.heap[BV g]?=some (.cells c e fr)/\cz (λ_=>none) vs c (CF g):=by
 obtain⟨c,e,fr,a,j⟩:=h;rw[FD h0,FE h0];refine⟨(qaQ.1 a).1,h1,c,e,fr,a,.of_list ?_⟩;rw[j];exact⟨rfl,λi x y b d=>by rw[b]at d;cases d;exact .of_flat (qac.1 f x (Ap b))⟩
end
end Sx
namespace Sx
open Go.ChangeShapes Go.WideShapes Go.ChangeAt Go.WideMaps Go.WideElems Go.RowKit
def OX{W c:World}(h1:c.os=W.os)(e:c.output=W.output)(f:∀b,b<W.heap.size->c.heap[b]?=W.heap[b]?)(a:MemPlace->Prop):W.keptBut c a:=by
 refine⟨h1,e,λi d=>?_⟩;rw[f i d];exact(World.keptBut_refl W a).2.2 i d
def qt{P:TD}{w:World}{a:List (String×DataW Unit)}{s:List MemPlace}(h:DataW.LaidVars P w a s):∀n d,(n,d)∈a->∀g t f vs,P.globalNamed n=some g->(P.globals[g]?).map (·.type)=some t->V3 P f t d=some vs->
  ∃c e fr,w.heap[g]?=some (.cells c e fr)/\c.toList=vs:=by
 induction a generalizing s with
 |nil=>intro n d h;cases h
 |cons x l A=>
  obtain⟨F,D⟩:=x;obtain⟨E,G,C,r,p,q,m,u,b,v,y,B⟩:=h;intro n d k g t f vs i j o;rcases qas.1 k with e|k
  ·cases e;rw[m]at i;cases i;rw[u]at j;cases j;have z:=MR f _ _ vs o _ _ _ v;unfold World.var? at b;rw[m]at b;simp only[A7]at b;split at b
   next c H fr e=>
    cases b;exact⟨_,_,_,e,z⟩
   ·cases b
  ·exact A y n d k g t f vs i j o
section
variable [Val] [Kno]
end
end Sx
namespace Sx
section
variable [Val] [Kno]
def Rk(b:Bool)(x y:Prop):Prop:=(b=true->x)/\(b=false->y)
abbrev _root_.Ts:=Int->Prop
def Nq(op:BinOp)(k:TF)(a b:Int)(K:Ts):Prop:=
 match op with
 | .add=>K (k.wrap (a+b))
 | .sub=>K (k.wrap (a - b))
 | .mul=>K (k.wrap (a*b))
 | .quo=>b≠0/\K (k.wrap (a.tdiv b))
 | .rem=>b≠0/\K (a.tmod b)
 | .and=>(b=1/\K (a%2))∨(b≠1/\∃n,rf .and k a b n/\K n)
 |op=>∃n,rf op k a b n/\K n
abbrev _root_.Tm:=Bool->Prop
def NW(c:BinOp)(a b:Int)(K:Tm):Prop:=
 match c with
 | .eql=>K (a==b)
 | .neq=>K (a != b)
 | .lss=>K (decide (a<b))
 | .leq=>K (decide (a<=b))
 | .gtr=>K (decide (a > b))
 | .geq=>K (decide (a ≥ b))
 |_=>False
def optP{α:Type}(o:Option α)(K:α->Prop):Prop:=∃x,o=some x/\K x
def unIP(ls:TB)(K:Int->TB->Prop):Prop:=match ls with | .i n :: r=>K n r|_=>False
def unBP(ls:TB)(K:Bool->TB->Prop):Prop:=match ls with | .b n :: r=>K n r|_=>False
def unVP(ls:TB)(K:Value->TB->Prop):Prop:=match ls with | .v n :: r=>K n r|_=>False
def un0P(ls:TB)(K:Prop):Prop:=match ls with | []=>K|_=>False
def ucIP(k:TF)(ls:Tk)(K:Int->Tk->Prop):Prop:=match ls with | .int k' n :: r=>k=k'/\K n r|_=>False
def ucBP(ls:Tk)(K:Bool->Tk->Prop):Prop:=match ls with | .bool n :: r=>K n r|_=>False
def ucVP(ls:Tk)(K:Value->Tk->Prop):Prop:=match ls with|n :: r=>K n r|_=>False
def uc0P(ls:Tk)(K:Prop):Prop:=match ls with | []=>K|_=>False
def Zn(h:Tp):cO:=λi=>h[i]?
abbrev _root_.Te:=List Value->Prop
def peekP(f:Pk)(h:Tp)(K:Te):Prop:=∃cs,f.run (Zn h)=some cs/\K cs
def ZH(f:Hp)(h:Tp)(K:Tk->Tp->Prop):Prop:=∃a cs,f.run (Zn h) h.length=some (a,cs)/\K cs (gE h a)
def XU(C:Cfg)(Sg:Tc)(g:TK)(ls:TB)(h:Tp)(K:TB->Tp->Prop):Prop:=∃a h',aD C Sg g ls h a h'/\K a h'
def SN(C:Cfg)(v:Value)(args:Tk)(b:TH)(h:Tp)(K:TB->Tp->Prop):Prop:=∃a h',tB C v args b h a h'/\K a h'
def itP(F:(TB->Tp->Prop)->TB->Tp->Prop)(n:Nat):TB->Tp->Prop:=
 match n with
 |0=>λ_ _=>False
 |n+1=>F (itP F n)
def loopP(F:(TB->Tp->Prop)->TB->Tp->Prop)(ls:TB)(h:Tp):Prop:=∃n,itP F n ls h
def PA(C:Cfg)(Sg:Tc)(T:Tq):Alg Prop (Tp) where
 fail:=False
 cond:=Rk
 ari:=Nq
 shf:=λd k a c b K=>∃n,Fe d k a c b n/\K n
 cmp:=NW
 eqs:=λl K=>K (cp l)
 conv:=λk a K=>K (k.wrap a)
 sel:=λt a b K=>K (if t then a else b)
 opt:=optP
 chk:=λv K=>aC v=true/\K
 unI:=unIP
 unB:=unBP
 unV:=unVP
 un0:=un0P
 ucI:=ucIP
 ucB:=ucBP
 ucV:=ucVP
 uc0:=uc0P
 peek:=peekP
 heap:=ZH
 new:=λo h K=>K h.length (h++[o])
 call:=XU C Sg
 callv:=SN C
 join:=λb m=>m b
 loop:=loopP
def gI(C:Cfg)(Sg:Tc)(T:Tq):AlgOk (PA C Sg T) C Sg T id id where
 fail:=λh=>h
 cond:=by
  intro b x y h;cases b
  ·exact .inr ⟨rfl,h.2 rfl⟩
  ·exact .inl ⟨rfl,h.1 rfl⟩
 ari:=by
  intro e k a b K h;have h:Nq e k a b K:=h;cases e<;>simp only[Nq]at h
  ·exact⟨_,λP t w=>by simp[binOp,Op.intArith],h⟩
  ·exact⟨_,λP t w=>by simp[binOp,Op.intArith],h⟩
  ·exact⟨_,λP t w=>by simp[binOp,Op.intArith],h⟩
  ·obtain⟨s,h⟩:=h;exact⟨_,λP t w=>by simp[binOp,Op.intDiv,s],h⟩
  ·obtain⟨s,h⟩:=h;exact⟨_,λP t w=>by simp[binOp,Op.intDiv,s],h⟩
  ·rcases h with⟨rfl,B⟩|⟨_,n,p,q⟩
   ·exact⟨_,pr rfl,B⟩
   ·exact⟨n,p,q⟩
  all_goals exact h
 shf:=λe k a z b K h=>h
 cmp:=by
  intro e a b K h;have h:NW e a b K:=h;cases e<;>simp only[NW]at h<;>exact⟨_,rfl,h⟩
 eqs:=λl K h=>h
 conv:=λk a K h=>h
 sel:=λt a b K h=>h
 opt:=λo K h=>h
 chk:=λv K h=>h
 unI:=by
  intro c K h
  match c,h with
  | .i n :: r,h=>exact⟨n,r,rfl,h⟩
 unB:=by
  intro c K h
  match c,h with
  | .b n :: r,h=>exact⟨n,r,rfl,h⟩
 unV:=by
  intro c K h
  match c,h with
  | .v n :: r,h=>exact⟨n,r,rfl,h⟩
 un0:=by
  intro c K h
  match c,h with
  | [],h=>exact⟨rfl,h⟩
 ucI:=by
  intro k c K h
  match c,h with
  | .int z n :: r,h=>
   obtain⟨rfl,h⟩ : k=z/\K n r:=h;exact⟨n,r,rfl,h⟩
 ucB:=by
  intro c K h
  match c,h with
  | .bool n :: r,h=>exact⟨n,r,rfl,h⟩
 ucV:=by
  intro c K h
  match c,h with
  |n :: r,h=>exact⟨n,r,rfl,h⟩
 uc0:=by
  intro c K h
  match c,h with
  | [],h=>exact⟨rfl,h⟩
 peek:=λf h K d=>d
 heap:=by
  intro f h K d;obtain⟨j,A,p,q⟩:=d;exact⟨j,A,_,p,rfl,q⟩
 new:=λo h K d=>⟨_,rfl,d⟩
 call:=λg c h K d=>d
 callv:=λv u D h K d=>d
 join:=λb m h=>h
 loop:=by
  intro F c h d;obtain⟨n,d⟩:=d;exact⟨itP F,λc h=>(id:False->False),λn c h=>rfl,n,d⟩
def SL.plain_scalar{l:SL}{k:LK}(h:l.is k=true)(a:k.plain=true):scalar l.val=true:=by
 cases l<;>cases k<;>first|(cases a;done)|(cases h;done)|rfl
def lT:∀ {cs:List SL} {ks:TE},aZ cs ks=true->ks.all LK.plain=true->(cs.map SL.val).all scalar=true
 | [],[],_,_=>rfl
 |c :: cs,k :: ks,h,a=>by
  simp only[aZ,wa]at h;simp only[PY,wa]at a;simp only[A5,PY,wa];exact⟨SL.plain_scalar h.1 a.1,lT h.2 a.2⟩
 | [],_ :: _,h,_=>by cases h
 |_ :: _,[],h,_=>by cases h
def S0.plain_flat1{x:S0}{k:SK}(h:x.is k=true)(a:k.plain=true):fL x.val=true:=by
 cases x with
 |leaf l=>
  cases k with
  |leaf k=>
   have:=SL.plain_scalar h a;show fL l.val=true;cases b:l.val<;>rw[b]at this<;>first|exact this|cases this
  |agg _=>cases h
 |agg c=>
  cases k with
  |leaf k=>cases h
  |agg d=>exact lT h a
def jN{v:Value}(h:fL v=true):flat v=true:=by
 cases v<;>first|exact h|cases h
def ji:∀ {xs:List S0} {sks:TH},cZ xs sks=true->sks.all SK.plain=true->(av xs).all fL=true
 | [],[],_,_=>rfl
 |x :: xs,k :: ks,h,a=>by
  simp only[cZ,wa]at h;simp only[PY,wa]at a;simp only[av,A5,PY,wa];exact⟨S0.plain_flat1 h.1 a.1,ji h.2 a.2⟩
 | [],_ :: _,h,_=>by cases h
 |_ :: _,[],h,_=>by cases h
def yL{xs:List S0}{sks:TH}(h:cZ xs sks=true)(a:sks.all SK.plain=true):(av xs).all flat=true:=by
 have:=ji h a;rw[qac]at this ⊢;exact λv b=>jN (this v b)
def zA{vs:Tk}(h:vs.all fL=true):flat (gq vs)=true:=by
 match vs,h with
 | [],_=>rfl
 | [v],h=>
  simp only[PY,List.all_nil,qd6]at h;exact jN h
 |a :: b :: l,h=>
  show flat (.tuple (a :: b :: l).toArray)=true;simp only[flat,wa];exact⟨by simp,h⟩
end
@[reducible] def KnoC (C:Cfg) (N:Tb) [Val]:Kno:=⟨λf args r=>∀H,dP C f args H r H,λf args H r H'=>(N f=none∨(N f=some (2*args.length+1)/\H'=H))/\dP C f args H r H'⟩
section
variable [Val]
def Ct(C:Cfg)(N:Tb)(Sg:Tc)(g:TK)(ls a:TB):Prop:=let _:Kno:=KnoC C N;∀H,aD C Sg g ls H a H
def vg{C:Cfg}{N:Tb}(a:C.P.follows .mixedOrders=true){f:TK}{args:Tk}{H:Tp}{r:Value}{H':Tp}(h:let _:Kno:=KnoC C N;pV C f args H r H'):dP C f args H r H':=
 @MP _ _ (KnoC C N) a (λ_ _ _ h=>h) (λ_ _ _ _ _ h=>h.2) _ _ _ _ _ h
def Rn{C:Cfg}{N:Tb}{Sg:Tc}(i:C.P.follows .mixedOrders=true)(e:∀g vs,C.G g=some vs->vs.all MZ=true){g:TK}{sg:Sig}(c:Sg g=some sg)(a:sg.plain=true){ls d:TB}{H':Tp}
  (h:let _:Kno:=KnoC C N;aD C Sg g ls [] d H'):Ct C N Sg g ls d:=by
 let _:Kno:=KnoC C N
 obtain⟨k,l,m,b,c2,c3,c4⟩:=h;rw[c]at b;cases b;simp only[Sig.plain,wa]at a;have f:=yL c2.1 a.1;have j:=zA (ji c3.1 a.2);intro H;exact⟨sg,l,m,c,c2,c3,⟨0,.inl ⟨λH=>Kh e (vg i c4) f j H,rfl⟩⟩⟩
end
section
variable [Val] [Kno]
def dc{n:Int}(h1:-9223372036854775808<=n)(a:n<=9223372036854775807):IntKind.wrap .i64 n=n:=by
 simp only[IntKind.wrap,IntKind.bits,IntKind.signed,qds,ge_iff_le,BQ];split<;>omega
def tv{n:Int}(h1:0<=n)(a:n<=255):IntKind.wrap .u8 n=n:=by
 simp only[IntKind.wrap,IntKind.bits,IntKind.signed,qd3,Bq,if_false];omega
end
end Sx
namespace Sx
section
variable [Val]
end
end Sx
end Go.Am
namespace Go.Am
open Sx
abbrev FB:=List Lf->HTr->(TB->HTr->RT)->RT
def nf:FB:=λ_ _ _=>none
def DA(a:TB)(_:HTr):RT:=sL a λa=>some a
def Pc(g:FB):FB:=λa h K=>sL a λa=>@Option.rec _ (λ_=>RT) none (λb=>K b h) (g a .empty DA)
def fB{R:Type}(b:Bool)(k:Bool->R):R:=Bool.rec (k false) (k true) b
def Zk(v:Value):Bool:=match v with
 | .int _ _=>true
 | .bool _=>true
 |_=>false
def allR(c:Tr Value)(n:Nat):Bool:=@Nat.rec (λ_=>Bool) true (λi a=>@Bool.rec (λ_=>Bool) false a (Zk ((bQ i).get CH c))) n
def ext(h:HTr)(d:RT)(ls:TB):HTr->(TB->HTr->RT)->RT:=
 @List.rec Lf (λ_=>HTr->(TB->HTr->RT)->RT) (λf k=>k [] f) (λx _ m f k=>match x with
  | .i n=>fI n λn=>m f λl g=>k (.i n :: l) g
  | .b t=>fB t λt=>m f λl g=>k (.b t :: l) g
  | .v v=>match v with
   | .slice (some a) j p=>match h.at a.block with
    |some (.t n e _ c)=>match MM a.spot e,allR c n with
     |true,true=>mJ f (.t n e false c) λg=>fN a.off λo=>fN j λj=>fN p λp=>m g λl q=>k (.v (.slice (some ⟨f.n,o,qs e⟩) j p) :: l) q
     |_,_=>d
    |_=>d
   |v=>match flat v with
    |true=>m f λl g=>k (.v v :: l) g
    |false=>d) ls
def fx{K b:TB->HTr->RT}(h:∀a h,K a h=b a h):K=b:=funext λa=>funext λx=>h a x
abbrev cB(x y:RT)(b:Bool):RT:=@Bool.rec (λ_=>RT) x y b
def c2{A B Z:Sort _}{f g:A->B->Z}(h:f=g)(a:A)(b:B):f a b=g a b:=by rw[h]
def c3{A B C Z:Sort _}{f g:A->B->C->Z}(h:f=g)(a:A)(b:B)(c:C):f a b c=g a b c:=by rw[h]
def c4{A B C D Z:Sort _}{f g:A->B->C->D->Z}(h:f=g)(a:A)(b:B)(c:C)(d:D):f a b c d=g a b c d:=by rw[h]
def c5{A B C D E Z:Sort _}{f g:A->B->C->D->E->Z}(h:f=g)(a:A)(b:B)(c:C)(d:D)(x4:E):f a b c d x4=g a b c d x4:=by rw[h]
def c6{A B C D E F Z:Sort _}{f g:A->B->C->D->E->F->Z}(h:f=g)(a:A)(b:B)(c:C)(d:D)(x4:E)(e:F):f a b c d x4 e=g a b c d x4 e:=by rw[h]
def c7{A B C D E F G Z:Sort _}{f g:A->B->C->D->E->F->G->Z}(h:f=g)(a:A)(b:B)(c:C)(d:D)(x4:E)(e:F)(x6:G):f a b c d x4 e x6=g a b c d x4 e x6:=by rw[h]
def c8{A B C D E F G H Z:Sort _}{f g:A->B->C->D->E->F->G->H->Z}(h:f=g)(a:A)(b:B)(c:C)(d:D)(x4:E)(e:F)(x6:G)(x7:H):f a b c d x4 e x6 x7=g a b c d x4 e x6 x7:=by rw[h]
def c9{A B C D E F G H I Z:Sort _}{f g:A->B->C->D->E->F->G->H->I->Z}(h:f=g)(a:A)(b:B)(c:C)(d:D)(x4:E)(e:F)(x6:G)(x7:H)(x8:I):f a b c d x4 e x6 x7 x8=g a b c d x4 e x6 x7 x8:=by rw[h]
def c11{A B C D E F G H I J K Z:Sort _}{f g:A->B->C->D->E->F->G->H->I->J->K->Z}(h:f=g)(a:A)(b:B)(c:C)(d:D)(x4:E)(e:F)(x6:G)(x7:H)(x8:I)(x9:J)(x10:K):f a b c d x4 e x6 x7 x8 x9 x10=g a b c d x4 e x6 x7 x8 x9 x10:=by rw[h]
def c16{A B C D E F G H I J K L M N O P Z:Sort _}{f g:A->B->C->D->E->F->G->H->I->J->K->L->M->N->O->P->Z}(h:f=g)(d:A)(e:B)(i:C)(j:D)(x4:E)(k:F)(x6:G)(x7:H)(x8:I)(x9:J)(x10:K)(a:L)(b:M)(c:N)(x14:O)(x15:P):f d e i j x4 k x6 x7 x8 x9 x10 a b c x14 x15=g d e i j x4 k x6 x7 x8 x9 x10 a b c x14 x15:=by rw[h]
abbrev r0(X:RT)(ls:TB):RT:=@List.rec Lf (λ_=>RT) X (λ_ _ _=>none) ls
section
variable {Sg:Tc} {T:Tq} {call:gM}
end
section
variable [Val] [Kno]
def Oh(a:TB):TB->Bool:=@List.rec _ (λ_=>TB->Bool) (λb=>@List.rec _ (λ_=>Bool) true (λ_ _ _=>false) b) (λx _ c b=>@List.rec _ (λ_=>Bool) false (λy m _=>@Bool.rec (λ_=>Bool) false (c m) (EG x y)) b) a
def yX{x y:Lf}(h:EG x y=true):x=y:=by
 cases x<;>cases y<;>first|(cases h;done)|skip
 ·have h:JO _ _=true:=h;rw[vB,beq_iff_eq]at h;rw[h]
 next a b=>cases a<;>cases b<;>first|rfl|cases h
def qg:∀ {a b:TB},Oh a b=true->a=b
 | [],[],_=>rfl
 |x :: a,y :: b,h=>by
  have h:@Bool.rec (λ_=>Bool) false (Oh a b) (EG x y)=true:=h;cases e:EG x y with
  |true=>rw[e]at h;rw[yX e,qg h]
  |false=>rw[e]at h;cases h
 | [],_ :: _,h=>by cases h
 |_ :: _,[],h=>by cases h
abbrev KN1:=Nat×List Lf×List Lf
def IW(C:Cfg)(Sg:Tc)(T:Tq)(k:Nat)(g:FB):Prop:=∀ls h K w,dQ ls->g ls h K=some w->∃a h',aD C Sg k ls (ka T (Br h)) a (ka T (Br h'))/\K a h'=some w
def AllK(C:Cfg)(Sg:Tc)(l:List KN1):Prop:=∀p∈l,∀H,aD C Sg p.1 p.2.1 H p.2.2 H
def AllK.nil{C:Cfg}{Sg:Tc}:AllK C Sg []:=λ_ h=>by cases h
def AllK.cons{C:Cfg}{Sg:Tc}{f:Nat}{ls a:TB}{l:List KN1}(h:∀H,aD C Sg f ls H a H)(b:AllK C Sg l):AllK C Sg ((f,ls,a) :: l):=by
 intro p hp;rcases qas.1 hp with rfl|hp
 ·exact h
 ·exact b p hp
def AllK.app{C:Cfg}{Sg:Tc}{l m:List KN1}(h:AllK C Sg l)(a:AllK C Sg m):AllK C Sg (l++m):=by
 intro p hp;rcases qar.1 hp with hp|hp
 ·exact h p hp
 ·exact a p hp
def GN:DA=λa _=>some a:=by
 funext a h
 exact eV a _
def Pd{C:Cfg}{Sg:Tc}{T:Tq}(d:∀f sg ls a H',Sg f=some sg->sg.plain=true->aD C Sg f ls [] a H'->∀H,aD C Sg f ls H a H)
  {k:Nat} {g:FB} {sg:Sig} (hg:IW C Sg T k g) (m:Sg k=some sg) (l:sg.plain=true):IW C Sg T k (Pc g):=by
 intro ls h K w c b;unfold Pc at b;rw[eV,GN]at b;cases e:g ls .empty (λa _=>some a)with
 |none=>rw[e]at b;cases b
 |some a=>
  rw[e]at b;obtain⟨n,o,i,j⟩:=hg ls .empty _ a c e;cases j;exact⟨a,h,d k sg ls a _ m l i _,b⟩
end
end Go.Am
namespace Go.Am
open Sx Go.Proofs
instance val0 : Val := ⟨λ_ => 0⟩
instance kno0:Kno:=KnoC cc Dd
def Dj:cc.P.follows .mixedOrders=true:=by kernel_rfl
def rW(g:Nat)(vs:Tk)(h:cc.G g=some vs):vs.all MZ=true:=by
 unfold cc at h;simp only at h;split at h<;>first|(cases h;done)|(obtain rfl:=AR h;kernel_rfl)
def ED:DrOk cc N6:=N7 Pp (λ_ _ _ _ _ (h:_/\_)=>h.1)
abbrev Sj(k:Nat)(g:FB):Prop:=IW cc ab aa k g
abbrev Si(c:gM):Prop:=CallBOk cc ab aa c
def yf(f:TK)(sg:Sig)(ls a:TB)(H':Tp)(d:ab f=some sg)(c:sg.plain=true)(b:aD cc ab f ls [] a H'):∀H,aD cc ab f ls H a H:=Rn Dj rW d c b
def Ob{k:Nat}{g:FB}{sg:Sig}(h:Sj k g)(a:ab k=some sg)(b:sg.plain=true):Sj k (Pc g):=Pd yf h a b
def nA:Alg RT HTr->FB:=λ_=>nf
def AV(F:Alg RT HTr->FB):Alg RT HTr->FB:=λA=>Pc (F A)
inductive TrA where
 |leaf
 |node (v:Alg RT HTr->FB) (l r:TrA)
def Dm(p:Pth):TrA->Alg RT HTr->FB:=
 Pth.rec (motive:=λ_=>TrA->Alg RT HTr->FB) (λt=>TrA.casesOn t nA λv _ _=>v) (λ_ a t=>TrA.casesOn t nA λ_ l _=>a l) (λ_ a t=>TrA.casesOn t nA λ_ _ r=>a r) p
def Dz:TrA:=(.node nA (.node nA (.node nA (.node f7 (.node f15 (.node f31 (.node f63 (.node (AV DR) .leaf .leaf) .leaf) (.node f95 .leaf .leaf)) (.node (AV YY) (.node Y7 .leaf .leaf) (.node nA (.node (AV J3) .leaf .leaf) .leaf))) (.node (AV f23) (.node (AV f39) (.node f71 (.node (AV YN) .leaf .leaf) .leaf) (.node (AV YI) .leaf .leaf)) (.node nA (.node (AV Zf) .leaf .leaf) (.node (AV JR) .leaf .leaf)))) (.node nA (.node nA (.node (AV f35) (.node (AV VL) (.node (AV JX) .leaf .leaf) .leaf) (.node f99 .leaf .leaf)) (.node (AV VI) (.node Zb .leaf .leaf) .leaf)) (.node f27 (.node f43 (.node f75 .leaf .leaf) (.node Ow (.node (AV YR) .leaf .leaf) .leaf)) (.node f59 (.node f91 .leaf .leaf) (.node (AV JU) .leaf .leaf))))) (.node nA (.node f9 (.node f17 (.node (AV YU) (.node (AV Y4) (.node OC .leaf .leaf) .leaf) (.node (AV Zi) .leaf .leaf)) (.node f49 (.node Y9 .leaf .leaf) .leaf)) (.node f25 (.node f41 (.node f73 (.node (AV J0) .leaf .leaf) .leaf) (.node (AV YJ) (.node OI .leaf .leaf) .leaf)) (.node (AV YZ) (.node f89 .leaf .leaf) (.node (AV JT) .leaf .leaf)))) (.node (AV f13) (.node f21 (.node f37 (.node f69 (.node (AV Hs) .leaf .leaf) .leaf) (.node (AV Hq) .leaf .leaf)) (.node (AV VJ) (.node (AV Zd) .leaf .leaf) (.node Ox .leaf .leaf))) (.node f29 (.node f45 (.node f77 .leaf .leaf) (.node nA (.node (AV J2) .leaf .leaf) .leaf)) (.node Y1 (.node f93 .leaf .leaf) (.node (AV Hr) .leaf .leaf)))))) (.node nA (.node f4 (.node f8 (.node YO (.node (AV f32) (.node (AV Y3) (.node OB .leaf .leaf) .leaf) (.node nA (.node OH .leaf .leaf) .leaf)) (.node f48 (.node Y8 (.node OE .leaf .leaf) .leaf) .leaf)) (.node f24 (.node nA (.node f72 (.node (AV JZ) .leaf .leaf) .leaf) (.node (AV JQ) .leaf .leaf)) (.node f56 (.node (AV Zg) (.node OG .leaf .leaf) .leaf) (.node Oz .leaf .leaf)))) (.node nA (.node f20 (.node (AV f36) (.node f68 (.node (AV JY) .leaf .leaf) .leaf) (.node Ou .leaf .leaf)) (.node (AV f52) (.node (AV Zc) .leaf .leaf) (.node (AV YK) .leaf .leaf))) (.node (AV YS) (.node f44 (.node (AV Y5) .leaf .leaf) (.node nA (.node (AV J1) .leaf .leaf) .leaf)) (.node (AV f60) (.node (AV Zh) .leaf .leaf) (.node (AV JV) .leaf .leaf))))) (.node f6 (.node f10 (.node (AV VH) (.node (AV YV) (.node f66 (.node (AV YL) .leaf .leaf) .leaf) (.node (AV Zj) .leaf .leaf)) (.node f50 (.node Za .leaf .leaf) .leaf)) (.node f26 (.node f42 (.node f74 (.node OD .leaf .leaf) .leaf) (.node Ov (.node (AV YQ) .leaf .leaf) .leaf)) (.node (AV Y0) (.node f90 .leaf .leaf) (.node OA .leaf .leaf)))) (.node f14 (.node f22 (.node (AV YW) (.node (AV f70) (.node (AV YM) .leaf .leaf) .leaf) (.node (AV JP) (.node (AV YP) .leaf .leaf) .leaf)) (.node nA (.node (AV Ze) .leaf .leaf) (.node Oy .leaf .leaf))) (.node (AV YT) (.node (AV YX) (.node Y6 .leaf .leaf) (.node nA (.node OJ .leaf .leaf) .leaf)) (.node (AV Y2) (.node (AV TW) .leaf .leaf) (.node (AV JW) .leaf .leaf)))))))
def R9(c:gM):gM:=λa=>match a with
 | .f f=>match Nat.blt f 176 with
  |true=>Dm (bQ f) Dz (BA ab aa c)
  |false=>nf
 | .y .. => nf
def Eh(n:Nat):gM:=Nat.rec (motive:=λ_=>gM) (λ_ _ _ _=>none) (λ_ c=>R9 c) n
section
variable {k:Nat} {F:(R HT:Type)->Alg R HT->TB->HT->(TB->HT->R)->R} {fn:Fn1} {c:gM}
def tn(h1:Dm (bQ k) Dz=nA:=by kernel_rfl):Sj k (Dm (bQ k) Dz (BA ab aa c)):=by
 intro d h K w b a;rw[h1]at a;cases a
def oy(g:F=λR HT A ls h K=>ak A (xc k) ab N6 fn ls h K)(i:FnIs (xc k) ab k fn)(j:Si c):Sj k (F RT HTr (BA ab aa c)):=by
 intro ls h K w a b;rw[g]at b;obtain⟨l,f,d,_,e⟩:=rL (V4 (w:=w) j) ED i a b;exact⟨l,f,d,e⟩
def tw(a:F=λR HT A ls h K=>ak A (xc k) ab N6 fn ls h K)(b:FnIs (xc k) ab k fn)(d:Si c)(h1:Dm (bQ k) Dz=F RT HTr:=by kernel_rfl):Sj k (Dm (bQ k) Dz (BA ab aa c)):=by
 rw[h1];exact oy a b d
def tm(a:F=λR HT A ls h K=>ak A (xc k) ab N6 fn ls h K)(b:FnIs (xc k) ab k fn)(f:Si c){sg:Sig}(d:ab k=some sg:=by rfl)(e:sg.plain=true:=by kernel_rfl)(h1:Dm (bQ k) Dz=AV (F RT HTr):=by kernel_rfl):Sj k (Dm (bQ k) Dz (BA ab aa c)):=by
 rw[h1];exact Ob (oy a b f) d e
end
def Qp{c:gM}(a:Si c):∀f,Nat.blt f 176=true->Sj f (Dm (bQ f) Dz (BA ab aa c))
 |0,_=>tn
 |1,_=>tn
 |2,_=>tn
 |3,_=>tn
 |4,_=>tw e4 i4 a
 |5,_=>tn
 |6,_=>tw e6 i6 a
 |7,_=>tw e7 i7 a
 |8,_=>tw e8 i8 a
 |9,_=>tw e9 i9 a
 |10,_=>tw e10 Rv a
 |11,_=>tn
 |12,_=>tn
 |13,_=>tm e13 i13 a
 |14,_=>tw e14 i14 a
 |15,_=>tw e15 i15 a
 |16,_=>tw e16 i16 a
 |17,_=>tw e17 i17 a
 |18,_=>tm e18 i18 a
 |19,_=>tn
 |20,_=>tw e20 i20 a
 |21,_=>tw e21 i21 a
 |22,_=>tw e22 i22 a
 |23,_=>tm e23 i23 a
 |24,_=>tw e24 i24 a
 |25,_=>tw e25 i25 a
 |26,_=>tw e26 i26 a
 |27,_=>tw e27 i27 a
 |28,_=>tm e28 i28 a
 |29,_=>tw e29 i29 a
 |30,_=>tm e30 i30 a
 |31,_=>tw e31 i31 a
 |32,_=>tm e32 i32 a
 |33,_=>tm e33 i33 a
 |34,_=>tm e34 i34 a
 |35,_=>tm e35 i35 a
 |36,_=>tm e36 i36 a
 |37,_=>tw e37 i37 a
 |38,_=>tm e38 i38 a
 |39,_=>tm e39 i39 a
 |40,_=>tn
 |41,_=>tw e41 i41 a
 |42,_=>tw e42 i42 a
 |43,_=>tw e43 i43 a
 |44,_=>tw e44 i44 a
 |45,_=>tw e45 i45 a
 |46,_=>tm e46 i46 a
 |47,_=>tm e47 i47 a
 |48,_=>tw e48 i48 a
 |49,_=>tw e49 i49 a
 |50,_=>tw e50 i50 a
 |51,_=>tm e51 i51 a
 |52,_=>tm e52 i52 a
 |53,_=>tm e53 i53 a
 |54,_=>tn
 |55,_=>tn
 |56,_=>tw e56 i56 a
 |57,_=>tm e57 i57 a
 |58,_=>tm e58 i58 a
 |59,_=>tw e59 i59 a
 |60,_=>tm e60 i60 a
 |61,_=>tw e61 i61 a
 |62,_=>tm e62 i62 a
 |63,_=>tw e63 i63 a
 |64,_=>tm e64 i64 a
 |65,_=>tm e65 i65 a
 |66,_=>tw e66 i66 a
 |67,_=>tm e67 i67 a
 |68,_=>tw e68 i68 a
 |69,_=>tw e69 i69 a
 |70,_=>tm e70 i70 a
 |71,_=>tw e71 i71 a
 |72,_=>tw e72 i72 a
 |73,_=>tw e73 i73 a
 |74,_=>tw e74 i74 a
 |75,_=>tw e75 i75 a
 |76,_=>tm e76 i76 a
 |77,_=>tw e77 i77 a
 |78,_=>tw e78 i78 a
 |79,_=>tw e79 i79 a
 |80,_=>tw e80 i80 a
 |81,_=>tw e81 i81 a
 |82,_=>tw e82 i82 a
 |83,_=>tw e83 i83 a
 |84,_=>tm e84 i84 a
 |85,_=>tm e85 i85 a
 |86,_=>tm e86 i86 a
 |87,_=>tm e87 i87 a
 |88,_=>tm e88 i88 a
 |89,_=>tw e89 i89 a
 |90,_=>tw e90 i90 a
 |91,_=>tw e91 i91 a
 |92,_=>tm e92 i92 a
 |93,_=>tw e93 i93 a
 |94,_=>tm e94 i94 a
 |95,_=>tw e95 i95 a
 |96,_=>tn
 |97,_=>tm e97 i97 a
 |98,_=>tm e98 i98 a
 |99,_=>tw e99 i99 a
 |100,_=>tw X8 ZJ a
 |101,_=>tm X9 ZK a
 |102,_=>tm Ya ZL a
 |103,_=>tm e103 i103 a
 |104,_=>tm Yb ZM a
 |105,_=>tm e105 i105 a
 |106,_=>tw Yc ZN a
 |107,_=>tw Yd ZO a
 |108,_=>tn
 |109,_=>tn
 |110,_=>tn
 |111,_=>tn
 |112,_=>tn
 |113,_=>tn
 |114,_=>tn
 |115,_=>tn
 |116,_=>tm e116 i116 a
 |117,_=>tw Ye ZP a
 |118,_=>tw Yf ZQ a
 |119,_=>tm Yg ZR a
 |120,_=>tw Yh ZS a
 |121,_=>tm Yi ZT a
 |122,_=>tw Yj ZU a
 |123,_=>tm Yk ZV a
 |124,_=>tm Yl ZW a
 |125,_=>tm Ym ZX a
 |126,_=>tm Yn ZY a
 |127,_=>tm Yo ZZ a
 |128,_=>tw Yp Z0 a
 |129,_=>tw Yq Z1 a
 |130,_=>tm e130 i130 a
 |131,_=>tm Yr Z2 a
 |132,_=>tm Ys Z3 a
 |133,_=>tm Yt Z4 a
 |134,_=>tm e134 i134 a
 |135,_=>tm e135 i135 a
 |136,_=>tm Yu Z5 a
 |137,_=>tm Yv Z6 a
 |138,_=>tw Yw Z7 a
 |139,_=>tn
 |140,_=>tn
 |141,_=>tn
 |142,_=>tn
 |143,_=>tn
 |144,_=>tw Yx Z8 a
 |145,_=>tn
 |146,_=>tn
 |147,_=>tn
 |148,_=>tn
 |149,_=>tn
 |150,_=>tn
 |151,_=>tn
 |152,_=>tw Yy Z9 a
 |153,_=>tn
 |154,_=>tn
 |155,_=>tn
 |156,_=>tn
 |157,_=>tn
 |158,_=>tn
 |159,_=>tn
 |160,_=>tw Yz i160 a
 |161,_=>tn
 |162,_=>tn
 |163,_=>tn
 |164,_=>tn
 |165,_=>tn
 |166,_=>tm e166 i166 a
 |167,_=>tn
 |168,_=>tn
 |169,_=>tw YA i169 a
 |170,_=>tm e170 i170 a
 |171,_=>tm e171 i171 a
 |172,_=>tm YB i172 a
 |173,_=>tm YC i173 a
 |174,_=>tw YD i174 a
 |175,_=>tm YE i175 a
 |n+176,h=>by rw[BW]at h;omega
def Mx{c:gM}(g:Si c):Si (R9 c):=by
 refine⟨λf d h K w b a=>?_⟩;have a:(match Nat.blt f 176 with|true=>Dm (bQ f) Dz (BA ab aa c)|false=>nf) d h K=some w:=a;cases e:Nat.blt f 176 with
 |true=>rw[e]at a;exact Qp g f e d h K w b a
 |false=>rw[e]at a;cases a
def wp:∀n,Si (Eh n)
 |0=>⟨λ_ _ _ _ _ _ h=>by(cases h)⟩
 |n+1=>Mx (wp n)
end Go.Am
namespace Go.Am
namespace Sx
section
variable [Val] [Kno]
def peekH(T:Tq)(f:Pk)(h:HL)(K:Te):Prop:=∃cs,f.run (zz T h)=some cs/\K cs
abbrev _root_.Ta:=List Value->HL->Prop
def ZG(T:Tq)(f:Hp)(h:HL)(K:Ta):Prop:=∃a cs,f.run (zz T h) h.length=some (a,cs)/\K cs (bK h a)
abbrev _root_.Td:=List Lf->HL->Prop
def XT(C:Cfg)(Sg:Tc)(T:Tq)(g:TK)(ls:TB)(h:HL)(K:Td):Prop:=∃a h',aD C Sg g ls (ka T h) a (ka T h')/\K a h'
def SM(C:Cfg)(T:Tq)(v:Value)(args:Tk)(b:TH)(h:HL)(K:Td):Prop:=∃a h',tB C v args b (ka T h) a (ka T h')/\K a h'
def M0(F:(TB->HL->Prop)->TB->HL->Prop)(n:Nat):TB->HL->Prop:=
 match n with
 |0=>λ_ _=>False
 |n+1=>F (M0 F n)
def Rz(F:(TB->HL->Prop)->TB->HL->Prop)(ls:TB)(h:HL):Prop:=∃n,M0 F n ls h
def PH(C:Cfg)(Sg:Tc)(T:Tq):Alg Prop HL where
 fail:=False
 cond:=Rk
 ari:=Nq
 shf:=λd k a c b K=>∃n,Fe d k a c b n/\K n
 cmp:=NW
 eqs:=λl K=>K (cp l)
 conv:=λk a K=>K (k.wrap a)
 sel:=λt a b K=>K (if t then a else b)
 opt:=optP
 chk:=λv K=>aC v=true/\K
 unI:=unIP
 unB:=unBP
 unV:=unVP
 un0:=un0P
 ucI:=ucIP
 ucB:=ucBP
 ucV:=ucVP
 uc0:=uc0P
 peek:=peekH T
 heap:=ZG T
 new:=λo h K=>K h.length (h++[.o o])
 call:=XT C Sg T
 callv:=SM C T
 join:=λb m=>m b
 loop:=Rz
def Qu(C:Cfg)(Sg:Tc)(T:Tq):AlgOk (PH C Sg T) C Sg T id (ka T) where
 fail:=(gI C Sg T).fail
 cond:=(gI C Sg T).cond
 ari:=(gI C Sg T).ari
 shf:=(gI C Sg T).shf
 cmp:=(gI C Sg T).cmp
 eqs:=(gI C Sg T).eqs
 conv:=(gI C Sg T).conv
 sel:=(gI C Sg T).sel
 opt:=(gI C Sg T).opt
 chk:=(gI C Sg T).chk
 unI:=(gI C Sg T).unI
 unB:=(gI C Sg T).unB
 unV:=(gI C Sg T).unV
 un0:=(gI C Sg T).un0
 ucI:=(gI C Sg T).ucI
 ucB:=(gI C Sg T).ucB
 ucV:=(gI C Sg T).ucV
 uc0:=(gI C Sg T).uc0
 peek:=by
  intro f h K a;obtain⟨d,e,i⟩:=a;exact⟨d,by rw[←ow];exact e,i⟩
 heap:=by
  intro f h K a;obtain⟨c,d,e,i⟩:=a;exact⟨c,d,_,by rw[←ow,mM];exact e,kO T c h,i⟩
 new:=λo h K a=>⟨_,nE T h _,by rw[mM];exact a⟩
 call:=λg j h K a=>a
 callv:=λv k l h K a=>a
 join:=λb m h=>h
 loop:=by
  intro F j h a;obtain⟨n,a⟩:=a;exact⟨M0 F,λj h=>(id:False->False),λn j h=>rfl,n,a⟩
section
variable {C:Cfg} {Sg:Tc} {T:Tq} {call:gM} (hc:CallBOk C Sg T call)
include hc
theorem s_shf{e:BinOp}{k d:TF}{a b:Int}{K:Int->RT}{c:Ts}(i:∀n,K n=yes->c n)(h:(BA Sg T call).shf e k a d b K=yes):(PH C Sg T).shf e k a d b c:=by
 obtain⟨n,f,g⟩:=Gz (w:=[]) h;exact⟨n,f,i _ g⟩
end
def xr{F:(TB->HL->Prop)->TB->HL->Prop}(Inv:Nat->TB->HL->Prop)
  (step:∀m ls h,Inv m ls h->∀a:TB->HL->Prop,(∀b ls h,b<m->Inv b ls h->a ls h)->F a ls h):∀n m ls h,m<n->Inv m ls h->M0 F n ls h
 |0,_,_,_,d,_=>absurd d (qd2 _)
 |n+1,m,ls,h,d,e=>step m ls h e (M0 F n) λb ls h h' c=>xr Inv step n b ls h (by omega) c
def eU{F:(TB->HL->Prop)->TB->HL->Prop}(Inv:Nat->TB->HL->Prop){m:Nat}{ls:TB}{h:HL}(c:Inv m ls h)
  (step:∀m ls h,Inv m ls h->∀a:TB->HL->Prop,(∀b ls h,b<m->Inv b ls h->a ls h)->F a ls h):Rz F ls h:=
 ⟨m+1,xr Inv step (m+1) m ls h (Nat.lt_succ_self m) c⟩
end
end Sx
namespace Sx
class Bx (α:Sort _) where
 v:α
def hid{α:Sort _} [b:Bx α]:α:=b.v
section
variable [Val] [Kno] {C:Cfg} {Sg:Tc} {T:Tq}
def XO{n:Int}{r:TB}{K:Int->TB->Prop}:(PH C Sg T).unI (.i n :: r) K=K n r:=rfl
def XN{n:Bool}{r:TB}{K:Bool->TB->Prop}:(PH C Sg T).unB (.b n :: r) K=K n r:=rfl
def XP{n:Value}{r:TB}{K:Value->TB->Prop}:(PH C Sg T).unV (.v n :: r) K=K n r:=rfl
def XM{K:Prop}:(PH C Sg T).un0 [] K=K:=rfl
def XK{k:TF}{n:Int}{r:Tk}{K:Int->Tk->Prop}:(PH C Sg T).ucI k (.int k n :: r) K=K n r:=by
 show(k=k/\K n r)=K n r;simp
def XJ{n:Bool}{r:Tk}{K:Bool->Tk->Prop}:(PH C Sg T).ucB (.bool n :: r) K=K n r:=rfl
def XL{n:Value}{r:Tk}{K:Value->Tk->Prop}:(PH C Sg T).ucV (n :: r) K=K n r:=rfl
def XI{K:Prop}:(PH C Sg T).uc0 [] K=K:=rfl
def Jb{X Y:Prop}:(PH C Sg T).cond true X Y=X:=by
 show((true=true->X)/\(true=false->Y))=X;simp
def Ja{X Y:Prop}:(PH C Sg T).cond false X Y=Y:=by
 show((false=true->X)/\(false=false->Y))=Y;simp
def NF{a b:Int}{K:Tm}(h:a<b):(PH C Sg T).cmp .lss a b K=K true:=by
 show K (decide (a<b))=_;rw[BJ h]
def NE{a b:Int}{K:Tm}(h:b<=a):(PH C Sg T).cmp .lss a b K=K false:=by
 show K (decide (a<b))=_;rw[Ch (by omega)]
def ND{a b:Int}{K:Tm}(h:a<=b):(PH C Sg T).cmp .leq a b K=K true:=by
 show K (decide (a<=b))=_;rw[BJ h]
def NC{a b:Int}{K:Tm}(h:b<a):(PH C Sg T).cmp .leq a b K=K false:=by
 show K (decide (a<=b))=_;rw[Ch (by omega)]
def NB{a b:Int}{K:Tm}(h:b<a):(PH C Sg T).cmp .gtr a b K=K true:=by
 show K (decide (a > b))=_;rw[BJ h]
def NA{a b:Int}{K:Tm}(h:a<=b):(PH C Sg T).cmp .gtr a b K=K false:=by
 show K (decide (a > b))=_;rw[Ch (by omega)]
def Nz{a b:Int}{K:Tm}(h:b<=a):(PH C Sg T).cmp .geq a b K=K true:=by
 show K (decide (a ≥ b))=_;rw[BJ h]
def Ny{a b:Int}{K:Tm}(h:a<b):(PH C Sg T).cmp .geq a b K=K false:=by
 show K (decide (a ≥ b))=_;rw[Ch (by omega)]
def Nv{a b:Int}{K:Tm}(h:a=b):(PH C Sg T).cmp .eql a b K=K true:=by
 show K (a==b)=_;rw[beq_iff_eq.2 h]
def Nu{a b:Int}{K:Tm}(h:a≠b):(PH C Sg T).cmp .eql a b K=K false:=by
 show K (a==b)=_;rw[beq_false_of_ne h]
def NK{a b:Int}{K:Tm}(h:a≠b):(PH C Sg T).cmp .neq a b K=K true:=by
 show K (a != b)=_;rw[bne_iff_ne.2 h]
def NJ{a b:Int}{K:Tm}(h:a=b):(PH C Sg T).cmp .neq a b K=K false:=by
 show K (a != b)=_;subst h;simp
def XD{a b:Int}{K:Ts}(h1:-9223372036854775808<=a+b)(c:a+b<=9223372036854775807):(PH C Sg T).ari .add .i64 a b K=K (a+b):=by
 show K (IntKind.wrap .i64 (a+b))=_;rw[dc h1 c]
def XH{a b:Int}{K:Ts}(h1:-9223372036854775808<=a - b)(c:a - b<=9223372036854775807):(PH C Sg T).ari .sub .i64 a b K=K (a - b):=by
 show K (IntKind.wrap .i64 (a - b))=_;rw[dc h1 c]
def XF{a b:Int}{K:Ts}(h1:-9223372036854775808<=a*b)(c:a*b<=9223372036854775807):(PH C Sg T).ari .mul .i64 a b K=K (a*b):=by
 show K (IntKind.wrap .i64 (a*b))=_;rw[dc h1 c]
def SA{a b:Int}{K:Ts}(h1:0<=a+b)(c:a+b<=255):(PH C Sg T).ari .add .u8 a b K=K (a+b):=by
 show K (IntKind.wrap .u8 (a+b))=_;rw[tv h1 c]
def SG{a b:Int}{K:Ts}(h1:0<=a - b)(c:a - b<=255):(PH C Sg T).ari .sub .u8 a b K=K (a - b):=by
 show K (IntKind.wrap .u8 (a - b))=_;rw[tv h1 c]
def SF{a b:Int}{K:Ts}(h1:0<=a*b)(c:a*b<=255):(PH C Sg T).ari .mul .u8 a b K=K (a*b):=by
 show K (IntKind.wrap .u8 (a*b))=_;rw[tv h1 c]
def Qq{a b:Int}(h:0<=a):a.tdiv b=a / b:=Int.tdiv_eq_ediv_of_nonneg h
def Jh{a b:Int}{K:Ts}(h:0<=a)(f:0<b)(c:a<=9223372036854775807):(PH C Sg T).ari .quo .i64 a b K=K (a / b):=by
 show(b≠0/\K (IntKind.wrap .i64 (a.tdiv b)))=_;have d:a / b<=a:=Int.ediv_le_self b h;have e:0<=a / b:=Int.ediv_nonneg h (by omega);rw[Qq h,dc (by omega) (by omega)];simp;intro _ h;omega
def Jg{a b:Int}{K:Ts}(h:a%b=0)(f:0<b)(h1:-9223372036854775808<=a)(e:a<=9223372036854775807):(PH C Sg T).ari .quo .i64 a b K=K (a / b):=by
 show(b≠0/\K (IntKind.wrap .i64 (a.tdiv b)))=_;obtain⟨q,rfl⟩:=Int.dvd_of_emod_eq_zero h;rw[Int.mul_tdiv_cancel_left q (by omega),Int.mul_ediv_cancel_left q (by omega)];have c:-9223372036854775808<=q/\q<=9223372036854775807:=by
  rcases Int.le_total 0 q with d|d
  ·have:=qcB (show(1:Int)<=b by omega) d;omega
  ·have:=qcB (show(1:Int)<=b by omega) (show 0<=-q by omega);rw[Int.mul_neg b q]at this;omega
 rw[dc c.1 c.2];simp;intro _ h;omega
def Ji{k:TF}{a b:Int}{K:Ts}(h:0<=a)(c:0<b):(PH C Sg T).ari .rem k a b K=K (a%b):=by
 show(b≠0/\K (a.tmod b))=_;rw[qdz h];simp;intro _ h;omega
def Jj{k:TF}{a b:Int}{K:Ts}(h:a<=0)(d:0<b):(PH C Sg T).ari .rem k a b K=K (-((-a)%b)):=by
 show(b≠0/\K (a.tmod b))=_;have:a.tmod b = -((-a)%b):=by
  have c:=Int.neg_tmod a b;rw[qdz (a:=-a) (by omega)]at c;omega
 rw[this];simp;intro _ h;omega
def SB{a:Int}{K:Ts}:(PH C Sg T).ari .and .i64 a 1 K=K (a%2):=by
 show(((1:Int)=1/\K (a%2))∨((1:Int)≠1/\∃n,rf .and .i64 a 1 n/\K n))=K (a%2);simp
def SC{a:Int}{K:Ts}(h1:-9223372036854775808<=a)(b:a<=9223372036854775807):(PH C Sg T).conv .i64 a K=K a:=by
 show K (IntKind.wrap .i64 a)=_;rw[dc h1 b]
def Nt{a:Int}{K:Ts}(h1:0<=a)(b:a<=255):(PH C Sg T).conv .u8 a K=K a:=by
 show K (IntKind.wrap .u8 a)=_;rw[tv h1 b]
def NN{a b:Int}{K:Ts}:(PH C Sg T).sel true a b K=K a:=rfl
def NM{a b:Int}{K:Ts}:(PH C Sg T).sel false a b K=K b:=rfl
def Rh{α:Type}{x:α}{K:α->Prop}:(PH C Sg T).opt (some x) K=K x:=by
 show(∃y,some x=some y/\K y)=K x;simp
def XE{n:Nat}{i:Int}{K:Unit->Prop}(h1:0<=i)(a:i<(n:Int)):(PH C Sg T).opt (Cf n i) K=K ():=by
 rw[show Cf n i=some ()from(Kq n i).trans (mc ⟨h1,a⟩),Rh]
def SE{b:Td}{m:(TB->HL->Prop)->Prop}:(PH C Sg T).join b m=m b:=rfl
def SD{K:Tm}:(PH C Sg T).eqs [] K=K true:=rfl
def Nx{a b:Int}{l:List (Lf×Lf)}{K:Tm}(h:a=b):(PH C Sg T).eqs ((.i a,.i b) :: l) K=(PH C Sg T).eqs l K:=by
 show K (cp _)=K (cp l);subst h;simp[cp,gJ]
def Nw{a b:Int}{l:List (Lf×Lf)}{K:Tm}(h:a≠b):(PH C Sg T).eqs ((.i a,.i b) :: l) K=K false:=by
 show K (cp _)=K false;have:(a==b)=false:=beq_false_of_ne h;simp[cp,gJ,this]
def gG{F:(TB->HL->Prop)->TB->HL->Prop}{ls:TB}{h:HL}(n:Nat)(a:M0 F n ls h):(PH C Sg T).loop F ls h:=⟨n,a⟩
def b_it{F:(TB->HL->Prop)->TB->HL->Prop}{n:Nat}{ls:TB}{h:HL}:M0 F (n+1) ls h=F (M0 F n) ls h:=rfl
def ah{g:TK}{ls a:TB}{h:HL}{K:Td}(b:∀H,aD C Sg g ls H a H)(c:K a h):(PH C Sg T).call g ls h (@hid _ ⟨K⟩):=⟨a,h,b _,c⟩
def Jc{a b:Bool}{l:List (Lf×Lf)}{K:Tm}(h:a=b):(PH C Sg T).eqs ((.b a,.b b) :: l) K=(PH C Sg T).eqs l K:=by
 show K (cp _)=K (cp l);subst h;simp[cp,gJ]
def GX{l:List (Lf×Lf)}{K:Tm}:(PH C Sg T).eqs ((.b true,.b false) :: l) K=K false:=rfl
def GW{l:List (Lf×Lf)}{K:Tm}:(PH C Sg T).eqs ((.b false,.b true) :: l) K=K false:=rfl
def NH{b:Int}{K:Ts}(h1:-9223372036854775808<=b)(a:b<=9223372036854775807):(PH C Sg T).ari .mul .i64 1 b K=K b:=by
 show K (IntKind.wrap .i64 (1*b))=_;rw[Int.one_mul,dc h1 a]
def NG{b:Int}{K:Ts}:(PH C Sg T).ari .mul .i64 0 b K=K 0:=by
 show K (IntKind.wrap .i64 (0*b))=_;rw[Int.zero_mul];rfl
def NI{b:Int}{K:Ts}(h1:-9223372036854775808<=-b)(a:-b<=9223372036854775807):(PH C Sg T).ari .mul .i64 (-1) b K=K (-b):=by
 show K (IntKind.wrap .i64 (-1*b))=_;have:(-1*b:Int) = -b:=by omega
 rw[this,dc h1 a]
def Je{b:Int}{K:Ts}(h1:-9223372036854775808<=b)(a:b<=9223372036854775807):(PH C Sg T).ari .mul .i64 b 1 K=K b:=by
 show K (IntKind.wrap .i64 (b*1))=_;rw[Int.mul_one,dc h1 a]
def Jd{b:Int}{K:Ts}:(PH C Sg T).ari .mul .i64 b 0 K=K 0:=by
 show K (IntKind.wrap .i64 (b*0))=_;rw[Int.mul_zero];rfl
def Jf{b:Int}{K:Ts}(h1:-9223372036854775808<=-b)(a:-b<=9223372036854775807):(PH C Sg T).ari .mul .i64 b (-1) K=K (-b):=by
 show K (IntKind.wrap .i64 (b * -1))=_;have:(b * -1:Int) = -b:=by omega
 rw[this,dc h1 a]
def Ns{b:Int}{K:Ts}(h1:-9223372036854775808<=b)(a:b<=9223372036854775807):(PH C Sg T).ari .add .i64 0 b K=K b:=by
 show K (IntKind.wrap .i64 (0+b))=_;rw[Int.zero_add,dc h1 a]
def I9{b:Int}{K:Ts}(h1:-9223372036854775808<=b)(a:b<=9223372036854775807):(PH C Sg T).ari .add .i64 b 0 K=K b:=by
 show K (IntKind.wrap .i64 (b+0))=_;rw[Int.add_zero,dc h1 a]
def I8{K:Ts}:(PH C Sg T).ari .add .i64 1 1 K=K 2:=by
 show K (IntKind.wrap .i64 (1+1))=_;rfl
def NL{a:Int}{K:Ts}(h1:-9223372036854775808<=a)(b:a<=9223372036854775807):(PH C Sg T).ari .quo .i64 a 1 K=K a:=by
 show((1:Int)≠0/\K (IntKind.wrap .i64 (a.tdiv 1)))=_;rw[Int.tdiv_one,dc h1 b];simp
def ae{α:Type}{o:Option α}{x:α}{K:α->Prop}(h:o=some x)(a:K x):(PH C Sg T).opt o (@hid _ ⟨K⟩):=⟨x,h,a⟩
theorem RQ{n:Int}{r:TB}{K:Int->TB->Prop}:(PH C Sg T).unI (.i n :: r) (@hid _ ⟨K⟩)=K n r:=XO
theorem RP{n:Bool}{r:TB}{K:Bool->TB->Prop}:(PH C Sg T).unB (.b n :: r) (@hid _ ⟨K⟩)=K n r:=XN
theorem RR{n:Value}{r:TB}{K:Value->TB->Prop}:(PH C Sg T).unV (.v n :: r) (@hid _ ⟨K⟩)=K n r:=XP
theorem RO{K:Prop}:(PH C Sg T).un0 [] (@hid _ ⟨K⟩)=K:=XM
theorem RM{k:TF}{n:Int}{r:Tk}{K:Int->Tk->Prop}:(PH C Sg T).ucI k (.int k n :: r) (@hid _ ⟨K⟩)=K n r:=XK
theorem RL{n:Bool}{r:Tk}{K:Bool->Tk->Prop}:(PH C Sg T).ucB (.bool n :: r) (@hid _ ⟨K⟩)=K n r:=XJ
theorem RN{n:Value}{r:Tk}{K:Value->Tk->Prop}:(PH C Sg T).ucV (n :: r) (@hid _ ⟨K⟩)=K n r:=XL
theorem RK{K:Prop}:(PH C Sg T).uc0 [] (@hid _ ⟨K⟩)=K:=XI
theorem D5{X Y:Prop}:(PH C Sg T).cond true (@hid _ ⟨X⟩) Y=X:=Jb
theorem D4{X Y:Prop}:(PH C Sg T).cond false X (@hid _ ⟨Y⟩)=Y:=Ja
theorem us{a b:Int}{K:Tm}(h:a<b):(PH C Sg T).cmp .lss a b (@hid _ ⟨K⟩)=K true:=NF h
theorem tx{a b:Int}{K:Tm}(h:b<=a):(PH C Sg T).cmp .lss a b (@hid _ ⟨K⟩)=K false:=NE h
theorem PI{a b:Int}{K:Tm}(h:a<=b):(PH C Sg T).cmp .leq a b (@hid _ ⟨K⟩)=K true:=ND h
theorem PG{a b:Int}{K:Tm}(h:b<a):(PH C Sg T).cmp .leq a b (@hid _ ⟨K⟩)=K false:=NC h
theorem Au{a b:Int}{K:Tm}(h:b<a):(PH C Sg T).cmp .gtr a b (@hid _ ⟨K⟩)=K true:=NB h
theorem Ag{a b:Int}{K:Tm}(h:a<=b):(PH C Sg T).cmp .gtr a b (@hid _ ⟨K⟩)=K false:=NA h
theorem BI{a b:Int}{K:Tm}(h:b<=a):(PH C Sg T).cmp .geq a b (@hid _ ⟨K⟩)=K true:=Nz h
theorem Bn{a b:Int}{K:Tm}(h:a<b):(PH C Sg T).cmp .geq a b (@hid _ ⟨K⟩)=K false:=Ny h
theorem Aq{a b:Int}{K:Tm}(h:a=b):(PH C Sg T).cmp .eql a b (@hid _ ⟨K⟩)=K true:=Nv h
theorem Ai{a b:Int}{K:Tm}(h:a≠b):(PH C Sg T).cmp .eql a b (@hid _ ⟨K⟩)=K false:=Nu h
theorem AQ{a b:Int}{K:Tm}(h:a≠b):(PH C Sg T).cmp .neq a b (@hid _ ⟨K⟩)=K true:=NK h
theorem AJ{a b:Int}{K:Tm}(h:a=b):(PH C Sg T).cmp .neq a b (@hid _ ⟨K⟩)=K false:=NJ h
theorem Cr{a b:Int}{K:Ts}(h1:-9223372036854775808<=a+b)(c:a+b<=9223372036854775807):(PH C Sg T).ari .add .i64 a b (@hid _ ⟨K⟩)=K (a+b):=XD h1 c
theorem Lz{a b:Int}{K:Ts}(h1:-9223372036854775808<=a - b)(c:a - b<=9223372036854775807):(PH C Sg T).ari .sub .i64 a b (@hid _ ⟨K⟩)=K (a - b):=XH h1 c
theorem Lu{a b:Int}{K:Ts}(h1:-9223372036854775808<=a*b)(c:a*b<=9223372036854775807):(PH C Sg T).ari .mul .i64 a b (@hid _ ⟨K⟩)=K (a*b):=XF h1 c
theorem Dq{a b:Int}{K:Ts}(h1:0<=a+b)(c:a+b<=255):(PH C Sg T).ari .add .u8 a b (@hid _ ⟨K⟩)=K (a+b):=SA h1 c
theorem U0{a b:Int}{K:Ts}(h1:0<=a - b)(c:a - b<=255):(PH C Sg T).ari .sub .u8 a b (@hid _ ⟨K⟩)=K (a - b):=SG h1 c
theorem UZ{a b:Int}{K:Ts}(h1:0<=a*b)(c:a*b<=255):(PH C Sg T).ari .mul .u8 a b (@hid _ ⟨K⟩)=K (a*b):=SF h1 c
theorem CZ{a b:Int}{K:Ts}(h:0<=a)(d:0<b)(c:a<=9223372036854775807):(PH C Sg T).ari .quo .i64 a b (@hid _ ⟨K⟩)=K (a / b):=Jh h d c
theorem Ly{a b:Int}{K:Ts}(h:a%b=0)(d:0<b)(h1:-9223372036854775808<=a)(c:a<=9223372036854775807):(PH C Sg T).ari .quo .i64 a b (@hid _ ⟨K⟩)=K (a / b):=Jg h d h1 c
theorem Bh{k:TF}{a b:Int}{K:Ts}(h:0<=a)(c:0<b):(PH C Sg T).ari .rem k a b (@hid _ ⟨K⟩)=K (a%b):=Ji h c
theorem C0{k:TF}{a b:Int}{K:Ts}(h:a<=0)(c:0<b):(PH C Sg T).ari .rem k a b (@hid _ ⟨K⟩)=K (-((-a)%b)):=Jj h c
theorem UV{a:Int}{K:Ts}:(PH C Sg T).ari .and .i64 a 1 (@hid _ ⟨K⟩)=K (a%2):=SB
theorem Lr{a:Int}{K:Ts}(h1:-9223372036854775808<=a)(b:a<=9223372036854775807):(PH C Sg T).conv .i64 a (@hid _ ⟨K⟩)=K a:=SC h1 b
theorem Gf{a:Int}{K:Ts}(h1:0<=a)(b:a<=255):(PH C Sg T).conv .u8 a (@hid _ ⟨K⟩)=K a:=Nt h1 b
theorem Gh{a b:Int}{K:Ts}:(PH C Sg T).sel true a b (@hid _ ⟨K⟩)=K a:=NN
theorem Gg{a b:Int}{K:Ts}:(PH C Sg T).sel false a b (@hid _ ⟨K⟩)=K b:=NM
theorem RJ{α:Type}{x:α}{K:α->Prop}:(PH C Sg T).opt (some x) (@hid _ ⟨K⟩)=K x:=Rh
theorem RH{n:Nat}{i:Int}{K:Unit->Prop}(h1:0<=i)(a:i<(n:Int)):(PH C Sg T).opt (Cf n i) (@hid _ ⟨K⟩)=K ():=XE h1 a
theorem UY{b:Td}{m:(TB->HL->Prop)->Prop}:(PH C Sg T).join (@hid _ ⟨b⟩) (@hid _ ⟨m⟩)=m (@hid _ ⟨b⟩):=SE
theorem UW{K:Tm}:(PH C Sg T).eqs [] (@hid _ ⟨K⟩)=K true:=SD
theorem PF{a b:Int}{l:List (Lf×Lf)}{K:Tm}(h:a=b):(PH C Sg T).eqs ((.i a,.i b) :: l) (@hid _ ⟨K⟩)=(PH C Sg T).eqs l (@hid _ ⟨K⟩):=Nx h
theorem PE{a b:Int}{l:List (Lf×Lf)}{K:Tm}(h:a≠b):(PH C Sg T).eqs ((.i a,.i b) :: l) (@hid _ ⟨K⟩)=K false:=Nw h
theorem p_it{F:(TB->HL->Prop)->TB->HL->Prop}{n:Nat}{ls:TB}{h:HL}:M0 (@hid _ ⟨F⟩) (n+1) ls h=F (M0 (@hid _ ⟨F⟩) n) ls h:=b_it
theorem D6{a b:Bool}{l:List (Lf×Lf)}{K:Tm}(h:a=b):(PH C Sg T).eqs ((.b a,.b b) :: l) (@hid _ ⟨K⟩)=(PH C Sg T).eqs l (@hid _ ⟨K⟩):=Jc h
theorem H8{l:List (Lf×Lf)}{K:Tm}:(PH C Sg T).eqs ((.b true,.b false) :: l) (@hid _ ⟨K⟩)=K false:=GX
theorem H7{l:List (Lf×Lf)}{K:Tm}:(PH C Sg T).eqs ((.b false,.b true) :: l) (@hid _ ⟨K⟩)=K false:=GW
theorem PK{b:Int}{K:Ts}(h1:-9223372036854775808<=b)(a:b<=9223372036854775807):(PH C Sg T).ari .mul .i64 1 b (@hid _ ⟨K⟩)=K b:=NH h1 a
theorem PJ{b:Int}{K:Ts}:(PH C Sg T).ari .mul .i64 0 b (@hid _ ⟨K⟩)=K 0:=NG
theorem PL{b:Int}{K:Ts}(h1:-9223372036854775808<=-b)(a:-b<=9223372036854775807):(PH C Sg T).ari .mul .i64 (-1) b (@hid _ ⟨K⟩)=K (-b):=NI h1 a
theorem Lw{b:Int}{K:Ts}(h1:-9223372036854775808<=b)(a:b<=9223372036854775807):(PH C Sg T).ari .mul .i64 b 1 (@hid _ ⟨K⟩)=K b:=Je h1 a
theorem Lv{b:Int}{K:Ts}:(PH C Sg T).ari .mul .i64 b 0 (@hid _ ⟨K⟩)=K 0:=Jd
theorem Lx{b:Int}{K:Ts}(h1:-9223372036854775808<=-b)(a:-b<=9223372036854775807):(PH C Sg T).ari .mul .i64 b (-1) (@hid _ ⟨K⟩)=K (-b):=Jf h1 a
theorem PD{b:Int}{K:Ts}(h1:-9223372036854775808<=b)(a:b<=9223372036854775807):(PH C Sg T).ari .add .i64 0 b (@hid _ ⟨K⟩)=K b:=Ns h1 a
theorem Lp{b:Int}{K:Ts}(h1:-9223372036854775808<=b)(a:b<=9223372036854775807):(PH C Sg T).ari .add .i64 b 0 (@hid _ ⟨K⟩)=K b:=I9 h1 a
theorem Lm{K:Ts}:(PH C Sg T).ari .add .i64 1 1 (@hid _ ⟨K⟩)=K 2:=I8
theorem PM{a:Int}{K:Ts}(h1:-9223372036854775808<=a)(b:a<=9223372036854775807):(PH C Sg T).ari .quo .i64 a 1 (@hid _ ⟨K⟩)=K a:=NL h1 b
theorem Lt{f:Td}{a:TB}{b:HL}:@hid _ ⟨f⟩ a b=f a b:=rfl
theorem CY{a b c d:Int}{K:Tm}(h:¬(a=c/\b=d)):(PH C Sg T).eqs [(.i a,.i c),(.i b,.i d)] (@hid _ ⟨K⟩)=K false:=by
 show K (cp _)=K false;have:cp [(.i a,.i c),(.i b,.i d)]=false:=by
  rw[qcx];simpa[cp,gJ]using h
 rw[this]
theorem Ls{a b c d e f:Int}{K:Tm}(h:¬(a=d/\b=e/\c=f)):(PH C Sg T).eqs [(.i a,.i d),(.i b,.i e),(.i c,.i f)] (@hid _ ⟨K⟩)=K false:=by
 show K (cp _)=K false;have:cp [(.i a,.i d),(.i b,.i e),(.i c,.i f)]=false:=by
  rw[qcx];simpa[cp,gJ]using h
 rw[this]
def ai{g:TK}{ls a:TB}{h h':HL}{K:Td}(b:aD C Sg g ls (ka T h) a (ka T h'))(c:K a h'):(PH C Sg T).call g ls h (@hid _ ⟨K⟩):=⟨a,h',b,c⟩
def mV{g:TK}{sg:Sig}{ls b:TB}{H H':Tp}(d:aD C Sg g ls H b H')(e:Sg g=some sg)(xs:List S0)(h1:cZ xs sg.ps=true)(c:cR xs=ls) :
  tB C (.func (.func g) #[] #[]) (av xs) sg.rs H b H':=by
 obtain⟨f,i,j,a,c2,c3,c4⟩:=d;rw[e]at a;cases a;obtain⟨h,_⟩:=dz c2.1 h1 (c2.2.1.trans c.symm);rw[h]at c4;exact⟨j,c3,.inl ⟨g,#[],#[],rfl,by simpa using c4⟩⟩
def ju{v:Value}{args:Tk}{b:TH}{a:TB}{h h':HL}{K:Td}(c:tB C v args b (ka T h) a (ka T h'))(d:K a h'):(PH C Sg T).callv v args b h (@hid _ ⟨K⟩):=⟨a,h',c,d⟩
theorem RI{o:HObj}{h:HL}{K:Nat->HL->Prop}:(PH C Sg T).new o h (@hid _ ⟨K⟩)=K h.length (h++[.o o]):=rfl
def ac{v:Value}{K:Prop}(h:aC v=true)(a:K):(PH C Sg T).chk v (@hid _ ⟨K⟩):=⟨h,a⟩
def ce{f:Hp}{h:HL}{K:Ta}{a:List Act1}{cs:Tk}(e:f.run (zz T h) h.length=some (a,cs))(b:K cs (bK h a)):(PH C Sg T).heap f h (@hid _ ⟨K⟩):=⟨a,cs,e,b⟩
def fG{f:Pk}{h:HL}{K:Te}{cs:Tk}(e:f.run (zz T h)=some cs)(a:K cs):(PH C Sg T).peek f h (@hid _ ⟨K⟩):=⟨cs,e,a⟩
def pxs(C:Cfg)(Sg:Tc)(T:Tq):=And.intro @Lt (And.intro (@RI _ _ C Sg T) (And.intro (@RQ _ _ C Sg T) (And.intro (@RP _ _ C Sg T) (And.intro (@RR _ _ C Sg T) (And.intro (@RO _ _ C Sg T) (And.intro (@RM _ _ C Sg T) (And.intro (@RL _ _ C Sg T) (And.intro (@RN _ _ C Sg T) (And.intro (@RK _ _ C Sg T) (And.intro (@D5 _ _ C Sg T) (And.intro (@D4 _ _ C Sg T) (And.intro (@RJ _ _ C Sg T) (And.intro (@RH _ _ C Sg T) (And.intro (@UY _ _ C Sg T) (And.intro (@Gh _ _ C Sg T) (And.intro (@Gg _ _ C Sg T) ((@p_it))))))))))))))))))
def pxc(C:Cfg)(Sg:Tc)(T:Tq):=And.intro (@us _ _ C Sg T) (And.intro (@tx _ _ C Sg T) (And.intro (@PI _ _ C Sg T) (And.intro (@PG _ _ C Sg T) (And.intro (@Au _ _ C Sg T) (And.intro (@Ag _ _ C Sg T) (And.intro (@BI _ _ C Sg T) (And.intro (@Bn _ _ C Sg T) (And.intro (@Aq _ _ C Sg T) (And.intro (@Ai _ _ C Sg T) (And.intro (@AQ _ _ C Sg T) (And.intro (@AJ _ _ C Sg T) (And.intro (@UW _ _ C Sg T) (And.intro (@PF _ _ C Sg T) (And.intro (@PE _ _ C Sg T) (And.intro (@CY _ _ C Sg T) (And.intro (@Ls _ _ C Sg T) (And.intro (@D6 _ _ C Sg T) (And.intro (@H8 _ _ C Sg T) ((@H7 _ _ C Sg T))))))))))))))))))))
def pxa(C:Cfg)(Sg:Tc)(T:Tq):=And.intro (@PK _ _ C Sg T) (And.intro (@PJ _ _ C Sg T) (And.intro (@PL _ _ C Sg T) (And.intro (@Lw _ _ C Sg T) (And.intro (@Lv _ _ C Sg T) (And.intro (@Lx _ _ C Sg T) (And.intro (@PD _ _ C Sg T) (And.intro (@Lp _ _ C Sg T) (And.intro (@Lm _ _ C Sg T) (And.intro (@PM _ _ C Sg T) (And.intro (@Cr _ _ C Sg T) (And.intro (@Lz _ _ C Sg T) (And.intro (@Lu _ _ C Sg T) (And.intro (@Dq _ _ C Sg T) (And.intro (@U0 _ _ C Sg T) (And.intro (@UZ _ _ C Sg T) (And.intro (@CZ _ _ C Sg T) (And.intro (@Ly _ _ C Sg T) (And.intro (@Bh _ _ C Sg T) (And.intro (@C0 _ _ C Sg T) (And.intro (@UV _ _ C Sg T) (And.intro (@Lr _ _ C Sg T) ((@Gf _ _ C Sg T)))))))))))))))))))))))
end
end Sx
namespace Sx
section
variable [Val] [Kno]
variable {C:Cfg} {Sg:Tc} {T:Tq}
def tE{h:HL}{l:Nat}{o:HO}:ka T (h.set l o)=(ka T h).set l (Cb T o):=by
 unfold ka;rw[LZ]
end
end Sx
namespace Sx
open Go.Proofs
def hA(A:Alg Prop HL):Alg Prop HL where
 fail:=A.fail
 cond b x y:=A.cond b (@hid _ ⟨x⟩) (@hid _ ⟨y⟩)
 ari o k a b K:=A.ari o k a b (@hid _ ⟨K⟩)
 shf o k a l b K:=A.shf o k a l b (@hid _ ⟨K⟩)
 cmp o a b K:=A.cmp o a b (@hid _ ⟨K⟩)
 eqs l K:=A.eqs l (@hid _ ⟨K⟩)
 conv k a K:=A.conv k a (@hid _ ⟨K⟩)
 sel t a b K:=A.sel t a b (@hid _ ⟨K⟩)
 opt o K:=A.opt o (@hid _ ⟨K⟩)
 chk v x:=A.chk v (@hid _ ⟨x⟩)
 unI l K:=A.unI l (@hid _ ⟨K⟩)
 unB l K:=A.unB l (@hid _ ⟨K⟩)
 unV l K:=A.unV l (@hid _ ⟨K⟩)
 un0 l x:=A.un0 l (@hid _ ⟨x⟩)
 ucI k l K:=A.ucI k l (@hid _ ⟨K⟩)
 ucB l K:=A.ucB l (@hid _ ⟨K⟩)
 ucV l K:=A.ucV l (@hid _ ⟨K⟩)
 uc0 l x:=A.uc0 l (@hid _ ⟨x⟩)
 peek f h K:=A.peek f h (@hid _ ⟨K⟩)
 heap f h K:=A.heap f h (@hid _ ⟨K⟩)
 new o h K:=A.new o h (@hid _ ⟨K⟩)
 call g l h K:=A.call g l h (@hid _ ⟨K⟩)
 callv v a s h K:=A.callv v a s h (@hid _ ⟨K⟩)
 join b m:=A.join (@hid _ ⟨b⟩) (@hid _ ⟨m⟩)
 loop F l h:=A.loop (@hid _ ⟨F⟩) l h
def Rt(A:Alg Prop HL):hA A=A:=rfl
section
variable {A:Alg Prop HL}
theorem T5{b:Bool}{x y:Prop}:(hA A).cond b x y=A.cond b (@hid _ ⟨x⟩) (@hid _ ⟨y⟩):=rfl
theorem Zp{o:BinOp}{k:TF}{a b:Int}{K:Ts}:(hA A).ari o k a b K=A.ari o k a b (@hid _ ⟨K⟩):=rfl
theorem Zw{o:BinOp}{k l:TF}{a b:Int}{K:Ts}:(hA A).shf o k a l b K=A.shf o k a l b (@hid _ ⟨K⟩):=rfl
theorem Zr{o:BinOp}{a b:Int}{K:Tm}:(hA A).cmp o a b K=A.cmp o a b (@hid _ ⟨K⟩):=rfl
theorem Zs{l:List (Lf×Lf)}{K:Tm}:(hA A).eqs l K=A.eqs l (@hid _ ⟨K⟩):=rfl
theorem T6{k:TF}{a:Int}{K:Ts}:(hA A).conv k a K=A.conv k a (@hid _ ⟨K⟩):=rfl
theorem Zv{t:Bool}{a b:Int}{K:Ts}:(hA A).sel t a b K=A.sel t a b (@hid _ ⟨K⟩):=rfl
theorem Zu{α:Type}{o:Option α}{K:α->Prop}:(hA A).opt o K=A.opt o (@hid _ ⟨K⟩):=rfl
theorem Zq{v:Value}{x:Prop}:(hA A).chk v x=A.chk v (@hid _ ⟨x⟩):=rfl
theorem ZD{l:TB}{K:Int->TB->Prop}:(hA A).unI l K=A.unI l (@hid _ ⟨K⟩):=rfl
theorem ZC{l:TB}{K:Bool->TB->Prop}:(hA A).unB l K=A.unB l (@hid _ ⟨K⟩):=rfl
theorem ZE{l:TB}{K:Value->TB->Prop}:(hA A).unV l K=A.unV l (@hid _ ⟨K⟩):=rfl
theorem ZB{l:TB}{x:Prop}:(hA A).un0 l x=A.un0 l (@hid _ ⟨x⟩):=rfl
theorem Zz{k:TF}{l:Tk}{K:Int->Tk->Prop}:(hA A).ucI k l K=A.ucI k l (@hid _ ⟨K⟩):=rfl
theorem Zy{l:Tk}{K:Bool->Tk->Prop}:(hA A).ucB l K=A.ucB l (@hid _ ⟨K⟩):=rfl
theorem ZA{l:Tk}{K:Value->Tk->Prop}:(hA A).ucV l K=A.ucV l (@hid _ ⟨K⟩):=rfl
theorem Zx{l:Tk}{x:Prop}:(hA A).uc0 l x=A.uc0 l (@hid _ ⟨x⟩):=rfl
theorem Ua{f:Pk}{h:HL}{K:Te}:(hA A).peek f h K=A.peek f h (@hid _ ⟨K⟩):=rfl
theorem T7{f:Hp}{h:HL}{K:Ta}:(hA A).heap f h K=A.heap f h (@hid _ ⟨K⟩):=rfl
theorem Zt{o:HObj}{h:HL}{K:Nat->HL->Prop}:(hA A).new o h K=A.new o h (@hid _ ⟨K⟩):=rfl
theorem T4{g:TK}{l:TB}{h:HL}{K:Td}:(hA A).call g l h K=A.call g l h (@hid _ ⟨K⟩):=rfl
theorem OR{v:Value}{a:Tk}{s:TH}{h:HL}{K:Td}:(hA A).callv v a s h K=A.callv v a s h (@hid _ ⟨K⟩):=rfl
theorem T8{b:Td}{m:(TB->HL->Prop)->Prop}:(hA A).join b m=A.join (@hid _ ⟨b⟩) (@hid _ ⟨m⟩):=rfl
theorem T9{F:(TB->HL->Prop)->TB->HL->Prop}{l:TB}{h:HL}:(hA A).loop F l h=A.loop (@hid _ ⟨F⟩) l h:=rfl
end
def pxh(A:Alg Prop HL):=And.intro (@T5 A) (And.intro (@Zp A) (And.intro (@Zw A) (And.intro (@Zr A) (And.intro (@Zs A) (And.intro (@T6 A) (And.intro (@Zv A) (And.intro (@Zu A) (And.intro (@Zq A) (And.intro (@ZD A) (And.intro (@ZC A) (And.intro (@ZE A) (And.intro (@ZB A) (And.intro (@Zz A) (And.intro (@Zy A) (And.intro (@ZA A) (And.intro (@Zx A) (And.intro (@Ua A) (And.intro (@T7 A) (And.intro (@Zt A) (And.intro (@T4 A) (And.intro (@OR A) (And.intro (@T8 A) (@T9 A)))))))))))))))))))))))
end Sx
end Go.Am
namespace Go.Am
open Sx Go.Proofs
def OO(g:Nat)(vs:Tk)(h:cc.G g=some vs):vs.all bg=true:=by
 unfold cc at h;simp only at h;split at h<;>first|(cases h;done)|(obtain rfl:=AR h;kernel_rfl)
abbrev P1:Alg Prop HL:=PH cc ab aa
abbrev Cc(g:TK)(ls a:TB):Prop:=∀H,aD cc ab g ls H a H
def Zl{f:TK}{c:Fn1}(i:FnIs (xc f) ab f c){ls:TB}{H:HL}{K:Td}(b:jO ls=true)
  (h:ak P1 (xc f) ab N6 c ls H K):∃a H',aD cc ab f ls (ka aa H) a (ka aa H')/\K a H':=by
 obtain⟨a,g,d,_,e⟩:=rL (X:=xc f) (holds:=id) (abs:=ka aa) (Qu cc ab aa) ED i (fS b) h;exact⟨a,g,d,e⟩
def TZ{f:TK}{c:Fn1}(i:FnIs (xc f) ab f c){ls:TB}{H:HL}{K:Td}(b:dQ ls)
  (h:ak P1 (xc f) ab N6 c ls H K):∃a H',aD cc ab f ls (ka aa H) a (ka aa H')/\K a H':=by
 obtain⟨a,g,d,_,e⟩:=rL (X:=xc f) (holds:=id) (abs:=ka aa) (Qu cc ab aa) ED i b h;exact⟨a,g,d,e⟩
def ua:dQ []:=λ_ h=>by cases h
def km{n:Int}{ls:TB}(h:dQ ls):dQ (.i n :: ls):=λl hl=>by
 rcases qas.1 hl with rfl|hl
 ·trivial
 ·exact h l hl
def glsB{n:Bool}{ls:TB}(h:dQ ls):dQ (.b n :: ls):=λl hl=>by
 rcases qas.1 hl with rfl|hl
 ·trivial
 ·exact h l hl
def oo{x:Value}{ls:TB}(a:aC x=true)(h:dQ ls):dQ (.v x :: ls):=λl hl=>by
 rcases qas.1 hl with rfl|hl
 ·exact a
 ·exact h l hl
abbrev FP:=List Lf->HL->(TB->HL->Prop)->Prop
abbrev UG(k:TK)(p:FP):Prop:=∀ {ls:TB} {H:HL} {K:Td},jO ls=true->p ls H K->∃a H',aD cc ab k ls (ka aa H) a (ka aa H')/\K a H'
abbrev XG(k:TK)(p:FP):Prop:=∀ {ls:TB} {H:HL} {K:Td},dQ ls->p ls H K->∃a H',aD cc ab k ls (ka aa H) a (ka aa H')/\K a H'
abbrev QG(k:TK)(p:FP):Prop:=∀ {ls b:TB},jO ls=true->p ls [] (λa _=>a=b)->Cc k ls b
def uu{k:TK}{c:Fn1}{f:{R a:Type}->Alg R a->TB->a->(TB->a->R)->R}(d:FnIs (xc k) ab k c)(e:@f=λR a A ls h K=>ak A (xc k) ab N6 c ls h K):UG k (f (hA P1)):=by
 intro ls H K b h;rw[Rt,e]at h;exact Zl d b h
def xx{k:TK}{c:Fn1}{f:{R a:Type}->Alg R a->TB->a->(TB->a->R)->R}(d:FnIs (xc k) ab k c)(e:@f=λR a A ls h K=>ak A (xc k) ab N6 c ls h K):XG k (f (hA P1)):=by
 intro ls H K b h;rw[Rt,e]at h;exact TZ d b h
def qq{k:TK}{sg:Sig}{p:FP}(e:UG k p)(d:ab k=some sg)(c:sg.plain=true):QG k p:=λa h=>by
 obtain⟨_,_,b,rfl⟩:=e a h;exact Rn Dj rW d c b
def qxs:=pxs cc ab aa
def xp:=And.intro (qeq (hA P1)) (pxh P1)
def R5:=pxc cc ab aa
def R4:=pxa cc ab aa
def po:=And.intro qxs (And.intro R5 R4)
def jn{P Q:Prop}(k:Q)(h:P=Q:=by simp(disch:=omega)only[↓po];exact rfl):P:=Eq.mpr h k
def pu{P Q:Prop}(k:Q)(h:P=Q:=by first|(simp(disch:=omega)only[↓po];exact rfl)|exact rfl):P:=Eq.mpr h k
def xK{k:TK}{p:FP}(c:XG k p){ls R:TB}{H H':HL}(hg:dQ ls)(h:p ls H λa h'=>a=R/\h'=H'):aD cc ab k ls (ka aa H) R (ka aa H'):=by
 obtain⟨a,h',b,rfl,rfl⟩:=c hg h;exact b
end Go.Am
namespace Go.Am
namespace Sx
def mW{vs:Tk}{off n:Nat}{cs:Tk}:cut vs off n=some cs↔off+n<=vs.length/\(vs.drop off).take n=cs:=by
 unfold cut;split
 next h=>simp[h]
 next h=>simp[h]
def Fo{vs:Tk}{off n:Nat}{cs:Tk}(h:cut vs off n=some cs):cs.length=n:=by
 obtain⟨a,rfl⟩:=mW.1 h;rw[BX,M6];omega
def nO{vs:Tk}{off n:Nat}{cs:Tk}(h:cut vs off n=some cs){o k:Nat}(b:o+k<=n):cut vs (off+o) k=some ((cs.drop o).take k):=by
 obtain⟨a,rfl⟩:=mW.1 h;refine mW.2 ⟨by omega,?_⟩;rw[List.drop_take,LS,List.take_take,CL (by omega)]
def cut_all{vs:Tk}{n:Nat}(h:vs.length=n):cut vs 0 n=some vs:=mW.2 ⟨by omega,by rw[Gl,CJ (by omega)]⟩
def Pre(h0 h:HL):Prop:=∃G,h=h0++G
theorem Pre.refl(h:HL):Pre h h:=⟨[],by simp⟩
def Pre.trans{a b c:HL}(h:Pre a b)(k:Pre b c):Pre a c:=by
 obtain⟨G,rfl⟩:=h;obtain⟨d,rfl⟩:=k;exact⟨G++d,by simp⟩
def Pre.app{a b:HL}(h:Pre a b)(G:HL):Pre a (b++G):=h.trans ⟨G,rfl⟩
def Pre.len{a b:HL}(h:Pre a b):a.length<=b.length:=by obtain⟨G,rfl⟩:=h;simp
def Pre.get{a b:HL}(h:Pre a b){i:Nat}{o:HO}(c:a[i]?=some o):b[i]?=some o:=by
 obtain⟨G,rfl⟩:=h;have:i<a.length:=by
  rcases Bu i a.length with h|h
  ·exact h
  ·rw[Bp h]at c;cases c
 rw[BZ this];exact c
def Pre.set{a b:HL}(h:Pre a b){i:Nat}(c:a.length<=i)(o:HO):Pre a (b.set i o):=by
 obtain⟨G,rfl⟩:=h;rw[RY _ _ c];exact⟨_,rfl⟩
def Ptr(h:HL)(p:Value)(cs:Tk):Prop:=∃id o vs e rw,p = .pointer (some ⟨id,o,none⟩)/\h[id]?=some (.o (.cells vs e rw))/\cut vs o cs.length=some cs
def SlC(h:HL)(v:Value)(e n:Nat)(cs:Tk):Prop:=
 cs.length=n*e/\((v = .slice none 0 0/\n=0)∨∃id off cx vs rw,v = .slice (some ⟨id,off,qs e⟩) n cx/\h[id]?=some (.o (.cells vs e rw))/\cut vs off (n*e)=some cs)
def LsH{α:Type}(h:HL)(v:Value)(e:Nat)(enc:α->Tk)(l:List α):Prop:=(∀a∈l,(enc a).length=e)/\SlC h v e l.length (l.flatMap enc)
def Mk(n0:Nat)(h:HL)(v:Value)(e n:Nat)(cs:Tk):Prop:=
 cs.length=n*e/\((v = .slice none 0 0/\n=0)∨∃id,n0<=id/\v = .slice (some ⟨id,0,qs e⟩) n 0/\h[id]?=some (.o (.cells cs e true)))
def MkL{α:Type}(n0:Nat)(h:HL)(v:Value)(e:Nat)(enc:α->Tk)(l:List α):Prop:=(∀a∈l,(enc a).length=e)/\Mk n0 h v e l.length (l.flatMap enc)
def blk:Value->Option Nat
 | .slice (some a) _ _=>some a.block
 |_=>none
def Ptr.keep{h h':HL}{p:Value}{cs:Tk}(g:Ptr h p cs)(f:∀(j:Nat) o,h[j]?=some o->h'[j]?=some o):Ptr h' p cs:=by
 obtain⟨id,o,i,e,a,b,c,d⟩:=g;exact⟨id,o,i,e,a,b,f _ _ c,d⟩
def SlC.keep{h h':HL}{v:Value}{e n:Nat}{cs:Tk}(l:SlC h v e n cs)(k:∀(j:Nat) o,h[j]?=some o->blk v=some j->h'[j]?=some o):SlC h' v e n cs:=by
 obtain⟨c,f|⟨id,a,d,m,b,rfl,g,i⟩⟩:=l
 ·exact⟨c,.inl f⟩
 ·exact⟨c,.inr ⟨id,a,d,m,b,rfl,k _ _ g rfl,i⟩⟩
def SlC.pre{h h':HL}{v:Value}{e n:Nat}{cs:Tk}(b:SlC h v e n cs)(a:Pre h h'):SlC h' v e n cs:=b.keep λ_ _ h _=>a.get h
def LsH.keep{α:Type}{h h':HL}{v:Value}{e:Nat}{enc:α->Tk}{l:List α}(a:LsH h v e enc l)(b:∀(j:Nat) o,h[j]?=some o->blk v=some j->h'[j]?=some o):LsH h' v e enc l:=⟨a.1,a.2.keep b⟩
def LsH.pre{α:Type}{h h':HL}{v:Value}{e:Nat}{enc:α->Tk}{l:List α}(a:LsH h v e enc l)(b:Pre h h'):LsH h' v e enc l:=⟨a.1,a.2.pre b⟩
def SlC.len{h:HL}{v:Value}{e n:Nat}{cs:Tk}(a:SlC h v e n cs):DX v=some (.ofNat n):=by
 obtain⟨_,⟨rfl,rfl⟩|⟨id,b,d,f,c,rfl,_⟩⟩:=a<;>rfl
def LsH.len{α:Type}{h:HL}{v:Value}{e:Nat}{enc:α->Tk}{l:List α}(a:LsH h v e enc l):DX v=some (.ofNat l.length):=a.2.len
def Mk.sl{n0:Nat}{h:HL}{v:Value}{e n:Nat}{cs:Tk}(d:Mk n0 h v e n cs):SlC h v e n cs:=by
 obtain⟨a,b|⟨id,_,rfl,c⟩⟩:=d
 ·exact⟨a,.inl b⟩
 ·exact⟨a,.inr ⟨id,0,0,cs,true,rfl,c,cut_all a⟩⟩
def MkL.ls{α:Type}{n0:Nat}{h:HL}{v:Value}{e:Nat}{enc:α->Tk}{l:List α}(a:MkL n0 h v e enc l):LsH h v e enc l:=⟨a.1,a.2.sl⟩
def Mk.nil(n0:Nat)(h:HL)(e:Nat):Mk n0 h (.slice none 0 0) e 0 []:=⟨by simp,.inl ⟨rfl,rfl⟩⟩
def MkL.nil{α:Type}(n0:Nat)(h:HL)(e:Nat)(enc:α->Tk):MkL n0 h (.slice none 0 0) e enc []:=⟨by simp,Mk.nil n0 h e⟩
def LsH.nil{α:Type}(h:HL)(e:Nat)(enc:α->Tk):LsH h (.slice none 0 0) e enc []:=(MkL.nil 0 h e enc).ls
def Mk.keep{n0:Nat}{h h':HL}{v:Value}{e n:Nat}{cs:Tk}(f:Mk n0 h v e n cs)(d:∀(j:Nat) o,h[j]?=some o->blk v=some j->h'[j]?=some o):Mk n0 h' v e n cs:=by
 obtain⟨b,a|⟨id,a,rfl,c⟩⟩:=f
 ·exact⟨b,.inl a⟩
 ·exact⟨b,.inr ⟨id,a,rfl,d _ _ c rfl⟩⟩
def Mk.pre{n0:Nat}{h h':HL}{v:Value}{e n:Nat}{cs:Tk}(b:Mk n0 h v e n cs)(a:Pre h h'):Mk n0 h' v e n cs:=b.keep λ_ _ h _=>a.get h
def MkL.keep{α:Type}{n0:Nat}{h h':HL}{v:Value}{e:Nat}{enc:α->Tk}{l:List α}(a:MkL n0 h v e enc l)(b:∀(j:Nat) o,h[j]?=some o->blk v=some j->h'[j]?=some o):MkL n0 h' v e enc l:=⟨a.1,a.2.keep b⟩
def MkL.pre{α:Type}{n0:Nat}{h h':HL}{v:Value}{e:Nat}{enc:α->Tk}{l:List α}(a:MkL n0 h v e enc l)(b:Pre h h'):MkL n0 h' v e enc l:=⟨a.1,a.2.pre b⟩
def ba{α:Type}{e:Nat}{enc:α->Tk}:∀ {l:List α},(∀a∈l,(enc a).length=e)->(l.flatMap enc).length=l.length*e
 | [],_=>by simp
 |a :: l,h=>by
  rw[Df,Bv,h a Cw,ba λb c=>h b (BF _ c),C6,Dg,Ik,Nat.add_comm]
def kY{α:Type}{e:Nat}{enc:α->Tk}:∀ {l:List α},(∀a∈l,(enc a).length=e)->∀ {i:Nat} {a:α},l[i]?=some a->((l.flatMap enc).drop (i*e)).take e=enc a
 |b :: l,h,0,a,c=>by
  simp only[Va,B7]at c;subst c;have:=h b Cw;rw[L0,Gl,Df,qcH (by omega),CJ (by omega)]
 |b :: l,h,i+1,a,c=>by
  simp only[IF]at c;have d:=h b Cw;have:=kY (λb d=>h b (BF _ d)) c;rw[Df,Dg,Ik,←this];have f:i*e+e=(enc b).length+i*e:=by omega
  rw[f,VU,RW (by omega),AG,qc3]
 | [],_,_,_,c=>by simp at c
def SlC.at{h:HL}{v:Value}{e n:Nat}{cs:Tk}(l:SlC h v e n cs){i:Nat}(r:i<n):∃p,Ax e v (.ofNat i)=some p/\Ptr h p ((cs.drop (i*e)).take e):=by
 obtain⟨q,⟨rfl,rfl⟩|⟨id,a,o,m,c,rfl,f,g⟩⟩:=l
 ·omega
 ·have b:i*e+e<=n*e:=by
   have:=LY e (show i+1<=n by omega);rw[Dg,Ik]at this;exact this
  refine⟨.pointer (some ⟨id,a+i*e,none⟩),?_,id,a+i*e,m,e,c,rfl,f,?_⟩
  ·rw[ut];have j:0<=Int.ofNat i/\Int.ofNat i<(n:Int):=⟨B8 i,by show(i:Int)<n;omega⟩;simp only[mc j];have:¬(qs e=some 1):=by simp[qs]
   simp only[ra this];rfl
  ·have d:=nO g b;have k:=Fo d;rw[k];exact d
def LsH.at{α:Type}{h:HL}{v:Value}{e:Nat}{enc:α->Tk}{l:List α}(f:LsH h v e enc l){i:Nat}{a:α}(b:l[i]?=some a):∃p,Ax e v (.ofNat i)=some p/\Ptr h p (enc a):=by
 have c:i<l.length:=by
  rcases Bu i l.length with h|h
  ·exact h
  ·rw[Bp h]at b;cases b
 obtain⟨p,g,d⟩:=f.2.at c;rw[kY f.1 b]at d;exact⟨p,g,d⟩
def Ptr.fd{h:HL}{p:Value}{cs:Tk}(i:Ptr h p cs)(o k:Nat)(g:o+k<=cs.length):∃c,Aw o p=some c/\Ptr h c ((cs.drop o).take k):=by
 obtain⟨id,j,l,e,a,rfl,d,f⟩:=i;refine⟨_,rfl,id,j+o,l,e,a,rfl,d,?_⟩;have b:=nO f g;rw[Fo b];exact b
section
variable [Val] [Kno]
def bD{T:Tq}{h:HL}{i:Nat}{o:HObj}(a:h[i]?=some (.o o)):zz T h i=some o:=by
 unfold zz;rw[a];rfl
def Ptr.ld{T:Tq}{h:HL}{p:Value}{cs:Tk}(f:Ptr h p cs){n:Nat}(d:cs.length=n):(Pk.ld n p).run (zz T h)=some cs:=by
 obtain⟨id,o,a,e,g,rfl,b,c⟩:=f;subst d;show(match (none:To)with|none=>(gT (zz T h) id).bind λa=>cut a o cs.length|some _=>none)=_;unfold gT;rw[bD b];exact c
def Ptr.lg{C:Cfg}{T:Tq}{h:HL}{p:Value}{cs:Tk}(f:Ptr h p cs){n:Nat}(d:cs.length=n):(Pk.lg C n p).run (zz T h)=some cs:=by
 obtain⟨id,o,a,e,g,rfl,b,c⟩:=f;subst d;show(gT (zz T h) id).bind (λa=>cut a o cs.length)=_;unfold gT;rw[bD b];exact c
def qS{C:Cfg}{T:Tq}{h:HL}{v:Value}{e n:Nat}{cs:Tk}(d:SlC h v e n cs):IQ C e (zz T h) v=some (cs,n):=by
 obtain⟨a,⟨rfl,rfl⟩|⟨id,f,i,j,g,rfl,b,c⟩⟩:=d
 ·simp only[L0,qa6]at a;subst a;rfl
 ·unfold IQ;have:¬(qs e=some 1):=by simp[qs]
  simp only[ra this,if_true];rw[bD b];simp only[if_true];rw[c];rfl
variable {C:Cfg} {Sg:Tc} {T:Tq}
def XA{n0:Nat}{h0 h:HL}{v x:Value}{e n k bytes:Nat}{cs new:Tk}(g:Pre h0 h)(u:h0.length=n0)(q:Mk n0 h v e n cs)(t:SlC h x e k new)(s:bb (n+k) bytes=true) :
  ∃b v',(Hp.ap C e bytes v x).run (zz T h) h.length=some (b,[v'])/\Pre h0 (bK h b)/\Mk n0 (bK h b) v' e (n+k) (cs++new)/\
   (∀(j:Nat) o,h[j]?=some o->blk v≠some j->(bK h b)[j]?=some o)/\(blk v'=blk v∨blk v'=none∨∃j,blk v'=some j/\h.length<=j):=by
 obtain⟨i,q⟩:=q;have f:=t.1;have c3:(cs++new).length=(n+k)*e:=by rw[Bv,i,f,Dg]
 have c:=qS (C:=C) (T:=T) t;rcases q with⟨rfl,rfl⟩|⟨id,hid,rfl,l⟩
 ·simp only[L0,qa6]at i;subst i;by_cases m:k=0
  ·subst m;simp only[L0,qa6]at f;subst f;refine⟨[],.slice none 0 0,?_,g,Mk.nil _ _ _,λj o d _=>d,.inl rfl⟩;show Cd C e bytes (.slice none 0 0) x (zz T h) h.length=_;unfold Cd;rw[c];rfl
  ·refine⟨[.push (.cells new e true)],.slice (some ⟨h.length,0,qs e⟩) k 0,?_,g.app _,?_,λj o d _=>?_,.inr (.inr ⟨h.length,rfl,Ah _⟩)⟩
   ·show Cd C e bytes (.slice none 0 0) x (zz T h) h.length=_;unfold Cd;rw[c];simp only[ra m];rw[BT]at s;rw[mc s]
   ·rw[BT,AG];refine⟨by simpa using f,.inr ⟨h.length,by have:=g.len;omega,rfl,?_⟩⟩;simp[bK,Act1.onH]
   ·exact Pre.get ⟨_,rfl⟩ d
 ·by_cases m:k=0
  ·subst m;simp only[L0,qa6]at f;subst f;refine⟨[],.slice (some ⟨id,0,qs e⟩) n 0,?_,g,⟨c3,.inr ⟨id,hid,rfl,by simpa[bK]using l⟩⟩,λj o d _=>d,.inl rfl⟩;show Cd C e bytes (.slice (some ⟨id,0,qs e⟩) n 0) x (zz T h) h.length=_;unfold Cd;rw[c];simp only[ne_eq,not_true_eq_false,if_false];rw[bD l];simp only[ne_eq,not_true_eq_false,if_false];rw[cut_all i];rfl
  ·have z:id<h.length:=by
    rcases Bu id h.length with p|p
    ·exact p
    ·rw[Bp p]at l;cases l
   refine⟨[.set id .dead,.push (.cells (cs++new) e true)],.slice (some ⟨h.length,0,qs e⟩) (n+k) 0,?_,?_,?_,λj o d w=>?_,.inr (.inr ⟨h.length,rfl,Ah _⟩)⟩
   ·show Cd C e bytes (.slice (some ⟨id,0,qs e⟩) n 0) x (zz T h) h.length=_;unfold Cd;rw[c];simp only[ne_eq,not_true_eq_false,if_false];rw[bD l];simp only[ne_eq,not_true_eq_false,if_false];rw[cut_all i];simp only[ra m,qds];rw[mc s]
   ·exact(g.set (by omega) _).app _
   ·refine⟨c3,.inr ⟨h.length,by have:=g.len;omega,rfl,?_⟩⟩;simp[bK,Act1.onH]
   ·have r:id≠j:=λy=>w (by subst y;rfl);refine Pre.get (a:=h.set id (.o .dead)) ⟨_,rfl⟩ ?_;rw[B5 r];exact d
def xS{α:Type}{h0 h:HL}{v:Value}{e bytes:Nat}{enc:α->Tk}{l:List α}{a:α}{K:Ta}{new:Tk}{m:Nat}{q:To}(B:Pre h0 h)(p:MkL h0.length h v e enc l)(A:new=enc a)(z:(enc a).length=e)(i:m=h.length)(k:q=some (e+10))
  (D:bb (l.length+1) bytes=true)
  (y:∀v' h',Pre h0 h'->MkL h0.length h' v' e enc (l++[a])->aC v'=true->(∀(j:Nat) o,h[j]?=some o->blk v≠some j->h'[j]?=some o)->(blk v'=blk v∨∃j,blk v'=some j/\h.length<=j)->K [v'] h') :
  (PH C Sg T).heap (.ap C e bytes v (.slice (some ⟨m,0,q⟩) 1 2)) (h++[.o (.cells new e true)]) (@hid _ ⟨K⟩):=by
 subst A i k;have E:SlC (h++[HO.o (.cells (enc a) e true)]) (.slice (some ⟨h.length,0,qs e⟩) 1 2) e 1 (enc a):=by
  refine⟨by omega,.inr ⟨h.length,0,2,enc a,true,rfl,by simp,cut_all (by omega)⟩⟩
 have g:Mk h0.length (h++[HO.o (.cells (enc a) e true)]) v e l.length (l.flatMap enc):=p.2.pre ⟨_,rfl⟩;obtain⟨n,v',r,s,f,t,u⟩:=XA (C:=C) (T:=T) (B.app [HO.o (.cells (enc a) e true)]) rfl g E D;refine ce r (y v' _ s ⟨?_,?_⟩ ?_ ?_ ?_)
 ·intro b c;rcases qar.1 c with c|c
  ·exact p.1 b c
  ·simp only[qav]at c;subst c;exact z
 ·rw[M4,Bv];simpa using f
 ·obtain⟨_,⟨rfl,_⟩|⟨id,_,rfl,_⟩⟩:=f
  ·rfl
  ·simp[aC,noLoc,aR,bh,aX,aJ,aA,qs]
 ·intro j o x c;exact t j o (Pre.get ⟨_,rfl⟩ x) c
 ·rcases u with d|d|⟨j,d,w⟩
  ·exact .inl d
  ·obtain⟨F,⟨_,G⟩|⟨id,_,rfl,_⟩⟩:=f
   ·omega
   ·cases d
  ·exact .inr ⟨j,d,by simp at w;omega⟩
end
end Sx
namespace Sx
def Ptr.good{h:HL}{p:Value}{cs:Tk}(a:Ptr h p cs):aC p=true:=by
 obtain⟨id,o,c,e,b,rfl,_⟩:=a;simp[aC,noLoc,aR,bh,aX,aJ,aA]
def SlC.good{h:HL}{v:Value}{e n:Nat}{cs:Tk}(a:SlC h v e n cs):aC v=true:=by
 obtain⟨_,⟨rfl,_⟩|⟨id,b,d,f,c,rfl,_⟩⟩:=a
 ·rfl
 ·simp[aC,noLoc,aR,bh,aX,aJ,aA,qs]
def LsH.good{α:Type}{h:HL}{v:Value}{e:Nat}{enc:α->Tk}{l:List α}(a:LsH h v e enc l):aC v=true:=a.2.good
section
variable [Val] [Kno] {C:Cfg} {Sg:Tc} {T:Tq}
def HH{F:(TB->HL->Prop)->TB->HL->Prop}{s:Td}{l:TB}{h:HL}(a:F s l h):@hid _ ⟨F⟩ s l h:=a
def aO{σ:Type}{F:(TB->HL->Prop)->TB->HL->Prop}(n:Nat)(S:Nat->σ->TB)(d:Nat->σ->HL)(Inv:Nat->σ->Prop){j0:Nat}{s0:σ}{ls:TB}{h:HL}(i:ls=S j0 s0)(k:h=d j0 s0)(g:j0<=n)(e:Inv j0 s0)
  (step:∀j s,j<=n->Inv j s->∀a:TB->HL->Prop,(∀c,j<n->Inv (j+1) c->a (S (j+1) c) (d (j+1) c))->F a (S j s) (d j s)):(PH C Sg T).loop (@hid _ ⟨F⟩) ls h:=by
 subst i k;refine eU (m:=n - j0) (λm ls h=>∃j s,ls=S j s/\h=d j s/\j<=n/\m=n - j/\Inv j s) ⟨j0,s0,rfl,rfl,g,rfl,e⟩ ?_;rintro m ls h ⟨j,s,rfl,rfl,g,rfl,e⟩ a b;exact HH (step j s g e a λc l f=>b (n - (j+1)) _ _ (by omega) ⟨j+1,c,rfl,rfl,by omega,rfl,f⟩)
def cG{F:(TB->HL->Prop)->TB->HL->Prop}(n:Nat)(Inv:Nat->Prop){j0:Nat}{h:HL}{ls:TB}(f:ls=[.i (Int.ofNat j0)])(e:j0<=n)(d:Inv j0)
  (step:∀j,j<=n->Inv j->∀c:TB->HL->Prop,(j<n->Inv (j+1)->c [.i (Int.ofNat j+1)] h)->F c [.i (Int.ofNat j)] h):(PH C Sg T).loop (@hid _ ⟨F⟩) ls h:=
 aO (σ:=Unit) n (λj _=>[.i (Int.ofNat j)]) (λ_ _=>h) (λj _=>Inv j) (s0:=()) f rfl e d λj _ e d c g=>step j e d c (λa b=>g () a b)
def bz{α:Type}{h:HL}{v:Value}{e:Nat}{enc:α->Tk}{l:List α}{K:Ts}(b:LsH h v e enc l)(a:K (Int.ofNat l.length)):(PH C Sg T).opt (DX v) (@hid _ ⟨K⟩):=ae b.len a
def aP{α:Type}{h:HL}{v:Value}{e:Nat}{enc:α->Tk}{l:List α}{i:Nat}{a:α}{n:Int}{K:Te}(c:LsH h v e enc l)(j:n=Int.ofNat i)(b:l[i]?=some a)(g:K (enc a)) :
  (PH C Sg T).opt (Ax e v n) (@hid _ ⟨λx=>(PH C Sg T).peek (.lg C e x) h (@hid _ ⟨K⟩)⟩):=by
 subst j;obtain⟨p,d,f⟩:=c.at b;exact ae d (fG (f.lg (c.1 a (Ap b))) g)
def bN{α:Type}{h:HL}{v:Value}{e:Nat}{enc:α->Tk}{l:List α}{i:Nat}{a:α}{n:Int}{o k:Nat}{cs:Tk}{K:Te}(j:LsH h v e enc l)(u:n=Int.ofNat i)(g:l[i]?=some a)(d:cs=((enc a).drop o).take k)(c:o+k<=e)(t:K cs) :
  (PH C Sg T).opt (Ax e v n) (@hid _ ⟨λx=>(PH C Sg T).opt (Aw o x) (@hid _ ⟨λy=>(PH C Sg T).chk y (@hid _ ⟨(PH C Sg T).peek (.lg C k y) h (@hid _ ⟨K⟩)⟩)⟩)⟩):=by
 subst u d;obtain⟨p,m,r⟩:=j.at g;have w:=j.1 a (Ap g);have c:o+k<=(enc a).length:=by omega
 have b:(((enc a).drop o).take k).length=k:=by rw[BX,M6];omega
 obtain⟨q,s,f⟩:=r.fd o k c;refine ae m (ae s ?_);show aC q=true/\_;exact⟨f.good,fG (f.lg b) t⟩
end
end Sx
namespace Sx
section
variable [Val] [Kno] {C:Cfg} {Sg:Tc} {T:Tq}
def aI{j:Nat}{K:Ts}(h:j<=4294967296):(PH C Sg T).ari .add .i64 (Int.ofNat j) 1 (@hid _ ⟨K⟩)=K (Int.ofNat j+1):=
 Cr (by show -9223372036854775808<=(j:Int)+1;omega) (by show(j:Int)+1<=9223372036854775807;omega)
def jp{j:Nat}{K:Ts}(h1:1<=j)(h:j<=4294967296):(PH C Sg T).ari .sub .i64 (Int.ofNat j) 1 (@hid _ ⟨K⟩)=K (Int.ofNat (j - 1)):=by
 rw[Lz (by show -9223372036854775808<=(j:Int) - 1;omega) (by show(j:Int) - 1<=9223372036854775807;omega)]
 congr 1
 show(j:Int) - 1=((j - 1:Nat):Int);omega
def au{j n:Nat}{K:Tm}(h:j<n):(PH C Sg T).cmp .lss (Int.ofNat j) (Int.ofNat n) (@hid _ ⟨K⟩)=K true:=us (by show(j:Int)<n;omega)
def ao{j n:Nat}{K:Tm}(h:n<=j):(PH C Sg T).cmp .lss (Int.ofNat j) (Int.ofNat n) (@hid _ ⟨K⟩)=K false:=tx (by show(n:Int)<=j;omega)
end
def al{α:Type}{l:List α}{i:Nat}{a:α}(h:l[i]?=some a):i<l.length:=by
 rcases Bu i l.length with b|b
 ·exact b
 ·rw[Bp b]at h;cases h
def aG{α:Type}{l:List α}{i:Nat}(h:i<l.length):∃a,l[i]?=some a:=⟨_,Be h⟩
end Sx
namespace Sx
section
variable [Val] [Kno]
variable {C:Cfg} {Sg:Tc} {T:Tq} {α:Type}
def td(h:HL)(id e:Nat)(enc:α->Tk)(l:List α):HL:=h.set id (.o (.cells (l.flatMap enc) e true))
def bL{h:HL}{id e:Nat}{enc:α->Tk}{l:List α}(a:id<h.length):(td h id e enc l)[id]?=some (.o (.cells (l.flatMap enc) e true)):=by
 unfold td;rw[C2 a]
def LM{h:HL}{id e:Nat}{enc:α->Tk}{l l':List α}:(td h id e enc l).set id (.o (.cells (l'.flatMap enc) e true))=td h id e enc l':=by
 unfold td;rw[qd1]
def PU{h:HL}{id e cx:Nat}{enc:α->Tk}(b:∀a,(enc a).length=e){l:List α}(c:id<h.length):LsH (td h id e enc l) (.slice (some ⟨id,0,qs e⟩) l.length cx) e enc l:=by
 have d:=ba (e:=e) (enc:=enc) (l:=l) λa _=>b a;exact⟨λa _=>b a,d,.inr ⟨id,0,cx,_,true,rfl,bL c,cut_all d⟩⟩
def gh{e:Nat}{enc:α->Tk}(c:∀a,(enc a).length=e):∀ {l:List α} {i:Nat} (a:α),i<l.length->(l.flatMap enc).take (i*e)++enc a++(l.flatMap enc).drop (i*e+e)=(l.set i a).flatMap enc
 | [],_,_,h=>by simp at h
 |b :: l,0,a,_=>by
  have d:=c b;simp only[L0,VW,AG,BT,qc1,Df];rw[VU,RW (by omega),AG,show e - (enc b).length=0 by omega,Gl]
 |b :: l,i+1,a,h=>by
  have d:=c b;have f:=gh c (l:=l) (i:=i) a (by simpa using h);simp only[qcJ,Df];rw[←f,Dg,Ik,qdl,VU];rw[CJ (by omega),RW (by omega),AG];rw[show i*e+e - (enc b).length=i*e by omega,show i*e+e+e - (enc b).length=i*e+e by omega];simp[A6]
def r_set{h:HL}{id e cx len:Nat}{enc:α->Tk}(b:∀a,(enc a).length=e){l:List α}{i:Nat}{a:α}{n:Int}{new:Tk}{K:Ta}(j:id<h.length)(q:n=Int.ofNat i)(m:i<l.length)(c:l.length=len)(d:new=enc a)
  (o:K [] (td h id e enc (l.set i a))):(PH C Sg T).opt (Ax e (.slice (some ⟨id,0,qs e⟩) len cx) n) (@hid _ ⟨λx=>(PH C Sg T).heap (.st x new) (td h id e enc l) (@hid _ ⟨K⟩)⟩):=by
 subst q c d;have r:Ax e (.slice (some ⟨id,0,qs e⟩) l.length cx) (Int.ofNat i)=some (.pointer (some ⟨id,i*e,none⟩)):=by
  rw[ut];have k:0<=Int.ofNat i/\Int.ofNat i<(l.length:Int):=⟨B8 i,by show(i:Int)<l.length;omega⟩;simp only[mc k];have:¬(qs e=some 1):=by simp[qs]
  simp only[ra this,BT];rfl
 refine ae r ?_;have p:=ba (e:=e) (enc:=enc) (l:=l) λa _=>b a;have g:i*e+e<=l.length*e:=by
  have:=LY e (show i+1<=l.length by omega);rw[Dg,Ik]at this;exact this
 have f:(Hp.st (.pointer (some ⟨id,i*e,none⟩)) (enc a)).run (zz T (td h id e enc l)) (td h id e enc l).length=some ([.set id (.cells ((l.set i a).flatMap enc) e true)],[]):=by
  show E5 (.pointer (some ⟨id,i*e,none⟩)) (enc a) (zz T (td h id e enc l)) (td h id e enc l).length=_;unfold E5;simp only;rw[bD (bL j)];simp only;unfold splice;rw[b a,p,mc g,gh b a m];rfl
 refine ce f ?_;show K [] (bK _ _);have:bK (td h id e enc l) [.set id (.cells ((l.set i a).flatMap enc) e true)]=td h id e enc (l.set i a):=LM;rw[this];exact o
end
end Sx
namespace Sx
section
variable [Val] [Kno]
variable {C:Cfg} {Sg:Tc} {T:Tq} {α:Type}
def dd{enc:α->Tk}{z:α}{n:Nat}:bk (enc z) n=(List.replicate n z).flatMap enc:=by
 unfold bk;rw[qdR,List.map_replicate]
def UJ(h:HL)(e:Nat)(enc:α->Tk)(l:List α):HL:=h++[.o (.cells (l.flatMap enc) e true)]
def K9{h:HL}{e:Nat}{enc:α->Tk}{l:List α}:td (h++[.o .dead]) h.length e enc l=UJ h e enc l:=by
 unfold td UJ;rw[RY _ _ (Ah _),Ic];rfl
def vY{h:HL}{e cx:Nat}{enc:α->Tk}(b:∀a,(enc a).length=e){l:List α}{n:Nat}(c:n=l.length):LsH (UJ h e enc l) (.slice (some ⟨h.length,0,qs e⟩) n cx) e enc l:=by
 subst c;rw[←K9];exact PU b (by simp)
def eI{n:Nat}(h:n<=1048576):Cp (Int.ofNat n) (Int.ofNat n)=some ():=by
 unfold Cp;rw[mc];exact⟨B8 n,Gn _,by show(n:Int)<=1048576;omega⟩
def Jm{id n:Nat}{o:Nat}{a:To}:NR (.slice (some ⟨id,o,a⟩) n (n+1))=some (Int.ofNat n):=rfl
end
end Sx
namespace Sx
section
variable [Val] [Kno]
variable {C:Cfg} {Sg:Tc} {T:Tq} {α:Type}
def bq{l:List α}{i:Nat}{a:α}(h:l[i]?=some a):l.set i a=l:=by
 apply Gm;intro k;by_cases b:i=k
 ·subst b;rw[C2 (al h),h]
 ·rw[B5 b]
end
end Sx
namespace Sx
section
variable [Val] [Kno] {C:Cfg} {T:Tq}
abbrev Ku:=Int×Int
def HM(k:Ku):Value:=.agg ⟨[.int .i64 k.1,.int .u8 k.2]⟩
def EntS(a:Th)(ks:List Ku):Prop:=a.map (·.key)=ks.map HM/\∀e∈a,e.val = .bool true
abbrev M1:TE:=[.i .i64,.i .u8]
def rI(a b:Int):Om a b=decide (a=b):=by
 have c:∀m n:Nat,Nat.beq m n=decide (m=n):=λm n=>by
  by_cases h:m=n
  ·subst h;simp
  ·rw[Ch h];cases d:Nat.beq m n with
   |true=>exact absurd (AW d) h
   |false=>rfl
 cases a<;>cases b<;>simp[Om,c];omega
def N2(a b:Ku):Ak M1 [.int .i64 a.1,.int .u8 a.2] [.int .i64 b.1,.int .u8 b.2]=some (decide (a=b)):=by
 have i:dG .i64 .i64=true:=rfl;have j:dG .u8 .u8=true:=rfl;obtain⟨e,f⟩:=a;obtain⟨g,h⟩:=b;simp only[Ak,i,j,rI,PZ];by_cases c:e=g
 ·by_cases d:f=h
  ·simp[c,d]
  ·simp[c,d]
 ·simp[c]
def rR(k:Ku):∀ {a:Th} {ks:List Ku} (i:Nat),EntS a ks->(k∉ks->iW M1 [.int .i64 k.1,.int .u8 k.2] a i=some none)/\(k∈ks->∃j e,iW M1 [.int .i64 k.1,.int .u8 k.2] a i=some (some (i+j))/\a[j]?=some e/\e.val = .bool true)
 | [],[],i,_=>⟨λ_=>rfl,λh=>by cases h⟩
 | [],_ :: _,i,h=>by have:=h.1;simp at this
 |_ :: _,[],i,h=>by have:=h.1;simp at this
 |e :: a,q :: ks,i,h=>by
  obtain⟨d,m⟩:=h;simp only[A5,Dt]at d;obtain⟨g,l⟩:=rR k (i+1) (⟨d.2,λx t=>m x (BF _ t)⟩ : EntS a ks);have s:iW M1 [.int .i64 k.1,.int .u8 k.2] (e :: a) i=if k=q then some (some i)else iW M1 [.int .i64 k.1,.int .u8 k.2] a (i+1):=by
   simp only[iW,d.1,HM];rw[N2];by_cases c:k=q<;>simp[c]
  rw[s];by_cases c:k=q
  ·subst c;refine⟨λf=>absurd Cw f,λ_=>⟨0,e,by rw[mc rfl];rfl,rfl,m e Cw⟩⟩
  ·rw[ra c];refine⟨λf=>g λb=>f (BF _ b),λb=>?_⟩;rcases qas.1 b with b|b
   ·exact absurd b c
   ·obtain⟨j,n,o,p,r⟩:=l b;exact⟨j+1,n,by rw[o];congr 2;omega,by simpa using p,r⟩
variable {kt:TJ}
def Kz(h1:Ao C.P kt=some true)(c:flatK C.P 10000 kt=some M1)(k:Ku):DV C.P kt (HM k)=true:=by
 have a:dG .i64 .i64=true:=rfl;have b:dG .u8 .u8=true:=rfl;unfold DV HM;simp only[h1,c,gK,a,b,rI];simp
def vF(h1:Ao C.P kt=some true)(b:flatK C.P 10000 kt=some M1)(k:Ku){a:Th}{r:To}(c:iW M1 [.int .i64 k.1,.int .u8 k.2] a 0=some r):ug C.P kt (HM k) a=some r:=by
 unfold ug HM;simp only[h1,b,nh,c]
def Uo(h1:Ao C.P kt=some true)(d:flatK C.P 10000 kt=some M1){h:HL}{id c:Nat}{a:Th}{ks:List Ku}(q:h[id]?=some (.o (.map a c)))(n:EntS a ks)(k:Ku) :
  DZ C kt false (.bool false) (.map (some id)) (HM k) false (zz T h)=some [.bool (decide (k∈ks))]:=by
 unfold DZ;rw[Kz h1 d];simp only[BS,Bq,if_false];have p:Dp (zz T h) id=some (a,c):=by
  unfold Dp;rw[bD q]
 rw[p];simp only;obtain⟨f,g⟩:=rR k 0 n;by_cases b:k∈ks
 ·obtain⟨j,e,i,l,m⟩:=g b;rw[vF h1 d k i];have r:fF a (0+j)=some (.bool true):=by
   rw[BT];unfold fF;rw[l];simp[m]
  simp only[r,A7];simp[gS,b]
 ·rw[vF h1 d k (f b)];simp[gS,b]
def UA(h1:Ao C.P kt=some true)(b:flatK C.P 10000 kt=some M1){h:HL}{id c n:Nat}{a:Th}{ks:List Ku}(g:h[id]?=some (.o (.map a c)))(d:EntS a ks){k:Ku}(f:k∉ks) :
  HX C kt (.map (some id)) (HM k) (.bool true) (zz T h) n=some ([.set id (.map (a++[{ key:=HM k,val:=.bool true,born:=c }]) (c+1))],[]):=by
 unfold HX;simp only;rw[Kz h1 b];simp only[BS,Bq,if_false];have e:Dp (zz T h) id=some (a,c):=by
  unfold Dp;rw[bD g]
 rw[e];simp only;rw[vF h1 b k ((rR k 0 d).1 f)]
def EntS.push{b:Th}{ks:List Ku}(d:EntS b ks)(k:Ku)(c:Nat):EntS (b++[{ key:=HM k,val:=.bool true,born:=c }]) (ks++[k]):=by
 refine⟨by simp[d.1],λe a=>?_⟩;rcases qar.1 a with a|a
 ·exact d.2 e a
 ·simp only[qav]at a;subst a;rfl
end
end Sx
namespace Sx
section
variable [Val] [Kno] {C:Cfg} {T:Tq}
abbrev K3:=Int×Int×Nat
def XV(k:K3):Tk:=[.int .i64 k.1,.int .i64 k.2.1,.int .u8 (Int.ofNat k.2.2)]
def kv3(k:K3):Value:=.agg ⟨XV k⟩
abbrev kk3:TE:=[.i .i64,.i .i64,.i .u8]
variable {kt:TJ} (h1:Ao C.P kt=some true) (h2:flatK C.P 10000 kt=some kk3)
include h1 h2
omit h1 h2 in
omit h1 h2 in
omit h1 h2 in
omit h1 h2 in
theorem xz{h:HL}{id c:Nat}{a:Th}(b:h[id]?=some (.o (.map a c))):Dp (zz T h) id=some (a,c):=by
 unfold Dp;rw[bD b]
end
section
variable [Val] [Kno] {T:Tq}
end
end Sx
namespace Sx
section
variable [Val] [Kno] {C:Cfg} {Sg:Tc} {T:Tq}
def Set3(h:HL)(id:Nat)(ks:List K3):Prop:=∃a c,h[id]?=some (.o (.map a c))/\a.map (·.key)=ks.map kv3/\∀e∈a,e.val = .bool true
def Set3.keep{h h':HL}{id:Nat}{ks:List K3}(f:Set3 h id ks)(e:∀o,h[id]?=some o->h'[id]?=some o):Set3 h' id ks:=by
 obtain⟨a,c,b,d⟩:=f;exact⟨a,c,e _ b,d⟩
def Set3.lt{h:HL}{id:Nat}{ks:List K3}(b:Set3 h id ks):id<h.length:=by
 obtain⟨d,c,a,_⟩:=b;exact al a
variable {kt:TJ} (h1:Ao C.P kt=some true) (h2:flatK C.P 10000 kt=some kk3)
include h1 h2
end
end Sx
end Go.Am
namespace Go.Am
open Sx Go.Proofs
def jC{g:TK}{sg:Sig}{cap:Tk}{ls b:TB}{H H':Tp}{args:Tk}(e:aD cc ab g ls H b H')(f:ab g=some sg)(xs:List S0)(h1:cZ xs sg.ps=true)(c:cR xs=ls)(d:av xs=args++cap) :
  tB cc (.func (.func g) ⟨[]⟩ ⟨cap⟩) args sg.rs H b H':=by
 obtain⟨h,j,k,a,c2,c3,c4⟩:=e;rw[f]at a;cases a;obtain⟨i,_⟩:=dz c2.1 h1 (c2.2.1.trans c.symm);rw[i,d]at c4;exact⟨k,c3,.inl ⟨g,⟨[]⟩,⟨cap⟩,rfl,by simpa using c4⟩⟩
abbrev te(b:Nat):Value:=.pointer (some ⟨b,0,none⟩)
def cU{h:HL}{b e:Nat}{cs:Tk}(a:h[b]?=some (.o (.cells cs e true))):Ptr h (te b) cs:=⟨b,0,cs,e,true,rfl,a,Sx.cut_all rfl⟩
def aS(b:Nat):aC (te b)=true:=by simp[aC,noLoc,aR,bh,aX,aJ,aA]
def cq{h:HL}{p:Value}{cs:Tk}{K:Te}{n:Nat}(c:Ptr h p cs)(b:cs.length=n)(a:K cs):P1.peek (.lg cc n p) h (@hid _ ⟨K⟩):=fG (c.lg b) a
def iC{h:HL}{p:Value}{cs ds:Tk}{K:Te}{o n:Nat}(f:Ptr h p cs)(e:o+n<=cs.length)(c:ds=(cs.drop o).take n)(d:K ds) :
  P1.opt (Aw o p) (@hid _ ⟨λy=>P1.chk y (@hid _ ⟨P1.peek (.lg cc n y) h (@hid _ ⟨K⟩)⟩)⟩):=by
 subst c;obtain⟨q,b,a⟩:=f.fd o n e;refine ae b (ac a.good (fG (a.lg ?_) d));rw[BX,M6];omega
def dX{h:HL}{b e:Nat}{cs ds:Tk}{K:Te}{o n:Nat}(a:h[b]?=some (.o (.cells cs e true)))(f:o+n<=cs.length)(c:ds=(cs.drop o).take n)(d:K ds) :
  P1.opt (Ae (te b)) (@hid _ ⟨λx=>P1.chk x (@hid _ ⟨P1.opt (Aw o x) (@hid _ ⟨λy=>P1.chk y (@hid _ ⟨P1.peek (.lg cc n y) h (@hid _ ⟨K⟩)⟩)⟩)⟩)⟩):=
 ae (x:=te b) rfl (ac (aS b) (iC (cU a) f c d))
def ki{h:HL}{b e:Nat}{cs new:Tk}{K:Ta}{o:Nat}(c:h[b]?=some (.o (.cells cs e true)))(f:o+new.length<=cs.length)(d:K [] (h.set b (.o (.cells (cs.take o++new++cs.drop (o+new.length)) e true)))) :
  P1.opt (Ae (te b)) (@hid _ ⟨λx=>P1.chk x (@hid _ ⟨P1.opt (Aw o x) (@hid _ ⟨λy=>P1.chk y (@hid _ ⟨P1.heap (.st y new) h (@hid _ ⟨K⟩)⟩)⟩)⟩)⟩):=by
 refine ae (x:=te b) rfl (ac (aS b) (ae (x:=.pointer (some ⟨b,0+o,none⟩)) rfl (ac (by simp[aC,noLoc,aR,bh,aX,aJ,aA]) ?_)));have a:(Hp.st (.pointer (some ⟨b,0+o,none⟩)) new).run (zz aa h) h.length=some ([.set b (.cells (cs.take o++new++cs.drop (o+new.length)) e true)],[]):=by
  show E5 (.pointer (some ⟨b,0+o,none⟩)) new (zz aa h) h.length=_;unfold E5;simp only;rw[bD c];simp only;unfold splice;rw[BT,mc f];rfl
 exact ce a d
def sS{h:HL}{b e:Nat}{vs new:Tk}{K:Ta}(c:h[b]?=some (.o (.cells vs e true)))(f:new.length=vs.length)(d:K [] (h.set b (.o (.cells new e true)))):P1.heap (.st (te b) new) h (@hid _ ⟨K⟩):=by
 have a:(Hp.st (te b) new).run (zz aa h) h.length=some ([.set b (.cells new e true)],[]):=by
  show E5 (te b) new (zz aa h) h.length=_;unfold E5;simp only;rw[bD c];simp only;unfold splice;rw[mc (by omega)];simp[f]
 exact ce a d
def kg{b:Td}{m:(TB->HL->Prop)->Prop}(P:Td)(h1:∀l h,P l h->b l h)(a:∀j:TB->HL->Prop,(∀l h,P l h->j l h)->m j):P1.join (@hid _ ⟨b⟩) (@hid _ ⟨m⟩):=a _ h1
def EW{a b:Int}{K:Tm}(h:∀t,t=decide (a=b)->K t):P1.cmp .eql a b (@hid _ ⟨K⟩):=by
 show K (a==b);exact h _ (by rw[IK];simp)
def ed{h:HL}{a b:HO}:(h++[a]).set h.length b=h++[b]:=by simp
def az{h:HL}{a:HO}:(h++[a])[h.length]?=some a:=by simp
def ik{h:HL}{a:HO}{i:Nat}{o:HO}(b:h[i]?=some o):(h++[a])[i]?=some o:=Pre.get ⟨_,rfl⟩ b
def aW{h:HL}{a:HO}{i j:Nat}{o:HO}(c:h[i]?=some o)(b:j≠i):(h.set j a)[i]?=some o:=by
 rw[B5 b];exact c
def fh{h:HL}{a b:HO}{i:Nat}(c:h[i]?=some a):(h.set i b)[i]?=some b:=C2 (al c)
def Low(n0:Nat)(h h':HL):Prop:=∀(j:Nat) o,j<n0->h[j]?=some o->h'[j]?=some o
theorem Low.refl{n0:Nat}(h:HL):Low n0 h h:=λ_ _ _ h=>h
def Low.trans{n0:Nat}{a b c:HL}(h:Low n0 a b)(k:Low n0 b c):Low n0 a c:=λj o d e=>k j o d (h j o d e)
def Low.app{n0:Nat}{a b:HL}(h:Low n0 a b)(G:HL):Low n0 a (b++G):=λj o c d=>Pre.get ⟨_,rfl⟩ (h j o c d)
def Low.set{n0:Nat}{a b:HL}(h:Low n0 a b){i:Nat}(f:n0<=i)(o:HO):Low n0 a (b.set i o):=λj e c d=>aW (h j e c d) (by omega)
def Low.le{n0 c:Nat}{a b:HL}(h:Low n0 a b)(f:c<=n0):Low c a b:=λj o e d=>h j o (by omega) d
def Low.ls{α:Type}{n0:Nat}{h h':HL}(c:Low n0 h h'){v:Value}{e:Nat}{enc:α->Tk}{l:List α}(f:LsH h v e enc l)(a:∀i,blk v=some i->i<n0):LsH h' v e enc l:=f.keep λj o d b=>c j o (a j b) d
def Sx.LsH.blkLt{α:Type}{h:HL}{v:Value}{e:Nat}{enc:α->Tk}{l:List α}(c:LsH h v e enc l){i:Nat}(a:blk v=some i):i<h.length:=by
 obtain⟨_,_,⟨rfl,_⟩|⟨id,d,g,j,f,rfl,b,_⟩⟩:=c
 ·cases a
 ·cases a;exact al b
def Sx.LsH.low{α:Type}{h h':HL}{v:Value}{e:Nat}{enc:α->Tk}{l:List α}(a:LsH h v e enc l)(c:Low h.length h h'):LsH h' v e enc l:=c.ls a λ_ b=>a.blkLt b
def OwnL{α:Type}(n0:Nat)(h:HL)(v:Value)(e:Nat)(enc:α->Tk)(l:List α):Prop:=
 (v = .slice none 0 0/\l=[])∨∃id cx,v = .slice (some ⟨id,0,qs e⟩) l.length cx/\n0<=id/\h[id]?=some (.o (.cells (l.flatMap enc) e true))/\(cx=0∨cx=l.length+1)
section
variable {α:Type} {n0 e:Nat} {enc:α->Tk} {l:List α} {h:HL} {v:Value}
def OwnL.nil(n0:Nat)(h:HL)(e:Nat)(enc:α->Tk):OwnL n0 h (.slice none 0 0) e enc []:=.inl ⟨rfl,rfl⟩
def OwnL.ls(b:∀a,(enc a).length=e)(g:OwnL n0 h v e enc l):LsH h v e enc l:=by
 have c:=ba (e:=e) (enc:=enc) (l:=l) λa _=>b a;rcases g with⟨rfl,rfl⟩|⟨id,d,rfl,_,f,_⟩
 ·exact LsH.nil h e enc
 ·exact⟨λa _=>b a,c,.inr ⟨id,0,d,_,true,rfl,f,Sx.cut_all c⟩⟩
def OwnL.keep{h':HL}(i:OwnL n0 h v e enc l)(g:∀(j:Nat) o,h[j]?=some o->blk v=some j->h'[j]?=some o):OwnL n0 h' v e enc l:=by
 rcases i with b|⟨id,a,rfl,c,d,f⟩
 ·exact .inl b
 ·exact .inr ⟨id,a,rfl,c,g _ _ d rfl,f⟩
def OwnL.app(a:OwnL n0 h v e enc l)(G:HL):OwnL n0 (h++G) v e enc l:=a.keep λ_ _ h _=>Pre.get ⟨_,rfl⟩ h
def OwnL.blk(d:OwnL n0 h v e enc l){j:Nat}(a:blk v=some j):n0<=j/\j<h.length:=by
 rcases d with⟨rfl,_⟩|⟨id,f,rfl,b,c,_⟩
 ·cases a
 ·cases a;exact⟨b,al c⟩
def OwnL.good(b:∀a,(enc a).length=e)(c:OwnL n0 h v e enc l):aC v=true:=(c.ls b).good
def OwnL.ap{bytes k:Nat}{x:Value}{new:List α}{K:Ta}(q:∀a,(enc a).length=e)(H:OwnL n0 h v e enc l)(r:n0<=h.length)(t:IQ cc e (zz aa h) x=some (new.flatMap enc,k))(B:k=new.length)(z:bb (l.length+k) bytes=true)
  (s:∀v' h',OwnL n0 h' v' e enc (l++new)->aC v'=true->(∀(j:Nat) o,h[j]?=some o->Sx.blk v≠some j->h'[j]?=some o)->h.length<=h'.length->(Sx.blk v'=Sx.blk v∨∃j,Sx.blk v'=some j/\h.length<=j)->K [v'] h') :
  P1.heap (.ap cc e bytes v x) h (@hid _ ⟨K⟩):=by
 subst B;have y:(l++new).length=l.length+new.length:=Bv;have w:l.flatMap enc++new.flatMap enc=(l++new).flatMap enc:=by simp
 have u:∀i n c,aC (.slice (some ⟨i,0,qs e⟩) n c)=true:=λi n c=>by simp[aC,noLoc,aR,bh,aX,aJ,aA,qs]
 rcases H with⟨rfl,rfl⟩|⟨id,I,rfl,C,p,D⟩
 ·by_cases f:new.length=0
  ·have d:new=[]:=qa6.1 f;subst d;have b:(Hp.ap cc e bytes (.slice none 0 0) x).run (zz aa h) h.length=some ([],[.slice none 0 0]):=by
    show Cd cc e bytes (.slice none 0 0) x (zz aa h) h.length=_;unfold Cd;rw[t];rfl
   exact ce b (s _ _ (.inl ⟨rfl,rfl⟩) rfl (λj o m _=>m) (Ah _) (.inl rfl))
  ·have b:(Hp.ap cc e bytes (.slice none 0 0) x).run (zz aa h) h.length=some ([.push (.cells (new.flatMap enc) e true)],[.slice (some ⟨h.length,0,qs e⟩) new.length 0]):=by
    show Cd cc e bytes (.slice none 0 0) x (zz aa h) h.length=_;unfold Cd;rw[t];simp only[ra f];rw[Vj,BT]at z;rw[mc z]
   refine ce b (s _ _ (.inr ⟨h.length,0,by simp,r,by simp[bK,Act1.onH],.inl rfl⟩) (u _ _ _) (λj o m _=>Pre.get ⟨_,rfl⟩ m) (by simp[bK,Act1.onH]) (.inr ⟨h.length,rfl,Ah _⟩))
 ·have g:cut (l.flatMap enc) 0 (l.length*e)=some (l.flatMap enc):=Sx.cut_all (ba λa _=>q a);have G:=al p;rcases D with rfl|rfl
  ·by_cases f:new.length=0
   ·have d:new=[]:=qa6.1 f;subst d;have b:(Hp.ap cc e bytes (.slice (some ⟨id,0,qs e⟩) l.length 0) x).run (zz aa h) h.length=some ([],[.slice (some ⟨id,0,qs e⟩) l.length 0]):=by
     show Cd cc e bytes (.slice (some ⟨id,0,qs e⟩) l.length 0) x (zz aa h) h.length=_;unfold Cd;rw[t];simp only[ne_eq,not_true_eq_false,if_false];rw[bD p];simp only[ne_eq,not_true_eq_false,if_false];rw[g];rfl
    exact ce b (s _ _ (.inr ⟨id,0,by simp,C,by simpa[bK]using p,.inl rfl⟩) (u _ _ _) (λj o m _=>m) (Ah _) (.inl rfl))
   ·have b:(Hp.ap cc e bytes (.slice (some ⟨id,0,qs e⟩) l.length 0) x).run (zz aa h) h.length=some ([.set id .dead,.push (.cells ((l++new).flatMap enc) e true)],[.slice (some ⟨h.length,0,qs e⟩) (l.length+new.length) 0]):=by
     show Cd cc e bytes (.slice (some ⟨id,0,qs e⟩) l.length 0) x (zz aa h) h.length=_;unfold Cd;rw[t];simp only[ne_eq,not_true_eq_false,if_false];rw[bD p];simp only[ne_eq,not_true_eq_false,if_false];rw[g];simp only[ra f,qds];rw[mc z,w]
    have A:bK h [.set id .dead,.push (.cells ((l++new).flatMap enc) e true)]=h.set id (.o .dead)++[.o (.cells ((l++new).flatMap enc) e true)]:=rfl;refine ce b ?_;rw[A];refine s _ _ (.inr ⟨h.length,0,by rw[y],r,?_,.inl rfl⟩) (u _ _ _) (λj o m E=>?_) (by simp) (.inr ⟨h.length,rfl,Ah _⟩)
    ·rw[Cv (by simp)];simp
    ·exact ik (aW m λe=>E (by subst e;rfl))
  ·by_cases f:l.length+new.length<=l.length
   ·have d:new=[]:=qa6.1 (by omega);subst d;have b:(Hp.ap cc e bytes (.slice (some ⟨id,0,qs e⟩) l.length (l.length+1)) x).run (zz aa h) h.length=some ([.set id (.cells (l.flatMap enc) e true)],[.slice (some ⟨id,0,qs e⟩) l.length (l.length+1)]):=by
     show Cd cc e bytes (.slice (some ⟨id,0,qs e⟩) l.length (l.length+1)) x (zz aa h) h.length=_;unfold Cd;rw[t];simp only[ne_eq,not_true_eq_false,if_false];rw[bD p];simp only[ne_eq,not_true_eq_false,if_false];rw[g];simp only[Vj,Vf,Ah,if_true];unfold splice;have F:=ba (e:=e) (enc:=enc) (l:=l) λa _=>q a;simp[F]
    have A:bK h [.set id (.cells (l.flatMap enc) e true)]=h:=bq p;refine ce b ?_;rw[A];exact s _ _ (.inr ⟨id,l.length+1,by simp,C,by simpa using p,.inr (by simp)⟩) (u _ _ _) (λj o m _=>m) (Ah _) (.inl rfl)
   ·have b:(Hp.ap cc e bytes (.slice (some ⟨id,0,qs e⟩) l.length (l.length+1)) x).run (zz aa h) h.length=some ([.push (.cells ((l++new).flatMap enc) e true)],[.slice (some ⟨h.length,0,qs e⟩) (l.length+new.length) 0]):=by
     show Cd cc e bytes (.slice (some ⟨id,0,qs e⟩) l.length (l.length+1)) x (zz aa h) h.length=_;unfold Cd;rw[t];simp only[ne_eq,not_true_eq_false,if_false];rw[bD p];simp only[ne_eq,not_true_eq_false,if_false];rw[g];simp only[ra f];rw[mc z,w]
    refine ce b (s _ _ (.inr ⟨h.length,0,by rw[y],r,by simp[bK,Act1.onH],.inl rfl⟩) (u _ _ _) (λj o m _=>Pre.get ⟨_,rfl⟩ m) (by simp[bK,Act1.onH]) (.inr ⟨h.length,rfl,Ah _⟩))
def OwnL.ap1{bytes m:Nat}{a:α}{new:Tk}{n:To}{K:Ta}(b:∀a,(enc a).length=e)(A:OwnL n0 h v e enc l)(z:n0<=h.length)(y:m=h.length)(c:new=enc a)(i:n=some (e+10))(B:bb (l.length+1) bytes=true)
  (x:∀v' h',OwnL n0 h' v' e enc (l++[a])->aC v'=true->(∀(j:Nat) o,h[j]?=some o->Sx.blk v≠some j->h'[j]?=some o)->h.length<=h'.length->(Sx.blk v'=Sx.blk v∨∃j,Sx.blk v'=some j/\h.length<=j)->K [v'] h') :
  P1.heap (.ap cc e bytes v (.slice (some ⟨m,0,n⟩) 1 2)) (h++[.o (.cells new e true)]) (@hid _ ⟨K⟩):=by
 subst y c i;have g:OwnL n0 (h++[HO.o (.cells (enc a) e true)]) v e enc l:=A.app _;refine g.ap (new:=[a]) (k:=1) b (by simp;omega) ?_ rfl B λv' h' p q r s d=>x v' h' p q (λj o w u=>r j o (ik w) u) (by simp at s;omega) ?_
 ·have C:SlC (h++[HO.o (.cells (enc a) e true)]) (.slice (some ⟨h.length,0,qs e⟩) 1 2) e 1 (enc a):=⟨by rw[b,Ik],.inr ⟨h.length,0,2,enc a,true,rfl,az,Sx.cut_all (by rw[b,Ik])⟩⟩;have f:IQ cc e (zz aa (h++[HO.o (.cells (enc a) e true)])) (.slice (some ⟨h.length,0,qs e⟩) 1 2)=some ([a].flatMap enc,1):=by
   rw[qS C];simp
  exact f
 ·rcases d with d|⟨j,f,t⟩
  ·exact .inl d
  ·exact .inr ⟨j,f,by simp at t;omega⟩
end
def x4:XG 4 (f4 (hA P1)):=xx i4 e4
def x6:XG 6 (f6 (hA P1)):=xx i6 e6
def x7:XG 7 (f7 (hA P1)):=xx i7 e7
def u8:UG 8 (f8 (hA P1)):=uu i8 e8
def x8:XG 8 (f8 (hA P1)):=xx i8 e8
def x9:XG 9 (f9 (hA P1)):=xx i9 e9
def x10:XG 10 (f10 (hA P1)):=xx Rv e10
def x14:XG 14 (f14 (hA P1)):=xx i14 e14
def x15:XG 15 (f15 (hA P1)):=xx i15 e15
def u16:UG 16 (YO (hA P1)):=uu i16 e16
def x16:XG 16 (YO (hA P1)):=xx i16 e16
def u18:UG 18 (VH (hA P1)):=uu i18 e18
def q18:QG 18 (VH (hA P1)):=qq u18 rfl (by kernel_rfl)
def u20:UG 20 (f20 (hA P1)):=uu i20 e20
def x21:XG 21 (f21 (hA P1)):=xx i21 e21
def x22:XG 22 (f22 (hA P1)):=xx i22 e22
def x24:XG 24 (f24 (hA P1)):=xx i24 e24
def x25:XG 25 (f25 (hA P1)):=xx i25 e25
def x26:XG 26 (f26 (hA P1)):=xx i26 e26
def x27:XG 27 (f27 (hA P1)):=xx i27 e27
def u28:UG 28 (YS (hA P1)):=uu i28 e28
def q28:QG 28 (YS (hA P1)):=qq u28 rfl (by kernel_rfl)
def x29:XG 29 (f29 (hA P1)):=xx i29 e29
def u30:UG 30 (YT (hA P1)):=uu i30 e30
def q30:QG 30 (YT (hA P1)):=qq u30 rfl (by kernel_rfl)
def x31:XG 31 (f31 (hA P1)):=xx i31 e31
def u33:UG 33 (YU (hA P1)):=uu i33 e33
def q33:QG 33 (YU (hA P1)):=qq u33 rfl (by kernel_rfl)
def u34:UG 34 (YV (hA P1)):=uu i34 e34
def q34:QG 34 (YV (hA P1)):=qq u34 rfl (by kernel_rfl)
def x37:XG 37 (f37 (hA P1)):=xx i37 e37
def u38:UG 38 (YW (hA P1)):=uu i38 e38
def q38:QG 38 (YW (hA P1)):=qq u38 rfl (by kernel_rfl)
def x41:XG 41 (f41 (hA P1)):=xx i41 e41
def x42:XG 42 (f42 (hA P1)):=xx i42 e42
def x43:XG 43 (f43 (hA P1)):=xx i43 e43
def x44:XG 44 (f44 (hA P1)):=xx i44 e44
def x45:XG 45 (f45 (hA P1)):=xx i45 e45
def u46:UG 46 (YX (hA P1)):=uu i46 e46
def q46:QG 46 (YX (hA P1)):=qq u46 rfl (by kernel_rfl)
def u47:UG 47 (YY (hA P1)):=uu i47 e47
def q47:QG 47 (YY (hA P1)):=qq u47 rfl (by kernel_rfl)
def x48:XG 48 (f48 (hA P1)):=xx i48 e48
def x49:XG 49 (f49 (hA P1)):=xx i49 e49
def x50:XG 50 (f50 (hA P1)):=xx i50 e50
def u51:UG 51 (VI (hA P1)):=uu i51 e51
def q51:QG 51 (VI (hA P1)):=qq u51 rfl (by kernel_rfl)
def u53:UG 53 (VJ (hA P1)):=uu i53 e53
def q53:QG 53 (VJ (hA P1)):=qq u53 rfl (by kernel_rfl)
def x56:XG 56 (f56 (hA P1)):=xx i56 e56
def u57:UG 57 (YZ (hA P1)):=uu i57 e57
def q57:QG 57 (YZ (hA P1)):=qq u57 rfl (by kernel_rfl)
def u58:UG 58 (Y0 (hA P1)):=uu i58 e58
def q58:QG 58 (Y0 (hA P1)):=qq u58 rfl (by kernel_rfl)
def x59:XG 59 (f59 (hA P1)):=xx i59 e59
def x61:XG 61 (Y1 (hA P1)):=xx i61 e61
def u62:UG 62 (Y2 (hA P1)):=uu i62 e62
def q62:QG 62 (Y2 (hA P1)):=qq u62 rfl (by kernel_rfl)
def x63:XG 63 (f63 (hA P1)):=xx i63 e63
def u64:UG 64 (Y3 (hA P1)):=uu i64 e64
def q64:QG 64 (Y3 (hA P1)):=qq u64 rfl (by kernel_rfl)
def u65:UG 65 (Y4 (hA P1)):=uu i65 e65
def q65:QG 65 (Y4 (hA P1)):=qq u65 rfl (by kernel_rfl)
def x66:XG 66 (f66 (hA P1)):=xx i66 e66
def u67:UG 67 (VL (hA P1)):=uu i67 e67
def q67:QG 67 (VL (hA P1)):=qq u67 rfl (by kernel_rfl)
def x68:XG 68 (f68 (hA P1)):=xx i68 e68
def x69:XG 69 (f69 (hA P1)):=xx i69 e69
def x71:XG 71 (f71 (hA P1)):=xx i71 e71
def x72:XG 72 (f72 (hA P1)):=xx i72 e72
def x73:XG 73 (f73 (hA P1)):=xx i73 e73
def x74:XG 74 (f74 (hA P1)):=xx i74 e74
def x75:XG 75 (f75 (hA P1)):=xx i75 e75
def u76:UG 76 (Y5 (hA P1)):=uu i76 e76
def q76:QG 76 (Y5 (hA P1)):=qq u76 rfl (by kernel_rfl)
def x77:XG 77 (f77 (hA P1)):=xx i77 e77
def x78:XG 78 (Y6 (hA P1)):=xx i78 e78
def x79:XG 79 (Y7 (hA P1)):=xx i79 e79
def x80:XG 80 (Y8 (hA P1)):=xx i80 e80
def x81:XG 81 (Y9 (hA P1)):=xx i81 e81
def x82:XG 82 (Za (hA P1)):=xx i82 e82
def x83:XG 83 (Zb (hA P1)):=xx i83 e83
def u84:UG 84 (Zc (hA P1)):=uu i84 e84
def q84:QG 84 (Zc (hA P1)):=qq u84 rfl (by kernel_rfl)
def u85:UG 85 (Zd (hA P1)):=uu i85 e85
def q85:QG 85 (Zd (hA P1)):=qq u85 rfl (by kernel_rfl)
def u86:UG 86 (Ze (hA P1)):=uu i86 e86
def q86:QG 86 (Ze (hA P1)):=qq u86 rfl (by kernel_rfl)
def u87:UG 87 (Zf (hA P1)):=uu i87 e87
def q87:QG 87 (Zf (hA P1)):=qq u87 rfl (by kernel_rfl)
def u88:UG 88 (Zg (hA P1)):=uu i88 e88
def q88:QG 88 (Zg (hA P1)):=qq u88 rfl (by kernel_rfl)
def x89:XG 89 (f89 (hA P1)):=xx i89 e89
def x90:XG 90 (f90 (hA P1)):=xx i90 e90
def x91:XG 91 (f91 (hA P1)):=xx i91 e91
def u92:UG 92 (Zh (hA P1)):=uu i92 e92
def q92:QG 92 (Zh (hA P1)):=qq u92 rfl (by kernel_rfl)
def x93:XG 93 (f93 (hA P1)):=xx i93 e93
def u94:UG 94 (TW (hA P1)):=uu i94 e94
def q94:QG 94 (TW (hA P1)):=qq u94 rfl (by kernel_rfl)
def x95:XG 95 (f95 (hA P1)):=xx i95 e95
def u97:UG 97 (Zi (hA P1)):=uu i97 e97
def q97:QG 97 (Zi (hA P1)):=qq u97 rfl (by kernel_rfl)
def u98:UG 98 (Zj (hA P1)):=uu i98 e98
def q98:QG 98 (Zj (hA P1)):=qq u98 rfl (by kernel_rfl)
def x99:XG 99 (f99 (hA P1)):=xx i99 e99
def x100:XG 100 (Ou (hA P1)):=xx ZJ X8
def u101:UG 101 (Hq (hA P1)):=uu ZK X9
def q101:QG 101 (Hq (hA P1)):=qq u101 rfl (by kernel_rfl)
def u102:UG 102 (JP (hA P1)):=uu ZL Ya
def q102:QG 102 (JP (hA P1)):=qq u102 rfl (by kernel_rfl)
def u104:UG 104 (JQ (hA P1)):=uu ZM Yb
def q104:QG 104 (JQ (hA P1)):=qq u104 rfl (by kernel_rfl)
def x106:XG 106 (Ov (hA P1)):=xx ZN Yc
def x107:XG 107 (Ow (hA P1)):=xx ZO Yd
def x117:XG 117 (Ox (hA P1)):=xx ZP Ye
def x118:XG 118 (Oy (hA P1)):=xx ZQ Yf
def u119:UG 119 (JR (hA P1)):=uu ZR Yg
def q119:QG 119 (JR (hA P1)):=qq u119 rfl (by kernel_rfl)
def x120:XG 120 (Oz (hA P1)):=xx ZS Yh
def u121:UG 121 (JT (hA P1)):=uu ZT Yi
def q121:QG 121 (JT (hA P1)):=qq u121 rfl (by kernel_rfl)
def x122:XG 122 (OA (hA P1)):=xx ZU Yj
def u123:UG 123 (JU (hA P1)):=uu ZV Yk
def q123:QG 123 (JU (hA P1)):=qq u123 rfl (by kernel_rfl)
def u124:UG 124 (JV (hA P1)):=uu ZW Yl
def q124:QG 124 (JV (hA P1)):=qq u124 rfl (by kernel_rfl)
def u125:UG 125 (Hr (hA P1)):=uu ZX Ym
def q125:QG 125 (Hr (hA P1)):=qq u125 rfl (by kernel_rfl)
def u126:UG 126 (JW (hA P1)):=uu ZY Yn
def q126:QG 126 (JW (hA P1)):=qq u126 rfl (by kernel_rfl)
def u127:UG 127 (DR (hA P1)):=uu ZZ Yo
def PW:QG 127 (DR (hA P1)):=qq u127 rfl (by kernel_rfl)
def x128:XG 128 (OB (hA P1)):=xx Z0 Yp
def x129:XG 129 (OC (hA P1)):=xx Z1 Yq
def u131:UG 131 (JX (hA P1)):=uu Z2 Yr
def q131:QG 131 (JX (hA P1)):=qq u131 rfl (by kernel_rfl)
def u132:UG 132 (JY (hA P1)):=uu Z3 Ys
def q132:QG 132 (JY (hA P1)):=qq u132 rfl (by kernel_rfl)
def u133:UG 133 (Hs (hA P1)):=uu Z4 Yt
def q133:QG 133 (Hs (hA P1)):=qq u133 rfl (by kernel_rfl)
def u136:UG 136 (JZ (hA P1)):=uu Z5 Yu
def q136:QG 136 (JZ (hA P1)):=qq u136 rfl (by kernel_rfl)
def u137:UG 137 (J0 (hA P1)):=uu Z6 Yv
def q137:QG 137 (J0 (hA P1)):=qq u137 rfl (by kernel_rfl)
def x138:XG 138 (OD (hA P1)):=xx Z7 Yw
def x144:XG 144 (OE (hA P1)):=xx Z8 Yx
def x152:XG 152 (OG (hA P1)):=xx Z9 Yy
def x160:XG 160 (OH (hA P1)):=xx i160 Yz
def x169:XG 169 (OI (hA P1)):=xx i169 YA
def u172:UG 172 (J1 (hA P1)):=uu i172 YB
def q172:QG 172 (J1 (hA P1)):=qq u172 rfl (by kernel_rfl)
def u173:UG 173 (J2 (hA P1)):=uu i173 YC
def q173:QG 173 (J2 (hA P1)):=qq u173 rfl (by kernel_rfl)
def x174:XG 174 (OJ (hA P1)):=xx i174 YD
def u175:UG 175 (J3 (hA P1)):=uu i175 YE
def q175:QG 175 (J3 (hA P1)):=qq u175 rfl (by kernel_rfl)
end Go.Am
namespace Go.Am
namespace Sx
section
variable [Val]
end
section
variable [Val]
end
end Sx
end Go.Am
namespace Go.Am
open Sx Go.Proofs
def HK{g n:Nat}{ls a:TB}{sg:Sig}(e:ab g=some sg)(d:sg.plain=true)(hg:jO ls=true)(h:Eh n (.f g) ls .empty DA=some a):∀H,aD cc ab g ls H a H:=by
 obtain⟨i,j,c,b⟩:=(wp n).f g ls .empty DA a (fS hg) h;rw[GN]at b;cases b;exact yf g sg ls _ _ e d c
def FQ(a:TB):Option (TB)->Bool:=λo=>@Option.rec _ (λ_=>Bool) false (λb=>Oh b a) o
def ir{g n:Nat}{ls a:TB}{sg:Sig}(d:ab g=some sg)(c:sg.plain=true)(hg:jO ls=true)(h:FQ a (Eh n (.f g) ls .empty DA)=true):∀H,aD cc ab g ls H a H:=by
 cases e:Eh n (.f g) ls .empty DA with
 |none=>rw[e]at h;cases h
 |some b=>
  rw[e]at h;have h:Oh b a=true:=h;rw[qg h]at e;exact HK d c hg e
end Go.Am
end
