/- Joined texts: ShortP, DoP, MayW. -/
import Derived.Test.YtkmcengmglgdeaaGreatDoorSPlanForS
import Derived.Test.YtkmcengmglgdeaaGreatDoorSBack
import Derived.Test.YtkmcengmglgdeaaGreatDoorSEndActs

namespace Go.Proofs.YtkmcengmglgdeaaGreatDoor
set_option linter.unusedVariables false
set_option linter.unusedSimpArgs false
set_option maxRecDepth 100000
set_option maxHeartbeats 8000000
def lastTo (f:Nat→Int) (a:Nat):Nat→Nat
 |0=>a
 |n+1=>if n+1≤a then a else if f (n+1)=f a then n+1 else lastTo f a n
theorem zZ (f:Nat→Int) (a:Nat):∀n,n≤a→lastTo f a n=a:=fun n h=>by
 cases n with
 |zero=>rfl
 |succ n=>simp[lastTo,h]
theorem zf (f:Nat→Int) (a:Nat):∀n,a≤n→a≤lastTo f a n∧lastTo f a n≤n∧f (lastTo f a n)=f a∧∀j,lastTo f a n<j→j≤n→f j≠f a:=fun n=>by
 induction n with
 |zero=>intro h;obtain rfl:a=0:=by omega
        exact⟨ay _,ay _,rfl,fun j h1 h2=>by unfold lastTo at h1;omega⟩
 |succ n ih=>
  intro h
  unfold lastTo
  by_cases h1:n+1≤a
  ·rw[if_pos h1];exact⟨ay _,h,rfl,fun j h2 h3=>by omega⟩
  ·rw[if_neg h1]
   by_cases h2:f (n+1)=f a
   ·rw[if_pos h2];exact⟨h,ay _,h2,fun j h3 h4=>by omega⟩
   ·rw[if_neg h2];obtain⟨k1,k2,k3,k4⟩:=ih (by omega);refine⟨k1,by omega,k3,fun j h3 h4=>?_⟩
    by_cases hj:j=n+1
    ·subst hj;exact h2
    ·exact k4 j h3 (by omega)
theorem zh {f:Nat→Int} {a n m:Nat} (h1:a≤m) (h2:m≤n) (h3:f m=f a) (h4:∀j,m<j→j≤n→f j≠f a):lastTo f a n=m:=by
 obtain⟨k1,k2,k3,k4⟩:=zf f a n (by omega)
 rcases Nat.lt_trichotomy (lastTo f a n) m with h | h | h
 ·exact absurd h3 (k4 m h h2)
 ·exact h
 ·exact absurd k3 (h4 _ h k2)
def prun (t:aB) (p:List Int) (j:Nat):Int:=aF t t.start (p.take j)
def cutAt (t:aB) (p:List Int) (a:Nat):List Int:=p.take a++p.drop (lastTo (prun t p) a p.length)
def iW (t:aB) (p:List Int):Nat→List Int
 |0=>p
 |n+1=>cutAt t (iW t p n) n
def eU (t:aB) (p:List Int):Option (List Int):=if aF t t.start p<0 then none else some (iW t p 41)
theorem wM (t:aB) (p:List Int) (a:Nat) (h:p.length≤a):cutAt t p a=p:=by
 unfold cutAt;rw[zZ _ _ _ h,List.take_append_drop]
theorem wO (t:aB) (p:List Int) (a:Nat) (h:∀j,a<j→j≤p.length→prun t p j≠prun t p a):cutAt t p a=p:=by
 rcases Nat.lt_or_ge p.length a with h1 | h1
 ·exact wM t p a (by omega)
 ·unfold cutAt
  rw[zh (ay a) h1 rfl h,List.take_append_drop]
theorem QC (t:aB) (p:List Int) (a:Nat):(cutAt t p a).length≤p.length:=by
 unfold cutAt
 rcases Nat.lt_or_ge p.length a with h1 | h1
 ·rw[zZ _ _ _ (by omega)];simp
 ·have:=(zf (prun t p) a p.length h1).1
  simp;omega
theorem Cm (t:aB) (p:List Int) (n:Nat):(iW t p n).length≤p.length:=by
 induction n with
 |zero=>exact ay _
 |succ n ih=>exact Nat.le_trans (QC ..) ih
theorem CJ (t:aB) (p:List Int) {j:Nat} (h:p.length≤j):prun t p j=aF t t.start p:=by unfold prun;rw[dJ h]
theorem mD {t:aB} {s:Int} {p:List Int} (h:0≤aF t s p) (j:Nat):0≤aF t s (p.take j)∧∀q,p.length≤40→q.length+min j p.length≤40→aF t s (p.take j++q)=aF t (aF t s (p.take j)) q:=by
 obtain⟨h1,h2,h3,-⟩:=(eF t s p).1 h;have e:aF t s p=opt (kT t s.toNat p):=if_pos ⟨h1,h2,h3⟩;rw[e] at h;obtain⟨z,hz⟩:=oP.1 h;have hz':=hz;rw[←List.take_append_drop j p,qh] at hz;obtain⟨y,hy,hz⟩:=Option.bind_eq_some_iff.1 hz
 have ej:aF t s (p.take j)=(y:Nat):=by
  unfold aF
  rw[if_pos ⟨h1,h2,by simp;omega⟩,hy];rfl
 have hs:=(aU _).1 h2;have hy32:y<32:=Bv t _ _ y h1 (by omega) hy;refine⟨by rw[ej];omega,fun q hp hq=>?_⟩;rw[ej]
 unfold aF
 rw[if_pos ⟨h1,h2,by simp;omega⟩,if_pos ⟨h1,(aU _).2 (by omega),by omega⟩,qh,hy]
 rfl
theorem CO {t:aB} {p:List Int} (h:0≤aF t t.start p) {a m:Nat} (ham:a≤m) (hm:m≤p.length) (e:prun t p m=prun t p a):∀j,prun t (p.take a++p.drop m) j=if j≤a then prun t p j else prun t p (j-a+m):=fun j=>by
 obtain⟨h1,h2,h3,-⟩:=(eF t t.start p).1 h
 by_cases hj:j≤a
 ·rw[if_pos hj]
  unfold prun
  rw[List.take_append_of_le_length (by simp;omega),List.take_take,Nat.min_eq_left hj]
 ·rw[if_neg hj];have hl:(p.take a).length=a:=by simp;omega
  have e1:(p.take a++p.drop m).take j=p.take a++(p.drop m).take (j-a):=by
   rw[List.take_append,hl,dJ (by omega)]
  have e2:p.take (j-a+m)=p.take m++(p.drop m).take (j-a):=by
   rw[Nat.add_comm,List.take_add]
  unfold prun at e ⊢
  have VP:((p.drop m).take (j-a)).length≤p.length-m:=by simp;omega
  rw[e1,e2,(mD h a).2 _ (by omega) (by omega),(mD h m).2 _ (by omega) (by omega),e]
theorem QD {t:aB} {p:List Int} (h:0≤aF t t.start p) (a:Nat):aF t t.start (cutAt t p a)=aF t t.start p:=by
 rcases Nat.lt_or_ge p.length a with h1 | h1
 ·rw[wM t p a (by omega)]
 ·obtain⟨k1,k2,k3,k4⟩:=zf (prun t p) a p.length h1
  have:=CO h k1 k2 k3 (cutAt t p a).length
  rw[show p.take a++p.drop (lastTo (prun t p) a p.length)=cutAt t p a from rfl,CJ t _ (ay _)] at this;rw[this];have hl:(cutAt t p a).length=a+(p.length-lastTo (prun t p) a p.length):=by unfold cutAt;simp;omega
  by_cases hj:(cutAt t p a).length≤a
  ·rw[if_pos hj,show(cutAt t p a).length=a by omega,←k3,show lastTo (prun t p) a p.length=p.length by omega,CJ t p (ay _)]
  ·rw[if_neg hj,hl,CJ t p (by omega)]
theorem wL {t:aB} {p:List Int} (h:0≤aF t t.start p) (n:Nat):aF t t.start (iW t p n)=aF t t.start p:=by
 induction n with
 |zero=>rfl
 |succ n ih=>exact(QD (by rw[ih];exact h) n).trans ih
def rG (t:aB) (p:List Int) (a:Nat):Prop:=∀i,i<a→∀j,i<j→j≤p.length→prun t p j≠prun t p i
theorem Nh {t:aB} {p q:List Int} {a:Nat} (h:iW t p a=q) (hq:rG t q (q.length+1)):∀n,iW t p (a+n)=q:=fun n=>by
 induction n with
 |zero=>exact h
 |succ n ih=>
  rw[show a+(n+1)=(a+n)+1 by omega];simp only[iW];rw[ih];refine wO t q _ fun j h1 h2=>hq _ (by omega) j h1 h2
theorem QE {t:aB} {p q:List Int} {a f:Nat} (h:iW t p a=q) (hf:a≤f) (hc:rG t q f):iW t p f=q:=by
 obtain⟨n,rfl⟩:=Nat.le.dest hf;clear hf
 induction n with
 |zero=>exact h
 |succ n ih=>
  have:=ih (fun i hi=>hc i (by omega))
  rw[show a+(n+1)=(a+n)+1 by omega];simp only[iW];rw[this];exact wO t q _ fun j h1 h2=>hc _ (by omega) j h1 h2
theorem QF {t:aB} {q:List Int} (h:0≤aF t t.start q) {f l:Nat} (hfl:f<l) (hl:l≤q.length) (e:prun t q l=prun t q f) (hc:rG t q f) (hlast:∀j,l<j→j≤q.length→prun t q j≠prun t q f):
  cutAt t q f=q.take f++q.drop l∧rG t (q.take f++q.drop l) (f+1):=by
 have e1:lastTo (prun t q) f q.length=l:=zh (by omega) hl e hlast;refine⟨by unfold cutAt;rw[e1],fun i hi j hij hj=>?_⟩;have hp:=CO h (by omega:f≤l) hl e;have hlen:(q.take f++q.drop l).length=f+(q.length-l):=by simp;omega
 rw[hp j,hp i,if_pos (by omega:i≤f)]
 by_cases hjf:j≤f
 ·rw[if_pos hjf];exact hc i (by omega) j hij (by omega)
 ·rw[if_neg hjf]
  by_cases hif:i=f
  ·subst hif;exact hlast _ (by omega) (by omega)
  ·exact hc i (by omega) _ (by omega) (by omega)
def vO (ds:List aj) (s:Nat) (n:Nat):List Int:=((List.range n).filter fun k=>((ds[k]?).bind (aX · s)).isSome).map fun k=>((k:Nat):Int)
def dG (t:aB) (s:Int):List Int:=if aK t&&ig s then vO t.ax s.toNat t.ax.length else []
theorem FO (ds:List aj) (s n:Nat):vO ds s (n+1)=vO ds s n++(if((ds[n]?).bind (aX · s)).isSome then [((n:Nat):Int)] else []):=by
 unfold vO
 rw[List.range_succ,List.filter_append,List.map_append]
 congr 1
 by_cases h:((ds[n]?).bind (aX · s)).isSome=true
 ·rw[if_pos h,List.filter_cons_of_pos (by exact h)];rfl
 ·rw[if_neg h,List.filter_cons_of_neg (by exact h)];rfl
theorem J5 {ds:List aj} {s n:Nat} {x:Int}:x∈vO ds s n↔∃k:Nat,x=(k:Int)∧k<n∧∃s',(ds[k]?).bind (aX · s)=some s':=by
 unfold vO
 simp only[List.mem_map,List.mem_filter,List.mem_range,Option.isSome_iff_exists]
 constructor
 ·rintro⟨k,⟨h1,h2⟩,rfl⟩;exact⟨k,rfl,h1,h2⟩
 ·rintro⟨k,rfl,h1,h2⟩;exact⟨k,⟨h1,h2⟩,rfl⟩
theorem Ua (ds:List aj) (s n:Nat):(vO ds s n).length≤n:=by
 unfold vO
 rw[List.length_map];exact Nat.le_trans (List.length_filter_le ..) (by simp)
theorem xI (t:aB) (s:Int):(dG t s).length≤6:=by
 unfold dG
 split
 ·next h=>
  simp only[Bool.and_eq_true] at h;exact Nat.le_trans (Ua ..) (aJ t h.1).2.2.1
 ·simp
theorem EI {t:aB} {s x:Int} (h:x∈dG t s):∃s',lK t s.toNat x=some s':=by
 unfold dG at h
 split at h
 ·obtain⟨k,rfl,h1,s',h2⟩:=J5.1 h;exact⟨s',by unfold lK;rw[if_pos ⟨by omega,by omega⟩,dD];exact h2⟩
 ·cases h
theorem Aa {t:aB} {s x:Int} (h:x∈dG t s):0≤x∧x<6:=by
 have h0:=h
 unfold dG at h
 split at h
 ·next hh=>
  simp only[Bool.and_eq_true] at hh
  have:=(aJ t hh.1).2.2.1
  obtain⟨k,rfl,h1,-⟩:=J5.1 h
  omega
 ·cases h
def sK:aI:=⟨⟨0,[],[]⟩,[],0⟩
def aY (b:aI) (a:iC):Option (List Int):=
 if a.kind=0 then(if b.done.length<40∧a.number∈dG b.order b.state then some (b.done++[a.number]) else none)
 else if a.kind=1 then(if 1≤a.number∧a.number≤b.done.length then some (b.done.take (b.done.length-a.number.toNat)) else none)
 else if a.kind=2 then(if a.number=0∧((eU b.order b.done).getD []).length<b.done.length then some ((eU b.order b.done).getD []) else none)
 else if a.kind=3 then(if a.number=0∧0<((dF b).getD []).length∧b.done.length+((dF b).getD []).length≤40 then some (b.done++(dF b).getD []) else none)
 else none
def eH (b:aI) (d:List Int):aI:=⟨b.order,d,aF b.order b.order.start d⟩
def jl (b:aI) (a:iC):aI:=if aP b then(match aY b a with | some d=>eH b d | none=>b) else sK
def fU (b:aI) (a:iC):Bool:=aP b&&(aY b a).isSome
theorem eu {b:aI} (h:aP b=true):eH b b.done=b:=by
 obtain⟨-,-,-,h4⟩:=bH h
 unfold eH;rw[h4]
theorem QB {o:aB} {d:List Int} (h:0≤aF o o.start d):aP ⟨o,d,aF o o.start d⟩=true:=by
 obtain⟨h1,h2,h3,h4⟩:=(eF o o.start d).1 h
 unfold aP
 simp only[h1,decide_eq_true h3,Bool.true_and,beq_self_eq_true,Bool.and_true];exact(aU _).2 ⟨h,h4⟩
theorem zY {t:aB} {p q:List Int} (h:0≤aF t t.start p) (hl:p.length+q.length≤40):aF t t.start (p++q)=aF t (aF t t.start p) q:=by
 obtain⟨h1,h2,h3,-⟩:=(eF t t.start p).1 h
 have:=(mD h p.length).2 q h3 (by rw[Nat.min_self];omega)
 rwa[dJ (ay _)] at this
theorem JY {t:aB} {s x:Int} (h:x∈dG t s):0≤aF t s [x]:=by
 obtain⟨s',hs'⟩:=EI h
 unfold dG at h
 split at h
 ·next hh=>
  simp only[Bool.and_eq_true] at hh
  unfold aF
  rw[if_pos ⟨hh.1,hh.2,by simp⟩];simp only[kT,hs',Option.bind_some,opt]
  omega
 ·cases h
theorem qi {t:aB} {p:List Int} (h:dK t=some p):p.length≤31∧0≤aF t t.start p∧aH t.goal (aF t t.start p).toNat=true:=by
 obtain⟨h1,-,h3,s,h4,h5⟩:=rF h
 have e:aF t t.start p=(s:Nat):=by
  unfold aF
  rw[if_pos ⟨h1,(aU _).2 (aJ t h1).1,by omega⟩,h4];rfl
 refine⟨h3,by rw[e];omega,?_⟩;rw[e,dD];exact h5.2
theorem fJ {b:aI} (h:aK b.order=true) (hs:0≤b.state∧b.state<32):aK (dB b)=true:=by
 unfold aK dB at*
 simp only[Bool.and_eq_true] at h ⊢
 exact⟨⟨⟨(aU _).2 hs,h.1.1.2⟩,h.1.2⟩,h.2⟩
theorem Ic {b:aI} (h:aK b.order=true) (hs:0≤b.state∧b.state<32) (p:List Int):aF (dB b) b.state p=aF b.order b.state p:=by
 have hk:=fJ h hs
 have e:∀(p:List Int) (s:Nat),kT (dB b) s p=kT b.order s p:=fun p=>by
  induction p with
  |nil=>intro s;rfl
  |cons k p ih=>
   intro s;simp only[kT];rw[show lK (dB b) s k=lK b.order s k from rfl]
   congr 1
   funext s'
   exact ih s'
 unfold aF
 simp only[hk,h,e]
theorem ug {b:aI} {r:List Int} (h:dF b=some r):aP b=true∧r.length≤31∧0≤aF b.order b.state r∧aH b.order.goal (aF b.order b.state r).toNat=true:=by
 cases hb:aP b with
 |false=>rw[wK b hb] at h;cases h
 |true=>
  rw[uh b hb] at h;obtain⟨h1,-,h3,-⟩:=bH hb;obtain⟨k1,k2,k3⟩:=qi h;rw[show(dB b).start=b.state from rfl,Ic h1 h3] at k2 k3;exact⟨rfl,k1,k2,k3⟩
theorem mr {b:aI} (h:aP b=true):eU b.order b.done=some (iW b.order b.done 41):=by
 obtain⟨-,-,h3,h4⟩:=bH h
 unfold eU
 rw[if_neg (by omega)]
theorem qx {b:aI} {a:iC} {d:List Int} (hb:aP b=true) (h:aY b a=some d):0≤aF b.order b.order.start d:=by
 obtain⟨h1,h2,h3,h4⟩:=bH hb
 unfold aY at h
 split at h
 ·split at h
  ·next hc=>
   injection h with h;subst h
   rw[zY (by omega) (by simp;omega),h4];exact JY hc.2
  ·cases h
 ·split at h
  ·split at h
   ·injection h with h;subst h
    exact(mD (by omega) _).1
   ·cases h
  ·split at h
   ·split at h
    ·injection h with h;subst h
     rw[mr hb,Option.getD_some,wL (by omega)];omega
    ·cases h
   ·split at h
    ·split at h
     ·next hc=>
      injection h with h;subst h
      cases hr:dF b with
      |none=>rw[hr] at hc;simp at hc
      |some r=>
       rw[hr] at hc;simp only[Option.getD_some] at hc ⊢
       rw[zY (by omega) (by omega),h4];exact(ug hr).2.2.1
     ·cases h
    ·cases h
theorem Ey {b:aI} {a:iC} {d:List Int} (hb:aP b=true) (h:aY b a=some d):d.length≤40:=((eF _ _ _).1 (qx hb h)).2.2.1
theorem JZ {b:aI} {a:iC} {d:List Int} (hb:aP b=true) (h:aY b a=some d):aP (eH b d)=true:=QB (qx hb h)
theorem FK {b:aI} (a:iC) (hb:aP b=true):aP (jl b a)=true:=by
 unfold jl
 rw[if_pos hb]
 cases h:aY b a with
 |none=>exact hb
 |some d=>exact JZ hb h
theorem xH {b:aI} (a:iC) (hb:aP b=true):(jl b a).order=b.order:=by
 unfold jl
 rw[if_pos hb]
 cases h:aY b a with
 |none=>rfl
 |some d=>rfl
theorem jD {b:aI} {a:iC} {d:List Int} (hb:aP b=true) (h:aY b a=some d):jl b a=eH b d∧fU b a=true:=by
 unfold jl fU;rw[if_pos hb,hb,h];exact⟨rfl,rfl⟩
theorem fA {b:aI} {a:iC} (hb:aP b=true) (h:aY b a=none):jl b a=b∧fU b a=false:=by
 unfold jl fU;rw[if_pos hb,hb,h];exact⟨rfl,rfl⟩
theorem BL {b:aI} {a:iC} (hb:aP b=false):jl b a=sK∧fU b a=false:=by
 unfold jl fU;rw[if_neg (by rw[hb];simp),hb];exact⟨rfl,rfl⟩
def oh:aI→List iC→aI×Nat
 |b,[]=>(b,0)
 |b,a::as'=>let r:=oh (jl b a) as';(r.1,r.2+(if fU b a then 1 else 0))
def runK (b:aI) (aa:List iC) (k:Nat):aI×Nat:=oh b (aa.take k)
def gX (b:aI) (aa:List iC):aI×Nat:=if aP b&&decide (aa.length≤40) then oh b aa else(sK,0)
theorem J3 (b:aI) (p q:List iC):oh b (p++q)=((oh (oh b p).1 q).1,(oh b p).2+(oh (oh b p).1 q).2):=by
 induction p generalizing b with
 |nil=>simp[oh]
 |cons a p ih=>
  simp only[List.cons_append,oh];rw[ih];simp only[Prod.mk.injEq,true_and]
  omega
theorem FM (b:aI) (aa:List iC):runK b aa 0=(b,0):=by simp[runK,oh]
theorem FN {b:aI} {aa:List iC} {k:Nat} {a:iC} (h:aa[k]? =some a):runK b aa (k+1)=(jl (runK b aa k).1 a,(runK b aa k).2+(if fU (runK b aa k).1 a then 1 else 0)):=by
 obtain⟨h1,h2⟩:=aW.1 h
 unfold runK
 rw[List.take_succ_eq_append_getElem h1,h2,J3]
 simp[oh]
theorem J4 (b:aI) (aa:List iC) {k:Nat} (h:aa.length≤k):runK b aa k=oh b aa:=by unfold runK;rw[dJ h]
theorem Ie {b:aI} (aa:List iC) (hb:aP b=true):aP (oh b aa).1=true∧(oh b aa).1.order=b.order∧(oh b aa).2≤aa.length:=by
 induction aa generalizing b with
 |nil=>exact⟨hb,rfl,ay _⟩
 |cons a aa ih=>
  obtain⟨h1,h2,h3⟩:=ih (FK a hb);simp only[oh,bM];refine⟨h1,h2.trans (xH a hb),?_⟩
  split<;>omega
theorem vz {b:aI} (aa:List iC) (k:Nat) (hb:aP b=true):aP (runK b aa k).1=true∧(runK b aa k).1.order=b.order∧(runK b aa k).2≤aa.length:=by
 obtain⟨h1,h2,h3⟩:=Ie (aa.take k) hb;exact⟨h1,h2,Nat.le_trans h3 (by simp;omega)⟩
open Go.ChangeShapes Go.WideShapes Go.ChangeAt Go.RowKit
def oz (d:aj) (s:Int):Int:=if bJ d=true∧ig s=true then opt (aX d s.toNat) else -1
theorem uJ (t:aB) (s:Int) (h:aK t=false∨ig s=false):dG t s=[]:=by
 unfold dG;rw[if_neg];rcases h with h | h<;>simp[h]
theorem IG (t:aB) (s:Nat) (h:aK t=true) (h':s<32):dG t (s:Int)=vO t.ax s t.ax.length:=by
 unfold dG;rw[if_pos (by rw[h,(aU _).2 ⟨by omega,by omega⟩];rfl),dD]
theorem Gf {ds:List aj} {s k:Nat} {d:aj} (hd:ds[k]? =some d) (h:aX d s=none):vO ds s (k+1)=vO ds s k:=by
 rw[FO,hd];simp[h]
theorem Gg {ds:List aj} {s k s':Nat} {d:aj} (hd:ds[k]? =some d) (h:aX d s=some s'):vO ds s (k+1)=vO ds s k++[((k:Nat):Int)]:=by
 rw[FO,hd];simp[h]
theorem vV (v:Value) (t:aB) (s:Int) (w:World) (h:nI w w.heap.size v t):
  Calls Tryz.prog 116 #[v,.int .i64 s] w (Gives w id fun v=>[aA v (dG t s)]):=by
 have h':=h;obtain⟨G,gn,gc,G',n',c',rfl,hg,hgs,hds,hst⟩:=h;have HT:=af h';have yM:=af hds;have fF:=af hds.len;have aQ:=af ((St.refl w).alloc #[.int .i64 t.start,.slice G gn gc,.slice G' n' c'] 26);obtain⟨bo,hok⟩:∃b,aK t=b:=⟨_,rfl⟩;have bC:=af hok;obtain⟨bs,hsi⟩:∃b,ig s=b:=⟨_,rfl⟩;have En:=af hsi;clear hok hsi hds h' hg
 cases bo with
 |false=>
  have HN:=Bx.mk (uJ t s (.inl bC.out));go_enter Tryz.func116,Tryz.ntmps116
  go_wp2_with fail
  refine(bV _ t _ (HT.out.up aQ.out.below)).mono ?_;rw[bC.out];rintro e w1 ⟨rfl,hb1⟩;have HB:=af (aQ.out.quiet hb1).below;clear hb1;go_wp2;go_ret;refine⟨_,rfl,?_⟩;rw[HN.out];exact iE _ _ HB.out
 |true=>
  cases bs with
  |false=>
   have HN:=Bx.mk (uJ t s (.inr En.out));go_enter Tryz.func116,Tryz.ntmps116
   go_wp2_with fail
   refine(bV _ t _ (HT.out.up aQ.out.below)).mono ?_;rw[bC.out];rintro e w1 ⟨rfl,hb1⟩;have HB:=af (aQ.out.quiet hb1).below;clear hb1
   go_wp2_with fail
   refine(dH s _).mono ?_;rw[En.out];rintro e w2 ⟨rfl,rfl⟩;go_wp2;go_ret;refine⟨_,rfl,?_⟩;rw[HN.out];exact iE _ _ HB.out
  |true=>
   obtain⟨hs0,hs1⟩:=(aU s).1 En.out;obtain⟨s,rfl⟩:=bI hs0;have hs:s<32:=by omega
   obtain⟨-,-,oq,iq⟩:=aJ t bC.out;have gU:=af iq;have xK:n'≤6:=by rw[←fF.out];exact oq
   have HY:=Bx.mk (IG t s bC.out hs);clear iq hs0 hs1 oq;go_enter Tryz.func116,Tryz.ntmps116
   go_wp2_with fail
   refine(bV _ t _ (HT.out.up aQ.out.below)).mono ?_;rw[bC.out];rintro e w1 ⟨rfl,hb1⟩;have bG:=af (aQ.out.quiet hb1);clear hb1
   go_wp2_with fail
   refine(dH (s:Int) _).mono ?_;rw[En.out];rintro e w2 ⟨rfl,rfl⟩;have q1:=bG.out.cells 0 rfl;have HS2:Hid (St w w1 [ah w.heap.size 26 #[.int .i64 t.start,.slice G gn gc,.slice G' n' c'],aA (.slice none 0 0) []]):=af (bG.out.call (iE _ _ (ai _ _)));go_wp2
   go_loopw [19,5] (fun i ov wr=>∃(k:Nat) (x5:Value) (ys:List Int),k≤n'∧i= .int .i64 k∧x5=ov∧ys.length≤k∧Bx (vO t.ax s k=ys)∧St w wr [ah w.heap.size 26 #[.int .i64 t.start,.slice G gn gc,.slice G' n' c'],aA x5 ys]) (fun i _ _=>n'-(intOf i).toNat)
   case atStart=>exact⟨0,_,[],by omega,rfl,rfl,by simp,Bx.mk rfl,HS2.out⟩
   case round=>
    clear HS2 bG aQ q1;obtain⟨k,x5,ys,hk,rfl,rfl,hyl,HM,S⟩:=hrel;have HS:=af S;clear S
    by_cases hlt:k<n'
    ·obtain⟨b,off,d,rfl,hb,hd,hda⟩:=yM.out.get hlt;obtain⟨An,nn,cn,p0,p1,p2,p3,bW,hnn,-⟩:=hda;have r0:wr.cell? ⟨b,off+k*4,none⟩=some (.slice An nn cn):=(aC HS.out.below b _ hb).trans p0;have r1:wr.cell? ⟨b,off+k*4+1,none⟩=some (.int .i64 d.on):=(aC HS.out.below b _ hb).trans p1;have r2:wr.cell? ⟨b,off+k*4+2,none⟩=some (.int .i64 d.off):=(aC HS.out.below b _ hb).trans p2;have r3:wr.cell? ⟨b,off+k*4+3,none⟩=some (.int .i64 d.flip):=(aC HS.out.below b _ hb).trans p3;have L8:=af (gU.out d (bU hd));have HDK:=af hd;have J8:=af bW;have dV:=af ((HS.out.alloc #[.slice An nn cn,.int .i64 d.on,.int .i64 d.off,.int .i64 d.flip] 144).pick [0,1] (by decide) rfl rfl);clear p0 p1 p2 p3 bW hd HS;obtain⟨o,ho⟩:∃o,aX d s=o:=⟨_,rfl⟩;have HO:=af ho;clear ho
     go_wp2_with fail
     refine(mF An nn cn d s _ (J8.out.up dV.out.below) L8.out hs).mono ?_;rw[HO.out];rintro e w3 ⟨rfl,hb3⟩;have iM:=af (dV.out.quiet hb3);clear hb3 dV r0 r1 r2 r3
     cases o with
     |none=>
      have gY:=Bx.mk ((Gf HDK.out HO.out).trans HM.out);simp only[opt];go_wp2
      go_roundw
      case rel=>exact⟨k+1,_,ys,by omega,by go_num,rfl,by omega,gY,iM.out⟩
      case measure=>simp[intOf];omega
     |some z=>
      have gY:Bx (vO t.ax s (k+1)=ys++[(k:Int)]):=Bx.mk (by rw[Gg HDK.out HO.out,HM.out]);simp only[opt];have qy:=af (iM.out.rU 1 rfl)
      have QG:Hid (∀v3 w3',w3'.ownsRow 0 3 1 v3 (ys.length+1) (ints ys++[Value.int .i64 (k:Int)])→(w3.alloc (.cells #[.int .i64 (k:Int)] 3)).grownBy w3' x5.ownBlock→(v3.ownBlock=x5.ownBlock∨v3.ownBlock=some (w3.alloc (.cells #[.int .i64 (k:Int)] 3)).heap.size)→
        St w w3' [ah w.heap.size 26 #[.int .i64 t.start,.slice G gn gc,.slice (some ⟨b,off,none⟩) n' c'],aA v3 (ys++[(k:Int)])]):=
       af fun v3 w3' h1 h2 h3=>St.vP (v:=x5) (xs:=ys) (ys:=[(k:Int)]) ((iM.out.alloc #[.int .i64 (k:Int)] 3).pick [0,1] (by decide) rfl rfl) 1 rfl rfl h1 (by intro y hy;simp at hy;subst hy;exact dU (by omega)) h2 h3
      go_wp2_with (at_builtin;refine dX jv rfl _ _ rfl 0 x5 ys.length (ints ys) rfl (qy.out.alloc _) _ _ 1 1 [.int .i64 (k:Int)] rfl (bQ.new w3 [.int .i64 (k:Int)] 3 1 1 rfl (by unfold maxLen;omega)) (by simp[Value.oneCell']) (by omega) (by omega) (Nat.zero_le _) ?_;intro v4 w4 hown4 hg4 EM;have oJ:=af (QG.out v4 w4 hown4 hg4 EM))
      go_wp2
      go_roundw
      case rel=>exact⟨k+1,_,ys++[(k:Int)],by omega,by go_num,rfl,by simp;omega,gY,oJ.out⟩
      case measure=>simp[intOf];omega
    ·obtain rfl:k=n':=by omega
     have HE:Bx (dG t (s:Int)=ys):=Bx.mk (by rw[HY.out,fF.out,HM.out]);go_wp2;go_ret;refine⟨_,rfl,?_⟩;rw[HE.out];exact HS.out.pick [1] (by decide) rfl rfl
theorem KF (A:Option Addr) (n c:Nat) (d:aj) (s:Int) (w:World) (h:iO .i64 w w.heap.size A n c d.need) (kY:n≤1099511627776):
  Calls Tryz.prog 122 #[.agg #[.slice A n c,.int .i64 d.on,.int .i64 d.off,.int .i64 d.flip],.int .i64 s] w fun e w'=>e= .returned (.int .i64 (oz d s))∧Below w.heap.size w w':=by
 have aQ:=af ((St.refl w).alloc #[.slice A n c,.int .i64 d.on,.int .i64 d.off,.int .i64 d.flip] 144);have H:=af h;clear h;obtain⟨bo,hok⟩:∃b,bJ d=b:=⟨_,rfl⟩;obtain⟨bs,hs⟩:∃b,ig s=b:=⟨_,rfl⟩;have HV:bJ d=false∨ig s=false→oz d s= -1:=fun h=>if_neg (by rintro⟨h1,h2⟩;rcases h with h | h<;>simp_all)
 have bC:=Bx.mk hok;have HS:=Bx.mk hs;have HLI:Bx (decide (0≤s∧s≤31)=bs):=Bx.mk (by rw[←hs];unfold ig;congr 1;apply propext;omega)
 cases bo with
 |false=>
  have HV:=Bx.mk (HV (.inl hok));clear hok hs;go_enter Tryz.func122,Tryz.ntmps122
  go_wp2_with fail
  refine(lY A n c d _ (H.out.up aQ.out.below) kY).mono ?_;rw[bC.out];rintro e w1 ⟨rfl,hb1⟩;have HB:=af (aQ.out.quiet hb1).below;clear hb1;go_wp2;go_ret;exact⟨aG HV.out.symm,HB.out⟩
 |true=>
  cases bs with
  |false=>
   have HV:=Bx.mk (HV (.inr hs));clear hok hs;go_enter Tryz.func122,Tryz.ntmps122
   go_wp2_with fail
   refine(lY A n c d _ (H.out.up aQ.out.below) kY).mono ?_;rw[bC.out];rintro e w1 ⟨rfl,hb1⟩;have HB:=af (aQ.out.quiet hb1).below;clear hb1
   go_wp2_with fail
   refine(iU s 0 31 _).mono ?_;rw[HLI.out];rintro e w2 ⟨rfl,rfl⟩;go_wp2;go_ret;exact⟨aG HV.out.symm,HB.out⟩
  |true=>
   obtain⟨h0,h1⟩:=(aU s).1 hs;obtain⟨m,rfl⟩:=bI h0;have hm:m<32:=by omega
   have HV:Bx (oz d (m:Int)=opt (aX d m)):=Bx.mk (by unfold oz;rw[if_pos ⟨hok,hs⟩,dD]);clear hok hs h0 h1;go_enter Tryz.func122,Tryz.ntmps122
   go_wp2_with fail
   refine(lY A n c d _ (H.out.up aQ.out.below) kY).mono ?_;rw[bC.out];rintro e w1 ⟨rfl,hb1⟩;have bG:=af (aQ.out.quiet hb1);clear hb1
   go_wp2_with fail
   refine(iU (m:Int) 0 31 _).mono ?_;rw[HLI.out];rintro e w2 ⟨rfl,rfl⟩;have q1:=bG.out.cells 0 rfl
   go_wp2_with fail
   refine(um A n c d m _ (H.out.up bG.out.below) bC.out hm).mono ?_;rintro e w3 ⟨rfl,hb3⟩;have HB:=af (bG.out.quiet hb3).below;clear hb3;go_wp2;go_ret;exact⟨aG HV.out.symm,HB.out⟩
def Du (ds:List aj) (s:Int) (n:Nat):List Int:=if ig s then vO ds s.toNat n else []
theorem QZ {ds:List aj} {s:Int} {k:Nat} {d:aj} (hd:ds[k]? =some d) (hok:bJ d=true) (h:¬0≤oz d s):Du ds s (k+1)=Du ds s k:=by
 unfold Du
 by_cases hs:ig s=true
 ·rw[if_pos hs,if_pos hs]
  unfold oz at h
  rw[if_pos ⟨hok,hs⟩] at h
  cases ho:aX d s.toNat with
  |none=>exact Gf hd ho
  |some z=>rw[ho] at h;simp only[opt] at h;omega
 ·rw[if_neg hs,if_neg hs]
theorem Q5 {ds:List aj} {s:Int} {k:Nat} {d:aj} (hd:ds[k]? =some d) (h:0≤oz d s):Du ds s (k+1)=Du ds s k++[((k:Nat):Int)]:=by
 unfold oz at h
 by_cases hs:bJ d=true∧ig s=true
 ·unfold Du
  rw[if_pos hs.2,if_pos hs.2];rw[if_pos hs] at h;obtain⟨z,hz⟩:=oP.1 h;exact Gg hd hz
 ·rw[if_neg hs] at h;omega
theorem EN (t:aB) (s:Int) (h:aK t=true):dG t s=Du t.ax s t.ax.length:=by
 unfold dG Du;rw[h,Bool.true_and]
theorem nJ (v:Value) (t:aB) (s:Int) (w:World) (h:nI w w.heap.size v t):
  Calls Tryz.prog 55 #[v,.int .i64 s] w (Gives w id fun v=>[aA v (dG t s)]):=by
 have h':=h;obtain⟨G,gn,gc,G',n',c',rfl,hg,hgs,hds,hst⟩:=h;have HT:=af h';have yM:=af hds;have fF:=af hds.len;have hcap:=hds.cap;have hcm:=hds.bZ
 unfold maxLen at hcm
 have J6:Hid (∀g,g=w.heap.size+1→St w ((w.alloc (.cells #[.int .i64 t.start,.slice G gn gc,.slice G' n' c'] 26)).alloc (.cells #[] 3)) [ah w.heap.size 26 #[.int .i64 t.start,.slice G gn gc,.slice G' n' c'],aA (.slice (some ⟨g,0,none⟩) 0 0) []]):=
  af fun g hg=>by subst hg;exact((St.refl w).alloc #[.int .i64 t.start,.slice G gn gc,.slice G' n' c'] 26).call (St.zk _ _ (by simp))
 have aQ:=af (J6.out _ rfl);clear J6;obtain⟨bo,hok⟩:∃b,aK t=b:=⟨_,rfl⟩;have bC:=af hok;clear hok hds h' hg
 cases bo with
 |false=>
  have HN:=Bx.mk (uJ t s (.inl bC.out));go_enter Tryz.func55,Tryz.ntmps55;go_wp2
  go_loopw [6,5] (fun i ov wr=>i= .int .i64 0∧ov= .slice (some ⟨w.heap.size+1,0,none⟩) 0 0∧St w wr [ah w.heap.size 26 #[.int .i64 t.start,.slice G gn gc,.slice G' n' c'],aA (.slice (some ⟨w.heap.size+1,0,none⟩) 0 0) []]) (fun i _ _=>0)
  case atStart=>exact⟨rfl,rfl,aQ.out⟩
  case round=>
   clear aQ;obtain⟨rfl,rfl,S⟩:=hrel;have HS:=af S;have q0:=S.cells 0 rfl;clear S
   by_cases hn:n'=0
   ·subst hn;go_wp2;go_ret;refine⟨_,rfl,?_⟩;rw[HN.out];exact HS.out.pick [1] (by decide) rfl rfl
   ·have hn0:(0:Int)<(n':Int):=by omega
    clear hn
    go_wp2_with fail
    refine(bP _ t _ (HT.out.up HS.out.below)).mono ?_;rw[bC.out];rintro e w2 ⟨rfl,hb2⟩;have HS2:=af (HS.out.quiet hb2);clear hb2 q0;go_wp2;go_ret;refine⟨_,rfl,?_⟩;rw[HN.out];exact HS2.out.pick [1] (by decide) rfl rfl
 |true=>
  obtain⟨-,-,oq,iq⟩:=aJ t bC.out;have gU:=af iq;have xK:n'≤6:=by rw[←fF.out];exact oq
  have HY:=Bx.mk (EN t s bC.out);clear iq oq;go_enter Tryz.func55,Tryz.ntmps55;go_wp2
  go_loopw [6,5] (fun i ov wr=>∃(k:Nat) (x5:Value) (ys:List Int),k≤n'∧i= .int .i64 k∧x5=ov∧ys.length≤k∧Bx (Du t.ax s k=ys)∧St w wr [ah w.heap.size 26 #[.int .i64 t.start,.slice G gn gc,.slice G' n' c'],aA x5 ys]) (fun i _ _=>n'-(intOf i).toNat)
  case atStart=>exact⟨0,_,[],by omega,rfl,rfl,by simp,Bx.mk (by unfold Du;split<;>rfl),aQ.out⟩
  case round=>
   clear aQ;obtain⟨k,x5,ys,hk,rfl,rfl,hyl,HM,S⟩:=hrel;have HS:=af S;have q0:=S.cells 0 rfl;clear S
   by_cases hlt:k<n'
   ·have Za:(k:Int)<(n':Int):=by omega
    go_wp2_with fail
    refine(bP _ t _ (HT.out.up HS.out.below)).mono ?_;rw[bC.out];rintro e w2 ⟨rfl,hb2⟩;have HS2:=af (HS.out.quiet hb2);clear hb2 q0 HS;obtain⟨b,off,d,rfl,hb,hd,hda⟩:=yM.out.get hlt;obtain⟨An,nn,cn,p0,p1,p2,p3,bW,hnn,-⟩:=hda;have q2:=HS2.out.cells 0 rfl;have r0:w2.cell? ⟨b,off+k*4,none⟩=some (.slice An nn cn):=(aC HS2.out.below b _ hb).trans p0;have r1:w2.cell? ⟨b,off+k*4+1,none⟩=some (.int .i64 d.on):=(aC HS2.out.below b _ hb).trans p1;have r2:w2.cell? ⟨b,off+k*4+2,none⟩=some (.int .i64 d.off):=(aC HS2.out.below b _ hb).trans p2;have r3:w2.cell? ⟨b,off+k*4+3,none⟩=some (.int .i64 d.flip):=(aC HS2.out.below b _ hb).trans p3;have L8:=af (gU.out d (bU hd));have HDK:=af hd;have J8:=af bW;clear p0 p1 p2 p3 bW hd;obtain⟨z,hz⟩:∃z,oz d s=z:=⟨_,rfl⟩;have HZ:=af hz;clear hz
    go_wp2_with fail
    refine(KF An nn cn d s _ (J8.out.up HS2.out.below) (by omega)).mono ?_;rw[HZ.out];rintro e w3 ⟨rfl,hb3⟩;have iM:=af (HS2.out.quiet hb3);clear hb3 HS2 r0 r1 r2 r3 q2
    by_cases hz:0≤z
    ·have gY:Bx (Du t.ax s (k+1)=ys++[(k:Int)]):=Bx.mk (by rw[Q5 HDK.out (by rw[HZ.out];exact hz),HM.out]);have qy:=af (iM.out.rU 1 rfl)
     have QG:Hid (∀v3 w3',w3'.ownsRow 0 3 1 v3 (ys.length+1) (ints ys++[Value.int .i64 (k:Int)])→(w3.alloc (.cells #[.int .i64 (k:Int)] 3)).grownBy w3' x5.ownBlock→(v3.ownBlock=x5.ownBlock∨v3.ownBlock=some (w3.alloc (.cells #[.int .i64 (k:Int)] 3)).heap.size)→
       St w w3' [ah w.heap.size 26 #[.int .i64 t.start,.slice G gn gc,.slice (some ⟨b,off,none⟩) n' c'],aA v3 (ys++[(k:Int)])]):=
      af fun v3 w3' h1 h2 h3=>St.vP (v:=x5) (xs:=ys) (ys:=[(k:Int)]) ((iM.out.alloc #[.int .i64 (k:Int)] 3).pick [0,1] (by decide) rfl rfl) 1 rfl rfl h1 (by intro y hy;simp at hy;subst hy;exact dU (by omega)) h2 h3
     go_wp2_with (at_builtin;refine dX jv rfl _ _ rfl 0 x5 ys.length (ints ys) rfl (qy.out.alloc _) _ _ 1 1 [.int .i64 (k:Int)] rfl (bQ.new w3 [.int .i64 (k:Int)] 3 1 1 rfl (by unfold maxLen;omega)) (by simp[Value.oneCell']) (by omega) (by omega) (Nat.zero_le _) ?_;intro v4 w4 hown4 hg4 EM;have oJ:=af (QG.out v4 w4 hown4 hg4 EM))
     go_wp2
     go_roundw
     case rel=>exact⟨k+1,_,ys++[(k:Int)],by omega,by go_num,rfl,by simp;omega,gY,oJ.out⟩
     case measure=>simp[intOf];omega
    ·have gY:=Bx.mk ((QZ HDK.out L8.out (by rw[HZ.out];exact hz)).trans HM.out);go_wp2
     go_roundw
     case rel=>exact⟨k+1,_,ys,by omega,by go_num,rfl,by omega,gY,iM.out⟩
     case measure=>simp[intOf];omega
   ·obtain rfl:k=n':=by omega
    have HE:Bx (dG t s=ys):=Bx.mk (by rw[HY.out,fF.out,HM.out]);go_wp2;go_ret;refine⟨_,rfl,?_⟩;rw[HE.out];exact HS.out.pick [1] (by decide) rfl rfl
end Go.Proofs.YtkmcengmglgdeaaGreatDoor
