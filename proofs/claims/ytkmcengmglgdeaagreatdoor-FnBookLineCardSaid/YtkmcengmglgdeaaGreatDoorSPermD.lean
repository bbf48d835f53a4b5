/- Joined texts: PermD, StatesNext, FromS, ShortP, DoP, MayW. -/
import Derived.Test.YtkmcengmglgdeaaGreatDoorSTDraw2
import Derived.Test.YtkmcengmglgdeaaGreatDoorSPerm
import Derived.Test.YtkmcengmglgdeaaGreatDoorSPlanForW
import Derived.Test.YtkmcengmglgdeaaGreatDoorSFwd
import Derived.Test.YtkmcengmglgdeaaGreatDoorSPlanForS
import Derived.Test.YtkmcengmglgdeaaGreatDoorSBack
import Derived.Test.YtkmcengmglgdeaaGreatDoorSEndActs

namespace Go.Proofs.YtkmcengmglgdeaaGreatDoor
set_option linter.unusedVariables false
set_option linter.unusedSimpArgs false
set_option maxRecDepth 100000
set_option maxHeartbeats 8000000
open Go.ChangeShapes Go.WideShapes Go.ChangeAt Go.RowKit
theorem Jg {w:World} {base:Nat} {e:TypeId} {A:Option Addr} {n c m:Nat} {xs:List Value} (h:w.ownsRow base e 1 (.slice A n c) n xs) (hm:m≤n):w.ownsRow base e 1 (.slice A m c) m (xs.take m):=by
 obtain⟨h1,h2⟩:=h;refine⟨by rw[List.length_take,h1];omega,?_⟩
 rcases h2 with⟨hv,hn⟩ | ⟨g,cap,cur,hv,hb,hg,h3,h4,h5,h6⟩
 ·simp only[Value.slice.injEq] at hv;obtain⟨rfl,rfl,rfl⟩:=hv;obtain rfl:m=0:=by omega
  exact .inl ⟨rfl,rfl⟩
 ·simp only[Value.slice.injEq] at hv;obtain⟨rfl,-,rfl⟩:=hv;refine .inr ⟨g,c,cur,rfl,hb,hg,by omega,h4,h5,?_⟩;rw[←h6,List.take_take]
  congr 1
  omega
theorem jd.aar {k:IntKind} {w:World} {B g n c:Nat} {xs:List Int} (h:jd k w B (some ⟨g,0,none⟩) n c xs) (m:Nat) (hm:m≤n):jd k w B (some ⟨g,m,none⟩) (n-m) (c-m) (xs.drop m):=by
 refine⟨by rw[List.length_drop,h.len],by have:=h.cap;omega,by have:=h.dw;omega,fun x hx=>h.wf x (List.mem_of_mem_drop hx),fun hp=>?_⟩;obtain⟨b,off,e,hb,hc⟩:=h.at_ (by omega);simp only[Option.some.injEq,Addr.mk.injEq,and_true] at e;obtain⟨rfl,rfl⟩:=e;refine⟨_,_,rfl,hb,fun i x hx=>?_⟩;rw[List.getElem?_drop] at hx
 have:=hc (m+i) x hx
 simpa[Nat.zero_add] using this
def Aw (ds:List au) (S m s:Nat):Bool:=(List.range m).any fun s'=>gq S s'&&ds.any fun d=>bD d s' == some s
def wI (ds:List au) (S m k s:Nat):Bool:=Aw ds S m s||(gq S m&&(ds.take k).any fun d=>bD d m == some s)
theorem aaS (ds:List au) (S:Nat):aQ (Aw ds S 0) 32=0:=kV.2 fun s _=>by simp[Aw]
theorem VS (ds:List au) (S:Nat):aQ (Aw ds S 32) 32=aQ (lH ds (gq S)) 32:=rfl
theorem H8 (ds:List au) (S m s:Nat):Aw ds S (m+1) s=(Aw ds S m s||(gq S m&&ds.any fun d=>bD d m == some s)):=by
 unfold Aw
 rw[List.range_succ,List.any_append]
 simp
theorem TG (ds:List au) (S m:Nat):aQ (wI ds S m 0) 32=aQ (Aw ds S m) 32:=cO fun s _=>by simp[wI]
theorem VT (ds:List au) (S m k:Nat) (hk:ds.length≤k):aQ (wI ds S m k) 32=aQ (Aw ds S (m+1)) 32:=cO fun s _=>by
 unfold wI;rw[H8,gW hk]
theorem VU (ds:List au) (S m k:Nat) (h:gq S m=false):aQ (wI ds S m k) 32=aQ (Aw ds S (m+1)) 32:=cO fun s _=>by
 unfold wI;rw[H8,h];rfl
theorem XK (ds:List au) (S m k:Nat) (d:au) (h:ds[k]? =some d) (hh:bD d m=none):aQ (wI ds S m (k+1)) 32=aQ (wI ds S m k) 32:=cO fun s _=>by
 unfold wI
 rw[take_succ' h,List.any_append]
 simp[hh]
theorem VW (ds:List au) (S m k q:Nat) (d:au) (h:ds[k]? =some d) (hh:bD d m=some q) (hS:gq S m=true):∀s,s<32→wI ds S m (k+1) s=(wI ds S m k s||decide (q=s)):=fun s _=>by
 unfold wI
 have e:(some q == some s)=decide (q=s):=by rw[Bool.eq_iff_iff];simp
 rw[take_succ' h,List.any_append,hS];simp only[List.any_cons,List.any_nil,Bool.or_false,hh,Bool.true_and,Bool.or_assoc,e]
theorem tZ (v:Value) (t:aB) (S:Nat) (w:World) (h:oW w w.heap.size v t) (hok:aK t=true) (hS:S<4294967296):
  Calls Tryz.prog 160 #[v,.int .i64 S] w fun e w'=>e= .returned (.int .i64 (aQ (lH t.ay (gq S)) 32:Nat))∧Below w.heap.size w w':=by
 have h':=h;obtain⟨G,gn,gc,G',n',c',rfl,hg,hgs,hds,hst⟩:=h;have S0:=(St.refl w).alloc #[.int .i64 t.start,.slice G gn gc,.slice G' n' c'] 26;have HT:=af (h'.up S0.below);have aS:=af S0;have bG:=af hok;have gy:=af hds.len;have Bf:=af hds;obtain⟨-,-,pz,iL⟩:=aJ t hok;have gQ:=af iL;have yF:n'≤6:=by rw[←hds.len];exact pz
 obtain⟨B,hB⟩:∃B,aQ (lH t.ay (gq S)) 32=B:=⟨_,rfl⟩;have HB:=Bx.mk hB;rw[hB];clear S0 h' hok hds pz iL hB hg;go_enter Tryz.func160,Tryz.ntmps160
 go_wp2_with fail
 refine(bV _ t _ HT.out).mono ?_;rw[bG.out];rintro e w1 ⟨rfl,hb1⟩;have bf:=af (aS.out.quiet hb1);clear hb1
 go_wp2_with fail
 refine(fO (S:Int) 0 4294967295 _ (by omega) (by omega)).mono ?_;rintro e w2 ⟨rfl,rfl⟩;go_wp2
 go_loopw [6,5] (fun i sv wr=>∃m M:Nat,m≤32∧i= .int .i64 m∧sv= .int .i64 M∧Bx (M=aQ (Aw t.ay S m) 32)∧St w wr [ah w.heap.size 26 #[.int .i64 t.start,.slice G gn gc,.slice G' n' c']]) (fun i _ _=>32-(intOf i).toNat)
 case atStart=>exact⟨0,0,by omega,rfl,rfl,Bx.mk (aaS _ _).symm,bf.out⟩
 case round=>
  obtain⟨m,M,hm,rfl,rfl,HM,MM⟩:=hrel;have wU:=af MM;clear MM
  by_cases hlt:m<32
  ·have CQ:Bx (M=aQ (wI t.ay S m 0) 32):=Bx.mk (HM.out.trans (TG _ _ _).symm);clear HM;go_wp2
   try generalize decide ((m:Int)<32)=dm
   go_loopw [7,5] (fun i sv wr=>∃k M:Nat,k≤n'∧i= .int .i64 k∧sv= .int .i64 M∧Bx (M=aQ (wI t.ay S m k) 32)∧St w wr [ah w.heap.size 26 #[.int .i64 t.start,.slice G gn gc,.slice G' n' c']]) (fun i _ _=>n'-(intOf i).toNat)
   case atStart=>exact⟨0,M,by omega,rfl,rfl,CQ,wU.out⟩
   case round=>
    clear CQ wU;obtain⟨k,M1,hk,rfl,rfl,HM,MM⟩:=hrel;have q0:=MM.cells 0 rfl;have wU:=af MM;clear MM
    by_cases hkn:k<n'
    ·by_cases hs1:bit S m=1
     case neg=>
      have hs0:bit S m=0:=by have:=jo S m;omega
      have iO:Bx (M1=aQ (Aw t.ay S (m+1)) 32):=Bx.mk (HM.out.trans (VU _ _ _ _ (by unfold gq;rw[hs0];rfl)))
      go_wp2_with fail
      refine(jX S m (by omega) _).mono ?_;rw[hs0];rintro e w4 ⟨rfl,rfl⟩;clear hs1 hs0;go_wp2
      go_roundw
      case rel=>exact⟨m+1,M1,by omega,by go_num,rfl,iO,wU.out⟩
      case measure=>simp[intOf];omega
     obtain⟨b,off,d,rfl,hb,hd,hda⟩:=Bf.out.get hkn;obtain⟨An,nn,cn,p0,p1,p2,p3,dU,hnn,-⟩:=hda;have r0:wr.cell? ⟨b,off+k*4,none⟩=some (.slice An nn cn):=(aF wU.out.below b _ hb).trans p0;have r1:wr.cell? ⟨b,off+k*4+1,none⟩=some (.int .i64 d.on):=(aF wU.out.below b _ hb).trans p1;have r2:wr.cell? ⟨b,off+k*4+2,none⟩=some (.int .i64 d.off):=(aF wU.out.below b _ hb).trans p2;have r3:wr.cell? ⟨b,off+k*4+3,none⟩=some (.int .i64 d.flip):=(aF wU.out.below b _ hb).trans p3;have HDK:=af (gQ.out d (bT hd));have HD0:=af hd;have Ll:=af dU;obtain⟨o,ho⟩:∃o,bD d m=o:=⟨_,rfl⟩;have HO:=af ho;have rC:Bx (gq S m=true):=Bx.mk (by unfold gq;rw[hs1];rfl);clear p0 p1 p2 p3 dU hd ho
     go_wp2_with fail
     refine(jX S m (by omega) _).mono ?_;rw[hs1];rintro e w4 ⟨rfl,rfl⟩;clear hs1
     go_wp2_with fail
     refine(uN An nn cn d m _ (Ll.out.up wU.out.below) HDK.out hlt).mono ?_;rw[HO.out];rintro e w3 ⟨rfl,hb3⟩;have zF:=af (wU.out.quiet hb3);clear hb3 q0 r0 r1 r2 r3
     cases o with
     |none=>
      have iO:Bx (M1=aQ (wI t.ay S m (k+1)) 32):=Bx.mk (HM.out.trans (XK _ _ _ _ d HD0.out HO.out).symm);simp only[opt];go_wp2
      go_roundw
      case rel=>exact⟨k+1,M1,by omega,by go_num,rfl,iO,zF.out⟩
      case measure=>simp[intOf];omega
     |some q=>
      have hq:=iy d m q HDK.out hlt HO.out;simp only[opt];have hpw:=iK q (by omega);obtain⟨hp0,hp1⟩:=DY hq;obtain⟨M2,hM2⟩:∃M2,aQ (wI t.ay S m (k+1)) 32=M2:=⟨_,rfl⟩
      have YL:Bx ((((M1:Int).toNat ||| ((2:Int)^q).toNat:Nat):Int)=(M2:Int)):=Bx.mk (by
       rw[←hM2]
       exact wV hq HM.out (VW t.ay S m k q d HD0.out HO.out rC.out))
      have iO:=Bx.mk hM2.symm;have hM1:M1<4294967296:=by rw[HM.out];exact dI _
      clear hM2
      go_wp2_with fail
      refine(o9 (M1:Int) (2^q) (by omega) (by omega) (by omega) (by omega) _).mono ?_;rw[YL.out];rintro e w5 ⟨rfl,rfl⟩;clear hp0 hp1 hM1 hpw;go_wp2
      go_roundw
      case rel=>exact⟨k+1,M2,by omega,by go_num,rfl,iO,zF.out⟩
      case measure=>simp[intOf];omega
    ·have iO:Bx (M1=aQ (Aw t.ay S (m+1)) 32):=Bx.mk (HM.out.trans (VT _ _ _ _ (by rw[gy.out];omega)));go_wp2
     go_roundw
     case rel=>exact⟨m+1,M1,by omega,by go_num,rfl,iO,wU.out⟩
     case measure=>simp[intOf];omega
  ·have HF:Bx (M=B):=Bx.mk (by rw[HM.out,show m=32 by omega,VS,HB.out]);go_wp2;go_ret;exact⟨aP (by rw[HF.out]),wU.out.below⟩
def newF (ds:List au) (p:Nat→Bool):Nat→Nat→Bool
 |0,s=>p s
 |m+1,s=>aaN ds p m s
def af0 (ds:List au) (p:Nat→Bool):Nat→Nat→Int
 |0,_=>-1
 |m+1,s=>aaP ds p m s
def lastTo (f:Nat→Int) (a:Nat):Nat→Nat
 |0=>a
 |n+1=>if n+1≤a then a else if f (n+1)=f a then n+1 else lastTo f a n
theorem Bd (f:Nat→Int) (a:Nat):∀n,n≤a→lastTo f a n=a:=fun n h=>by
 cases n with
 |zero=>rfl
 |succ n=>simp[lastTo,h]
theorem zN (f:Nat→Int) (a:Nat):∀n,a≤n→a≤lastTo f a n∧lastTo f a n≤n∧f (lastTo f a n)=f a∧∀j,lastTo f a n<j→j≤n→f j≠f a:=fun n=>by
 induction n with
 |zero=>intro h;obtain rfl:a=0:=by omega
        exact⟨aA _,aA _,rfl,fun j h1 h2=>by unfold lastTo at h1;omega⟩
 |succ n ih=>
  intro h
  unfold lastTo
  by_cases h1:n+1≤a
  ·rw[if_pos h1];exact⟨aA _,h,rfl,fun j h2 h3=>by omega⟩
  ·rw[if_neg h1]
   by_cases h2:f (n+1)=f a
   ·rw[if_pos h2];exact⟨h,aA _,h2,fun j h3 h4=>by omega⟩
   ·rw[if_neg h2];obtain⟨k1,k2,k3,k4⟩:=ih (by omega);refine⟨k1,by omega,k3,fun j h3 h4=>?_⟩
    by_cases hj:j=n+1
    ·subst hj;exact h2
    ·exact k4 j h3 (by omega)
theorem zO {f:Nat→Int} {a n m:Nat} (h1:a≤m) (h2:m≤n) (h3:f m=f a) (h4:∀j,m<j→j≤n→f j≠f a):lastTo f a n=m:=by
 obtain⟨k1,k2,k3,k4⟩:=zN f a n (by omega)
 rcases Nat.lt_trichotomy (lastTo f a n) m with h | h | h
 ·exact absurd h3 (k4 m h h2)
 ·exact h
 ·exact absurd k3 (h4 _ h k2)
def prun (t:aB) (p:List Int) (j:Nat):Int:=aC t t.start (p.take j)
def cutAt (t:aB) (p:List Int) (a:Nat):List Int:=p.take a++p.drop (lastTo (prun t p) a p.length)
def jh (t:aB) (p:List Int):Nat→List Int
 |0=>p
 |n+1=>cutAt t (jh t p n) n
def fK (t:aB) (p:List Int):Option (List Int):=if aC t t.start p<0 then none else some (jh t p 41)
theorem xC (t:aB) (p:List Int) (a:Nat) (h:p.length≤a):cutAt t p a=p:=by
 unfold cutAt;rw[Bd _ _ _ h,List.take_append_drop]
theorem xE (t:aB) (p:List Int) (a:Nat) (h:∀j,a<j→j≤p.length→prun t p j≠prun t p a):cutAt t p a=p:=by
 rcases Nat.lt_or_ge p.length a with h1 | h1
 ·exact xC t p a (by omega)
 ·unfold cutAt
  rw[zO (aA a) h1 rfl h,List.take_append_drop]
theorem RD (t:aB) (p:List Int) (a:Nat):(cutAt t p a).length≤p.length:=by
 unfold cutAt
 rcases Nat.lt_or_ge p.length a with h1 | h1
 ·rw[Bd _ _ _ (by omega)];simp
 ·have:=(zN (prun t p) a p.length h1).1
  simp;omega
theorem DI (t:aB) (p:List Int) (n:Nat):(jh t p n).length≤p.length:=by
 induction n with
 |zero=>exact aA _
 |succ n ih=>exact Nat.le_trans (RD ..) ih
theorem DK (t:aB) (p:List Int) {j:Nat} (h:p.length≤j):prun t p j=aC t t.start p:=by unfold prun;rw[gW h]
theorem mY {t:aB} {s:Int} {p:List Int} (h:0≤aC t s p) (j:Nat):0≤aC t s (p.take j)∧∀q,p.length≤40→q.length+min j p.length≤40→aC t s (p.take j++q)=aC t (aC t s (p.take j)) q:=by
 obtain⟨h1,h2,h3,-⟩:=(fE t s p).1 h;have e:aC t s p=opt (jY t s.toNat p):=if_pos ⟨h1,h2,h3⟩;rw[e] at h;obtain⟨z,hz⟩:=qf.1 h;have hz':=hz;rw[←List.take_append_drop j p,qH] at hz;obtain⟨y,hy,hz⟩:=Option.bind_eq_some_iff.1 hz
 have ej:aC t s (p.take j)=(y:Nat):=by
  unfold aC
  rw[if_pos ⟨h1,h2,by simp;omega⟩,hy];rfl
 have hs:=(aV _).1 h2;have hy32:y<32:=CP t _ _ y h1 (by omega) hy;refine⟨by rw[ej];omega,fun q hp hq=>?_⟩;rw[ej]
 unfold aC
 rw[if_pos ⟨h1,h2,by simp;omega⟩,if_pos ⟨h1,(aV _).2 (by omega),by omega⟩,qH,hy]
 rfl
theorem DL {t:aB} {p:List Int} (h:0≤aC t t.start p) {a m:Nat} (ham:a≤m) (hm:m≤p.length) (e:prun t p m=prun t p a):∀j,prun t (p.take a++p.drop m) j=if j≤a then prun t p j else prun t p (j-a+m):=fun j=>by
 obtain⟨h1,h2,h3,-⟩:=(fE t t.start p).1 h
 by_cases hj:j≤a
 ·rw[if_pos hj]
  unfold prun
  rw[List.take_append_of_le_length (by simp;omega),List.take_take,Nat.min_eq_left hj]
 ·rw[if_neg hj];have hl:(p.take a).length=a:=by simp;omega
  have e1:(p.take a++p.drop m).take j=p.take a++(p.drop m).take (j-a):=by
   rw[List.take_append,hl,gW (by omega)]
  have e2:p.take (j-a+m)=p.take m++(p.drop m).take (j-a):=by
   rw[Nat.add_comm,List.take_add]
  unfold prun at e ⊢
  have WG:((p.drop m).take (j-a)).length≤p.length-m:=by simp;omega
  rw[e1,e2,(mY h a).2 _ (by omega) (by omega),(mY h m).2 _ (by omega) (by omega),e]
theorem RF {t:aB} {p:List Int} (h:0≤aC t t.start p) (a:Nat):aC t t.start (cutAt t p a)=aC t t.start p:=by
 rcases Nat.lt_or_ge p.length a with h1 | h1
 ·rw[xC t p a (by omega)]
 ·obtain⟨k1,k2,k3,k4⟩:=zN (prun t p) a p.length h1
  have:=DL h k1 k2 k3 (cutAt t p a).length
  rw[show p.take a++p.drop (lastTo (prun t p) a p.length)=cutAt t p a from rfl,DK t _ (aA _)] at this;rw[this];have hl:(cutAt t p a).length=a+(p.length-lastTo (prun t p) a p.length):=by unfold cutAt;simp;omega
  by_cases hj:(cutAt t p a).length≤a
  ·rw[if_pos hj,show(cutAt t p a).length=a by omega,←k3,show lastTo (prun t p) a p.length=p.length by omega,DK t p (aA _)]
  ·rw[if_neg hj,hl,DK t p (by omega)]
theorem xB {t:aB} {p:List Int} (h:0≤aC t t.start p) (n:Nat):aC t t.start (jh t p n)=aC t t.start p:=by
 induction n with
 |zero=>rfl
 |succ n ih=>exact(RF (by rw[ih];exact h) n).trans ih
def sN (t:aB) (p:List Int) (a:Nat):Prop:=∀i,i<a→∀j,i<j→j≤p.length→prun t p j≠prun t p i
theorem Oe {t:aB} {p q:List Int} {a:Nat} (h:jh t p a=q) (hq:sN t q (q.length+1)):∀n,jh t p (a+n)=q:=fun n=>by
 induction n with
 |zero=>exact h
 |succ n ih=>
  rw[show a+(n+1)=(a+n)+1 by omega];simp only[jh];rw[ih];refine xE t q _ fun j h1 h2=>hq _ (by omega) j h1 h2
theorem RG {t:aB} {p q:List Int} {a f:Nat} (h:jh t p a=q) (hf:a≤f) (hc:sN t q f):jh t p f=q:=by
 obtain⟨n,rfl⟩:=Nat.le.dest hf;clear hf
 induction n with
 |zero=>exact h
 |succ n ih=>
  have:=ih (fun i hi=>hc i (by omega))
  rw[show a+(n+1)=(a+n)+1 by omega];simp only[jh];rw[this];exact xE t q _ fun j h1 h2=>hc _ (by omega) j h1 h2
theorem RH {t:aB} {q:List Int} (h:0≤aC t t.start q) {f l:Nat} (hfl:f<l) (hl:l≤q.length) (e:prun t q l=prun t q f) (hc:sN t q f) (hlast:∀j,l<j→j≤q.length→prun t q j≠prun t q f):
  cutAt t q f=q.take f++q.drop l∧sN t (q.take f++q.drop l) (f+1):=by
 have e1:lastTo (prun t q) f q.length=l:=zO (by omega) hl e hlast;refine⟨by unfold cutAt;rw[e1],fun i hi j hij hj=>?_⟩;have hp:=DL h (by omega:f≤l) hl e;have hlen:(q.take f++q.drop l).length=f+(q.length-l):=by simp;omega
 rw[hp j,hp i,if_pos (by omega:i≤f)]
 by_cases hjf:j≤f
 ·rw[if_pos hjf];exact hc i (by omega) j hij (by omega)
 ·rw[if_neg hjf]
  by_cases hif:i=f
  ·subst hif;exact hlast _ (by omega) (by omega)
  ·exact hc i (by omega) _ (by omega) (by omega)
def wG (ds:List au) (s:Nat) (n:Nat):List Int:=((List.range n).filter fun k=>((ds[k]?).bind (bD · s)).isSome).map fun k=>((k:Nat):Int)
def dO (t:aB) (s:Int):List Int:=if aK t&&iJ s then wG t.ay s.toNat t.ay.length else []
theorem GH (ds:List au) (s n:Nat):wG ds s (n+1)=wG ds s n++(if((ds[n]?).bind (bD · s)).isSome then [((n:Nat):Int)] else []):=by
 unfold wG
 rw[List.range_succ,List.filter_append,List.map_append]
 congr 1
 by_cases h:((ds[n]?).bind (bD · s)).isSome=true
 ·rw[if_pos h,List.filter_cons_of_pos (by exact h)];rfl
 ·rw[if_neg h,List.filter_cons_of_neg (by exact h)];rfl
theorem Le {ds:List au} {s n:Nat} {x:Int}:x∈wG ds s n↔∃k:Nat,x=(k:Int)∧k<n∧∃s',(ds[k]?).bind (bD · s)=some s':=by
 unfold wG
 simp only[List.mem_map,List.mem_filter,List.mem_range,Option.isSome_iff_exists]
 constructor
 ·rintro⟨k,⟨h1,h2⟩,rfl⟩;exact⟨k,rfl,h1,h2⟩
 ·rintro⟨k,rfl,h1,h2⟩;exact⟨k,⟨h1,h2⟩,rfl⟩
theorem UD (ds:List au) (s n:Nat):(wG ds s n).length≤n:=by
 unfold wG
 rw[List.length_map];exact Nat.le_trans (List.length_filter_le ..) (by simp)
theorem sH (t:aB) (s:Int):(dO t s).length≤6:=by
 unfold dO
 split
 ·next h=>
  simp only[Bool.and_eq_true] at h;exact Nat.le_trans (UD ..) (aJ t h.1).2.2.1
 ·simp
theorem FC {t:aB} {s x:Int} (h:x∈dO t s):∃s',mr t s.toNat x=some s':=by
 unfold dO at h
 split at h
 ·obtain⟨k,rfl,h1,s',h2⟩:=Le.1 h;exact⟨s',by unfold mr;rw[if_pos ⟨by omega,by omega⟩,bW];exact h2⟩
 ·cases h
theorem uJ {t:aB} {s x:Int} (h:x∈dO t s):0≤x∧x<6:=by
 have h0:=h
 unfold dO at h
 split at h
 ·next hh=>
  simp only[Bool.and_eq_true] at hh
  have:=(aJ t hh.1).2.2.1
  obtain⟨k,rfl,h1,-⟩:=Le.1 h
  omega
 ·cases h
def oG:aG:=⟨⟨0,[],[]⟩,[],0⟩
def aZ (b:aG) (a:iP):Option (List Int):=
 if a.kind=0 then(if b.done.length<40∧a.number∈dO b.order b.state then some (b.done++[a.number]) else none)
 else if a.kind=1 then(if 1≤a.number∧a.number≤b.done.length then some (b.done.take (b.done.length-a.number.toNat)) else none)
 else if a.kind=2 then(if a.number=0∧((fK b.order b.done).getD []).length<b.done.length then some ((fK b.order b.done).getD []) else none)
 else if a.kind=3 then(if a.number=0∧0<((dB b).getD []).length∧b.done.length+((dB b).getD []).length≤40 then some (b.done++(dB b).getD []) else none)
 else none
def eX (b:aG) (d:List Int):aG:=⟨b.order,d,aC b.order b.order.start d⟩
def dY (b:aG) (a:iP):aG:=if aN b then(match aZ b a with | some d=>eX b d | none=>b) else oG
def eY (b:aG) (a:iP):Bool:=aN b&&(aZ b a).isSome
theorem fB {b:aG} (h:aN b=true):eX b b.done=b:=by
 obtain⟨-,-,-,h4⟩:=bF h
 unfold eX;rw[h4]
theorem Gn {o:aB} {d:List Int} (h:0≤aC o o.start d):aN ⟨o,d,aC o o.start d⟩=true:=by
 obtain⟨h1,h2,h3,h4⟩:=(fE o o.start d).1 h
 unfold aN
 simp only[h1,decide_eq_true h3,Bool.true_and,beq_self_eq_true,Bool.and_true];exact(aV _).2 ⟨h,h4⟩
theorem uK {t:aB} {p q:List Int} (h:0≤aC t t.start p) (hl:p.length+q.length≤40):aC t t.start (p++q)=aC t (aC t t.start p) q:=by
 obtain⟨h1,h2,h3,-⟩:=(fE t t.start p).1 h
 have:=(mY h p.length).2 q h3 (by rw[Nat.min_self];omega)
 rwa[gW (aA _)] at this
theorem La {t:aB} {s x:Int} (h:x∈dO t s):0≤aC t s [x]:=by
 obtain⟨s',hs'⟩:=FC h
 unfold dO at h
 split at h
 ·next hh=>
  simp only[Bool.and_eq_true] at hh
  unfold aC
  rw[if_pos ⟨hh.1,hh.2,by simp⟩];simp only[jY,hs',Option.bind_some,opt]
  omega
 ·cases h
theorem oL {t:aB} {p:List Int} (h:dG t=some p):p.length≤31∧0≤aC t t.start p∧aH t.goal (aC t t.start p).toNat=true:=by
 obtain⟨h1,-,h3,s,h4,h5⟩:=sK h
 have e:aC t t.start p=(s:Nat):=by
  unfold aC
  rw[if_pos ⟨h1,(aV _).2 (aJ t h1).1,by omega⟩,h4];rfl
 refine⟨h3,by rw[e];omega,?_⟩;rw[e,bW];exact h5.2
theorem fZ {b:aG} (h:aK b.order=true) (hs:0≤b.state∧b.state<32):aK (dD b)=true:=by
 unfold aK dD at*
 simp only[Bool.and_eq_true] at h ⊢
 exact⟨⟨⟨(aV _).2 hs,h.1.1.2⟩,h.1.2⟩,h.2⟩
theorem IV {b:aG} (h:aK b.order=true) (hs:0≤b.state∧b.state<32) (p:List Int):aC (dD b) b.state p=aC b.order b.state p:=by
 have hk:=fZ h hs
 have e:∀(p:List Int) (s:Nat),jY (dD b) s p=jY b.order s p:=fun p=>by
  induction p with
  |nil=>intro s;rfl
  |cons k p ih=>
   intro s;simp only[jY];rw[show mr (dD b) s k=mr b.order s k from rfl]
   congr 1
   funext s'
   exact ih s'
 unfold aC
 simp only[hk,h,e]
theorem qI {b:aG} {r:List Int} (h:dB b=some r):aN b=true∧r.length≤31∧0≤aC b.order b.state r∧aH b.order.goal (aC b.order b.state r).toNat=true:=by
 cases hb:aN b with
 |false=>rw[xA b hb] at h;cases h
 |true=>
  rw[oM b hb] at h;obtain⟨h1,-,h3,-⟩:=bF hb;obtain⟨k1,k2,k3⟩:=oL h;rw[show(dD b).start=b.state from rfl,IV h1 h3] at k2 k3;exact⟨rfl,k1,k2,k3⟩
theorem mX {b:aG} (h:aN b=true):fK b.order b.done=some (jh b.order b.done 41):=by
 obtain⟨-,-,h3,h4⟩:=bF h
 unfold fK
 rw[if_neg (by omega)]
theorem qQ {b:aG} {a:iP} {d:List Int} (hb:aN b=true) (h:aZ b a=some d):0≤aC b.order b.order.start d:=by
 obtain⟨h1,h2,h3,h4⟩:=bF hb
 unfold aZ at h
 split at h
 ·split at h
  ·next hc=>
   injection h with h;subst h
   rw[uK (by omega) (by simp;omega),h4];exact La hc.2
  ·cases h
 ·split at h
  ·split at h
   ·injection h with h;subst h
    exact(mY (by omega) _).1
   ·cases h
  ·split at h
   ·split at h
    ·injection h with h;subst h
     rw[mX hb,Option.getD_some,xB (by omega)];omega
    ·cases h
   ·split at h
    ·split at h
     ·next hc=>
      injection h with h;subst h
      cases hr:dB b with
      |none=>rw[hr] at hc;simp at hc
      |some r=>
       rw[hr] at hc;simp only[Option.getD_some] at hc ⊢
       rw[uK (by omega) (by omega),h4];exact(qI hr).2.2.1
     ·cases h
    ·cases h
theorem FB {b:aG} {a:iP} {d:List Int} (hb:aN b=true) (h:aZ b a=some d):d.length≤40:=((fE _ _ _).1 (qQ hb h)).2.2.1
theorem Bc {b:aG} {a:iP} {d:List Int} (hb:aN b=true) (h:aZ b a=some d):aN (eX b d)=true:=Gn (qQ hb h)
theorem qX {b:aG} (a:iP) (hb:aN b=true):aN (dY b a)=true:=by
 unfold dY
 rw[if_pos hb]
 cases h:aZ b a with
 |none=>exact hb
 |some d=>exact Bc hb h
theorem yE {b:aG} (a:iP) (hb:aN b=true):(dY b a).order=b.order:=by
 unfold dY
 rw[if_pos hb]
 cases h:aZ b a with
 |none=>rfl
 |some d=>rfl
theorem iZ {b:aG} {a:iP} {d:List Int} (hb:aN b=true) (h:aZ b a=some d):dY b a=eX b d∧eY b a=true:=by
 unfold dY eY;rw[if_pos hb,hb,h];exact⟨rfl,rfl⟩
theorem fV {b:aG} {a:iP} (hb:aN b=true) (h:aZ b a=none):dY b a=b∧eY b a=false:=by
 unfold dY eY;rw[if_pos hb,hb,h];exact⟨rfl,rfl⟩
theorem xu {b:aG} {a:iP} (hb:aN b=false):dY b a=oG∧eY b a=false:=by
 unfold dY eY;rw[if_neg (by rw[hb];simp),hb];exact⟨rfl,rfl⟩
def nU:aG→List iP→aG×Nat
 |b,[]=>(b,0)
 |b,a::as'=>let r:=nU (dY b a) as';(r.1,r.2+(if eY b a then 1 else 0))
def runK (b:aG) (aa:List iP) (k:Nat):aG×Nat:=nU b (aa.take k)
def gY (b:aG) (aa:List iP):aG×Nat:=if aN b&&decide (aa.length≤40) then nU b aa else(oG,0)
theorem Lc (b:aG) (p q:List iP):nU b (p++q)=((nU (nU b p).1 q).1,(nU b p).2+(nU (nU b p).1 q).2):=by
 induction p generalizing b with
 |nil=>simp[nU]
 |cons a p ih=>
  simp only[List.cons_append,nU];rw[ih];simp only[Prod.mk.injEq,true_and]
  omega
theorem Gy (b:aG) (aa:List iP):runK b aa 0=(b,0):=by simp[runK,nU]
theorem Gz {b:aG} {aa:List iP} {k:Nat} {a:iP} (h:aa[k]? =some a):runK b aa (k+1)=(dY (runK b aa k).1 a,(runK b aa k).2+(if eY (runK b aa k).1 a then 1 else 0)):=by
 obtain⟨h1,h2⟩:=bI.1 h
 unfold runK
 rw[List.take_succ_eq_append_getElem h1,h2,Lc]
 simp[nU]
theorem Ld (b:aG) (aa:List iP) {k:Nat} (h:aa.length≤k):runK b aa k=nU b aa:=by unfold runK;rw[gW h]
theorem IW {b:aG} (aa:List iP) (hb:aN b=true):aN (nU b aa).1=true∧(nU b aa).1.order=b.order∧(nU b aa).2≤aa.length:=by
 induction aa generalizing b with
 |nil=>exact⟨hb,rfl,aA _⟩
 |cons a aa ih=>
  obtain⟨h1,h2,h3⟩:=ih (qX a hb);simp only[nU,bM];refine⟨h1,h2.trans (yE a hb),?_⟩
  split<;>omega
theorem vT {b:aG} (aa:List iP) (k:Nat) (hb:aN b=true):aN (runK b aa k).1=true∧(runK b aa k).1.order=b.order∧(runK b aa k).2≤aa.length:=by
 obtain⟨h1,h2,h3⟩:=IW (aa.take k) hb;exact⟨h1,h2,Nat.le_trans h3 (by simp;omega)⟩
def pG (d:au) (s:Int):Int:=if bK d=true∧iJ s=true then opt (bD d s.toNat) else -1
theorem uX (t:aB) (s:Int) (h:aK t=false∨iJ s=false):dO t s=[]:=by
 unfold dO;rw[if_neg];rcases h with h | h<;>simp[h]
theorem Jh (t:aB) (s:Nat) (h:aK t=true) (h':s<32):dO t (s:Int)=wG t.ay s t.ay.length:=by
 unfold dO;rw[if_pos (by rw[h,(aV _).2 ⟨by omega,by omega⟩];rfl),bW]
theorem G9 {ds:List au} {s k:Nat} {d:au} (hd:ds[k]? =some d) (h:bD d s=none):wG ds s (k+1)=wG ds s k:=by
 rw[GH,hd];simp[h]
theorem He {ds:List au} {s k s':Nat} {d:au} (hd:ds[k]? =some d) (h:bD d s=some s'):wG ds s (k+1)=wG ds s k++[((k:Nat):Int)]:=by
 rw[GH,hd];simp[h]
theorem wS (v:Value) (t:aB) (s:Int) (w:World) (h:oW w w.heap.size v t):
  Calls Tryz.prog 116 #[v,.int .i64 s] w (Gives w id fun v=>[ax v (dO t s)]):=by
 have h':=h;obtain⟨G,gn,gc,G',n',c',rfl,hg,hgs,hds,hst⟩:=h;have HT:=af h';have Bf:=af hds;have gy:=af hds.len;have aS:=af ((St.refl w).alloc #[.int .i64 t.start,.slice G gn gc,.slice G' n' c'] 26);obtain⟨bo,hok⟩:∃b,aK t=b:=⟨_,rfl⟩;have bG:=af hok;obtain⟨bs,hsi⟩:∃b,iJ s=b:=⟨_,rfl⟩;have Fe:=af hsi;clear hok hsi hds h' hg
 cases bo with
 |false=>
  have HN:=Bx.mk (uX t s (.inl bG.out));go_enter Tryz.func116,Tryz.ntmps116
  go_wp2_with fail
  refine(bZ _ t _ (HT.out.up aS.out.below)).mono ?_;rw[bG.out];rintro e w1 ⟨rfl,hb1⟩;have HB:=af (aS.out.quiet hb1).below;clear hb1;go_wp2;go_ret;refine⟨_,rfl,?_⟩;rw[HN.out];exact iw _ _ HB.out
 |true=>
  cases bs with
  |false=>
   have HN:=Bx.mk (uX t s (.inr Fe.out));go_enter Tryz.func116,Tryz.ntmps116
   go_wp2_with fail
   refine(bZ _ t _ (HT.out.up aS.out.below)).mono ?_;rw[bG.out];rintro e w1 ⟨rfl,hb1⟩;have HB:=af (aS.out.quiet hb1).below;clear hb1
   go_wp2_with fail
   refine(dS s _).mono ?_;rw[Fe.out];rintro e w2 ⟨rfl,rfl⟩;go_wp2;go_ret;refine⟨_,rfl,?_⟩;rw[HN.out];exact iw _ _ HB.out
  |true=>
   obtain⟨hs0,hs1⟩:=(aV s).1 Fe.out;obtain⟨s,rfl⟩:=bC hs0;have hs:s<32:=by omega
   obtain⟨-,-,pz,iL⟩:=aJ t bG.out;have gQ:=af iL;have yF:n'≤6:=by rw[←gy.out];exact pz
   have HY:=Bx.mk (Jh t s bG.out hs);clear iL hs0 hs1 pz;go_enter Tryz.func116,Tryz.ntmps116
   go_wp2_with fail
   refine(bZ _ t _ (HT.out.up aS.out.below)).mono ?_;rw[bG.out];rintro e w1 ⟨rfl,hb1⟩;have bf:=af (aS.out.quiet hb1);clear hb1
   go_wp2_with fail
   refine(dS (s:Int) _).mono ?_;rw[Fe.out];rintro e w2 ⟨rfl,rfl⟩;have q1:=bf.out.cells 0 rfl;have HS2:Hid (St w w1 [ah w.heap.size 26 #[.int .i64 t.start,.slice G gn gc,.slice G' n' c'],ax (.slice none 0 0) []]):=af (bf.out.call (iw _ _ (ai _ _)));go_wp2
   go_loopw [19,5] (fun i ov wr=>∃(k:Nat) (x5:Value) (ys:List Int),k≤n'∧i= .int .i64 k∧x5=ov∧ys.length≤k∧Bx (wG t.ay s k=ys)∧St w wr [ah w.heap.size 26 #[.int .i64 t.start,.slice G gn gc,.slice G' n' c'],ax x5 ys]) (fun i _ _=>n'-(intOf i).toNat)
   case atStart=>exact⟨0,_,[],by omega,rfl,rfl,by simp,Bx.mk rfl,HS2.out⟩
   case round=>
    clear HS2 bf aS q1;obtain⟨k,x5,ys,hk,rfl,rfl,hyl,HM,S⟩:=hrel;have HS:=af S;clear S
    by_cases hlt:k<n'
    ·obtain⟨b,off,d,rfl,hb,hd,hda⟩:=Bf.out.get hlt;obtain⟨An,nn,cn,p0,p1,p2,p3,dU,hnn,-⟩:=hda;have r0:wr.cell? ⟨b,off+k*4,none⟩=some (.slice An nn cn):=(aF HS.out.below b _ hb).trans p0;have r1:wr.cell? ⟨b,off+k*4+1,none⟩=some (.int .i64 d.on):=(aF HS.out.below b _ hb).trans p1;have r2:wr.cell? ⟨b,off+k*4+2,none⟩=some (.int .i64 d.off):=(aF HS.out.below b _ hb).trans p2;have r3:wr.cell? ⟨b,off+k*4+3,none⟩=some (.int .i64 d.flip):=(aF HS.out.below b _ hb).trans p3;have NE:=af (gQ.out d (bT hd));have HDK:=af hd;have Ll:=af dU;have cu:=af ((HS.out.alloc #[.slice An nn cn,.int .i64 d.on,.int .i64 d.off,.int .i64 d.flip] 144).pick [0,1] (by decide) rfl rfl);clear p0 p1 p2 p3 dU hd HS;obtain⟨o,ho⟩:∃o,bD d s=o:=⟨_,rfl⟩;have HO:=af ho;clear ho
     go_wp2_with fail
     refine(mZ An nn cn d s _ (Ll.out.up cu.out.below) NE.out hs).mono ?_;rw[HO.out];rintro e w3 ⟨rfl,hb3⟩;have fH:=af (cu.out.quiet hb3);clear hb3 cu r0 r1 r2 r3
     cases o with
     |none=>
      have iO:=Bx.mk ((G9 HDK.out HO.out).trans HM.out);simp only[opt];go_wp2
      go_roundw
      case rel=>exact⟨k+1,_,ys,by omega,by go_num,rfl,by omega,iO,fH.out⟩
      case measure=>simp[intOf];omega
     |some z=>
      have iO:Bx (wG t.ay s (k+1)=ys++[(k:Int)]):=Bx.mk (by rw[He HDK.out HO.out,HM.out]);simp only[opt];have nO:=af (fH.out.qA 1 rfl)
      have Lr:Hid (∀v3 w3',w3'.ownsRow 0 3 1 v3 (ys.length+1) (ints ys++[Value.int .i64 (k:Int)])→(w3.alloc (.cells #[.int .i64 (k:Int)] 3)).grownBy w3' x5.ownBlock→(v3.ownBlock=x5.ownBlock∨v3.ownBlock=some (w3.alloc (.cells #[.int .i64 (k:Int)] 3)).heap.size)→
        St w w3' [ah w.heap.size 26 #[.int .i64 t.start,.slice G gn gc,.slice (some ⟨b,off,none⟩) n' c'],ax v3 (ys++[(k:Int)])]):=
       af fun v3 w3' h1 h2 h3=>St.rY (v:=x5) (xs:=ys) (ys:=[(k:Int)]) ((fH.out.alloc #[.int .i64 (k:Int)] 3).pick [0,1] (by decide) rfl rfl) 1 rfl rfl h1 (by intro y hy;simp at hy;subst hy;exact bU (by omega)) h2 h3
      go_wp2_with (at_builtin;refine cZ iR rfl _ _ rfl 0 x5 ys.length (ints ys) rfl (nO.out.alloc _) _ _ 1 1 [.int .i64 (k:Int)] rfl (bJ.new w3 [.int .i64 (k:Int)] 3 1 1 rfl (by unfold maxLen;omega)) (by simp[Value.oneCell']) (by omega) (by omega) (Nat.zero_le _) ?_;intro v4 w4 hown4 hg4 yO;have jB:=af (Lr.out v4 w4 hown4 hg4 yO))
      go_wp2
      go_roundw
      case rel=>exact⟨k+1,_,ys++[(k:Int)],by omega,by go_num,rfl,by simp;omega,iO,jB.out⟩
      case measure=>simp[intOf];omega
    ·obtain rfl:k=n':=by omega
     have HE:Bx (dO t (s:Int)=ys):=Bx.mk (by rw[HY.out,gy.out,HM.out]);go_wp2;go_ret;refine⟨_,rfl,?_⟩;rw[HE.out];exact HS.out.pick [1] (by decide) rfl rfl
theorem LP (A:Option Addr) (n c:Nat) (d:au) (s:Int) (w:World) (h:jd .i64 w w.heap.size A n c d.need) (kQ:n≤1099511627776):
  Calls Tryz.prog 122 #[.agg #[.slice A n c,.int .i64 d.on,.int .i64 d.off,.int .i64 d.flip],.int .i64 s] w fun e w'=>e= .returned (.int .i64 (pG d s))∧Below w.heap.size w w':=by
 have aS:=af ((St.refl w).alloc #[.slice A n c,.int .i64 d.on,.int .i64 d.off,.int .i64 d.flip] 144);have H:=af h;clear h;obtain⟨bo,hok⟩:∃b,bK d=b:=⟨_,rfl⟩;obtain⟨bs,hs⟩:∃b,iJ s=b:=⟨_,rfl⟩;have HV:bK d=false∨iJ s=false→pG d s= -1:=fun h=>if_neg (by rintro⟨h1,h2⟩;rcases h with h | h<;>simp_all)
 have bG:=Bx.mk hok;have HS:=Bx.mk hs;have HLI:Bx (decide (0≤s∧s≤31)=bs):=Bx.mk (by rw[←hs];unfold iJ;congr 1;apply propext;omega)
 cases bo with
 |false=>
  have HV:=Bx.mk (HV (.inl hok));clear hok hs;go_enter Tryz.func122,Tryz.ntmps122
  go_wp2_with fail
  refine(mO A n c d _ (H.out.up aS.out.below) kQ).mono ?_;rw[bG.out];rintro e w1 ⟨rfl,hb1⟩;have HB:=af (aS.out.quiet hb1).below;clear hb1;go_wp2;go_ret;exact⟨aP HV.out.symm,HB.out⟩
 |true=>
  cases bs with
  |false=>
   have HV:=Bx.mk (HV (.inr hs));clear hok hs;go_enter Tryz.func122,Tryz.ntmps122
   go_wp2_with fail
   refine(mO A n c d _ (H.out.up aS.out.below) kQ).mono ?_;rw[bG.out];rintro e w1 ⟨rfl,hb1⟩;have HB:=af (aS.out.quiet hb1).below;clear hb1
   go_wp2_with fail
   refine(jf s 0 31 _).mono ?_;rw[HLI.out];rintro e w2 ⟨rfl,rfl⟩;go_wp2;go_ret;exact⟨aP HV.out.symm,HB.out⟩
  |true=>
   obtain⟨h0,h1⟩:=(aV s).1 hs;obtain⟨m,rfl⟩:=bC h0;have hm:m<32:=by omega
   have HV:Bx (pG d (m:Int)=opt (bD d m)):=Bx.mk (by unfold pG;rw[if_pos ⟨hok,hs⟩,bW]);clear hok hs h0 h1;go_enter Tryz.func122,Tryz.ntmps122
   go_wp2_with fail
   refine(mO A n c d _ (H.out.up aS.out.below) kQ).mono ?_;rw[bG.out];rintro e w1 ⟨rfl,hb1⟩;have bf:=af (aS.out.quiet hb1);clear hb1
   go_wp2_with fail
   refine(jf (m:Int) 0 31 _).mono ?_;rw[HLI.out];rintro e w2 ⟨rfl,rfl⟩;have q1:=bf.out.cells 0 rfl
   go_wp2_with fail
   refine(uN A n c d m _ (H.out.up bf.out.below) bG.out hm).mono ?_;rintro e w3 ⟨rfl,hb3⟩;have HB:=af (bf.out.quiet hb3).below;clear hb3;go_wp2;go_ret;exact⟨aP HV.out.symm,HB.out⟩
def Eg (ds:List au) (s:Int) (n:Nat):List Int:=if iJ s then wG ds s.toNat n else []
theorem RZ {ds:List au} {s:Int} {k:Nat} {d:au} (hd:ds[k]? =some d) (hok:bK d=true) (h:¬0≤pG d s):Eg ds s (k+1)=Eg ds s k:=by
 unfold Eg
 by_cases hs:iJ s=true
 ·rw[if_pos hs,if_pos hs]
  unfold pG at h
  rw[if_pos ⟨hok,hs⟩] at h
  cases ho:bD d s.toNat with
  |none=>exact G9 hd ho
  |some z=>rw[ho] at h;simp only[opt] at h;omega
 ·rw[if_neg hs,if_neg hs]
theorem Si {ds:List au} {s:Int} {k:Nat} {d:au} (hd:ds[k]? =some d) (h:0≤pG d s):Eg ds s (k+1)=Eg ds s k++[((k:Nat):Int)]:=by
 unfold pG at h
 by_cases hs:bK d=true∧iJ s=true
 ·unfold Eg
  rw[if_pos hs.2,if_pos hs.2];rw[if_pos hs] at h;obtain⟨z,hz⟩:=qf.1 h;exact He hd hz
 ·rw[if_neg hs] at h;omega
theorem FK (t:aB) (s:Int) (h:aK t=true):dO t s=Eg t.ay s t.ay.length:=by
 unfold dO Eg;rw[h,Bool.true_and]
theorem lK (v:Value) (t:aB) (s:Int) (w:World) (h:oW w w.heap.size v t):
  Calls Tryz.prog 55 #[v,.int .i64 s] w (Gives w id fun v=>[ax v (dO t s)]):=by
 have h':=h;obtain⟨G,gn,gc,G',n',c',rfl,hg,hgs,hds,hst⟩:=h;have HT:=af h';have Bf:=af hds;have gy:=af hds.len;have hcap:=hds.cap;have hcm:=hds.dw
 unfold maxLen at hcm
 have Lh:Hid (∀g,g=w.heap.size+1→St w ((w.alloc (.cells #[.int .i64 t.start,.slice G gn gc,.slice G' n' c'] 26)).alloc (.cells #[] 3)) [ah w.heap.size 26 #[.int .i64 t.start,.slice G gn gc,.slice G' n' c'],ax (.slice (some ⟨g,0,none⟩) 0 0) []]):=
  af fun g hg=>by subst hg;exact((St.refl w).alloc #[.int .i64 t.start,.slice G gn gc,.slice G' n' c'] 26).call (St.yA _ _ (by simp))
 have aS:=af (Lh.out _ rfl);clear Lh;obtain⟨bo,hok⟩:∃b,aK t=b:=⟨_,rfl⟩;have bG:=af hok;clear hok hds h' hg
 cases bo with
 |false=>
  have HN:=Bx.mk (uX t s (.inl bG.out));go_enter Tryz.func55,Tryz.ntmps55;go_wp2
  go_loopw [6,5] (fun i ov wr=>i= .int .i64 0∧ov= .slice (some ⟨w.heap.size+1,0,none⟩) 0 0∧St w wr [ah w.heap.size 26 #[.int .i64 t.start,.slice G gn gc,.slice G' n' c'],ax (.slice (some ⟨w.heap.size+1,0,none⟩) 0 0) []]) (fun i _ _=>0)
  case atStart=>exact⟨rfl,rfl,aS.out⟩
  case round=>
   clear aS;obtain⟨rfl,rfl,S⟩:=hrel;have HS:=af S;have q0:=S.cells 0 rfl;clear S
   by_cases hn:n'=0
   ·subst hn;go_wp2;go_ret;refine⟨_,rfl,?_⟩;rw[HN.out];exact HS.out.pick [1] (by decide) rfl rfl
   ·have hn0:(0:Int)<(n':Int):=by omega
    clear hn
    go_wp2_with fail
    refine(bV _ t _ (HT.out.up HS.out.below)).mono ?_;rw[bG.out];rintro e w2 ⟨rfl,hb2⟩;have HS2:=af (HS.out.quiet hb2);clear hb2 q0;go_wp2;go_ret;refine⟨_,rfl,?_⟩;rw[HN.out];exact HS2.out.pick [1] (by decide) rfl rfl
 |true=>
  obtain⟨-,-,pz,iL⟩:=aJ t bG.out;have gQ:=af iL;have yF:n'≤6:=by rw[←gy.out];exact pz
  have HY:=Bx.mk (FK t s bG.out);clear iL pz;go_enter Tryz.func55,Tryz.ntmps55;go_wp2
  go_loopw [6,5] (fun i ov wr=>∃(k:Nat) (x5:Value) (ys:List Int),k≤n'∧i= .int .i64 k∧x5=ov∧ys.length≤k∧Bx (Eg t.ay s k=ys)∧St w wr [ah w.heap.size 26 #[.int .i64 t.start,.slice G gn gc,.slice G' n' c'],ax x5 ys]) (fun i _ _=>n'-(intOf i).toNat)
  case atStart=>exact⟨0,_,[],by omega,rfl,rfl,by simp,Bx.mk (by unfold Eg;split<;>rfl),aS.out⟩
  case round=>
   clear aS;obtain⟨k,x5,ys,hk,rfl,rfl,hyl,HM,S⟩:=hrel;have HS:=af S;have q0:=S.cells 0 rfl;clear S
   by_cases hlt:k<n'
   ·have ZY:(k:Int)<(n':Int):=by omega
    go_wp2_with fail
    refine(bV _ t _ (HT.out.up HS.out.below)).mono ?_;rw[bG.out];rintro e w2 ⟨rfl,hb2⟩;have HS2:=af (HS.out.quiet hb2);clear hb2 q0 HS;obtain⟨b,off,d,rfl,hb,hd,hda⟩:=Bf.out.get hlt;obtain⟨An,nn,cn,p0,p1,p2,p3,dU,hnn,-⟩:=hda;have q2:=HS2.out.cells 0 rfl;have r0:w2.cell? ⟨b,off+k*4,none⟩=some (.slice An nn cn):=(aF HS2.out.below b _ hb).trans p0;have r1:w2.cell? ⟨b,off+k*4+1,none⟩=some (.int .i64 d.on):=(aF HS2.out.below b _ hb).trans p1;have r2:w2.cell? ⟨b,off+k*4+2,none⟩=some (.int .i64 d.off):=(aF HS2.out.below b _ hb).trans p2;have r3:w2.cell? ⟨b,off+k*4+3,none⟩=some (.int .i64 d.flip):=(aF HS2.out.below b _ hb).trans p3;have NE:=af (gQ.out d (bT hd));have HDK:=af hd;have Ll:=af dU;clear p0 p1 p2 p3 dU hd;obtain⟨z,hz⟩:∃z,pG d s=z:=⟨_,rfl⟩;have HZ:=af hz;clear hz
    go_wp2_with fail
    refine(LP An nn cn d s _ (Ll.out.up HS2.out.below) (by omega)).mono ?_;rw[HZ.out];rintro e w3 ⟨rfl,hb3⟩;have fH:=af (HS2.out.quiet hb3);clear hb3 HS2 r0 r1 r2 r3 q2
    by_cases hz:0≤z
    ·have iO:Bx (Eg t.ay s (k+1)=ys++[(k:Int)]):=Bx.mk (by rw[Si HDK.out (by rw[HZ.out];exact hz),HM.out]);have nO:=af (fH.out.qA 1 rfl)
     have Lr:Hid (∀v3 w3',w3'.ownsRow 0 3 1 v3 (ys.length+1) (ints ys++[Value.int .i64 (k:Int)])→(w3.alloc (.cells #[.int .i64 (k:Int)] 3)).grownBy w3' x5.ownBlock→(v3.ownBlock=x5.ownBlock∨v3.ownBlock=some (w3.alloc (.cells #[.int .i64 (k:Int)] 3)).heap.size)→
       St w w3' [ah w.heap.size 26 #[.int .i64 t.start,.slice G gn gc,.slice (some ⟨b,off,none⟩) n' c'],ax v3 (ys++[(k:Int)])]):=
      af fun v3 w3' h1 h2 h3=>St.rY (v:=x5) (xs:=ys) (ys:=[(k:Int)]) ((fH.out.alloc #[.int .i64 (k:Int)] 3).pick [0,1] (by decide) rfl rfl) 1 rfl rfl h1 (by intro y hy;simp at hy;subst hy;exact bU (by omega)) h2 h3
     go_wp2_with (at_builtin;refine cZ iR rfl _ _ rfl 0 x5 ys.length (ints ys) rfl (nO.out.alloc _) _ _ 1 1 [.int .i64 (k:Int)] rfl (bJ.new w3 [.int .i64 (k:Int)] 3 1 1 rfl (by unfold maxLen;omega)) (by simp[Value.oneCell']) (by omega) (by omega) (Nat.zero_le _) ?_;intro v4 w4 hown4 hg4 yO;have jB:=af (Lr.out v4 w4 hown4 hg4 yO))
     go_wp2
     go_roundw
     case rel=>exact⟨k+1,_,ys++[(k:Int)],by omega,by go_num,rfl,by simp;omega,iO,jB.out⟩
     case measure=>simp[intOf];omega
    ·have iO:=Bx.mk ((RZ HDK.out NE.out (by rw[HZ.out];exact hz)).trans HM.out);go_wp2
     go_roundw
     case rel=>exact⟨k+1,_,ys,by omega,by go_num,rfl,by omega,iO,fH.out⟩
     case measure=>simp[intOf];omega
   ·obtain rfl:k=n':=by omega
    have HE:Bx (dO t s=ys):=Bx.mk (by rw[HY.out,gy.out,HM.out]);go_wp2;go_ret;refine⟨_,rfl,?_⟩;rw[HE.out];exact HS.out.pick [1] (by decide) rfl rfl
end Go.Proofs.YtkmcengmglgdeaaGreatDoor
