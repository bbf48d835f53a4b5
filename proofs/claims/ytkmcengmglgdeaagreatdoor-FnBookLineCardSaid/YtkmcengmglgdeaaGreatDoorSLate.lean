/- What this law needs beyond the shared texts. -/
import Derived.Test.YtkmcengmglgdeaaGreatDoorSFwd
import Derived.Test.YtkmcengmglgdeaaGreatDoorSJourP
import Derived.Test.YtkmcengmglgdeaaGreatDoorSLineD
namespace Go.Proofs.YtkmcengmglgdeaaGreatDoor
set_option linter.unusedVariables false
set_option linter.unusedSimpArgs false
set_option maxRecDepth 100000
set_option maxHeartbeats 8000000
section
variable {ds : List au} {S : Nat → Bool}
theorem agm {m n s:Nat} (hmn:m≤n) (h:lZ ds S m s=true):lZ ds S n s=true:=by
 induction n with
 |zero=>have:m=0:=by omega
        subst this;exact h
 |succ n ih=>
  rcases Nat.lt_or_ge m (n+1) with h1 | h1
  ·exact VR (ih (by omega))
  ·have:m=n+1:=by omega
   subst this;exact h
theorem qc {n:Nat} (h:vI ds S n) {m:Nat} (hm:n≤m):vI ds S m:=by
 intro s hs hb
 have e:∀s,s<32→lZ ds S m s=lZ ds S n s:=fun s hs=>by
  have:=Py h (m-n) s hs
  rwa[show n+(m-n)=m by omega] at this
 rw[EJ e] at hb;rw[e s hs];exact h s hs hb
theorem agn:vI ds S 31:=by
 have key:∀n,(∃s,s<32∧S s=true)→vI ds S n∨n+1≤cnt (lZ ds S n) 32:=by
  intro n hne
  induction n with
  |zero=>exact .inr (Xd.2 hne)
  |succ n ih=>
   by_cases hf:vI ds S n
   ·exact .inl (qc hf (by omega))
   ·rcases ih with h | h
    ·exact absurd h hf
    ·have:=Tv hf;exact .inr (by omega)
 by_cases hne:∃s,s<32∧S s=true
 ·rcases key 31 hne with h | h
  ·exact h
  ·intro s hs _
   cases e:lZ ds S 31 s with
   |true=>rfl
   |false=>
    have:=cnt_lt (p:=lZ ds S 31) (q:=fun _=>true) (n:=32) (fun _ _ _=>rfl) hs e rfl
    have h2:=cnt_le (fun _=>true) 32
    omega
 ·have h0:vI ds S 0:=by
   intro s hs hb;obtain⟨s',h1,h2,-⟩:=yY.1 hb;exact absurd ⟨s',h1,h2⟩ hne
  exact qc h0 (by omega)
end
end Go.Proofs.YtkmcengmglgdeaaGreatDoor

namespace Go.Proofs.YtkmcengmglgdeaaGreatDoor
set_option linter.unusedVariables false
set_option linter.unusedSimpArgs false
set_option maxRecDepth 100000
set_option maxHeartbeats 8000000
section
variable {ds : List au} {S : Nat → Bool} {s0 : Nat}
theorem agi {n x:Nat}:layer ds (eu ds S) n x=true→layer ds S (n+1) x=true:=by
 induction n generalizing x with
 |zero=>intro h;simp only[layer] at h ⊢;rw[h];simp
 |succ n ih=>
  intro h;simp only[layer,Bool.or_eq_true] at h
  rcases h with h | h
  ·exact D7 (ih h)
  ·have:=Om (T:=layer ds S (n+1)) (fun s' h'=>ih h') h
   show(layer ds S (n+1) x||eu ds (layer ds S (n+1)) x)=true
   rw[this];simp
theorem agl {n:Nat}:∀(S:Nat→Bool) (s:Nat),lZ ds (only s0) n s=true→S s=true→layer ds S n s0=true:=by
 induction n with
 |zero=>
  intro S s h hS;have:s0=s:=by simpa[lZ,only] using h
  rw[this];exact hS
 |succ n ih=>
  intro S s h hS;simp only[lZ,Bool.or_eq_true] at h
  rcases h with h | h
  ·exact D7 (ih S s h hS)
  ·obtain⟨s',hs',h',d,hdm,e⟩:=yY.1 h;exact agi (ih (eu ds S) s' h' (jM.2 ⟨d,hdm,s,e,hS⟩))
end
section
variable {ds : List au} {S : Nat → Bool} {s0 : Nat}
end
end Go.Proofs.YtkmcengmglgdeaaGreatDoor

namespace Go.Proofs.YtkmcengmglgdeaaGreatDoor
set_option linter.unusedVariables false
set_option linter.unusedSimpArgs false
set_option maxRecDepth 100000
set_option maxHeartbeats 8000000
theorem CB {n:Nat} (h:n<10):(oO n).toNat=48+n:=by
 unfold oO;rw[UInt8.toNat_ofNat'];omega
theorem ab1 (n:Nat):∀c∈jm n,48≤c.toNat∧c.toNat≤57:=by
 induction n using Nat.strongRecOn with
 |_ n ih=>
  by_cases h:n<10
  ·rw[lX h];intro c hc;rw[List.mem_singleton.1 hc,CB h];omega
  ·rw[qo h];intro c hc
   rcases List.mem_append.1 hc with hc | hc
   ·exact ih (n/10) (by omega) c hc
   ·rw[List.mem_singleton.1 hc,CB (by omega)];omega
theorem af7 (n:Nat):(32:UInt8)∉jm n:=fun h=>by
 have:=(ab1 n 32 h).1
 have e:(32:UInt8).toNat=32:=rfl
 omega
theorem XA {s:List UInt8} (hs:∀c∈s,48≤c.toNat∧c.toNat≤57) {d:Nat} (hd:d<10):∀acc,gu acc (s++[oO d])=10*gu acc s+d:=by
 induction s with
 |nil=>
  intro acc
  have:=CB hd
  simp only[List.nil_append,gu];rw[if_neg (by omega)]
  omega
 |cons c s ih=>
  intro acc;have h1:=hs c (List.mem_cons_self ..);simp only[List.cons_append,gu];rw[if_neg (by omega),if_neg (by omega)];exact ih (fun c hc=>hs c (List.mem_cons_of_mem _ hc)) _
theorem agd (n:Nat):gu 0 (jm n)=n:=by
 induction n using Nat.strongRecOn with
 |_ n ih=>
  by_cases h:n<10
  ·rw[lX h,show [oO n]=[]++[oO n] from rfl,XA (by simp) h];simp[gu]
  ·rw[qo h,XA (ab1 _) (by omega),ih (n/10) (by omega)];omega
theorem agk (n:Nat) (h0:n≠0):(jm n).head? ≠some 48:=by
 induction n using Nat.strongRecOn with
 |_ n ih=>
  by_cases h:n<10
  ·rw[lX h];intro e;simp only[List.head?_cons,Option.some.injEq] at e
   have:=CB h
   rw[e] at this;have e2:(48:UInt8).toNat=48:=rfl
   omega
  ·have:=ih (n/10) (by omega) (by omega)
   rw[qo h,List.head?_append]
   cases hh:(jm (n/10)).head? with
   |none=>exact absurd (List.head?_eq_none_iff.1 hh) (Jt _)
   |some x=>rw[hh] at this;simpa using this
theorem agf {n:Nat} (h:n<10000000000):ku (jm n)=n:=by
 have hl:=rG 9 n (by simpa using h)
 have hn:1≤(jm n).length:=by
  have:=Jt n
  cases hh:jm n with
  |nil=>exact absurd hh this
  |cons a b=>simp
 unfold ku
 rw[if_neg]
 ·exact agd n
 ·rintro(h1 | h1 | ⟨h1,h2⟩)
  ·omega
  ·omega
  ·refine agk n ?_ h2;rintro rfl;rw[lX (by decide)] at h1
   simp at h1
theorem agh {t:aB} {p:List Int} (h:dG t=some p):iW t p=true:=by
 obtain⟨-,h2,h3⟩:=oL h
 unfold iW;rw[h3,decide_eq_true h2];rfl
theorem ZA {t:aB} (hok:aK t=true) (h:dG t=none):eF t (aQ (lZ t.ay (only t.start.toNat) 32) 32:Nat)=true:=by
 have hst:0≤t.start∧t.start<32:=by
  unfold aK at hok
  simp only[Bool.and_eq_true] at hok;exact(aV _).1 hok.1.1.1
 obtain⟨s0,hs0⟩:∃s0,t.start.toNat=s0:=⟨_,rfl⟩;have h0:s0<32:=by omega
 have hneg:jc t.ay (aH t.goal) s0<0:=by
  unfold dG Oz at h
  rw[if_pos hok,hs0] at h
  split at h
  ·assumption
  ·cases h
 have hset:∀s,s<32→gq (aQ (lZ t.ay (only s0) 32) 32) s=lZ t.ay (only s0) 32 s:=fun s hs=>jw _ hs
 unfold eF
 rw[hok,hs0,bW];simp only[Bool.true_and,Bool.and_eq_true,List.all_eq_true,List.mem_range,decide_eq_true_eq];refine⟨⟨⟨by omega,by have:=Qc (lZ t.ay (only s0) 32) 32;omega⟩,?_⟩,fun s hs=>?_⟩
 ·rw[hset s0 h0];exact agm (Nat.zero_le _) (by simp[lZ,only])
 ·rw[hset s hs]
  cases hf:lZ t.ay (only s0) 32 s with
  |false=>rfl
  |true=>
   simp only[Bool.not_true,Bool.false_or,Bool.and_eq_true,List.all_eq_true];refine⟨?_,fun d hd=>?_⟩
   ·cases hg:aH t.goal s with
    |false=>rfl
    |true=>
     have:=agl (aH t.goal) s hf hg
     have:=uO.2 this
     unfold jc at hneg
     omega
   ·cases hq:bD d s with
    |none=>rfl
    |some q=>
     have agw:=iy d s q (by
      unfold aK at hok
      simp only[Bool.and_eq_true,List.all_eq_true] at hok
      exact hok.2 d hd) hs hq
     show gq _ q=true
     rw[hset q agw];exact(qc (agn (ds:=t.ay) (S:=only s0)) (show 31≤32 by omega)) q agw (yY.2 ⟨s,hs,hf,d,hd,hq⟩)
theorem agp (p:List Int) (cur:List UInt8) (h:(32:UInt8)∉cur):fQ 32 [] (cur++p.flatMap fun k=>32::jm k.toNat)=cur::p.map fun k=>jm k.toNat:=by
 induction p generalizing cur with
 |nil=>simpa using nX h []
 |cons k p ih=>
  rw[List.flatMap_cons,List.cons_append,oP h];rw[ih (jm k.toNat) (af7 _)]
  rfl
theorem af9 {t:aB} (hok:aK t=true):bY t (jq t)=if(dG t).isSome then 1 else 0:=by
 unfold jq
 rw[if_pos hok]
 cases hp:dG t with
 |some p=>
  show bY t (nG p)=1
  have e:(p.map fun k=>jm k.toNat).map kH=p:=by
   rw[List.map_map]
   conv=>rhs;rw[←List.map_id p]
   refine List.map_congr_left fun x hx=>?_
   have:=wY hp x hx
   simp only[Function.comp,id];rw[yT (by omega),Hy _ (by omega)]
   omega
  unfold bY nG
  rw[agp p kM (by decide)];simp only[if_true,e];rw[agh hp];rfl
 |none=>
  show bY t (match kN t with | some f=>sumW++32::gK f | none=>_)=0
  cases hs:kN t with
  |some f=>
   have h1:kE t f=true:=List.find?_some hs;have h2:f<32:=by simpa using List.mem_of_find?_eq_some hs
   show bY t (sumW++32::gK f)=0
   unfold bY
   rw[oP (by decide),nX (Tj f h2)];simp only[List.nil_append];rw[if_neg (by decide),if_neg (by decide),if_pos trivial,MP f h2];simp only[h1,if_true]
  |none=>
   show bY t (jk++32::jm (aQ (lZ t.ay (only t.start.toNat) 32) 32))=0
   have hM:=dI (lZ t.ay (only t.start.toNat) 32);have hc:=ZA hok hp
   generalize aQ (lZ t.ay (only t.start.toNat) 32) 32=M at hM hc ⊢
   unfold bY
   rw[oP (by decide),nX (af7 _)];simp only[List.nil_append];rw[if_neg (by decide),if_pos trivial];exact if_pos (by rw[agf (by omega)];exact hc)
end Go.Proofs.YtkmcengmglgdeaaGreatDoor

namespace Go.Proofs.YtkmcengmglgdeaaGreatDoor
set_option linter.unusedVariables false
set_option linter.unusedSimpArgs false
set_option maxRecDepth 100000
set_option maxHeartbeats 8000000
theorem agq {r:List UInt8}:readA (99::r)=none:=by
 cases h:readA (99::r) with
 |none=>rfl
 |some a=>
  obtain⟨k,n⟩:=a
  have:=Hw h
  generalize hs:(99:UInt8)::r=s at this
  cases this<;>simp[KE,o5,qP,endW] at hs
theorem aga {b:aG} (h:aN b=true):lQ b [32]=(b,Ep):=by
 unfold lQ
 rw[if_pos h,show readA [32]=none from by decide]
 rfl
theorem agb {b:aG} (h:aN b=true):lQ b Ak=(b,jq (dD b)):=by
 unfold lQ
 rw[if_pos h,show readA Ak=none from by decide]
 rfl
theorem agc {b:aG} (h:aN b=true):(lQ b (qm++jq (dD b))).2=if(dB b).isSome then acY else QT:=by
 obtain⟨h1,-,h3,-⟩:=bF h;have ht:=fZ h1 h3;have hne:=TP ht;have hc:∀r,qm++r=99::(qm.tail++r):=fun r=>rfl
 unfold lQ
 rw[if_pos h,hc,agq]
 show(if _ then _ else(b,rE b _)).2=_
 simp only[show¬(99::(qm.tail++jq (dD b))=kC) by simp[kC],if_false]
 show rE b _=_
 unfold rE
 rw[if_neg (by simp[Af]),if_neg (by simp[Hf]),if_neg (by simp[Hg]),if_neg (by simp[Sv]),if_neg (by simp[Hq]),if_neg (by simp[Aj]),if_neg (by simp[Ak]),←hc,
  if_pos ⟨by rw[List.isPrefixOf_iff_prefix];exact⟨_,rfl⟩,by
   have:0<(jq (dD b)).length:=List.length_pos_iff.2 hne
   simp[qm];omega⟩]
 rw[show(qm++jq (dD b)).drop 6=jq (dD b) from rfl,af9 ht,oM b h]
 cases(dG (dD b)).isSome<;>rfl
end Go.Proofs.YtkmcengmglgdeaaGreatDoor

namespace Go.Proofs.YtkmcengmglgdeaaGreatDoor
set_option linter.unusedVariables false
set_option linter.unusedSimpArgs false
set_option maxRecDepth 100000
set_option maxHeartbeats 8000000
open Go.ChangeShapes Go.WideShapes Go.ChangeAt Go.RowKit
theorem QA {t:aB} (hok:aK t=true):(jq t).length≤200:=by
 cases hp:dG t with
 |some p=>
  rw[BL hok hp];obtain⟨h1,-,h3,-⟩:=sK hp
  have:=Ir (p:=p) (wY hp)
  omega
 |none=>
  cases hs:kN t with
  |some f=>
   rw[E8 hok hp hs]
   have:=iM f
   simp[sumW];omega
  |none=>
   rw[xk hok hp hs];have h1:=dI (lZ t.ay (only t.start.toNat) 32)
   have:=rG 9 (aQ (lZ t.ay (only t.start.toNat) 32) 32) (by omega)
   simp[jk];omega
theorem af8 (A:Option Addr) (n c:Nat) (xs:List Int) (w:World) (h:jd .u8 w w.heap.size A n c xs):
  Calls Tryz.prog 8 #[.slice A n c] w fun e w'=>∃v b s,e= .returned (.tuple #[v,.string s])∧s.size≤1000∧St w w' [aI v b]:=by
 have aS:=af ((St.refl w).alloc #[.int .i64 0,.slice none 0 0,.slice none 0 0,.slice none 0 0,.int .i64 0] 28);have H:=af h;clear h;go_enter Tryz.func8,Tryz.ntmps8
 go_wp2_with fail
 refine(NQ aS.out H.out).mono ?_;rintro e w1 ⟨g,rfl,s1⟩;have bf:=af s1;clear s1 aS
 go_wp2_with fail
 refine(NR bf.out (by omega) 12).mono ?_;rintro e w2 ⟨v2,b,rfl,s2⟩;obtain⟨B1,m1,d1,B2,m2,d2,B3,m3,d3,hv⟩:=s2.gU 1 rfl;obtain⟨os,hos⟩:∃x,b.order.start=x:=⟨_,rfl⟩;obtain⟨st,hst⟩:∃x,b.state=x:=⟨_,rfl⟩;rw[hos,hst] at hv;subst hv;have kK:=Bx.mk hst;obtain⟨g5,hg5⟩:∃x,w2.heap.size=x:=⟨_,rfl⟩
 have HS2:Hid (St w (w2.alloc (.cells #[.int .i64 os,.slice B1 m1 d1,.slice B2 m2 d2,.slice B3 m3 d3,.int .i64 st] 28)) [fG w g 400,ah w.heap.size 28 #[.int .i64 0,.slice none 0 0,.slice none 0 0,.slice none 0 0,.int .i64 0],ah g5 28 #[.int .i64 os,.slice B1 m1 d1,.slice B2 m2 d2,.slice B3 m3 d3,.int .i64 st],aI (.agg #[.int .i64 os,.slice B1 m1 d1,.slice B2 m2 d2,.slice B3 m3 d3,.int .i64 st]) b]):=af (by
  rw[←hg5]
  exact(s2.alloc #[.int .i64 os,.slice B1 m1 d1,.slice B2 m2 d2,.slice B3 m3 d3,.int .i64 st] 28).pick [0,2,3,1] (by decide) rfl rfl)
 clear s2 bf hos hst;have q5:=HS2.out.cells 2 rfl;obtain⟨bo,yt⟩:∃x,aN b=x:=⟨_,rfl⟩;have HBO:=Bx.mk yt;clear yt
 go_wp2_with fail
 try simp only[hg5]
 refine(dM _ b _ (HS2.out.CX 3 rfl)).mono ?_;rw[HBO.out];rintro e w3 ⟨rfl,hb3⟩;have cu:=af (HS2.out.quiet hb3);clear hb3 HS2 q5
 cases bo with
 |false=>
  have fH:Hid (St w w3 [fG w g 500,ah w.heap.size 28 #[.int .i64 0,.slice none 0 0,.slice none 0 0,.slice none 0 0,.int .i64 0],ah g5 28 #[.int .i64 os,.slice B1 m1 d1,.slice B2 m2 d2,.slice B3 m3 d3,.int .i64 st],aI (.agg #[.int .i64 os,.slice B1 m1 d1,.slice B2 m2 d2,.slice B3 m3 d3,.int .i64 st]) b]):=af (cu.out.more (by omega))
  go_upto_region 5 with(fail)
  refine kG (σ:={s:ByteArray//s.size≤100})
   (fun s i=>match i with
    |0=>.agg #[.int .i64 os,.slice B1 m1 d1,.slice B2 m2 d2,.slice B3 m3 d3,.int .i64 st]
    |1=>.pointer (some ⟨g,0,none⟩)
    |2=>.agg #[.int .i64 os,.slice B1 m1 d1,.slice B2 m2 d2,.slice B3 m3 d3,.int .i64 st]
    |3=>.string s.1
    |5=>.string s.1
    |_=>undef)
   (fun D s wx=>Sn w wx fun i=>match i with
    |0=>some (fG w g (if D 3=true then 500+20 else 500))
    |1=>some (ah w.heap.size 28 (if D 4=true then #[.int .i64 os,.slice B1 m1 d1,.slice B2 m2 d2,.slice B3 m3 d3,.int .i64 st] else #[.int .i64 0,.slice none 0 0,.slice none 0 0,.slice none 0 0,.int .i64 0]))
    |2=>some (ah g5 28 #[.int .i64 os,.slice B1 m1 d1,.slice B2 m2 d2,.slice B3 m3 d3,.int .i64 st])
    |3=>some (aI (.agg #[.int .i64 os,.slice B1 m1 d1,.slice B2 m2 d2,.slice B3 m3 d3,.int .i64 st]) b)
    |_=>none)
   ⟨.empty,by decide⟩ ?_ ?_ ?_
  ·intro D hD;refine((Sn.dN fH.out).quiet ((ai _ _).drew)).congr fun i=>?_
   match i with
   |0=>simp only[hD 3 (by decide)];rfl
   |1=>simp only[hD 4 (by decide)];rfl
   |2 | 3=>rfl
   |q+4=>rfl
  ·refine Cs (fun D s wx hR _ hd _ _ hs K hK=>?_) ?_
   ·have e5:=hs.o 5 (.pointer (some ⟨g5,0,none⟩));clear hs;have qk:=(hR.blk 2 rfl).cell;go_simp;exact hK s wx sv hR
   refine Cs (fun D s wx hR _ hd _ _ hs K hK=>?_) ?_
   ·have e4:=hs.o 4 (.pointer (some ⟨g,0,none⟩));clear hs;go_simp;exact hK s wx sv hR
   refine Cs (fun D s wx hR _ hd _ _ hs K hK=>?_) ?_
   ·have e5:=hs.o 5 (.pointer (some ⟨g5,0,none⟩));clear hs;have qk:=(hR.blk 2 rfl).cell;go_simp;exact hK s wx sv hR
   refine Cs (fun D s wx hR (hDi:D 3=false) hd hsh _ hs K hK=>?_) ?_
   ·have e30:=hs.v 1 30 hd;have e31:=hs.v 2 31 hd;have g30:=aX e30;have g31:=aX e31;clear hs;have n5:D 5=false:=hsh.no hDi 5 rfl ⟨3,.data⟩ (by simp) rfl rfl;go_simp
    cases h4:D 4 with
    |true=>
     have s1:St w wx (fG w g 500::[ah w.heap.size 28 #[.int .i64 os,.slice B1 m1 d1,.slice B2 m2 d2,.slice B3 m3 d3,.int .i64 st],ah g5 28 #[.int .i64 os,.slice B1 m1 d1,.slice B2 m2 d2,.slice B3 m3 d3,.int .i64 st],aI (.agg #[.int .i64 os,.slice B1 m1 d1,.slice B2 m2 d2,.slice B3 m3 d3,.int .i64 st]) b]):=hR.eG [0,1,2,3] (by decide) (by simp only[List.map,hDi,h4]<;>rfl);refine(NS s1 (by omega) 2 rfl).mono ?_;rintro e2 w2 ⟨ns,rfl,hns,s2⟩
     refine hK ⟨ns,hns⟩ w2
      (fun j hj=>by
       match j,hj with
       |0,hj | 1,hj | 2,hj=>rfl
       |3,hj=>rw[hDi] at hj;cases hj
       |4,hj=>rfl
       |5,hj=>rw[n5] at hj;cases hj
       |_+6,hj=>rfl)
      ((Sn.dN s2).congr (fun i=>by
       match i with
       |0=>rfl
       |1=>(show some (ah _ _ (if D 4=true then _ else _))=_;rw[h4]<;>rfl)
       |2 | 3=>rfl
       |q+4=>rfl))
    |false=>
     have s1:St w wx (fG w g 500::[ah w.heap.size 28 #[.int .i64 0,.slice none 0 0,.slice none 0 0,.slice none 0 0,.int .i64 0],ah g5 28 #[.int .i64 os,.slice B1 m1 d1,.slice B2 m2 d2,.slice B3 m3 d3,.int .i64 st],aI (.agg #[.int .i64 os,.slice B1 m1 d1,.slice B2 m2 d2,.slice B3 m3 d3,.int .i64 st]) b]):=hR.eG [0,1,2,3] (by decide) (by simp only[List.map,hDi,h4]<;>rfl);refine(NS s1 (by omega) 2 rfl).mono ?_;rintro e2 w2 ⟨ns,rfl,hns,s2⟩
     refine hK ⟨ns,hns⟩ w2
      (fun j hj=>by
       match j,hj with
       |0,hj | 1,hj | 2,hj=>rfl
       |3,hj=>rw[hDi] at hj;cases hj
       |4,hj=>rfl
       |5,hj=>rw[n5] at hj;cases hj
       |_+6,hj=>rfl)
      ((Sn.dN s2).congr (fun i=>by
       match i with
       |0=>rfl
       |1=>(show some (ah _ _ (if D 4=true then _ else _))=_;rw[h4]<;>rfl)
       |2 | 3=>rfl
       |q+4=>rfl))
   refine Cs (fun D s wx hR (hDi:D 4=false) hd _ _ hs K hK=>?_) ?_
   ·have e2:=hs.o 2 (.pointer (some ⟨w.heap.size,0,none⟩));have e29:=hs.v 0 29 hd;clear hs;have kb:fU wx w.heap.size 28 #[.int .i64 0,.slice none 0 0,.slice none 0 0,.slice none 0 0,.int .i64 0]:=hR.blk 1 (by simp only[hDi]<;>rfl);have f0:=kb.frozen;have qk:=kb.cell;go_simp
    exact hK s _ sv ((hR.fF 1 (by simp only[hDi];rfl) _ _ _ _ _).congr
     (fun i=>by
      match i with
      |0 | 1 | 2 | 3=>rfl
      |q+4=>exact(if_neg (show¬(q+4=1) by omega)).symm))
   refine Cs (fun D s wx hR _ hd _ _ hs K hK=>?_) ?_
   ·have e32:=hs.v 3 32 hd;clear hs;go_simp;exact hK s wx sv hR
   exact aj.nil
  ·intro D s wx hR hD;simp only[eH,Act.put,aO,aU,aW];have fP:Hid (St w wx [aI (.agg #[.int .i64 os,.slice B1 m1 d1,.slice B2 m2 d2,.slice B3 m3 d3,.int .i64 st]) b,ah w.heap.size 28 #[.int .i64 os,.slice B1 m1 d1,.slice B2 m2 d2,.slice B3 m3 d3,.int .i64 st]]):=af (hR.eG [3,1] (by decide) (by simp only[List.map,hD 4 (by decide)]<;>rfl));clear hR hD;have z0:=fP.out.cells 1 rfl;go_wp2;refine bodyPost_ret (v:=.tuple #[.agg #[.int .i64 os,.slice B1 m1 d1,.slice B2 m2 d2,.slice B3 m3 d3,.int .i64 st],.string s.1]) (by simp[results,Tryz.results8,go_sem,z0]) rfl ⟨.agg #[.int .i64 os,.slice B1 m1 d1,.slice B2 m2 d2,.slice B3 m3 d3,.int .i64 st],b,s.1,rfl,(Nat.le_trans s.2 (by decide)),fP.out.pick [0] (by decide) rfl rfl⟩
 |true=>
  have hbp:=bF HBO.out;have acJ:=Bx.mk (fZ hbp.1 hbp.2.2.1);have hps:=QA acJ.out;obtain⟨pt,hpt⟩:∃x,(⟨(jq (dD b)).toArray⟩:ByteArray)=x:=⟨_,rfl⟩;have HPT:=Bx.mk hpt;have hpz:pt.size≤200:=by rw[←hpt];show(jq (dD b)).toArray.size≤_;rw[List.size_toArray];exact hps
  have Oh:Hid (¬9223372036854775807<6+pt.size):=af (by omega);have HPZ:Hid ((⟨#[99,104,101,99,107,32]⟩++pt:ByteArray).size≤1000):=af (by rw[ByteArray.size_append];show 6+pt.size≤_;omega);clear hbp hps hpt hpz
  go_wp2_with fail
  refine(dQ cu.out (by omega) 6).mono ?_;rintro e w4 ⟨x,rfl,-,s4⟩;have dX:=af s4;clear s4 cu
  by_cases hx:x=0
  ·subst hx;have fH:=af (dX.out.pick (L':=[ah w.heap.size 28 #[.int .i64 0,.slice none 0 0,.slice none 0 0,.slice none 0 0,.int .i64 0],ah g5 28 #[.int .i64 os,.slice B1 m1 d1,.slice B2 m2 d2,.slice B3 m3 d3,.int .i64 st],aI (.agg #[.int .i64 os,.slice B1 m1 d1,.slice B2 m2 d2,.slice B3 m3 d3,.int .i64 st]) b]) [1,2,3] (by decide) rfl rfl)
   go_upto_region 4 with(fail)
   refine kG (σ:=Unit)
    (fun _ i=>match i with
     |0=>.agg #[.int .i64 os,.slice B1 m1 d1,.slice B2 m2 d2,.slice B3 m3 d3,.int .i64 st]
     |1=>.pointer (some ⟨g5,4,none⟩)
     |2=>.int .i64 st
     |3=>.pointer (some ⟨g5,0,none⟩)
     |4=>.pointer (some ⟨g5,1,none⟩)
     |5=>.slice B1 m1 d1
     |6=>.pointer (some ⟨g5,0,none⟩)
     |7=>.pointer (some ⟨g5,2,none⟩)
     |8=>.slice B2 m2 d2
     |9=>.agg #[.int .i64 st,.slice B1 m1 d1,.slice B2 m2 d2]
     |10=>.string pt
     |11=>.string (⟨#[99,104,101,99,107,32]⟩++pt)
     |13=>.string (⟨#[99,104,101,99,107,32]⟩++pt)
     |_=>undef)
    (fun D _ wx=>Sn w wx fun i=>match i with
     |0=>some (ah w.heap.size 28 (if D 12=true then #[.int .i64 os,.slice B1 m1 d1,.slice B2 m2 d2,.slice B3 m3 d3,.int .i64 st] else #[.int .i64 0,.slice none 0 0,.slice none 0 0,.slice none 0 0,.int .i64 0]))
     |1=>some (ah g5 28 #[.int .i64 os,.slice B1 m1 d1,.slice B2 m2 d2,.slice B3 m3 d3,.int .i64 st])
     |2=>some (aI (.agg #[.int .i64 os,.slice B1 m1 d1,.slice B2 m2 d2,.slice B3 m3 d3,.int .i64 st]) b)
     |_=>none)
    () ?_ ?_ ?_
   ·intro D hD;refine((Sn.dN fH.out).quiet ((ai _ _).drew)).congr fun i=>?_
    match i with
    |0=>simp only[hD 12 (by decide)];rfl
    |1 | 2=>rfl
    |q+3=>rfl
   ·refine Cs (fun D _ wx hR _ hd _ _ hs K hK=>?_) ?_
    ·have e5:=hs.o 5 (.pointer (some ⟨g5,0,none⟩));clear hs;have qk:=(hR.blk 1 rfl).cell;go_simp;exact hK () wx sv hR
    refine Cs (fun D _ wx hR _ hd _ _ hs K hK=>?_) ?_
    ·have e5:=hs.o 5 (.pointer (some ⟨g5,0,none⟩));clear hs;go_simp;exact hK () wx sv hR
    refine Cs (fun D _ wx hR _ hd _ _ hs K hK=>?_) ?_
    ·have e18:=hs.v 1 18 hd;clear hs;have qk:=(hR.blk 1 rfl).cell;go_simp;exact hK () wx sv hR
    refine Cs (fun D _ wx hR _ hd _ _ hs K hK=>?_) ?_
    ·have e5:=hs.o 5 (.pointer (some ⟨g5,0,none⟩));clear hs;go_simp;exact hK () wx sv hR
    refine Cs (fun D _ wx hR _ hd _ _ hs K hK=>?_) ?_
    ·have e20:=hs.v 3 20 hd;clear hs;go_simp;exact hK () wx sv hR
    refine Cs (fun D _ wx hR _ hd _ _ hs K hK=>?_) ?_
    ·have e21:=hs.v 4 21 hd;clear hs;have qk:=(hR.blk 1 rfl).cell;go_simp;exact hK () wx sv hR
    refine Cs (fun D _ wx hR _ hd _ _ hs K hK=>?_) ?_
    ·have e5:=hs.o 5 (.pointer (some ⟨g5,0,none⟩));clear hs;go_simp;exact hK () wx sv hR
    refine Cs (fun D _ wx hR _ hd _ _ hs K hK=>?_) ?_
    ·have e23:=hs.v 6 23 hd;clear hs;go_simp;exact hK () wx sv hR
    refine Cs (fun D _ wx hR _ hd _ _ hs K hK=>?_) ?_
    ·have e24:=hs.v 7 24 hd;clear hs;have qk:=(hR.blk 1 rfl).cell;go_simp;exact hK () wx sv hR
    refine Cs (fun D _ wx hR _ hd _ _ hs K hK=>?_) ?_
    ·have e19:=hs.v 2 19 hd;have e22:=hs.v 5 22 hd;have e25:=hs.v 8 25 hd;have g19:=aX e19;have g22:=aX e22;have g25:=aX e25;clear hs;go_simp;exact hK () wx sv hR
    refine Cs (fun D _ wx hR _ hd _ _ hs K hK=>?_) ?_
    ·have e26:=hs.v 9 26 hd;have g26:=aX e26;clear hs;go_simp;refine(Eo _ (dD b) _ ((BN.from_ (hR.CX 2 rfl) kK.out.symm)) acJ.out).mono ?_;rw[HPT.out];rintro e2 w2 ⟨rfl,hb2⟩;exact hK () w2 sv (hR.quiet hb2)
    refine Cs (fun D _ wx hR _ hd _ _ hs K hK=>?_) ?_
    ·have e27:=hs.v 10 27 hd;clear hs;have h0:=Oh.out;go_simp;exact hK () wx sv hR
    refine Cs (fun D _ wx hR (hDi:D 12=false) hd _ _ hs K hK=>?_) ?_
    ·have e2:=hs.o 2 (.pointer (some ⟨w.heap.size,0,none⟩));have e17:=hs.v 0 17 hd;clear hs;have kb:fU wx w.heap.size 28 #[.int .i64 0,.slice none 0 0,.slice none 0 0,.slice none 0 0,.int .i64 0]:=hR.blk 0 (by simp only[hDi]<;>rfl);have f0:=kb.frozen;have qk:=kb.cell;go_simp
     exact hK () _ sv ((hR.fF 0 (by simp only[hDi];rfl) _ _ _ _ _).congr
      (fun i=>by
       match i with
       |0 | 1 | 2=>rfl
       |q+3=>exact(if_neg (show¬(q+3=0) by omega)).symm))
    refine Cs (fun D _ wx hR _ hd _ _ hs K hK=>?_) ?_
    ·have e28:=hs.v 11 28 hd;clear hs;go_simp;exact hK () wx sv hR
    exact aj.nil
   ·intro D _ wx hR hD;simp only[eH,Act.put,aO,aU,aW];have fP:Hid (St w wx [aI (.agg #[.int .i64 os,.slice B1 m1 d1,.slice B2 m2 d2,.slice B3 m3 d3,.int .i64 st]) b,ah w.heap.size 28 #[.int .i64 os,.slice B1 m1 d1,.slice B2 m2 d2,.slice B3 m3 d3,.int .i64 st]]):=af (hR.eG [2,0] (by decide) (by simp only[List.map,hD 12 (by decide)]<;>rfl));clear hR hD;have z0:=fP.out.cells 1 rfl;go_wp2;refine bodyPost_ret (v:=.tuple #[.agg #[.int .i64 os,.slice B1 m1 d1,.slice B2 m2 d2,.slice B3 m3 d3,.int .i64 st],.string (⟨#[99,104,101,99,107,32]⟩++pt)]) (by simp[results,Tryz.results8,go_sem,z0]) rfl ⟨.agg #[.int .i64 os,.slice B1 m1 d1,.slice B2 m2 d2,.slice B3 m3 d3,.int .i64 st],b,(⟨#[99,104,101,99,107,32]⟩++pt),rfl,HPZ.out,fP.out.pick [0] (by decide) rfl rfl⟩
  ·have e0:(x == 0)=false:=beq_false_of_ne hx;have fH:Hid (St w w4 [fG w g 500,ah w.heap.size 28 #[.int .i64 0,.slice none 0 0,.slice none 0 0,.slice none 0 0,.int .i64 0],ah g5 28 #[.int .i64 os,.slice B1 m1 d1,.slice B2 m2 d2,.slice B3 m3 d3,.int .i64 st],aI (.agg #[.int .i64 os,.slice B1 m1 d1,.slice B2 m2 d2,.slice B3 m3 d3,.int .i64 st]) b]):=af (dX.out.more (by omega));clear hx
   go_upto_region 5 with(fail)
   refine kG (σ:={s:ByteArray//s.size≤100})
    (fun s i=>match i with
     |0=>.agg #[.int .i64 os,.slice B1 m1 d1,.slice B2 m2 d2,.slice B3 m3 d3,.int .i64 st]
     |1=>.pointer (some ⟨g,0,none⟩)
     |2=>.agg #[.int .i64 os,.slice B1 m1 d1,.slice B2 m2 d2,.slice B3 m3 d3,.int .i64 st]
     |3=>.string s.1
     |5=>.string s.1
     |_=>undef)
    (fun D s wx=>Sn w wx fun i=>match i with
     |0=>some (fG w g (if D 3=true then 500+20 else 500))
     |1=>some (ah w.heap.size 28 (if D 4=true then #[.int .i64 os,.slice B1 m1 d1,.slice B2 m2 d2,.slice B3 m3 d3,.int .i64 st] else #[.int .i64 0,.slice none 0 0,.slice none 0 0,.slice none 0 0,.int .i64 0]))
     |2=>some (ah g5 28 #[.int .i64 os,.slice B1 m1 d1,.slice B2 m2 d2,.slice B3 m3 d3,.int .i64 st])
     |3=>some (aI (.agg #[.int .i64 os,.slice B1 m1 d1,.slice B2 m2 d2,.slice B3 m3 d3,.int .i64 st]) b)
     |_=>none)
    ⟨.empty,by decide⟩ ?_ ?_ ?_
   ·intro D hD;refine((Sn.dN fH.out).quiet ((ai _ _).drew)).congr fun i=>?_
    match i with
    |0=>simp only[hD 3 (by decide)];rfl
    |1=>simp only[hD 4 (by decide)];rfl
    |2 | 3=>rfl
    |q+4=>rfl
   ·refine Cs (fun D s wx hR _ hd _ _ hs K hK=>?_) ?_
    ·have e5:=hs.o 5 (.pointer (some ⟨g5,0,none⟩));clear hs;have qk:=(hR.blk 2 rfl).cell;go_simp;exact hK s wx sv hR
    refine Cs (fun D s wx hR _ hd _ _ hs K hK=>?_) ?_
    ·have e4:=hs.o 4 (.pointer (some ⟨g,0,none⟩));clear hs;go_simp;exact hK s wx sv hR
    refine Cs (fun D s wx hR _ hd _ _ hs K hK=>?_) ?_
    ·have e5:=hs.o 5 (.pointer (some ⟨g5,0,none⟩));clear hs;have qk:=(hR.blk 2 rfl).cell;go_simp;exact hK s wx sv hR
    refine Cs (fun D s wx hR (hDi:D 3=false) hd hsh _ hs K hK=>?_) ?_
    ·have e30:=hs.v 1 30 hd;have e31:=hs.v 2 31 hd;have g30:=aX e30;have g31:=aX e31;clear hs;have n5:D 5=false:=hsh.no hDi 5 rfl ⟨3,.data⟩ (by simp) rfl rfl;go_simp
     cases h4:D 4 with
     |true=>
      have s1:St w wx (fG w g 500::[ah w.heap.size 28 #[.int .i64 os,.slice B1 m1 d1,.slice B2 m2 d2,.slice B3 m3 d3,.int .i64 st],ah g5 28 #[.int .i64 os,.slice B1 m1 d1,.slice B2 m2 d2,.slice B3 m3 d3,.int .i64 st],aI (.agg #[.int .i64 os,.slice B1 m1 d1,.slice B2 m2 d2,.slice B3 m3 d3,.int .i64 st]) b]):=hR.eG [0,1,2,3] (by decide) (by simp only[List.map,hDi,h4]<;>rfl);refine(NS s1 (by omega) 2 rfl).mono ?_;rintro e2 w2 ⟨ns,rfl,hns,s2⟩
      refine hK ⟨ns,hns⟩ w2
       (fun j hj=>by
        match j,hj with
        |0,hj | 1,hj | 2,hj=>rfl
        |3,hj=>rw[hDi] at hj;cases hj
        |4,hj=>rfl
        |5,hj=>rw[n5] at hj;cases hj
        |_+6,hj=>rfl)
       ((Sn.dN s2).congr (fun i=>by
        match i with
        |0=>rfl
        |1=>(show some (ah _ _ (if D 4=true then _ else _))=_;rw[h4]<;>rfl)
        |2 | 3=>rfl
        |q+4=>rfl))
     |false=>
      have s1:St w wx (fG w g 500::[ah w.heap.size 28 #[.int .i64 0,.slice none 0 0,.slice none 0 0,.slice none 0 0,.int .i64 0],ah g5 28 #[.int .i64 os,.slice B1 m1 d1,.slice B2 m2 d2,.slice B3 m3 d3,.int .i64 st],aI (.agg #[.int .i64 os,.slice B1 m1 d1,.slice B2 m2 d2,.slice B3 m3 d3,.int .i64 st]) b]):=hR.eG [0,1,2,3] (by decide) (by simp only[List.map,hDi,h4]<;>rfl);refine(NS s1 (by omega) 2 rfl).mono ?_;rintro e2 w2 ⟨ns,rfl,hns,s2⟩
      refine hK ⟨ns,hns⟩ w2
       (fun j hj=>by
        match j,hj with
        |0,hj | 1,hj | 2,hj=>rfl
        |3,hj=>rw[hDi] at hj;cases hj
        |4,hj=>rfl
        |5,hj=>rw[n5] at hj;cases hj
        |_+6,hj=>rfl)
       ((Sn.dN s2).congr (fun i=>by
        match i with
        |0=>rfl
        |1=>(show some (ah _ _ (if D 4=true then _ else _))=_;rw[h4]<;>rfl)
        |2 | 3=>rfl
        |q+4=>rfl))
    refine Cs (fun D s wx hR (hDi:D 4=false) hd _ _ hs K hK=>?_) ?_
    ·have e2:=hs.o 2 (.pointer (some ⟨w.heap.size,0,none⟩));have e29:=hs.v 0 29 hd;clear hs;have kb:fU wx w.heap.size 28 #[.int .i64 0,.slice none 0 0,.slice none 0 0,.slice none 0 0,.int .i64 0]:=hR.blk 1 (by simp only[hDi]<;>rfl);have f0:=kb.frozen;have qk:=kb.cell;go_simp
     exact hK s _ sv ((hR.fF 1 (by simp only[hDi];rfl) _ _ _ _ _).congr
      (fun i=>by
       match i with
       |0 | 1 | 2 | 3=>rfl
       |q+4=>exact(if_neg (show¬(q+4=1) by omega)).symm))
    refine Cs (fun D s wx hR _ hd _ _ hs K hK=>?_) ?_
    ·have e32:=hs.v 3 32 hd;clear hs;go_simp;exact hK s wx sv hR
    exact aj.nil
   ·intro D s wx hR hD;simp only[eH,Act.put,aO,aU,aW];have fP:Hid (St w wx [aI (.agg #[.int .i64 os,.slice B1 m1 d1,.slice B2 m2 d2,.slice B3 m3 d3,.int .i64 st]) b,ah w.heap.size 28 #[.int .i64 os,.slice B1 m1 d1,.slice B2 m2 d2,.slice B3 m3 d3,.int .i64 st]]):=af (hR.eG [3,1] (by decide) (by simp only[List.map,hD 4 (by decide)]<;>rfl));clear hR hD;have z0:=fP.out.cells 1 rfl;go_wp2;refine bodyPost_ret (v:=.tuple #[.agg #[.int .i64 os,.slice B1 m1 d1,.slice B2 m2 d2,.slice B3 m3 d3,.int .i64 st],.string s.1]) (by simp[results,Tryz.results8,go_sem,z0]) rfl ⟨.agg #[.int .i64 os,.slice B1 m1 d1,.slice B2 m2 d2,.slice B3 m3 d3,.int .i64 st],b,s.1,rfl,(Nat.le_trans s.2 (by decide)),fP.out.pick [0] (by decide) rfl rfl⟩
end Go.Proofs.YtkmcengmglgdeaaGreatDoor
