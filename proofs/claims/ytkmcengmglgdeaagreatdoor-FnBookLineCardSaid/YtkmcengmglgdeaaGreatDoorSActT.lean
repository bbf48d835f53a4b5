/- A part of the proof: ActT. -/
import Derived.Test.YtkmcengmglgdeaaGreatDoorSDrawB
import Derived.Test.YtkmcengmglgdeaaGreatDoorSBack
import Derived.Deep.Cut
import Derived.Test.YtkmcengmglgdeaaGreatDoorSNum
import Derived.Laws.IdiomStrings
import Derived.Laws.StructEq
namespace Go.Proofs.YtkmcengmglgdeaaGreatDoor
set_option linter.unusedVariables false
set_option linter.unusedSimpArgs false
set_option maxRecDepth 100000
set_option maxHeartbeats 8000000
open Go.ChangeShapes Go.WideShapes Go.ChangeAt Go.RowKit
theorem dK {a b:ByteArray} (h:a=b):Ending.returned (.string a)= .returned (.string b):=by rw[h]
theorem iV (a b:List UInt8):(⟨a.toArray⟩++⟨b.toArray⟩:ByteArray)=⟨(a++b).toArray⟩:=by
 apply ByteArray.ext
 rw[ByteArray.data_append]
 simp
theorem qM {acc:Int} {s:ByteArray} {k:Nat} (h:k<s.size) (h1:48≤(s[k].toNat:Int)) (h2:(s[k].toNat:Int)≤57):gu acc (s.data.toList.drop k)=gu (10*acc+((s[k].toNat:Int)-48)) (s.data.toList.drop (k+1)):=by
 rw[drop_at s k h];simp only[gu];rw[if_neg (by omega)]
theorem tq {acc:Int} {s:ByteArray} {k:Nat} (h:k<s.size) (h1:(s[k].toNat:Int)<48∨57<(s[k].toNat:Int)):gu acc (s.data.toList.drop k)= -1:=by
 rw[drop_at s k h];simp only[gu];rw[if_pos (by omega)]
theorem aaC (l:List UInt8):(⟨#[100,111]⟩++⟨#[32]⟩++⟨l.toArray⟩:ByteArray)=⟨(KE++32::l).toArray⟩:=by
 rw[show(⟨#[100,111]⟩:ByteArray)=⟨KE.toArray⟩ from rfl,show(⟨#[32]⟩:ByteArray)=⟨[32].toArray⟩ from rfl,iV,iV]
 simp
theorem VD (l:List UInt8):(⟨#[98,97,99,107]⟩++⟨#[32]⟩++⟨l.toArray⟩:ByteArray)=⟨(o5++32::l).toArray⟩:=by
 rw[show(⟨#[98,97,99,107]⟩:ByteArray)=⟨o5.toArray⟩ from rfl,show(⟨#[32]⟩:ByteArray)=⟨[32].toArray⟩ from rfl,iV,iV]
 simp
theorem tu (s:ByteArray) (w:World) (hs:s.size≤9223372036854775807):
  Calls Tryz.prog 120 #[.string s] w fun e w'=>e= .returned (.int .i64 (kH s.data.toList))∧w=w':=by
 have hsl:s.data.toList.length=s.size:=(Lib.size_eq s).symm
 by_cases hr:1≤s.size∧s.size≤4
 case neg=>
  have HN:Hid (kH s.data.toList= -1):=af (by unfold kH;rw[if_pos (by rw[hsl];omega)]);have hr':¬((1:Int)≤(s.size:Int)∧(s.size:Int)≤4):=by omega
  clear hsl hr;go_enter Tryz.func120,Tryz.ntmps120
  go_wp2_with fail
  refine(kS (s.size:Int) 1 4 _ hr').mono ?_;rintro e w' ⟨rfl,rfl⟩;go_wp2;go_ret;exact⟨aP HN.out.symm,rfl⟩
 obtain⟨hr1,hr2⟩:=hr;have h1:0<s.size:=by omega
 have hhd:s.data.toList.head? =some s[0]:=by
  have:=drop_at s 0 h1
  rw[List.drop_zero] at this;rw[this];rfl
 by_cases hz:1<s.size∧s[0].toNat=48
 ·obtain⟨h2,hz⟩:=hz;have HN:Hid (kH s.data.toList= -1):=af (by unfold kH;rw[if_pos (.inr (.inr ⟨by omega,by rw[hhd];exact congrArg some (UInt8.toNat_inj.1 (by rw[hz];rfl))⟩))]);have hz1:((s[0].toNat:Int) == 48)=true:=by simp[hz]
  have h2':(1:Int)<(s.size:Int):=by omega
  clear hsl hhd hz;go_enter Tryz.func120,Tryz.ntmps120
  go_wp2_with fail
  refine(fO (s.size:Int) 1 4 _ (by omega) (by omega)).mono ?_;rintro e w' ⟨rfl,rfl⟩;go_wp2;go_ret;exact⟨aP HN.out.symm,rfl⟩
 have HN:Hid (kH s.data.toList=gu 0 s.data.toList):=af (by
  unfold kH
  rw[if_neg];rintro(h | h | ⟨h,h'⟩)
  ·omega
  ·omega
  ·rw[hhd] at h'
   injection h' with h'
   exact hz ⟨by omega,by rw[h'];rfl⟩)
 have HZ:Hid (¬(1<s.size∧s[0].toNat=48)):=af hz;clear hsl hhd hz
 by_cases h48:1<s.size
 ·have hz1:((s[0].toNat:Int) == 48)=false:=by have:=HZ.out;simp;omega
  have h2':(1:Int)<(s.size:Int):=by omega
  clear h48;go_enter Tryz.func120,Tryz.ntmps120
  go_wp2_with fail
  refine(fO (s.size:Int) 1 4 _ (by omega) (by omega)).mono ?_;rintro e w' ⟨rfl,rfl⟩;go_wp2;clear hz1
  go_loop [3,4] (fun n i=>∃(k:Nat) (acc:Int),k≤s.size∧i= .int .i64 k∧n= .int .i64 acc∧Hid (0≤acc∧acc<10^k)∧Hid (gu 0 s.data.toList=gu acc (s.data.toList.drop k))) (fun _ i=>s.size-(intOf i).toNat)
  case atStart=>exact⟨0,0,by omega,rfl,rfl,af (by decide),af (by rw[List.drop_zero])⟩
  case round=>
   obtain⟨k,acc,hk,rfl,rfl,hacc,hrd⟩:=hrel
   by_cases hkl:k<s.size
   ·have hb:s[k].toNat<256:=UInt8.toNat_lt _
    by_cases hbad:(s[k].toNat:Int)<48∨57<(s[k].toNat:Int)
    ·have HB:Hid (kH s.data.toList= -1):=af (by rw[HN.out,hrd.out,tq hkl hbad])
     rcases hbad with h3 | h3
     ·go_wp2;go_ret;exact⟨aP HB.out.symm,rfl⟩
     ·have h4:¬(s[k].toNat:Int)<48:=by omega
      go_wp2;go_ret;exact⟨aP HB.out.symm,rfl⟩
    ·have h3:¬(s[k].toNat:Int)<48:=by omega
     have h4:¬57<(s[k].toNat:Int):=by omega
     have h5:48≤(s[k].toNat:Int):=by omega
     have ha0:0≤acc:=hacc.out.1
     have ha1:acc<100000000000000000:=by
      have h6:=hacc.out.2;have h7:(10:Int)^k≤100000000000000000:=rM k (by omega)
      omega
     have HS:Hid (gu 0 s.data.toList=gu (10*acc+((s[k].toNat:Int)-48)) (s.data.toList.drop (k+1))):=af (by rw[hrd.out];exact qM hkl h5 (by omega))
     have HA:Hid (0≤10*acc+((s[k].toNat:Int)-48)∧10*acc+((s[k].toNat:Int)-48)<10^(k+1)):=af (by
      have h6:=hacc.out.2;rw[Int.pow_succ]
      omega)
     clear hbad;go_wp2
     go_round
     case rel=>exact⟨k+1,_,by omega,by go_num,rfl,HA,HS⟩
     case measure=>simp[intOf];omega
   ·have hke:k=s.size:=by omega
    have HE:Hid (kH s.data.toList=acc):=af (by rw[HN.out,hrd.out,drop_end s k (by omega)];rfl);clear hke;go_wp2;go_ret;exact⟨aP HE.out.symm,rfl⟩
 ·have h2':¬(1:Int)<(s.size:Int):=by omega
  clear h48;go_enter Tryz.func120,Tryz.ntmps120
  go_wp2_with fail
  refine(fO (s.size:Int) 1 4 _ (by omega) (by omega)).mono ?_;rintro e w' ⟨rfl,rfl⟩;go_wp2
  go_loop [3,4] (fun n i=>∃(k:Nat) (acc:Int),k≤s.size∧i= .int .i64 k∧n= .int .i64 acc∧Hid (0≤acc∧acc<10^k)∧Hid (gu 0 s.data.toList=gu acc (s.data.toList.drop k))) (fun _ i=>s.size-(intOf i).toNat)
  case atStart=>exact⟨0,0,by omega,rfl,rfl,af (by decide),af (by rw[List.drop_zero])⟩
  case round=>
   obtain⟨k,acc,hk,rfl,rfl,hacc,hrd⟩:=hrel
   by_cases hkl:k<s.size
   ·have hb:s[k].toNat<256:=UInt8.toNat_lt _
    by_cases hbad:(s[k].toNat:Int)<48∨57<(s[k].toNat:Int)
    ·have HB:Hid (kH s.data.toList= -1):=af (by rw[HN.out,hrd.out,tq hkl hbad])
     rcases hbad with h3 | h3
     ·go_wp2;go_ret;exact⟨aP HB.out.symm,rfl⟩
     ·have h4:¬(s[k].toNat:Int)<48:=by omega
      go_wp2;go_ret;exact⟨aP HB.out.symm,rfl⟩
    ·have h3:¬(s[k].toNat:Int)<48:=by omega
     have h4:¬57<(s[k].toNat:Int):=by omega
     have h5:48≤(s[k].toNat:Int):=by omega
     have ha0:0≤acc:=hacc.out.1
     have ha1:acc<100000000000000000:=by
      have h6:=hacc.out.2;have h7:(10:Int)^k≤100000000000000000:=rM k (by omega)
      omega
     have HS:Hid (gu 0 s.data.toList=gu (10*acc+((s[k].toNat:Int)-48)) (s.data.toList.drop (k+1))):=af (by rw[hrd.out];exact qM hkl h5 (by omega))
     have HA:Hid (0≤10*acc+((s[k].toNat:Int)-48)∧10*acc+((s[k].toNat:Int)-48)<10^(k+1)):=af (by
      have h6:=hacc.out.2;rw[Int.pow_succ]
      omega)
     clear hbad;go_wp2
     go_round
     case rel=>exact⟨k+1,_,by omega,by go_num,rfl,HA,HS⟩
     case measure=>simp[intOf];omega
   ·have hke:k=s.size:=by omega
    have HE:Hid (kH s.data.toList=acc):=af (by rw[HN.out,hrd.out,drop_end s k (by omega)];rfl);clear hke;go_wp2;go_ret;exact⟨aP HE.out.symm,rfl⟩
theorem xP {n:Nat} (h:n<10):(oO n).toNat=48+n:=by
 unfold oO;rw[UInt8.toNat_ofNat'];omega
theorem vg (w:World) (g:Nat) (b:UInt8) (h:w.cell? ⟨g,0,none⟩=some (.int .u8 (b.toNat:Int))):
  (convert 22 9 (.slice (some ⟨g,0,none⟩) 1 1)).run Tryz.prog w= .ok (.string ⟨[b].toArray⟩) w:=
 run_convert_bytes_back w 22 9 5 ⟨g,0,none⟩ 1 [b] Tryz.underlying22 Tryz.underlying5 Tryz.underlying9 (fun j hj=>by
  have hj0:j=0:=by simpa using hj
  subst hj0
  exact h)
theorem Js (n:Nat) (h:n<10) (w:World):
  Calls Tryz.prog 61 #[.int .i64 n] w fun e w'=>e= .returned (.string ⟨[oO n].toArray⟩)∧Below w.heap.size w w':=by
 have hd:=xP h
 have hcv:(convert 22 9 (.slice (some ⟨w.heap.size,0,none⟩) 1 1)).run Tryz.prog (w.alloc (.cells #[.int .u8 (48+(n:Int))] 5))= .ok (.string ⟨[oO n].toArray⟩) (w.alloc (.cells #[.int .u8 (48+(n:Int))] 5)):=
  vg _ _ _ (by rw[hd];exact(fU.new w 5 #[.int .u8 (48+(n:Int))]).cell 0)
 clear hd;go_enter Tryz.func61,Tryz.ntmps61;go_wp2;go_ret;exact⟨rfl,(ai _ _).alloc (aA _) _⟩
theorem FV (n:Nat) (h0:10≤n) (h:n<100000000000) (la:List UInt8) (hla:la.length≤100) (hc:∀w,Calls Tryz.prog 61 #[.int .i64 ((n/10:Nat):Int)] w fun e w'=>e= .returned (.string ⟨la.toArray⟩)∧Below w.heap.size w w') (w:World):
  Calls Tryz.prog 61 #[.int .i64 n] w fun e w'=>e= .returned (.string ⟨(la++[oO (n%10)]).toArray⟩)∧Below w.heap.size w w':=by
 obtain⟨a,ha'⟩:∃a,n/10=a:=⟨_,rfl⟩;obtain⟨b,hb'⟩:∃b,n%10=b:=⟨_,rfl⟩;rw[ha'] at hc;rw[hb'];have hcall:=af hc;have HL:=af (show¬9223372036854775807<la.length+1 by omega);have ha:a<10000000000:=by omega
 have hb:b<10:=by omega
 have HQ:Bx ((n:Int)/10=(a:Int)):=Bx.mk (by omega);have HR:Bx ((n:Int)%10=(b:Int)):=Bx.mk (by omega);have HQ':Bx ((n:Int).tdiv 10=(a:Int)):=Bx.mk (by rw[Int.tdiv_eq_ediv_of_nonneg (by omega)];omega);have HR':Bx ((n:Int).tmod 10=(b:Int)):=Bx.mk (by rw[Int.tmod_eq_emod_of_nonneg (by omega)];omega);have HC:Bx (IntKind.u8.wrap (48+(b:Int))=((oO b).toNat:Int)):=Bx.mk (by rw[xP hb,IntKind.wrap_u8];omega);have HC':Bx ((48+(b:Int))%256=((oO b).toNat:Int)):=Bx.mk (by rw[xP hb];omega);have HWA:Bx (IntKind.i64.wrap (a:Int)=(a:Int)):=Bx.mk (by rw[IntKind.wrap_i64]<;>omega);have HWB:Bx (IntKind.i64.wrap (48+(b:Int))=48+(b:Int)):=Bx.mk (by rw[IntKind.wrap_i64]<;>omega);clear ha' hb' hc hla;go_enter Tryz.func61,Tryz.ntmps61
 go_upto_region 7 with(fail)
 refine kG (σ:=Nat)
  (fun s i=>match i with
   |0=>.int .i64 (n:Nat)
   |1=>.int .i64 (a:Nat)
   |2=>.string ⟨la.toArray⟩
   |3=>.int .i64 (n:Nat)
   |4=>.int .i64 (b:Nat)
   |5=>.int .i64 (48+(b:Nat):Int)
   |6=>.int .u8 ((oO b).toNat:Nat)
   |7=>.slice (some ⟨s,0,none⟩) 1 1
   |8=>.string ⟨[oO b].toArray⟩
   |9=>.string (⟨la.toArray⟩++⟨[oO b].toArray⟩)
   |10=>.string (⟨la.toArray⟩++⟨[oO b].toArray⟩)
   |_=>undef)
  (fun D s wx=>Sn w wx fun i=>match i with
   |0=>if D 7=true then some (ah s 5 #[.int .u8 ((oO b).toNat:Nat)]) else none
   |_=>none)
  0 ?_ ?_ ?_
 ·intro D hD;refine((Sn.dN (St.refl w)).quiet ((ai _ _).drew)).congr fun i=>?_
  match i with
  |0=>simp only[hD 7 (by decide)];rfl
  |q+1=>rfl
 ·refine Cs (fun D s wx hR _ hd _ _ hs K hK=>?_) ?_
  ·have e0:=hs.o 0 (.int .i64 (n:Nat));clear hs;go_simp;exact hK s wx sv hR
  refine Cs (fun D s wx hR _ hd _ _ hs K hK=>?_) ?_
  ·have e24:=hs.v 0 24 hd;clear hs;have q1:=HQ.out;have q2:=HQ'.out;have q3:=HWA.out;go_simp;exact hK s wx sv hR
  refine Cs (fun D s wx hR _ hd _ _ hs K hK=>?_) ?_
  ·have e25:=hs.v 1 25 hd;have g25:=aX e25;clear hs;go_simp;refine(hcall.out wx).mono ?_;rintro e2 w2 ⟨rfl,hb2⟩;exact hK s w2 sv ((hR.quiet hb2).congr (fun i=>rfl))
  refine Cs (fun D s wx hR _ hd _ _ hs K hK=>?_) ?_
  ·have e0:=hs.o 0 (.int .i64 (n:Nat));clear hs;go_simp;exact hK s wx sv hR
  refine Cs (fun D s wx hR _ hd _ _ hs K hK=>?_) ?_
  ·have e27:=hs.v 3 27 hd;clear hs;have q1:=HR.out;have q2:=HR'.out;go_simp;exact hK s wx sv hR
  refine Cs (fun D s wx hR _ hd _ _ hs K hK=>?_) ?_
  ·have e28:=hs.v 4 28 hd;clear hs;have q1:=HWB.out;go_simp;exact hK s wx sv hR
  refine Cs (fun D s wx hR _ hd _ _ hs K hK=>?_) ?_
  ·have e29:=hs.v 5 29 hd;clear hs;have q1:=HC.out;have q2:=HC'.out;go_simp;exact hK s wx sv hR
  refine Cs (fun D s wx hR (hDi:D 7=false) hd hsh _ hs K hK=>?_) ?_
  ·have e30:=hs.v 6 30 hd;have g30:=aX e30;clear hs;have n8:D 8=false:=hsh.no hDi 8 rfl ⟨7,.data⟩ (by simp) rfl rfl;have n9:D 9=false:=hsh.no n8 9 rfl ⟨8,.data⟩ (by simp) rfl rfl;have n10:D 10=false:=hsh.no n9 10 rfl ⟨9,.data⟩ (by simp) rfl rfl;go_simp
   refine hK wx.heap.size _
    (fun j hj=>by
     match j,hj with
     |0,hj | 1,hj | 2,hj | 3,hj | 4,hj | 5,hj | 6,hj=>rfl
     |7,hj=>rw[hDi] at hj;cases hj
     |8,hj=>rw[n8] at hj;cases hj
     |9,hj=>rw[n9] at hj;cases hj
     |10,hj=>rw[n10] at hj;cases hj
     |_+11,hj=>rfl)
    ((hR.add 0 (if_neg (by rw[hDi];simp)) (St.new1 wx #[.int .u8 ((oO b).toNat:Nat)] 5)).congr
     (fun i=>by
      match i with
      |0=>rfl
      |q+1=>exact(if_neg (show¬(q+1=0) by omega)).symm))
  refine Cs (fun D s wx hR _ hd _ _ hs K hK=>?_) ?_
  ·have e31:=hs.v 7 31 hd;clear hs;have d7:D 7=true:=hd ⟨7,.data⟩ (by simp) rfl;have kb:fU wx s 5 #[.int .u8 ((oO b).toNat:Nat)]:=hR.blk 0 (if_pos d7);have c0:wx.cell? ⟨s,0,none⟩=some (.int .u8 ((oO b).toNat:Nat)):=kb.cell 0;have hcv:=vg wx s (oO b) c0;go_simp;exact hK s wx sv hR
  refine Cs (fun D s wx hR _ hd _ _ hs K hK=>?_) ?_
  ·have e26:=hs.v 2 26 hd;have e32:=hs.v 8 32 hd;clear hs;have hl1:=HL.out;go_simp;exact hK s wx sv hR
  refine Cs (fun D s wx hR _ hd _ _ hs K hK=>?_) ?_
  ·have e33:=hs.v 9 33 hd;clear hs;go_simp;exact hK s wx sv hR
  exact aj.nil
 ·intro D s wx hR hD;simp only[eH,Act.put,aO,aU,aW];have HB:=af hR.below;clear hR hD;go_wp2;go_ret;exact⟨dK (iV la [oO b]),HB.out⟩
theorem kZ (n:Nat):n<100000000000→∀w:World,
  Calls Tryz.prog 61 #[.int .i64 n] w fun e w'=>e= .returned (.string ⟨(jm n).toArray⟩)∧Below w.heap.size w w':=by
 induction n using Nat.strongRecOn with
 |_ n ih=>
  intro h w
  by_cases h10:n<10
  ·rw[lX h10];exact Js n h10 w
  ·rw[qo h10]
   have:=rG 11 (n/10) (by omega)
   exact FV n (by omega) h (jm (n/10)) (by omega) (ih (n/10) (by omega) (by omega)) w
theorem qp (n:Nat) (h:n<100) (w:World):
  Calls Tryz.prog 61 #[.int .i64 n] w fun e w'=>e= .returned (.string ⟨(iI n).toArray⟩)∧Below w.heap.size w w':=by
 rw[←yT h];exact kZ n (by omega) w
theorem yU {k n:Int} (h:¬(0≤n∧n≤99)) (hk:k=0∨k=1):lS k n=[]:=by
 unfold lS
 rw[if_neg (fun a=>h a.2),if_neg (fun a=>h a.2),if_neg (by omega),if_neg (by omega)]
theorem wC {k n:Int} (h0:k≠0) (h1:k≠1) (h2:¬(k=2∧n=0)) (h3:¬(k=3∧n=0)):lS k n=[]:=by
 unfold lS
 rw[if_neg (fun a=>h0 a.1),if_neg (fun a=>h1 a.1),if_neg h2,if_neg h3]
theorem QF {n:Nat} (h:n<100):lS 0 n=KE++32::iI n:=(xQ.WE n h).eq
theorem Hr {n:Nat} (h:n<100):lS 1 n=o5++32::iI n:=(xQ.back n h).eq
theorem XF (k n:Int) (w:World):
  Calls Tryz.prog 38 #[.agg #[.int .i64 k,.int .i64 n]] w fun e w'=>e= .returned (.string ⟨(lS k n).toArray⟩)∧Below w.heap.size w w':=by
 have HB:Hid (Below w.heap.size w (w.alloc (.cells #[.int .i64 k,.int .i64 n] 64))):=af ((ai _ _).alloc (aA _) _)
 by_cases h0:k=0
 ·subst h0
  by_cases hr:0≤n∧n≤99
  ·obtain⟨m,rfl⟩:=bC hr.1;have HT:=af (QF (n:=m) (by omega));have hm:m<100:=by omega
   have a1:¬(m:Int)<0:=by omega
   have a2:¬99<(m:Int):=by omega
   have hl3:¬9223372036854775807<3+(iI m).length:=by have:=(jJ m).2;omega
   have hl5:¬9223372036854775807<5+(iI m).length:=by have:=(jJ m).2;omega
   clear hr;go_enter Tryz.func38,Tryz.ntmps38
   go_wp2_with fail
   refine(qw m hm _).mono ?_;rintro e w' ⟨rfl,rfl⟩;go_wp2;go_ret;exact⟨dK (by rw[HT.out];exact iV (KE++[32]) (iI m)),HB.out⟩
  ·have HT:=af (yU hr (.inl rfl))
   by_cases a1:n<0
   ·go_enter Tryz.func38,Tryz.ntmps38;go_wp2;go_ret;exact⟨dK (a:=⟨#[]⟩) (by rw[HT.out]),HB.out⟩
   ·have a2:99<n:=by omega
    go_enter Tryz.func38,Tryz.ntmps38;go_wp2;go_ret;exact⟨dK (a:=⟨#[]⟩) (by rw[HT.out]),HB.out⟩
 by_cases h1:k=1
 ·subst h1
  by_cases hr:0≤n∧n≤99
  ·obtain⟨m,rfl⟩:=bC hr.1;have HT:=af (Hr (n:=m) (by omega));have hm:m<100:=by omega
   have a1:¬(m:Int)<0:=by omega
   have a2:¬99<(m:Int):=by omega
   have hl3:¬9223372036854775807<3+(iI m).length:=by have:=(jJ m).2;omega
   have hl5:¬9223372036854775807<5+(iI m).length:=by have:=(jJ m).2;omega
   clear hr;go_enter Tryz.func38,Tryz.ntmps38
   go_wp2_with fail
   refine(qw m hm _).mono ?_;rintro e w' ⟨rfl,rfl⟩;go_wp2;go_ret;exact⟨dK (by rw[HT.out];exact iV (o5++[32]) (iI m)),HB.out⟩
  ·have HT:=af (yU hr (.inr rfl))
   by_cases a1:n<0
   ·go_enter Tryz.func38,Tryz.ntmps38;go_wp2;go_ret;exact⟨dK (a:=⟨#[]⟩) (by rw[HT.out]),HB.out⟩
   ·have a2:99<n:=by omega
    go_enter Tryz.func38,Tryz.ntmps38;go_wp2;go_ret;exact⟨dK (a:=⟨#[]⟩) (by rw[HT.out]),HB.out⟩
 have b0:(k == 0)=false:=by simpa using h0
 have b1:(k == 1)=false:=by simpa using h1
 by_cases h2:k=2
 ·subst h2;clear h0 h1
  by_cases hn:n=0
  ·subst hn;go_enter Tryz.func38,Tryz.ntmps38;go_wp2;go_ret;exact⟨rfl,HB.out⟩
  ·have HT:=af (wC (k:=2) (n:=n) (by omega) (by omega) (by omega) (by omega));have hn':(n == 0)=false:=by simpa using hn
   clear hn;go_enter Tryz.func38,Tryz.ntmps38;go_wp2;go_ret;exact⟨dK (a:=⟨#[]⟩) (by rw[HT.out]),HB.out⟩
 have b2:(k == 2)=false:=by simpa using h2
 by_cases h3:k=3
 ·subst h3;clear h0 h1 h2
  by_cases hn:n=0
  ·subst hn;go_enter Tryz.func38,Tryz.ntmps38;go_wp2;go_ret;exact⟨rfl,HB.out⟩
  ·have HT:=af (wC (k:=3) (n:=n) (by omega) (by omega) (by omega) (by omega));have hn':(n == 0)=false:=by simpa using hn
   clear hn;go_enter Tryz.func38,Tryz.ntmps38;go_wp2;go_ret;exact⟨dK (a:=⟨#[]⟩) (by rw[HT.out]),HB.out⟩
 have b3:(k == 3)=false:=by simpa using h3
 have HT:=af (wC (k:=k) (n:=n) h0 h1 (fun a=>h2 a.1) (fun a=>h3 a.1));clear h0 h1 h2 h3;go_enter Tryz.func38,Tryz.ntmps38;go_wp2;go_ret;exact⟨dK (a:=⟨#[]⟩) (by rw[HT.out]),HB.out⟩
theorem FW (m:Nat) (hm:m<100) (w:World):
  Calls Tryz.prog 107 #[.agg #[.int .i64 0,.int .i64 (m:Int)]] w fun e w'=>e= .returned (.string ⟨(lS 0 m).toArray⟩)∧Below w.heap.size w w':=by
 have HT:=af (QF (n:=m) hm);have HL3:=af (show¬9223372036854775807<3+(iI m).length by have:=(jJ m).2;omega);have HL5:=af (show¬9223372036854775807<5+(iI m).length by have:=(jJ m).2;omega);have HS:=af ((St.refl w).alloc #[.int .i64 0,.int .i64 (m:Int)] 64);go_enter Tryz.func107,Tryz.ntmps107
 go_wp2_with fail
 refine(fO (m:Int) 0 99 _ (by omega) (by omega)).mono ?_;rintro e w' ⟨rfl,rfl⟩
 go_upto_region 2 with(fail)
 refine kG (σ:=Nat)
  (fun s i=>match i with
   |0=>.slice (some ⟨s,0,none⟩) 2 2
   |1=>.pointer (some ⟨w.heap.size,0,none⟩)
   |2=>.int .i64 0
   |3=>.pointer (some ⟨s,0,none⟩)
   |4=>.string ⟨#[100,111]⟩
   |5=>.string (⟨#[100,111]⟩++⟨#[32]⟩)
   |6=>.pointer (some ⟨w.heap.size,1,none⟩)
   |7=>.int .i64 (m:Nat)
   |8=>.string ⟨(iI m).toArray⟩
   |9=>.string ((⟨#[100,111]⟩++⟨#[32]⟩)++⟨(iI m).toArray⟩)
   |10=>.string ((⟨#[100,111]⟩++⟨#[32]⟩)++⟨(iI m).toArray⟩)
   |_=>undef)
  (fun D s wx=>Sn w wx fun i=>match i with
   |0=>some (ah w.heap.size 64 #[.int .i64 0,.int .i64 (m:Nat)])
   |1=>if D 0=true then some (ah s 9 #[.string ⟨#[100,111]⟩,.string ⟨#[98,97,99,107]⟩]) else none
   |_=>none)
  0 ?_ ?_ ?_
 ·intro D hD;refine((Sn.dN HS.out).quiet ((ai _ _).drew)).congr fun i=>?_
  match i with
  |0=>rfl
  |1=>simp only[hD 0 (by decide)];rfl
  |q+2=>rfl
 ·refine Cs (fun D s wx hR (hDi:D 0=false) hd hsh _ hs K hK=>?_) ?_
  ·clear hs;have n3:D 3=false:=hsh.no hDi 3 rfl ⟨0,.data⟩ (by simp) rfl rfl;have n4:D 4=false:=hsh.no n3 4 rfl ⟨3,.data⟩ (by simp) rfl rfl;have n5:D 5=false:=hsh.no n4 5 rfl ⟨4,.data⟩ (by simp) rfl rfl;have n9:D 9=false:=hsh.no n5 9 rfl ⟨5,.data⟩ (by simp) rfl rfl;have n10:D 10=false:=hsh.no n9 10 rfl ⟨9,.data⟩ (by simp) rfl rfl;go_simp
   refine hK wx.heap.size _
    (fun j hj=>by
     match j,hj with
     |0,hj=>rw[hDi] at hj;cases hj
     |1,hj | 2,hj=>rfl
     |3,hj=>rw[n3] at hj;cases hj
     |4,hj=>rw[n4] at hj;cases hj
     |5,hj=>rw[n5] at hj;cases hj
     |6,hj | 7,hj | 8,hj=>rfl
     |9,hj=>rw[n9] at hj;cases hj
     |10,hj=>rw[n10] at hj;cases hj
     |_+11,hj=>rfl)
    ((hR.add 1 (if_neg (by rw[hDi];simp)) (St.new1 wx #[.string ⟨#[100,111]⟩,.string ⟨#[98,97,99,107]⟩] 9)).congr
     (fun i=>by
      match i with
      |0 | 1=>rfl
      |q+2=>exact(if_neg (show¬(q+2=1) by omega)).symm))
  refine Cs (fun D s wx hR _ hd _ _ hs K hK=>?_) ?_
  ·have e1:=hs.o 1 (.pointer (some ⟨w.heap.size,0,none⟩));clear hs;go_simp;exact hK s wx sv hR
  refine Cs (fun D s wx hR _ hd _ _ hs K hK=>?_) ?_
  ·have e18:=hs.v 1 18 hd;clear hs;have qk:=(hR.blk 0 rfl).cell;go_simp;exact hK s wx sv hR
  refine Cs (fun D s wx hR _ hd _ _ hs K hK=>?_) ?_
  ·have e17:=hs.v 0 17 hd;have e19:=hs.v 2 19 hd;clear hs;go_simp;exact hK s wx sv hR
  refine Cs (fun D s wx hR _ hd hsh _ hs K hK=>?_) ?_
  ·have e20:=hs.v 3 20 hd;clear hs;have d0:D 0=true:=hsh _ _ (rfl:_=some _) (hd ⟨3,.data⟩ (by simp) rfl) ⟨0,.data⟩ (by simp) rfl;have kb:fU wx s 9 #[.string ⟨#[100,111]⟩,.string ⟨#[98,97,99,107]⟩]:=hR.blk 1 (if_pos d0);have qk:=kb.cell;go_simp;exact hK s wx sv hR
  refine Cs (fun D s wx hR _ hd _ _ hs K hK=>?_) ?_
  ·have e21:=hs.v 4 21 hd;clear hs;go_simp;exact hK s wx sv hR
  refine Cs (fun D s wx hR _ hd _ _ hs K hK=>?_) ?_
  ·have e1:=hs.o 1 (.pointer (some ⟨w.heap.size,0,none⟩));clear hs;go_simp;exact hK s wx sv hR
  refine Cs (fun D s wx hR _ hd _ _ hs K hK=>?_) ?_
  ·have e23:=hs.v 6 23 hd;clear hs;have qk:=(hR.blk 0 rfl).cell;go_simp;exact hK s wx sv hR
  refine Cs (fun D s wx hR _ hd _ _ hs K hK=>?_) ?_
  ·have e24:=hs.v 7 24 hd;have g24:=aX e24;clear hs;go_simp;refine(qp m hm wx).mono ?_;rintro e2 w2 ⟨rfl,hb2⟩;exact hK s w2 sv ((hR.quiet hb2).congr (fun i=>rfl))
  refine Cs (fun D s wx hR _ hd _ _ hs K hK=>?_) ?_
  ·have e22:=hs.v 5 22 hd;have e25:=hs.v 8 25 hd;clear hs;have hl3:=HL3.out;have hl5:=HL5.out;go_simp;exact hK s wx sv hR
  refine Cs (fun D s wx hR _ hd _ _ hs K hK=>?_) ?_
  ·have e26:=hs.v 9 26 hd;clear hs;go_simp;exact hK s wx sv hR
  exact aj.nil
 ·intro D s wx hR hD;simp only[eH,Act.put,aO,aU,aW];have HB:=af hR.below;clear hR hD;go_wp2;go_ret;exact⟨dK (by rw[HT.out];exact aaC (iI m)),HB.out⟩
theorem FY (m:Nat) (hm:m<100) (w:World):
  Calls Tryz.prog 107 #[.agg #[.int .i64 1,.int .i64 (m:Int)]] w fun e w'=>e= .returned (.string ⟨(lS 1 m).toArray⟩)∧Below w.heap.size w w':=by
 have HT:=af (Hr (n:=m) hm);have HL3:=af (show¬9223372036854775807<3+(iI m).length by have:=(jJ m).2;omega);have HL5:=af (show¬9223372036854775807<5+(iI m).length by have:=(jJ m).2;omega);have HS:=af ((St.refl w).alloc #[.int .i64 1,.int .i64 (m:Int)] 64);go_enter Tryz.func107,Tryz.ntmps107
 go_wp2_with fail
 refine(fO (m:Int) 0 99 _ (by omega) (by omega)).mono ?_;rintro e w' ⟨rfl,rfl⟩
 go_upto_region 2 with(fail)
 refine kG (σ:=Nat)
  (fun s i=>match i with
   |0=>.slice (some ⟨s,0,none⟩) 2 2
   |1=>.pointer (some ⟨w.heap.size,0,none⟩)
   |2=>.int .i64 1
   |3=>.pointer (some ⟨s,1,none⟩)
   |4=>.string ⟨#[98,97,99,107]⟩
   |5=>.string (⟨#[98,97,99,107]⟩++⟨#[32]⟩)
   |6=>.pointer (some ⟨w.heap.size,1,none⟩)
   |7=>.int .i64 (m:Nat)
   |8=>.string ⟨(iI m).toArray⟩
   |9=>.string ((⟨#[98,97,99,107]⟩++⟨#[32]⟩)++⟨(iI m).toArray⟩)
   |10=>.string ((⟨#[98,97,99,107]⟩++⟨#[32]⟩)++⟨(iI m).toArray⟩)
   |_=>undef)
  (fun D s wx=>Sn w wx fun i=>match i with
   |0=>some (ah w.heap.size 64 #[.int .i64 1,.int .i64 (m:Nat)])
   |1=>if D 0=true then some (ah s 9 #[.string ⟨#[100,111]⟩,.string ⟨#[98,97,99,107]⟩]) else none
   |_=>none)
  0 ?_ ?_ ?_
 ·intro D hD;refine((Sn.dN HS.out).quiet ((ai _ _).drew)).congr fun i=>?_
  match i with
  |0=>rfl
  |1=>simp only[hD 0 (by decide)];rfl
  |q+2=>rfl
 ·refine Cs (fun D s wx hR (hDi:D 0=false) hd hsh _ hs K hK=>?_) ?_
  ·clear hs;have n3:D 3=false:=hsh.no hDi 3 rfl ⟨0,.data⟩ (by simp) rfl rfl;have n4:D 4=false:=hsh.no n3 4 rfl ⟨3,.data⟩ (by simp) rfl rfl;have n5:D 5=false:=hsh.no n4 5 rfl ⟨4,.data⟩ (by simp) rfl rfl;have n9:D 9=false:=hsh.no n5 9 rfl ⟨5,.data⟩ (by simp) rfl rfl;have n10:D 10=false:=hsh.no n9 10 rfl ⟨9,.data⟩ (by simp) rfl rfl;go_simp
   refine hK wx.heap.size _
    (fun j hj=>by
     match j,hj with
     |0,hj=>rw[hDi] at hj;cases hj
     |1,hj | 2,hj=>rfl
     |3,hj=>rw[n3] at hj;cases hj
     |4,hj=>rw[n4] at hj;cases hj
     |5,hj=>rw[n5] at hj;cases hj
     |6,hj | 7,hj | 8,hj=>rfl
     |9,hj=>rw[n9] at hj;cases hj
     |10,hj=>rw[n10] at hj;cases hj
     |_+11,hj=>rfl)
    ((hR.add 1 (if_neg (by rw[hDi];simp)) (St.new1 wx #[.string ⟨#[100,111]⟩,.string ⟨#[98,97,99,107]⟩] 9)).congr
     (fun i=>by
      match i with
      |0 | 1=>rfl
      |q+2=>exact(if_neg (show¬(q+2=1) by omega)).symm))
  refine Cs (fun D s wx hR _ hd _ _ hs K hK=>?_) ?_
  ·have e1:=hs.o 1 (.pointer (some ⟨w.heap.size,0,none⟩));clear hs;go_simp;exact hK s wx sv hR
  refine Cs (fun D s wx hR _ hd _ _ hs K hK=>?_) ?_
  ·have e18:=hs.v 1 18 hd;clear hs;have qk:=(hR.blk 0 rfl).cell;go_simp;exact hK s wx sv hR
  refine Cs (fun D s wx hR _ hd _ _ hs K hK=>?_) ?_
  ·have e17:=hs.v 0 17 hd;have e19:=hs.v 2 19 hd;clear hs;go_simp;exact hK s wx sv hR
  refine Cs (fun D s wx hR _ hd hsh _ hs K hK=>?_) ?_
  ·have e20:=hs.v 3 20 hd;clear hs;have d0:D 0=true:=hsh _ _ (rfl:_=some _) (hd ⟨3,.data⟩ (by simp) rfl) ⟨0,.data⟩ (by simp) rfl;have kb:fU wx s 9 #[.string ⟨#[100,111]⟩,.string ⟨#[98,97,99,107]⟩]:=hR.blk 1 (if_pos d0);have qk:=kb.cell;go_simp;exact hK s wx sv hR
  refine Cs (fun D s wx hR _ hd _ _ hs K hK=>?_) ?_
  ·have e21:=hs.v 4 21 hd;clear hs;go_simp;exact hK s wx sv hR
  refine Cs (fun D s wx hR _ hd _ _ hs K hK=>?_) ?_
  ·have e1:=hs.o 1 (.pointer (some ⟨w.heap.size,0,none⟩));clear hs;go_simp;exact hK s wx sv hR
  refine Cs (fun D s wx hR _ hd _ _ hs K hK=>?_) ?_
  ·have e23:=hs.v 6 23 hd;clear hs;have qk:=(hR.blk 0 rfl).cell;go_simp;exact hK s wx sv hR
  refine Cs (fun D s wx hR _ hd _ _ hs K hK=>?_) ?_
  ·have e24:=hs.v 7 24 hd;have g24:=aX e24;clear hs;go_simp;refine(qp m hm wx).mono ?_;rintro e2 w2 ⟨rfl,hb2⟩;exact hK s w2 sv ((hR.quiet hb2).congr (fun i=>rfl))
  refine Cs (fun D s wx hR _ hd _ _ hs K hK=>?_) ?_
  ·have e22:=hs.v 5 22 hd;have e25:=hs.v 8 25 hd;clear hs;have hl3:=HL3.out;have hl5:=HL5.out;go_simp;exact hK s wx sv hR
  refine Cs (fun D s wx hR _ hd _ _ hs K hK=>?_) ?_
  ·have e26:=hs.v 9 26 hd;clear hs;go_simp;exact hK s wx sv hR
  exact aj.nil
 ·intro D s wx hR hD;simp only[eH,Act.put,aO,aU,aW];have HB:=af hR.below;clear hR hD;go_wp2;go_ret;exact⟨dK (by rw[HT.out];exact VD (iI m)),HB.out⟩
theorem yw (k n:Int) (w:World):
  Calls Tryz.prog 107 #[.agg #[.int .i64 k,.int .i64 n]] w fun e w'=>e= .returned (.string ⟨(lS k n).toArray⟩)∧Below w.heap.size w w':=by
 have HB:Hid (Below w.heap.size w (w.alloc (.cells #[.int .i64 k,.int .i64 n] 64))):=af ((ai _ _).alloc (aA _) _)
 by_cases h0:k=0
 ·subst h0
  by_cases hr:0≤n∧n≤99
  ·obtain⟨m,rfl⟩:=bC hr.1;exact FW m (by omega) w
  ·have HT:=af (yU hr (.inl rfl));have HR:=af hr;clear hr;go_enter Tryz.func107,Tryz.ntmps107
   go_wp2_with fail
   refine(kS n 0 99 _ HR.out).mono ?_;rintro e w' ⟨rfl,rfl⟩;go_wp2;go_ret;exact⟨dK (a:=⟨#[]⟩) (by rw[HT.out]),HB.out⟩
 by_cases h1:k=1
 ·subst h1
  by_cases hr:0≤n∧n≤99
  ·obtain⟨m,rfl⟩:=bC hr.1;exact FY m (by omega) w
  ·have HT:=af (yU hr (.inr rfl));have HR:=af hr;clear hr;go_enter Tryz.func107,Tryz.ntmps107
   go_wp2_with fail
   refine(kS n 0 99 _ HR.out).mono ?_;rintro e w' ⟨rfl,rfl⟩;go_wp2;go_ret;exact⟨dK (a:=⟨#[]⟩) (by rw[HT.out]),HB.out⟩
 have b0:(k == 0)=false:=by simpa using h0
 have b1:(k == 1)=false:=by simpa using h1
 by_cases h2:k=2∧n=0
 ·obtain⟨rfl,rfl⟩:=h2;clear h0 h1;go_enter Tryz.func107,Tryz.ntmps107;go_wp2;go_ret;exact⟨rfl,HB.out⟩
 by_cases h3:k=3∧n=0
 ·obtain⟨rfl,rfl⟩:=h3;clear h0 h1 h2;go_enter Tryz.func107,Tryz.ntmps107;go_wp2;go_ret;exact⟨rfl,HB.out⟩
 have HT:=af (wC (k:=k) (n:=n) h0 h1 h2 h3)
 by_cases hk2:k=2
 ·have hn':(n == 0)=false:=by rw[dH];intro h;exact h2 ⟨hk2,by simpa using h⟩
  subst hk2;clear h0 h1 h2 h3 b0 b1;go_enter Tryz.func107,Tryz.ntmps107;go_wp2;go_ret;exact⟨dK (a:=⟨#[]⟩) (by rw[HT.out]),HB.out⟩
 have b2:(k == 2)=false:=by simpa using hk2
 by_cases hk3:k=3
 ·have hn':(n == 0)=false:=by rw[dH];intro h;exact h3 ⟨hk3,by simpa using h⟩
  subst hk3;clear h0 h1 h2 h3 hk2 b0 b1 b2;go_enter Tryz.func107,Tryz.ntmps107;go_wp2;go_ret;exact⟨dK (a:=⟨#[]⟩) (by rw[HT.out]),HB.out⟩
 have b3:(k == 3)=false:=by simpa using hk3
 clear h0 h1 h2 h3 hk2 hk3;go_enter Tryz.func107,Tryz.ntmps107;go_wp2;go_ret;exact⟨dK (a:=⟨#[]⟩) (by rw[HT.out]),HB.out⟩
end Go.Proofs.YtkmcengmglgdeaaGreatDoor
