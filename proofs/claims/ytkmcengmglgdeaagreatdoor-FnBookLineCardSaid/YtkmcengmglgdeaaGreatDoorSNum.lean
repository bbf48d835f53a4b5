/- Joined texts: Num, Ints, Gray, Rings, Code, Run. -/
import Derived.Test.YtkmcengmglgdeaaGreatDoorSBase

namespace Go.Proofs.YtkmcengmglgdeaaGreatDoor
set_option linter.unusedVariables false
set_option linter.unusedSimpArgs false
set_option maxRecDepth 100000
set_option maxHeartbeats 8000000
open Go.ChangeShapes Go.WideShapes Go.ChangeAt Go.RowKit
theorem jf (n lo hi:Int) (w:World):
  Calls Tryz.prog 125 #[.int .i64 n,.int .i64 lo,.int .i64 hi] w fun e w'=>e= .returned (.bool (decide (lo≤n∧n≤hi)))∧w=w':=by
 go_enter Tryz.func125,Tryz.ntmps125;go_wp2
 all_goals go_ret
 all_goals refine⟨aY ?_,rfl⟩
 all_goals simp
 all_goals omega
theorem fO (n lo hi:Int) (w:World) (h:lo≤n) (h':n≤hi):
  Calls Tryz.prog 125 #[.int .i64 n,.int .i64 lo,.int .i64 hi] w fun e w'=>e= .returned (.bool true)∧w=w':=
 (jf n lo hi w).mono fun _ _ ⟨he,hw⟩=>⟨by rw[he,decide_eq_true ⟨h,h'⟩],hw⟩
theorem kS (n lo hi:Int) (w:World) (h:¬(lo≤n∧n≤hi)):
  Calls Tryz.prog 125 #[.int .i64 n,.int .i64 lo,.int .i64 hi] w fun e w'=>e= .returned (.bool false)∧w=w':=
 (jf n lo hi w).mono fun _ _ ⟨he,hw⟩=>⟨by rw[he,decide_eq_false h],hw⟩
theorem Rq (a:Int) (k:Nat) (h0:0≤a) (hk:k<64) (w:World):
  Calls Tryz.prog 126 #[.int .i64 a,.int .i64 k] w fun e w'=>e= .returned (.int .i64 (a/2^k%2))∧w=w':=by
 have hd:0≤a/2^k:=Int.ediv_nonneg h0 (Int.le_of_lt (Int.pow_pos (by omega)));go_enter Tryz.func126,Tryz.ntmps126;go_wp2
 all_goals go_ret
 all_goals exact⟨rfl,rfl⟩
theorem Qa (a b:Nat):(a &&& b)=2*(a/2 &&& b/2)+(a%2)*(b%2):=by
 have h1:(a &&& b)/2=(a/2 &&& b/2):=Nat.and_div_two
 have h2:(a &&& b)%2=(a%2)*(b%2):=by
  rw[show(2:Nat)=2^1 from rfl,Nat.and_mod_two_pow];have:a%2<2:=Nat.mod_lt _ (by omega);have:b%2<2:=Nat.mod_lt _ (by omega);simp only[Nat.pow_one]
  generalize a%2=x at*
  generalize b%2=y at*
  obtain rfl | rfl:x=0∨x=1:=by omega
  all_goals obtain rfl | rfl:y=0∨y=1:=by omega
  all_goals rfl
 omega
theorem Qb (a b:Nat):(a^^^b)=2*(a/2^^^b/2)+(a+b)%2:=by
 have h1:(a^^^b)/2=(a/2^^^b/2):=Nat.xor_div_two
 have h2:(a^^^b)%2=(a+b)%2:=by
  rw[show(2:Nat)=2^1 from rfl,Nat.xor_mod_two_pow];have:a%2<2:=Nat.mod_lt _ (by omega);have:b%2<2:=Nat.mod_lt _ (by omega);have e:(a+b)%2=(a%2+b%2)%2:=by omega
  simp only[Nat.pow_one];rw[e]
  generalize a%2=x at*
  generalize b%2=y at*
  obtain rfl | rfl:x=0∨x=1:=by omega
  all_goals obtain rfl | rfl:y=0∨y=1:=by omega
  all_goals rfl
 omega
theorem AY (a b:Nat):(a^^^b)+2*(a &&& b)=a+b:=by
 induction a using Nat.strongRecOn generalizing b with
 |ind a ih=>
  by_cases ha:a=0
  ·subst ha;simp
  ·have:=ih (a/2) (by omega) (b/2)
   rw[Qb a b,Qa a b];have h1:a%2<2:=Nat.mod_lt _ (by omega);have h2:b%2<2:=Nat.mod_lt _ (by omega)
   have h3:a%2*(b%2)+(a%2*(b%2))+(a+b)%2=a%2+b%2:=by
    have e:(a+b)%2=(a%2+b%2)%2:=by omega
    rw[e]
    generalize a%2=x at*
    generalize b%2=y at*
    obtain rfl | rfl:x=0∨x=1:=by omega
    all_goals obtain rfl | rfl:y=0∨y=1:=by omega
    all_goals rfl
   omega
theorem ZP (a b:Nat):(a ||| b)+(a &&& b)=a+b:=by
 have h:(a ||| b)=(a^^^b)+(a &&& b):=by
  induction a using Nat.strongRecOn generalizing b with
  |ind a ih=>
   by_cases ha:a=0
   ·subst ha;simp
   ·have:=ih (a/2) (by omega) (b/2)
    rw[Qb a b,Qa a b];have h1:(a ||| b)/2=(a/2 ||| b/2):=Nat.or_div_two
    have h2:(a ||| b)%2=(a+b)%2+(a%2)*(b%2):=by
     rw[show(2:Nat)=2^1 from rfl,Nat.or_mod_two_pow];simp only[Nat.pow_one];have:a%2<2:=Nat.mod_lt _ (by omega);have:b%2<2:=Nat.mod_lt _ (by omega);have e:(a+b)%2=(a%2+b%2)%2:=by omega
     rw[e]
     generalize a%2=x at*
     generalize b%2=y at*
     obtain rfl | rfl:x=0∨x=1:=by omega
     all_goals obtain rfl | rfl:y=0∨y=1:=by omega
     all_goals rfl
    omega
 have:=AY a b
 omega
theorem Rt (a b k:Nat):(a &&& b)%2^(k+1)=(a &&& b)%2^k+(a/2^k%2)*(b/2^k%2)*2^k:=by
 have hb:(a/2^k%2)*(b/2^k%2)=(a &&& b)/2^k%2:=by
  have h:=Nat.testBit_and a b k;simp only[Nat.testBit_eq_decide_div_mod_eq] at h;have h1:a/2^k%2<2:=Nat.mod_lt _ (by omega);have h2:b/2^k%2<2:=Nat.mod_lt _ (by omega);have h3:(a &&& b)/2^k%2<2:=Nat.mod_lt _ (by omega)
  generalize a/2^k%2=x at*
  generalize b/2^k%2=y at*
  generalize (a &&& b)/2^k%2=z at*
  obtain rfl | rfl:x=0∨x=1:=by omega
  all_goals obtain rfl | rfl:y=0∨y=1:=by omega
  all_goals obtain rfl | rfl:z=0∨z=1:=by omega
  all_goals simp_all
 rw[hb,Nat.pow_succ,Nat.mod_mul,Nat.mul_comm (2^k)]
theorem abr (a b:Nat) (ha:a<32) (hb:b<32):a^^^b<32:=Nat.xor_lt_two_pow (n:=5) ha hb
def pY (a b k:Nat):Nat:=(a &&& b)%2^k
theorem jo (a k:Nat):bit a k<2:=Nat.mod_lt _ (by omega)
theorem jS (k m:Nat) (h:k≤m):(2:Int)^k≤2^m:=by
 have h1:2^k≤2^m:=Nat.pow_le_pow_right (by omega) h
 exact_mod_cast h1
theorem and_one (m k:Nat) (hm:m<4611686018427387904):bits BinOp.and IntKind.i64 ((m:Int)/2^k) 1=(bit m k:Nat):=by
 have e:((m:Int)/2^k)=((m/2^k:Nat):Int):=by simp
 have hle:m/2^k≤m:=Nat.div_le_self _ _;rw[e,show(1:Int)=((1:Nat):Int) from rfl,jP _ _ (by omega) (by omega),Nat.and_one_is_mod]
 rfl
theorem iK (k:Nat) (h:k≤62):wrap64 (2^k)=2^k:=by
 have h1:=jS k 62 h;have h3:(0:Int)<2^k:=Int.pow_pos (by omega);exact IntWalk.wrap64_in _ ⟨by omega,by omega⟩
theorem jX (a k:Nat) (hk:k<64) (w:World):
  Calls Tryz.prog 126 #[.int .i64 a,.int .i64 k] w fun e w'=>e= .returned (.int .i64 (bit a k:Nat))∧w=w':=
 (Rq a k (by omega) hk w).mono fun _ _ ⟨he,hw⟩=>⟨by rw[he];unfold bit;simp,hw⟩
theorem Ru (a b k:Nat):pY a b k<2^k:=Nat.mod_lt _ (Nat.pow_pos (by omega))
theorem Uw (a b k:Nat) (hk:k<62) (_ha:a<4611686018427387904) (_h:(2:Int)^k≤a):
  wrap64 ((pY a b k:Nat)+wrap64 (wrap64 ((bit a k:Nat)*(bit b k:Nat))*2^k))=((pY a b k+bit a k*bit b k*2^k:Nat):Int):=by
 have h3:(0:Int)<2^k:=Int.pow_pos (by omega);have h1:=jS k 61 (by omega);have hl:((pY a b k:Nat):Int)<2^k:=by exact_mod_cast Ru a b k
 have ha:=jo a k;have hb:=jo b k
 generalize bit a k=x at*
 generalize bit b k=y at*
 have ex:((x:Int)*(y:Int))=((x*y:Nat):Int):=by simp
 have hxy:x*y≤1:=by
  obtain rfl | rfl:x=0∨x=1:=by omega
  all_goals omega
 rw[ex]
 generalize x*y=z at*
 rw[IntWalk.wrap64_in (z:Int) ⟨by omega,by omega⟩];obtain rfl | rfl:z=0∨z=1:=by omega
 ·simp only[Int.natCast_zero,Int.zero_mul,Nat.zero_mul,Nat.add_zero];rw[IntWalk.wrap64_in 0 ⟨by omega,by omega⟩,Int.add_zero];exact IntWalk.wrap64_in _ ⟨by omega,by omega⟩
 ·simp only[Int.natCast_one,Int.one_mul,Nat.one_mul];rw[IntWalk.wrap64_in (2^k) ⟨by omega,by omega⟩];rw[IntWalk.wrap64_in _ ⟨by omega,by omega⟩]
  simp
theorem jU (a b:Nat) (ha:a<4611686018427387904) (w:World):
  Calls Tryz.prog 157 #[.int .i64 a,.int .i64 b] w fun e w'=>e= .returned (.int .i64 ((a &&& b:Nat):Int))∧w=w':=by
 have HB:Hid (∀k,(a:Int)<2^k∨(b:Int)<2^k→pY a b k=a &&& b):=by
  refine af fun k hk=>?_
  unfold pY
  apply Nat.mod_eq_of_lt
  have e:((2^k:Nat):Int)=2^k:=by simp
  rw[←e] at hk;have h1:a &&& b≤a:=Nat.and_le_left;have h2:a &&& b≤b:=Nat.and_le_right
  omega
 go_enter Tryz.func157,Tryz.ntmps157;go_wp2
 go_loop [5,6] (fun o i=>∃k:Nat,k≤62∧i= .int .i64 k∧o= .int .i64 (pY a b k:Nat)) (fun _ i=>62-(intOf i).toNat)
 case atStart=>exact⟨0,by omega,rfl,by simp[pY,Nat.mod_one]⟩
 case round=>
  obtain⟨k,hk,rfl,rfl⟩:=hrel;have hw:=iK k hk;have hstep:pY a b (k+1)=pY a b k+bit a k*bit b k*2^k:=Rt a b k;have H1:=af hstep;clear hstep
  have hlt:(2:Int)^k≤a→k<62:=fun h=>by
   rcases Nat.lt_or_ge k 62 with h1 | h1
   ·exact h1
   ·have h1:=jS 62 k h1
    omega
  have H2:=af hlt;clear hlt
  go_wp2_with (go_at_call 126;refine(jX _ _ (by omega) _).mono ?_;rintro e w' ⟨rfl,rfl⟩)
  ·have h1:(2:Int)^k≤a:=by assumption
   have hk2:=H2.out h1
   go_round
   case rel=>exact⟨k+1,by omega,by go_num,by rw[H1.out,Uw a b k hk2 ha h1]⟩
   case measure=>simp[intOf];omega
  all_goals
   go_ret;refine⟨aP ?_,rfl⟩
   show((pY a b k:Nat):Int)=_
   rw[HB.out k (by first | exact .inl (by assumption) | exact .inr (by assumption))]
theorem pW (a b:Int) (h0:0≤a) (ha:a<4611686018427387904) (h1:0≤b) (w:World):
  Calls Tryz.prog 157 #[.int .i64 a,.int .i64 b] w fun e w'=>e= .returned (.int .i64 ((a.toNat &&& b.toNat:Nat):Int))∧w=w':=by
 have h:=jU a.toNat b.toNat (by omega) w
 rwa[toNat_cast h0,toNat_cast h1] at h
theorem AP (a b:Int) (h0:0≤a) (ha:a<4611686018427387904) (h1:0≤b) (hb:b<4611686018427387904) (w:World):
  Calls Tryz.prog 103 #[.int .i64 a,.int .i64 b] w fun e w'=>e= .returned (.int .i64 ((a.toNat^^^b.toNat:Nat):Int))∧w=w':=by
 have hx:=AY a.toNat b.toNat
 generalize hy:a.toNat &&& b.toNat=y at*
 have HY:=af hy;clear hy
 generalize hz:a.toNat^^^b.toNat=z at*
 have HX:Hid (a+b-2*y=z):=by refine af ?_;clear hz;omega
 clear hz;have hy1:(y:Int)≤a:=by have:=HY.out;have h2:=@Nat.and_le_left a.toNat b.toNat;omega
 clear hx;go_enter Tryz.func103,Tryz.ntmps103
 go_wp2_with (go_at_call 157;refine(pW a b h0 ha h1 _).mono ?_;rw[HY.out];rintro e w' ⟨rfl,rfl⟩)
 go_ret;exact⟨aP HX.out,rfl⟩
theorem o9 (a b:Int) (h0:0≤a) (ha:a<4611686018427387904) (h1:0≤b) (hb:b<4611686018427387904) (w:World):
  Calls Tryz.prog 159 #[.int .i64 a,.int .i64 b] w fun e w'=>e= .returned (.int .i64 ((a.toNat ||| b.toNat:Nat):Int))∧w=w':=by
 have hx:=ZP a.toNat b.toNat
 generalize hy:a.toNat &&& b.toNat=y at*
 have HY:=af hy;clear hy
 generalize hz:a.toNat ||| b.toNat=z at*
 have HX:Hid (a+b-y=z):=by refine af ?_;clear hz;omega
 clear hz;have hy1:(y:Int)≤a:=by have:=HY.out;have h2:=@Nat.and_le_left a.toNat b.toNat;omega
 clear hx;go_enter Tryz.func159,Tryz.ntmps159
 go_wp2_with (go_at_call 157;refine(pW a b h0 ha h1 _).mono ?_;rw[HY.out];rintro e w' ⟨rfl,rfl⟩)
 go_ret;exact⟨aP HX.out,rfl⟩
def lq (xs:List Int) (k:Nat):Array Value:=(ints (xs.take k++List.replicate (xs.length-k) 0)).toArray
theorem Ux (xs:List Int) (k:Nat) (hk:k<xs.length):(lq xs k)[k]? =some (.int .i64 0):=by
 unfold lq ints
 simp only[List.getElem?_toArray,List.getElem?_map,Option.map_eq_some_iff];refine⟨0,?_,rfl⟩;rw[List.getElem?_append_right (by simp only[List.length_take];omega)];simp only[List.length_take,List.getElem?_replicate];rw[if_pos (by omega)]
theorem Oa (xs:List Int) (k:Nat) (x:Int) (hx:xs[k]? =some x):(lq xs k).setIfInBounds k (.int .i64 x)=lq xs (k+1):=by
 have hk:k<xs.length:=(bI.1 hx).1
 apply Array.ext'
 unfold lq ints
 simp only[Array.toList_setIfInBounds]
 apply List.ext_getElem?
 intro i;rw[List.getElem?_set];simp only[List.getElem?_map,List.length_map,bQ,List.length_take,List.length_replicate];have e1:min k xs.length=k:=by omega
 have e2:min (k+1) xs.length=k+1:=by omega
 rcases Nat.lt_trichotomy k i with h | h | h
 ·rw[if_neg (by omega),List.getElem?_append_right (by simp;omega),List.getElem?_append_right (by simp;omega)];simp only[List.length_take,List.getElem?_replicate,e1,e2]
  by_cases h2:i<xs.length
  ·rw[if_pos (by omega),if_pos (by omega)]
  ·rw[if_neg (by omega),if_neg (by omega)]
 ·subst h;rw[if_pos rfl,if_pos (by omega),List.getElem?_append_left (by simp;omega),List.getElem?_take,if_pos (by omega),hx];rfl
 ·rw[if_neg (by omega),List.getElem?_append_left (by simp;omega),List.getElem?_append_left (by simp;omega),List.getElem?_take,List.getElem?_take,if_pos (by omega),if_pos (by omega)]
theorem Ob (xs:List Int):(lq xs xs.length).toList=ints xs:=by simp[lq]
def ad2 (n:Int):Int:=if 0≤n∧n<32 then((n.toNat^^^(n.toNat/2):Nat):Int) else -1
def QC:Nat→Nat→Nat
 |0,_=>0
 |f+1,s=>s^^^QC f (s/2)
def abb (s:Int):Int:=if 0≤s∧s<32 then((QC 5 s.toNat:Nat):Int) else -1
def half (m k:Nat):Nat:=m/2^k
def ny (r s:Int):Bool:=decide (1≤r∧r≤5∧0≤s∧s<2^r.toNat)
def acD (r s k:Int):Bool:=ny r s&&decide (0≤k∧k<r∧(k=0∨s%2^k.toNat=2^(k.toNat-1)))
theorem OW (r s:Int) (h:ny r s=true):1≤r∧r≤5∧0≤s∧s<32:=by
 unfold ny at h
 have h:=of_decide_eq_true h;have h1:=jS r.toNat 5 (by omega)
 omega
theorem kT (d:Nat) (x:Int) (h:x<0∨9<x):iF d x=none:=by unfold iF;rw[if_pos h]
theorem kJ (d:Nat) (x:Int) (h0:0≤x) (h:x≤6):iF d x=some (d+1):=by unfold iF;rw[if_neg (by omega),if_pos h]
theorem rq (d:Nat) (h:1≤d):iF d 7=some d:=by unfold iF;rw[if_neg (by omega),if_neg (by omega),if_pos rfl,if_pos h]
theorem pX (d:Nat) (h:¬1≤d):iF d 7=none:=by unfold iF;rw[if_neg (by omega),if_neg (by omega),if_pos rfl,if_neg h]
theorem nS (d:Nat) (x:Int) (h0:7<x) (h:x≤9) (hd:2≤d):iF d x=some (d-1):=by unfold iF;rw[if_neg (by omega),if_neg (by omega),if_neg (by omega),if_pos hd]
theorem lU (d:Nat) (x:Int) (h0:7<x) (h:x≤9) (hd:¬2≤d):iF d x=none:=by unfold iF;rw[if_neg (by omega),if_neg (by omega),if_neg (by omega),if_neg hd]
theorem uF (A:Option Addr) (n c:Nat) (xs:List Int) (w:World) (h:jd .i64 w w.heap.size A n c xs):
  Calls Tryz.prog 178 #[.slice A n c] w fun e w'=>e= .returned (.int .i64 (jv xs))∧w=w':=by
 have hl:=h.len;have hc:=h.cap;have hm:=h.dw
 unfold maxLen at hm
 by_cases hn:1≤n∧n≤40
 ·obtain⟨hn1,hn2⟩:=hn;have HL:=af hl;clear hl;have HBAD:Hid (codeOk xs=false→jv xs= -1):=af (mQ xs).2;go_enter Tryz.func178,Tryz.ntmps178;go_wp2
  go_loop [17,3,4] (fun i dd mm=>∃k d:Nat,k≤n∧d≤k∧mV 0 0 (xs.take k)≤k∧i= .int .i64 k∧dd= .int .i64 d∧mm= .int .i64 (mV 0 0 (xs.take k):Nat)∧Hid (jC 0 (xs.take k)=some d)) (fun i _ _=>n-(intOf i).toNat)
  case atStart=>exact⟨0,0,by omega,by omega,by simp[mV],rfl,rfl,by simp[mV],af rfl⟩
  case round=>
   obtain⟨k,d,hk,hd,hmk,rfl,rfl,rfl,hrun⟩:=hrel
   by_cases hlt:k<n
   ·obtain⟨b,off,x,rfl,hb,hx,hw,hc⟩:=h.get hlt;have hs:=qZ xs k x hx d hrun.out;have HB:=af fun hq=>HBAD.out (KO xs k x hx d hrun.out hq)
    have HS:=af hs;clear hx hs
    generalize hmz:mV 0 0 (xs.take k)=mz at*
    have HMZ:=af hmz;clear hmz
    by_cases h1:x<0
    ·have HF:=af (HB.out (kT d x (.inl h1)));go_wp2;go_ret;exact⟨aP HF.out.symm,rfl⟩
    by_cases h2:9<x
    ·have HF:=af (HB.out (kT d x (.inr h2)));go_wp2;go_ret;exact⟨aP HF.out.symm,rfl⟩
    have HK:=af (fun(d':Nat) (hq:iF d x=some d')=>(⟨HS.out.1.trans hq,HS.out.2 d' hq⟩:jC 0 (xs.take (k+1))=some d'∧mV 0 0 (xs.take (k+1))=max mz d'))
    by_cases h3:x≤6
    ·have HD:=af (HK.out (d+1) (kJ d x (by omega) h3));go_wp2
     go_round
     case rel=>exact⟨k+1,d+1,by omega,by omega,by rw[HD.out.2];omega,by go_num,by go_num,by rw[HD.out.2];congr 1;split<;>omega,af HD.out.1⟩
     case measure=>simp[intOf];omega
    by_cases h4:x=7
    ·subst h4
     by_cases h5:1≤d
     ·have HD:=af (HK.out d (rq d h5));go_wp2
      go_round
      case rel=>exact⟨k+1,d,by omega,by omega,by rw[HD.out.2];omega,by go_num,rfl,by rw[HD.out.2];congr 1;split<;>omega,af HD.out.1⟩
      case measure=>simp[intOf];omega
     ·have HF:=af (HB.out (pX d h5));go_wp2;go_ret;exact⟨aP HF.out.symm,rfl⟩
    ·have h7:((x:Int) == 7)=false:=by simpa using h4
     by_cases h5:2≤d
     ·have HD:=af (HK.out (d-1) (nS d x (by omega) (by omega) h5));clear h4;go_wp2
      go_round
      case rel=>exact⟨k+1,d-1,by omega,by omega,by rw[HD.out.2];omega,by go_num,by first | rfl | (congr 1;omega),by rw[HD.out.2];congr 1;split<;>omega,af HD.out.1⟩
      case measure=>simp[intOf];omega
     ·have HF:=af (HB.out (lU d x (by omega) (by omega) h5));clear h4;go_wp2;go_ret;exact⟨aP HF.out.symm,rfl⟩
   ·have hkn:k=n:=by omega
    have hrun':=hrun.out;subst hkn;rw[←HL.out,List.take_length] at hrun';have um:Hid (xs.take k=xs):=af (by rw[←HL.out];exact List.take_length)
    by_cases hd1:d=1
    ·subst hd1;have HG:=af (AU xs (by rw[HL.out];exact⟨hn1,hn2⟩) hrun');clear hrun';go_wp2;go_ret;refine⟨aP ?_,rfl⟩
     unfold jv
     rw[HG.out,if_pos rfl]
     show((mV 0 0 (xs.take k):Nat):Int)=_
     rw[um.out]
    ·have HF:=af (HBAD.out (Dx xs d hrun' hd1));have hne:(((d:Nat):Int) != 1)=true:=by rw[bne_iff_ne];omega
     clear hrun' hd1;go_wp2;go_ret;exact⟨aP HF.out.symm,rfl⟩
 ·have HF:=af ((mQ xs).2 (AV xs (by rw[hl];exact hn)));go_enter Tryz.func178,Tryz.ntmps178;go_wp2
  all_goals first | (exfalso;omega) | go_ret
  all_goals exact⟨aP HF.out.symm,rfl⟩
theorem l9 (x:Int) (w:World):
  Calls Tryz.prog 200 #[.int .i64 x] w fun e w'=>e= .returned (.int .i64 (if x=7 then 1 else if x=8∨x=9 then 2 else 0))∧w=w':=by
 by_cases h7:x=7
 ·subst h7;go_enter Tryz.func200,Tryz.ntmps200;go_wp2;go_ret;exact⟨rfl,rfl⟩
 by_cases h8:x=8
 ·subst h8;go_enter Tryz.func200,Tryz.ntmps200;go_wp2;go_ret;exact⟨rfl,rfl⟩
 by_cases h9:x=9
 ·subst h9;go_enter Tryz.func200,Tryz.ntmps200;go_wp2;go_ret;exact⟨rfl,rfl⟩
 rw[if_neg h7,if_neg (by omega)];have e7:(x == 7)=false:=by simpa using h7
 have e8:(x == 8)=false:=by simpa using h8
 have e9:(x == 9)=false:=by simpa using h9
 clear h7 h8 h9;go_enter Tryz.func200,Tryz.ntmps200;go_wp2;go_ret;exact⟨rfl,rfl⟩
theorem uG (A:Option Addr) (n c:Nat) (xs:List Int) (w:World) (h:jd .i64 w w.heap.size A n c xs) (kQ:n≤1099511627776):
  Calls Tryz.prog 177 #[.slice A n c] w fun e w'=>e= .returned (.int .i64 (jv xs))∧w=w':=by
 have hl:=h.len;have HL:=af hl;clear hl;have HBAD:Hid (codeOk xs=false→jv xs= -1):=af (mQ xs).2;go_enter Tryz.func177,Tryz.ntmps177;go_wp2
 go_loop [5,3,4] (fun i dd mm=>∃k d:Nat,k≤n∧d≤k∧mV 0 0 (xs.take k)≤k∧i= .int .i64 k∧dd= .int .i64 d∧mm= .int .i64 (mV 0 0 (xs.take k):Nat)∧Hid (jC 0 (xs.take k)=some d)) (fun i _ _=>n-(intOf i).toNat)
 case atStart=>exact⟨0,0,by omega,by omega,by simp[mV],rfl,rfl,by simp[mV],af rfl⟩
 case round=>
  obtain⟨k,d,hk,hd,hmk,rfl,rfl,rfl,hrun⟩:=hrel
  by_cases hlt:k<n
  ·obtain⟨b,off,x,rfl,hb,hx,hw,hc⟩:=h.get hlt;have hs:=qZ xs k x hx d hrun.out;have HB:=af fun hq=>HBAD.out (KO xs k x hx d hrun.out hq)
   have HS:=af hs;clear hx hs
   generalize hmz:mV 0 0 (xs.take k)=mz at*
   have HMZ:=af hmz;clear hmz;have HK:=af (fun(d':Nat) (hq:iF d x=some d')=>(⟨HS.out.1.trans hq,HS.out.2 d' hq⟩:jC 0 (xs.take (k+1))=some d'∧mV 0 0 (xs.take (k+1))=max mz d'))
   by_cases h1:0≤x∧x≤9
   ·obtain⟨h1,h2⟩:=h1
    by_cases h3:x≤6
    ·have HD:=af (HK.out (d+1) (kJ d x (by omega) h3));have HT:Hid ((if x=7 then(1:Int) else if x=8∨x=9 then 2 else 0)=0):=af (by rw[if_neg (by omega),if_neg (by omega)])
     go_wp2_with (first
      | (go_at_call 125;refine(fO _ _ _ _ h1 h2).mono ?_;rintro e w' ⟨rfl,rfl⟩)
      | (go_at_call 200;refine(l9 _ _).mono ?_;rw[HT.out];rintro e w' ⟨rfl,rfl⟩))
     go_round
     case rel=>exact⟨k+1,d+1,by omega,by omega,by rw[HD.out.2];omega,by go_num,by go_num,by rw[HD.out.2];congr 1;split<;>omega,af HD.out.1⟩
     case measure=>simp[intOf];omega
    by_cases h4:x=7
    ·have HT:Hid ((if x=7 then(1:Int) else if x=8∨x=9 then 2 else 0)=1):=af (by rw[if_pos h4])
     by_cases h5:1≤d
     ·have HD:=af (HK.out d (by rw[h4];exact rq d h5));clear h4
      go_wp2_with (first
       | (go_at_call 125;refine(fO _ _ _ _ h1 h2).mono ?_;rintro e w' ⟨rfl,rfl⟩)
       | (go_at_call 200;refine(l9 _ _).mono ?_;rw[HT.out];rintro e w' ⟨rfl,rfl⟩))
      go_round
      case rel=>exact⟨k+1,d,by omega,by omega,by rw[HD.out.2];omega,by go_num,by first | rfl | (congr 1;omega),by rw[HD.out.2];congr 1;split<;>omega,af HD.out.1⟩
      case measure=>simp[intOf];omega
     ·have HF:=af (HB.out (by rw[h4];exact pX d h5));clear h4
      go_wp2_with (first
       | (go_at_call 125;refine(fO _ _ _ _ h1 h2).mono ?_;rintro e w' ⟨rfl,rfl⟩)
       | (go_at_call 200;refine(l9 _ _).mono ?_;rw[HT.out];rintro e w' ⟨rfl,rfl⟩))
      go_ret;exact⟨aP HF.out.symm,rfl⟩
    ·have HT:Hid ((if x=7 then(1:Int) else if x=8∨x=9 then 2 else 0)=2):=af (by rw[if_neg h4,if_pos (by omega)])
     by_cases h5:2≤d
     ·have HD:=af (HK.out (d-1) (nS d x (by omega) (by omega) h5));clear h4
      go_wp2_with (first
       | (go_at_call 125;refine(fO _ _ _ _ h1 h2).mono ?_;rintro e w' ⟨rfl,rfl⟩)
       | (go_at_call 200;refine(l9 _ _).mono ?_;rw[HT.out];rintro e w' ⟨rfl,rfl⟩))
      go_round
      case rel=>exact⟨k+1,d-1,by omega,by omega,by rw[HD.out.2];omega,by go_num,by first | rfl | (congr 1;omega),by rw[HD.out.2];congr 1;split<;>omega,af HD.out.1⟩
      case measure=>simp[intOf];omega
     ·have HF:=af (HB.out (lU d x (by omega) (by omega) h5));clear h4
      go_wp2_with (first
       | (go_at_call 125;refine(fO _ _ _ _ h1 h2).mono ?_;rintro e w' ⟨rfl,rfl⟩)
       | (go_at_call 200;refine(l9 _ _).mono ?_;rw[HT.out];rintro e w' ⟨rfl,rfl⟩))
      go_ret;exact⟨aP HF.out.symm,rfl⟩
   ·have HF:=af (HB.out (kT d x (by omega)));have h1':=h1;clear h1
    go_wp2_with (go_at_call 125;refine(kS _ _ _ _ h1').mono ?_;rintro e w' ⟨rfl,rfl⟩)
    go_ret;exact⟨aP HF.out.symm,rfl⟩
  ·have hkn:k=n:=by omega
   have hrun':=hrun.out;subst hkn;rw[←HL.out,List.take_length] at hrun';have um:Hid (xs.take k=xs):=af (by rw[←HL.out];exact List.take_length)
   by_cases hsz:1≤k∧k≤40
   ·obtain⟨hn1,hn2⟩:=hsz
    by_cases hd1:d=1
    ·subst hd1;have HG:=af (AU xs (by rw[HL.out];exact⟨hn1,hn2⟩) hrun');clear hrun'
     go_wp2_with (go_at_call 125;refine(fO _ _ _ _ (by omega) (by omega)).mono ?_;rintro e w' ⟨rfl,rfl⟩)
     go_ret;refine⟨aP ?_,rfl⟩
     unfold jv
     rw[HG.out,if_pos rfl]
     show((mV 0 0 (xs.take k):Nat):Int)=_
     rw[um.out]
    ·have HF:=af (HBAD.out (Dx xs d hrun' hd1));have hne:(((d:Nat):Int) != 1)=true:=by rw[bne_iff_ne];omega
     clear hrun' hd1
     go_wp2_with (go_at_call 125;refine(fO _ _ _ _ (by omega) (by omega)).mono ?_;rintro e w' ⟨rfl,rfl⟩)
     go_ret;exact⟨aP HF.out.symm,rfl⟩
   ·have HF:=af (HBAD.out (AV xs (by rw[HL.out];exact hsz)));clear hrun'
    go_wp2_with (go_at_call 125;refine(kS _ _ _ _ (by omega)).mono ?_;rintro e w' ⟨rfl,rfl⟩)
    go_ret;exact⟨aP HF.out.symm,rfl⟩
theorem jK (A:Option Addr) (n c:Nat) (xs:List Int) (w:World) (h:jd .i64 w w.heap.size A n c xs) (kQ:n≤1099511627776):
  Calls Tryz.prog 135 #[.slice A n c] w fun e w'=>e= .returned (.bool (codeOk xs))∧w=w':=by
 have hb:=mQ xs
 cases hok:codeOk xs
 ·have h1:=hb.2 hok;have HK:=af hok;clear hb hok;go_enter Tryz.func135,Tryz.ntmps135
  go_wp2_with (go_at_call 177;refine(uG A n c xs _ h kQ).mono ?_;rintro e w' ⟨rfl,rfl⟩)
  go_ret;exact⟨rfl,rfl⟩
 ·obtain⟨h1,h2⟩:=hb.1 hok;have HK:=af hok;clear hb hok;go_enter Tryz.func135,Tryz.ntmps135
  go_wp2_with (go_at_call 177;refine(uG A n c xs _ h kQ).mono ?_;rintro e w' ⟨rfl,rfl⟩)
  go_ret;exact⟨aY (decide_eq_true (show 0<jv xs by omega)),rfl⟩
theorem dZ (A:Option Addr) (n c:Nat) (xs:List Int) (w:World) (h:jd .i64 w w.heap.size A n c xs):
  Calls Tryz.prog 140 #[.slice A n c] w fun e w'=>e= .returned (.bool (codeOk xs))∧w=w':=by
 have hb:=mQ xs
 cases hok:codeOk xs
 ·have h1:=hb.2 hok;have HK:=af hok;clear hb hok;go_enter Tryz.func140,Tryz.ntmps140
  go_wp2_with (go_at_call 178;refine(uF A n c xs _ h).mono ?_;rintro e w' ⟨rfl,rfl⟩)
  go_ret;exact⟨rfl,rfl⟩
 ·obtain⟨h1,h2⟩:=hb.1 hok;have HK:=af hok;have hne:(jv xs != -1)=true:=by rw[bne_iff_ne];omega
  clear hb hok;go_enter Tryz.func140,Tryz.ntmps140
  go_wp2_with (go_at_call 178;refine(uF A n c xs _ h).mono ?_;rintro e w' ⟨rfl,rfl⟩)
  go_ret;exact⟨rfl,rfl⟩
def gB (w:World) (g:Nat) (st:List Bool):Prop:=
 st.length≤40∧∃cs t,fU w g t cs∧cs.size=40∧∀i,i<st.length→cs[i]? =some (.bool (st.getD (st.length-1-i) false))
theorem gB.cell_ {w:World} {g:Nat} {st:List Bool} (h:gB w g st) (i:Nat) (hi:i<40):∃v,w.cell? ⟨g,i,none⟩=some v:=by
 obtain⟨_,cs,t,hk,hs,_⟩:=h;exact⟨cs[i],(hk.cell i).trans (Array.getElem?_eq_getElem (by omega))⟩
theorem gB.free {w:World} {g:Nat} {st:List Bool} (h:gB w g st) (i:Nat):w.frozen? ⟨g,i,none⟩=false:=by
 obtain⟨_,cs,t,hk,hs,_⟩:=h;exact hk.frozen i
theorem gB.at_ {w:World} {g:Nat} {pre r:List Bool} {a:Bool} (h:gB w g (pre++a::r)):w.cell? ⟨g,r.length,none⟩=some (.bool a):=by
 obtain⟨hl,cs,t,hk,hs,hc⟩:=h;rw[hk.cell,hc r.length (by simp;omega)]
 congr 2
 simp[List.getD]
theorem gB.put {w:World} {g:Nat} {pre r:List Bool} (h:gB w g (pre++r)) (hr:r.length<40) (v:Bool):gB (w.setCell ⟨g,r.length,none⟩ (.bool v)) g (v::r):=by
 obtain⟨hl,cs,t,hk,hs,hc⟩:=h;refine⟨by simp;omega,_,t,hk.nM r.length _,by simpa using hs,fun i hi=>?_⟩;simp only[bM] at hi ⊢
 rw[Array.getElem?_setIfInBounds]
 by_cases he:r.length=i
 ·subst he;rw[if_pos rfl,if_pos (by omega)]
  simp[List.getD]
 ·rw[if_neg he,hc i (by simp;omega)]
  congr 2
  simp only[List.getD,bQ];rw[List.getElem?_append_right (by omega)];have e1:r.length+1-1-i=(r.length-1-i)+1:=by omega
  have e2:pre.length+r.length-1-i-pre.length=r.length-1-i:=by omega
  rw[e1,e2,List.getElem?_cons_succ]
theorem uD (A:Option Addr) (n c:Nat) (xs:List Int) (s:Nat) (w:World) (h:jd .i64 w w.heap.size A n c xs) (hok:codeOk xs=true) (hs:s<32):
  Calls Tryz.prog 149 #[.slice A n c,.int .i64 s] w fun e w'=>e= .returned (.bool (aH xs s))∧Below w.heap.size w w':=by
 have hl:=h.len;have Rl:=((jg xs).1 hok);obtain⟨hn1,hn2,hfin⟩:=Rl;rw[hl] at hn1 hn2;have HL:=af hl;have HAT:=af (zH xs hok);have jL:=af hfin;clear hl hfin hok;go_enter Tryz.func149,Tryz.ntmps149;go_wp2
 go_loopw [11,6] (fun i tt wr=>∃(k d:Nat) (st:List Bool),k≤n∧d≤k∧i= .int .i64 k∧tt= .int .i64 d∧Hid (st.length=d∧qF s [] (xs.take k)=st∧jC 0 (xs.take k)=some d)∧gB wr w.heap.size st∧Below w.heap.size w wr) (fun i _ _=>n-(intOf i).toNat)
 case atStart=>exact⟨0,0,[],by omega,by omega,rfl,rfl,af ⟨rfl,rfl,rfl⟩,⟨by simp,_,_,fU.new _ _ _,rfl,by simp⟩,(ai _ _).alloc (aA _) _⟩
 case round=>
  obtain⟨k,d,st,hk,hd,rfl,rfl,HST,nN,hbel⟩:=hrel
  by_cases hlt:k<n
  ·obtain⟨b,off,x,rfl,hb,hx,hw,hc⟩:=h.get hlt;have hcr:wr.cell? ⟨b,off+k,none⟩=some (.int .i64 x):=(aF hbel b _ hb).trans hc;obtain⟨d0,hd0,-,hstep⟩:=HAT.out k (by rw[HL.out];exact hk);obtain⟨d',hd'⟩:=hstep x hx
   have hdd:d0=d:=by
    have:=hd0.symm.trans HST.out.2.2
    injection this
   rw[hdd] at hd';have zA:Hid ((iE s st x).length=d'∧qF s [] (xs.take (k+1))=iE s st x∧jC 0 (xs.take (k+1))=some d'):=af ⟨yC s st x d' (by rw[HST.out.1];exact hd'),by rw[yD s xs k x hx,HST.out.2.1],(qZ xs k x hx d HST.out.2.2).1.trans hd'⟩;have wF:=af hd';have hlen:=HST.out.1;clear hx hd0 hstep hd' hdd hc HST
   by_cases h5:x=5
   ·subst h5;have hfr:=nN.free d;obtain⟨v,hv⟩:=nN.cell_ d (by omega);have hput:=gB.put (pre:=[]) nN (by omega) true;rw[hlen] at hput
    have hd2:d'=d+1:=by have:=wF.out;rw[kJ d 5 (by omega) (by omega)] at this;injection this with this;exact this.symm
    have HP:Hid (gB (wr.setCell ⟨w.heap.size,d,none⟩ (.bool true)) w.heap.size (iE s st 5)):=af hput;have HD2:=af hd2;clear hd2 hlen hput nN;go_wp2
    go_roundw
    case rel=>exact⟨k+1,d+1,_,by omega,by omega,by go_num,by go_num,af (by rw[←HD2.out];exact zA.out),HP.out,hbel.setCell (by simp) _⟩
    case measure=>simp[intOf];omega
   by_cases h6:x=6
   ·subst h6;have hfr:=nN.free d;obtain⟨v,hv⟩:=nN.cell_ d (by omega);have hput:=gB.put (pre:=[]) nN (by omega) false;rw[hlen] at hput
    have hd2:d'=d+1:=by have:=wF.out;rw[kJ d 6 (by omega) (by omega)] at this;injection this with this;exact this.symm
    have HP:Hid (gB (wr.setCell ⟨w.heap.size,d,none⟩ (.bool false)) w.heap.size (iE s st 6)):=af hput;have HD2:=af hd2;clear hd2 hlen hput nN;go_wp2
    go_roundw
    case rel=>exact⟨k+1,d+1,_,by omega,by omega,by go_num,by go_num,af (by rw[←HD2.out];exact zA.out),HP.out,hbel.setCell (by simp) _⟩
    case measure=>simp[intOf];omega
   by_cases h7:x=7
   ·subst h7
    have h1:1≤d:=by
     rcases Nat.lt_or_ge d 1 with h | h
     ·have:=wF.out;rw[pX d (by omega)] at this;cases this
     ·exact h
    have hd2:d'=d:=by have:=wF.out;rw[rq d h1] at this;injection this with this;exact this.symm
    obtain⟨a,r,rfl⟩:∃a r,st=a::r:=by
     match st,hlen with
     | [],h=>simp at h;omega
     |a::r,_=>exact⟨a,r,rfl⟩
    obtain⟨q,rfl⟩:∃q,d=q+1:=⟨d-1,by omega⟩;have hrq:r.length=q:=by simpa using hlen
    subst hrq;have c1:=gB.at_ (pre:=[]) nN;have f0:=nN.free r.length;have hput:=fun u=>gB.put (pre:=[a]) nN (by omega) u
    have HD2:=af hd2;have HP:=af hput;clear hd2 hlen hput nN h1;go_wp2
    go_roundw
    case rel=>exact⟨k+1,r.length+1,_,by omega,by omega,by go_num,by go_num,af (by have:=zA.out;rw[HD2.out] at this;exact this),HP.out _,hbel.setCell (by simp) _⟩
    case measure=>simp[intOf];omega
   by_cases h8:x=8
   ·subst h8
    have h2:2≤d:=by
     rcases Nat.lt_or_ge d 2 with h | h
     ·have:=wF.out;rw[lU d 8 (by omega) (by omega) (by omega)] at this;cases this
     ·exact h
    have hd2:d'=d-1:=by have:=wF.out;rw[nS d 8 (by omega) (by omega) h2] at this;injection this with this;exact this.symm
    obtain⟨a,b2,r,rfl⟩:∃a b2 r,st=a::b2::r:=by
     match st,hlen with
     | [],h=>simp at h;omega
     | [_],h=>simp at h;omega
     |a::b2::r,_=>exact⟨a,b2,r,rfl⟩
    obtain⟨q,rfl⟩:∃q,d=q+2:=⟨d-2,by omega⟩;have hrq:r.length=q:=by simpa using hlen
    subst hrq;have c1:=gB.at_ (pre:=[]) nN;have c0:=gB.at_ (pre:=[a]) nN;have f0:=nN.free r.length;have hput:=fun u=>gB.put (pre:=[a,b2]) nN (by omega) u
    have HD2:=af hd2;have HP:=af hput;simp only[bM] at c1;clear hd2 hlen hput nN h2
    cases b2
    ·go_wp2
     go_roundw
     case rel=>exact⟨k+1,r.length+1,_,by omega,by omega,by go_num,by go_num,af (by have:=zA.out;rw[HD2.out] at this;exact this),HP.out _,hbel.setCell (by simp) _⟩
     case measure=>simp[intOf];omega
    ·go_wp2
     go_roundw
     case rel=>exact⟨k+1,r.length+1,_,by omega,by omega,by go_num,by go_num,af (by have:=zA.out;rw[HD2.out] at this;exact this),HP.out _,hbel.setCell (by simp) _⟩
     case measure=>simp[intOf];omega
   by_cases h9:x=9
   ·subst h9
    have h2:2≤d:=by
     rcases Nat.lt_or_ge d 2 with h | h
     ·have:=wF.out;rw[lU d 9 (by omega) (by omega) (by omega)] at this;cases this
     ·exact h
    have hd2:d'=d-1:=by have:=wF.out;rw[nS d 9 (by omega) (by omega) h2] at this;injection this with this;exact this.symm
    obtain⟨a,b2,r,rfl⟩:∃a b2 r,st=a::b2::r:=by
     match st,hlen with
     | [],h=>simp at h;omega
     | [_],h=>simp at h;omega
     |a::b2::r,_=>exact⟨a,b2,r,rfl⟩
    obtain⟨q,rfl⟩:∃q,d=q+2:=⟨d-2,by omega⟩;have hrq:r.length=q:=by simpa using hlen
    subst hrq;have c1:=gB.at_ (pre:=[]) nN;have c0:=gB.at_ (pre:=[a]) nN;have f0:=nN.free r.length;have hput:=fun u=>gB.put (pre:=[a,b2]) nN (by omega) u
    have HD2:=af hd2;have HP:=af hput;simp only[bM] at c1;clear hd2 hlen hput nN h2
    cases b2
    ·go_wp2
     go_roundw
     case rel=>exact⟨k+1,r.length+1,_,by omega,by omega,by go_num,by go_num,af (by have:=zA.out;rw[HD2.out] at this;exact this),HP.out _,hbel.setCell (by simp) _⟩
     case measure=>simp[intOf];omega
    ·go_wp2
     go_roundw
     case rel=>exact⟨k+1,r.length+1,_,by omega,by omega,by go_num,by go_num,af (by have:=zA.out;rw[HD2.out] at this;exact this),HP.out _,hbel.setCell (by simp) _⟩
     case measure=>simp[intOf];omega
   have adv:0≤x∧x<5:=by
    rcases Int.lt_or_le x 0 with h | h
    ·have:=wF.out;rw[kT d x (.inl h)] at this;cases this
    rcases Int.lt_or_le 9 x with h' | h'
    ·have:=wF.out;rw[kT d x (.inr h')] at this;cases this
    omega
   obtain⟨hx0,hx4⟩:=adv;obtain⟨m,rfl⟩:=bC hx0;have e5:(((m:Nat):Int) == 5)=false:=by simpa using h5
   have e6:(((m:Nat):Int) == 6)=false:=by simpa using h6
   have e7:(((m:Nat):Int) == 7)=false:=by simpa using h7
   have e8:(((m:Nat):Int) == 8)=false:=by simpa using h8
   have e9:(((m:Nat):Int) == 9)=false:=by simpa using h9
   have hb1:=and_one s m (by omega);have hfr:=nN.free d;obtain⟨v,hv⟩:=nN.cell_ d (by omega);have hput:=gB.put (pre:=[]) nN (by omega) (bit s m == 1);rw[hlen] at hput
   have hd2:d'=d+1:=by have:=wF.out;rw[kJ d m (by omega) (by omega)] at this;injection this with this;exact this.symm
   have hes:iE s st (m:Int)=(bit s m == 1)::st:=by unfold iE;rw[if_neg h5,if_neg h6,if_neg h7,if_neg h8,if_neg h9,bW]
   have hcast:(((bit s m:Nat):Int) == 1)=(bit s m == 1):=by
    have:=jo s m
    obtain h | h:bit s m=0∨bit s m=1:=by omega
    all_goals rw[h];rfl
   have HP:Hid (gB (wr.setCell ⟨w.heap.size,d,none⟩ (.bool (bit s m == 1))) w.heap.size (iE s st m)):=af (by rw[hes];exact hput);have HD2:=af hd2;clear hd2 hlen hput nN hes h5 h6 h7 h8 h9;go_wp2
   go_roundw
   case rel=>exact⟨k+1,d+1,_,by omega,by omega,by go_num,by go_num,af (by rw[←HD2.out];exact zA.out),HP.out,hbel.setCell (by simp) _⟩
   case measure=>simp[intOf];omega
  ·have hkn:k=n:=by omega
   subst hkn;obtain⟨h1,h2,h3⟩:=HST.out;rw[←HL.out,List.take_length] at h2 h3;have hd1:d=1:=by have:=h3.symm.trans jL.out;injection this
   subst hd1
   obtain⟨a,rfl⟩:∃a,st=[a]:=by
    match st,h1 with
    | [a],_=>exact⟨a,rfl⟩
   have HV:Hid (aH xs s=a):=af (by unfold aH;rw[h2];rfl);have c0:=gB.at_ (pre:=[]) (r:=[]) nN;simp only[List.length_nil] at c0;clear h1 h2 h3 nN;go_wp2;go_ret;exact⟨aY HV.out.symm,hbel⟩
theorem Dw {w:World} {base:Nat} {e:TypeId} {size n cap m:Nat} {A:Option Addr} {xs:List Value} (h:w.ownsRow base e size (.slice A n cap) n xs) (hm:m≤n) (h0:0<n):w.ownsRow base e size (.slice A m cap) m (xs.take (m*size)):=by
 obtain⟨hl,h2⟩:=h;have hle:m*size≤n*size:=Nat.mul_le_mul_right _ hm;refine⟨by rw[List.length_take,hl];omega,?_⟩
 rcases h2 with⟨e,e0⟩ | ⟨g,cp,cur,hv,hg,hh,h3,h4,h5,h6⟩
 ·omega
 ·simp only[Value.slice.injEq] at hv;obtain⟨rfl,-,rfl⟩:=hv;refine .inr ⟨g,cap,cur,rfl,hg,hh,by omega,h4,h5,?_⟩;rw[←h6,List.take_take]
  congr 1
  omega
theorem mP {w:World} {base:Nat} {e:TypeId} {size n:Nat} {v:Value} {xs:List Value} (h:w.ownsRow base e size v n xs) (h0:0<n):∃g cap,v= .slice (some ⟨g,0,none⟩) n cap∧base≤g∧n≤cap∧cap≤maxLen:=by
 rcases h.2 with⟨_,e0⟩ | ⟨g,cap,cur,hv,hg,_,h3,h4,_⟩
 ·omega
 ·exact⟨g,cap,hv,hg,h3,h4⟩
theorem Uu:qE Tryz.prog 169 4 (.bool false) 1 1:=⟨Tryz.underlying169,info_parts (by kernel_rfl),rfl,by omega⟩
def bools (st:List Bool):List Value:=st.reverse.map Value.bool
theorem jR (a:Bool) (r:List Bool):bools (a::r)=bools r++[.bool a]:=by simp[bools]
theorem jr (st:List Bool):(bools st).length=st.length:=by simp[bools]
theorem ru (a:Bool) (r:List Bool):(bools (a::r))[r.length]? =some (.bool a):=by
 rw[jR,List.getElem?_append_right (by rw[jr];omega),jr];simp
theorem zI (a v:Bool) (r:List Bool):(bools (a::r)).set r.length (.bool v)=bools (v::r):=by
 rw[jR,jR,List.set_append_right _ _ (by rw[jr];omega),jr];simp
theorem kU (A:Option Addr) (n c:Nat) (xs:List Int) (s:Nat) (w:World) (h:jd .i64 w w.heap.size A n c xs) (hok:codeOk xs=true) (_hs:s<32):
  Calls Tryz.prog 121 #[.slice A n c,.int .i64 s] w fun e w'=>e= .returned (.bool (aH xs s))∧Below w.heap.size w w':=by
 have hl:=h.len;have Rl:=((jg xs).1 hok);obtain⟨hn1,hn2,hfin⟩:=Rl;rw[hl] at hn1 hn2;have HL:=af hl;have HAT:=af (zH xs hok);have jL:=af hfin;clear hl hfin hok;go_enter Tryz.func121,Tryz.ntmps121;go_wp2
 go_loopw [6,5] (fun i v wr=>∃(k d:Nat) (st:List Bool),k≤n∧d≤k∧i= .int .i64 k∧Hid (st.length=d∧qF s [] (xs.take k)=st∧jC 0 (xs.take k)=some d)∧wr.ownsRow w.heap.size 4 1 v d (bools st)∧Below w.heap.size w wr) (fun i _ _=>n-(intOf i).toNat)
 case atStart=>exact⟨0,0,[],by omega,by omega,rfl,af ⟨rfl,rfl,rfl⟩,World.ownsRow_lit w #[] 0 (aA _) (by unfold maxLen;omega) rfl,(ai _ _).alloc (aA _) _⟩
 case round=>
  obtain⟨k,d,st,hk,hd,rfl,HST,hown,hbel⟩:=hrel;have hsz:=hbel.size
  by_cases hlt:k<n
  ·obtain⟨b,off,x,rfl,hb,hx,hw,hc⟩:=h.get hlt;have hcr:wr.cell? ⟨b,off+k,none⟩=some (.int .i64 x):=(aF hbel b _ hb).trans hc;obtain⟨d0,hd0,-,hstep⟩:=HAT.out k (by rw[HL.out];exact hk);obtain⟨d',hd'⟩:=hstep x hx
   have hdd:d0=d:=by
    have:=hd0.symm.trans HST.out.2.2
    injection this
   rw[hdd] at hd';have zA:Hid ((iE s st x).length=d'∧qF s [] (xs.take (k+1))=iE s st x∧jC 0 (xs.take (k+1))=some d'):=af ⟨yC s st x d' (by rw[HST.out.1];exact hd'),by rw[yD s xs k x hx,HST.out.2.1],(qZ xs k x hx d HST.out.2.2).1.trans hd'⟩;have wF:=af hd';have hlen:=HST.out.1;clear hx hd0 hstep hd' hdd hc HST
   by_cases hfact:x<5
   ·have hx0:0≤x:=by
     rcases Int.lt_or_le x 0 with h | h
     ·have:=wF.out;rw[kT d x (.inl h)] at this;cases this
     ·exact h
    obtain⟨m,rfl⟩:=bC hx0
    have hd2:d'=d+1:=by have:=wF.out;rw[kJ d m (by omega) (by omega)] at this;injection this with this;exact this.symm
    have hes:iE s st (m:Int)=(bit s m == 1)::st:=by unfold iE;rw[if_neg (by omega),if_neg (by omega),if_neg (by omega),if_neg (by omega),if_neg (by omega),bW]
    have hcast:(((bit s m:Nat):Int) == 1)=(bit s m == 1):=by
     have:=jo s m
     obtain h | h:bit s m=0∨bit s m=1:=by omega
     all_goals rw[h];rfl
    have HD2:=af hd2;have ZH:=af hes;have HC:=af hcast;obtain⟨C,cc,rfl⟩:=dR hown;clear hd2 hlen hes hcast
    go_wp2_with (first
     | (go_at_call 126;refine(jX _ _ (by omega) _).mono ?_;rintro e w' ⟨rfl,rfl⟩)
     | (at_builtin;refine cZ Uu rfl _ _ rfl w.heap.size _ d _ rfl (hown.alloc _) _ _ 1 1 [.bool (((bit s m:Nat):Int) == 1)] rfl (bJ.new wr [.bool (((bit s m:Nat):Int) == 1)] 4 1 1 rfl (by unfold maxLen;omega)) (by simp[Value.oneCell']) (by omega) (by omega) (by simp;omega) ?_;intro v5 w5 hown5 hg5 Fp))
    have hb5:Below w.heap.size w w5:=(hbel.alloc hsz _).grown hg5 (by simp;omega) (fun k hk=>by have:=(hown.lt k hk).1;omega);have ho5:w5.ownsRow w.heap.size 4 1 v5 (d+1) (bools (iE s st m)):=by rw[ZH.out,jR,←HC.out];exact hown5
    clear hown5 hg5 Fp;go_wp2
    go_roundw
    case rel=>exact⟨k+1,d+1,_,by omega,by omega,by go_num,af (by rw[←HD2.out];exact zA.out),ho5,hb5⟩
    case measure=>simp[intOf];omega
   by_cases hyn:x=5∨x=6
   ·have hd2:d'=d+1:=by have:=wF.out;rw[kJ d x (by omega) (by omega)] at this;injection this with this;exact this.symm
    have hes:iE s st x=(x == 5)::st:=by
     unfold iE
     rcases hyn with rfl | rfl
     ·rfl
     ·rfl
    have HD2:=af hd2;have ZH:=af hes;obtain⟨C,cc,rfl⟩:=dR hown;clear hd2 hlen hes
    rcases hyn with rfl | rfl
    all_goals
     go_wp2_with (at_builtin;refine cZ Uu rfl _ _ rfl w.heap.size _ d _ rfl (hown.alloc _) _ _ 1 1 [.bool _] rfl (bJ.new wr [.bool _] 4 1 1 rfl (by unfold maxLen;omega)) (by simp[Value.oneCell']) (by omega) (by omega) (by simp;omega) ?_;intro v5 w5 hown5 hg5 Fp)
     rw[←jR] at hown5;have hb5:Below w.heap.size w w5:=(hbel.alloc hsz _).grown hg5 (by simp;omega) (fun k hk=>by have:=(hown.lt k hk).1;omega);clear hg5 Fp;go_wp2
     go_roundw
     case rel=>exact⟨k+1,d+1,_,by omega,by omega,by go_num,af (by rw[←HD2.out];exact zA.out),by rw[ZH.out];exact hown5,hb5⟩
     case measure=>simp[intOf];omega
   by_cases h7:x=7
   ·subst h7
    have h1:1≤d:=by
     rcases Nat.lt_or_ge d 1 with h | h
     ·have:=wF.out;rw[pX d (by omega)] at this;cases this
     ·exact h
    have hd2:d'=d:=by have:=wF.out;rw[rq d h1] at this;injection this with this;exact this.symm
    obtain⟨a,r,rfl⟩:∃a r,st=a::r:=by
     match st,hlen with
     | [],h=>simp at h;omega
     |a::r,_=>exact⟨a,r,rfl⟩
    obtain⟨q,rfl⟩:∃q,d=q+1:=⟨d-1,by omega⟩;have hrq:r.length=q:=by simpa using hlen
    subst hrq;obtain⟨g,cap,rfl,hg,hcap,hcapm⟩:=mP hown (by omega)
    unfold maxLen at hcapm
    have c0:wr.cell? ⟨g,r.length,none⟩=some (.bool a):=(hown.cellAt r.length (by omega)).trans (ru a r);have f0:wr.frozen? ⟨g,r.length,none⟩=false:=hown.frozenAt r.length
    have HO:=af (fun u=>by
     have h1:=(hown.stored r.length (.bool u)).1;rw[zI] at h1
     exact h1)
    have HD2:=af hd2;clear hd2 hlen hown h1;go_wp2
    go_roundw
    case rel=>exact⟨k+1,r.length+1,_,by omega,by omega,by go_num,af (by have:=zA.out;rw[HD2.out] at this;exact this),HO.out _,hbel.setCell hg _⟩
    case measure=>simp[intOf];omega
   by_cases h8:x=8
   ·subst h8
    have h2:2≤d:=by
     rcases Nat.lt_or_ge d 2 with h | h
     ·have:=wF.out;rw[lU d 8 (by omega) (by omega) (by omega)] at this;cases this
     ·exact h
    have hd2:d'=d-1:=by have:=wF.out;rw[nS d 8 (by omega) (by omega) h2] at this;injection this with this;exact this.symm
    obtain⟨a,b2,r,rfl⟩:∃a b2 r,st=a::b2::r:=by
     match st,hlen with
     | [],h=>simp at h;omega
     | [_],h=>simp at h;omega
     |a::b2::r,_=>exact⟨a,b2,r,rfl⟩
    obtain⟨q,rfl⟩:∃q,d=q+2:=⟨d-2,by omega⟩;have hrq:r.length=q:=by simpa using hlen
    subst hrq;obtain⟨g,cap,rfl,hg,hcap,hcapm⟩:=mP hown (by omega)
    unfold maxLen at hcapm
    have c1:wr.cell? ⟨g,r.length+1,none⟩=some (.bool a):=(hown.cellAt (r.length+1) (by omega)).trans (ru a (b2::r));have c0:wr.cell? ⟨g,r.length,none⟩=some (.bool b2):=(hown.cellAt r.length (by omega)).trans (by rw[jR,List.getElem?_append_left (by rw[jr];simp)];exact ru b2 r);have f0:wr.frozen? ⟨g,r.length,none⟩=false:=hown.frozenAt r.length
    have HO:=af (fun u=>by
     have h1:=(hown.stored r.length (.bool u)).1;have h2:=Dw (m:=r.length+1) h1 (by omega) (by omega)
     have e:((bools (a::b2::r)).set r.length (.bool u)).take ((r.length+1)*1)=bools (u::r):=by
      rw[jR a,List.set_append_left _ _ (by rw[jr];simp),zI,Nat.mul_one,List.take_append_of_le_length (by rw[jr];simp),gW (by rw[jr];simp)]
     rw[e] at h2
     exact h2)
    have HD2:=af hd2;clear hd2 hlen hown h2
    cases b2
    ·go_wp2
     go_roundw
     case rel=>exact⟨k+1,r.length+1,_,by omega,by omega,by go_num,af (by have:=zA.out;rw[HD2.out] at this;exact this),HO.out _,hbel.setCell hg _⟩
     case measure=>simp[intOf];omega
    ·go_wp2
     go_roundw
     case rel=>exact⟨k+1,r.length+1,_,by omega,by omega,by go_num,af (by have:=zA.out;rw[HD2.out] at this;exact this),HO.out _,hbel.setCell hg _⟩
     case measure=>simp[intOf];omega
   have h9:x=9:=by
    rcases Int.lt_or_le 9 x with h' | h'
    ·have:=wF.out;rw[kT d x (.inr h')] at this;cases this
    omega
   subst h9
   have h2:2≤d:=by
    rcases Nat.lt_or_ge d 2 with h | h
    ·have:=wF.out;rw[lU d 9 (by omega) (by omega) (by omega)] at this;cases this
    ·exact h
   have hd2:d'=d-1:=by have:=wF.out;rw[nS d 9 (by omega) (by omega) h2] at this;injection this with this;exact this.symm
   obtain⟨a,b2,r,rfl⟩:∃a b2 r,st=a::b2::r:=by
    match st,hlen with
    | [],h=>simp at h;omega
    | [_],h=>simp at h;omega
    |a::b2::r,_=>exact⟨a,b2,r,rfl⟩
   obtain⟨q,rfl⟩:∃q,d=q+2:=⟨d-2,by omega⟩;have hrq:r.length=q:=by simpa using hlen
   subst hrq;obtain⟨g,cap,rfl,hg,hcap,hcapm⟩:=mP hown (by omega)
   unfold maxLen at hcapm
   have c1:wr.cell? ⟨g,r.length+1,none⟩=some (.bool a):=(hown.cellAt (r.length+1) (by omega)).trans (ru a (b2::r));have c0:wr.cell? ⟨g,r.length,none⟩=some (.bool b2):=(hown.cellAt r.length (by omega)).trans (by rw[jR,List.getElem?_append_left (by rw[jr];simp)];exact ru b2 r);have f0:wr.frozen? ⟨g,r.length,none⟩=false:=hown.frozenAt r.length
   have HO:=af (fun u=>by
    have h1:=(hown.stored r.length (.bool u)).1;have h2:=Dw (m:=r.length+1) h1 (by omega) (by omega)
    have e:((bools (a::b2::r)).set r.length (.bool u)).take ((r.length+1)*1)=bools (u::r):=by
     rw[jR a,List.set_append_left _ _ (by rw[jr];simp),zI,Nat.mul_one,List.take_append_of_le_length (by rw[jr];simp),gW (by rw[jr];simp)]
    rw[e] at h2
    exact h2)
   have HD2:=af hd2;clear hd2 hlen hown h2
   cases b2
   ·go_wp2
    go_roundw
    case rel=>exact⟨k+1,r.length+1,_,by omega,by omega,by go_num,af (by have:=zA.out;rw[HD2.out] at this;exact this),HO.out _,hbel.setCell hg _⟩
    case measure=>simp[intOf];omega
   ·go_wp2
    go_roundw
    case rel=>exact⟨k+1,r.length+1,_,by omega,by omega,by go_num,af (by have:=zA.out;rw[HD2.out] at this;exact this),HO.out _,hbel.setCell hg _⟩
    case measure=>simp[intOf];omega
  ·have hkn:k=n:=by omega
   subst hkn;obtain⟨h1,h2,h3⟩:=HST.out;rw[←HL.out,List.take_length] at h2 h3;have hd1:d=1:=by have:=h3.symm.trans jL.out;injection this
   subst hd1
   obtain⟨a,rfl⟩:∃a,st=[a]:=by
    match st,h1 with
    | [a],_=>exact⟨a,rfl⟩
   have HV:Hid (aH xs s=a):=af (by unfold aH;rw[h2];rfl);obtain⟨g,cap,rfl,hg,hcap,hcapm⟩:=mP hown (by omega);have c0:wr.cell? ⟨g,0,none⟩=some (.bool a):=(hown.cellAt 0 (by omega)).trans rfl;clear h1 h2 h3 hown;go_wp2;go_ret;exact⟨aY HV.out.symm,hbel⟩
end Go.Proofs.YtkmcengmglgdeaaGreatDoor
