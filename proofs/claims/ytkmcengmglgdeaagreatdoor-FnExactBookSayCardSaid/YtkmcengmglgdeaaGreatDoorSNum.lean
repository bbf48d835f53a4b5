/- Joined texts: Num, Ints, Code. -/
import Derived.Test.YtkmcengmglgdeaaGreatDoorSBase

namespace Go.Proofs.YtkmcengmglgdeaaGreatDoor
set_option linter.unusedVariables false
set_option linter.unusedSimpArgs false
set_option maxRecDepth 100000
set_option maxHeartbeats 8000000
open Go.ChangeShapes Go.WideShapes Go.ChangeAt Go.RowKit
theorem iU (n lo hi:Int) (w:World):
  Calls Tryz.prog 125 #[.int .i64 n,.int .i64 lo,.int .i64 hi] w fun e w'=>e= .returned (.bool (decide (lo≤n∧n≤hi)))∧w=w':=by
 go_enter Tryz.func125,Tryz.ntmps125;go_wp2
 all_goals go_ret
 all_goals refine⟨bf ?_,rfl⟩
 all_goals simp
 all_goals omega
theorem fB (n lo hi:Int) (w:World) (h:lo≤n) (h':n≤hi):
  Calls Tryz.prog 125 #[.int .i64 n,.int .i64 lo,.int .i64 hi] w fun e w'=>e= .returned (.bool true)∧w=w':=
 (iU n lo hi w).mono fun _ _ ⟨he,hw⟩=>⟨by rw[he,decide_eq_true ⟨h,h'⟩],hw⟩
theorem lZ (n lo hi:Int) (w:World) (h:¬(lo≤n∧n≤hi)):
  Calls Tryz.prog 125 #[.int .i64 n,.int .i64 lo,.int .i64 hi] w fun e w'=>e= .returned (.bool false)∧w=w':=
 (iU n lo hi w).mono fun _ _ ⟨he,hw⟩=>⟨by rw[he,decide_eq_false h],hw⟩
theorem Qm (a:Int) (k:Nat) (h0:0≤a) (hk:k<64) (w:World):
  Calls Tryz.prog 126 #[.int .i64 a,.int .i64 k] w fun e w'=>e= .returned (.int .i64 (a/2^k%2))∧w=w':=by
 have hd:0≤a/2^k:=Int.ediv_nonneg h0 (Int.le_of_lt (Int.pow_pos (by omega)));go_enter Tryz.func126,Tryz.ntmps126;go_wp2
 all_goals go_ret
 all_goals exact⟨rfl,rfl⟩
theorem O1 (a b:Nat):(a &&& b)=2*(a/2 &&& b/2)+(a%2)*(b%2):=by
 have h1:(a &&& b)/2=(a/2 &&& b/2):=Nat.and_div_two
 have h2:(a &&& b)%2=(a%2)*(b%2):=by
  rw[show(2:Nat)=2^1 from rfl,Nat.and_mod_two_pow];have:a%2<2:=Nat.mod_lt _ (by omega);have:b%2<2:=Nat.mod_lt _ (by omega);simp only[Nat.pow_one]
  generalize a%2=x at*
  generalize b%2=y at*
  obtain rfl | rfl:x=0∨x=1:=by omega
  all_goals obtain rfl | rfl:y=0∨y=1:=by omega
  all_goals rfl
 omega
theorem O3 (a b:Nat):(a^^^b)=2*(a/2^^^b/2)+(a+b)%2:=by
 have h1:(a^^^b)/2=(a/2^^^b/2):=Nat.xor_div_two
 have h2:(a^^^b)%2=(a+b)%2:=by
  rw[show(2:Nat)=2^1 from rfl,Nat.xor_mod_two_pow];have:a%2<2:=Nat.mod_lt _ (by omega);have:b%2<2:=Nat.mod_lt _ (by omega);have e:(a+b)%2=(a%2+b%2)%2:=by omega
  simp only[Nat.pow_one];rw[e]
  generalize a%2=x at*
  generalize b%2=y at*
  obtain rfl | rfl:x=0∨x=1:=by omega
  all_goals obtain rfl | rfl:y=0∨y=1:=by omega
  all_goals rfl
 omega
theorem zV (a b:Nat):(a^^^b)+2*(a &&& b)=a+b:=by
 induction a using Nat.strongRecOn generalizing b with
 |ind a ih=>
  by_cases ha:a=0
  ·subst ha;simp
  ·have:=ih (a/2) (by omega) (b/2)
   rw[O3 a b,O1 a b];have h1:a%2<2:=Nat.mod_lt _ (by omega);have h2:b%2<2:=Nat.mod_lt _ (by omega)
   have h3:a%2*(b%2)+(a%2*(b%2))+(a+b)%2=a%2+b%2:=by
    have e:(a+b)%2=(a%2+b%2)%2:=by omega
    rw[e]
    generalize a%2=x at*
    generalize b%2=y at*
    obtain rfl | rfl:x=0∨x=1:=by omega
    all_goals obtain rfl | rfl:y=0∨y=1:=by omega
    all_goals rfl
   omega
theorem Y2 (a b:Nat):(a ||| b)+(a &&& b)=a+b:=by
 have h:(a ||| b)=(a^^^b)+(a &&& b):=by
  induction a using Nat.strongRecOn generalizing b with
  |ind a ih=>
   by_cases ha:a=0
   ·subst ha;simp
   ·have:=ih (a/2) (by omega) (b/2)
    rw[O3 a b,O1 a b];have h1:(a ||| b)/2=(a/2 ||| b/2):=Nat.or_div_two
    have h2:(a ||| b)%2=(a+b)%2+(a%2)*(b%2):=by
     rw[show(2:Nat)=2^1 from rfl,Nat.or_mod_two_pow];simp only[Nat.pow_one];have:a%2<2:=Nat.mod_lt _ (by omega);have:b%2<2:=Nat.mod_lt _ (by omega);have e:(a+b)%2=(a%2+b%2)%2:=by omega
     rw[e]
     generalize a%2=x at*
     generalize b%2=y at*
     obtain rfl | rfl:x=0∨x=1:=by omega
     all_goals obtain rfl | rfl:y=0∨y=1:=by omega
     all_goals rfl
    omega
 have:=zV a b
 omega
theorem Qn (a b k:Nat):(a &&& b)%2^(k+1)=(a &&& b)%2^k+(a/2^k%2)*(b/2^k%2)*2^k:=by
 have hb:(a/2^k%2)*(b/2^k%2)=(a &&& b)/2^k%2:=by
  have h:=Nat.testBit_and a b k;simp only[Nat.testBit_eq_decide_div_mod_eq] at h;have h1:a/2^k%2<2:=Nat.mod_lt _ (by omega);have h2:b/2^k%2<2:=Nat.mod_lt _ (by omega);have h3:(a &&& b)/2^k%2<2:=Nat.mod_lt _ (by omega)
  generalize a/2^k%2=x at*
  generalize b/2^k%2=y at*
  generalize (a &&& b)/2^k%2=z at*
  obtain rfl | rfl:x=0∨x=1:=by omega
  all_goals obtain rfl | rfl:y=0∨y=1:=by omega
  all_goals obtain rfl | rfl:z=0∨z=1:=by omega
  all_goals simp_all
 rw[hb,Nat.pow_succ,Nat.mod_mul,Nat.mul_comm (2^k)]
theorem aaO (a b:Nat) (ha:a<32) (hb:b<32):a^^^b<32:=Nat.xor_lt_two_pow (n:=5) ha hb
def oN (a b k:Nat):Nat:=(a &&& b)%2^k
theorem jI (a k:Nat):bit a k<2:=Nat.mod_lt _ (by omega)
theorem oO (k m:Nat) (h:k≤m):(2:Int)^k≤2^m:=by
 have h1:2^k≤2^m:=Nat.pow_le_pow_right (by omega) h
 exact_mod_cast h1
theorem and_one (m k:Nat) (hm:m<4611686018427387904):bits BinOp.and IntKind.i64 ((m:Int)/2^k) 1=(bit m k:Nat):=by
 have e:((m:Int)/2^k)=((m/2^k:Nat):Int):=by simp
 have hle:m/2^k≤m:=Nat.div_le_self _ _;rw[e,show(1:Int)=((1:Nat):Int) from rfl,jE _ _ (by omega) (by omega),Nat.and_one_is_mod]
 rfl
theorem lg (k:Nat) (h:k≤62):wrap64 (2^k)=2^k:=by
 have h1:=oO k 62 h;have h3:(0:Int)<2^k:=Int.pow_pos (by omega);exact IntWalk.wrap64_in _ ⟨by omega,by omega⟩
theorem jO (a k:Nat) (hk:k<64) (w:World):
  Calls Tryz.prog 126 #[.int .i64 a,.int .i64 k] w fun e w'=>e= .returned (.int .i64 (bit a k:Nat))∧w=w':=
 (Qm a k (by omega) hk w).mono fun _ _ ⟨he,hw⟩=>⟨by rw[he];unfold bit;simp,hw⟩
theorem Qo (a b k:Nat):oN a b k<2^k:=Nat.mod_lt _ (Nat.pow_pos (by omega))
theorem TK (a b k:Nat) (hk:k<62) (_ha:a<4611686018427387904) (_h:(2:Int)^k≤a):
  wrap64 ((oN a b k:Nat)+wrap64 (wrap64 ((bit a k:Nat)*(bit b k:Nat))*2^k))=((oN a b k+bit a k*bit b k*2^k:Nat):Int):=by
 have h3:(0:Int)<2^k:=Int.pow_pos (by omega);have h1:=oO k 61 (by omega);have hl:((oN a b k:Nat):Int)<2^k:=by exact_mod_cast Qo a b k
 have ha:=jI a k;have hb:=jI b k
 generalize bit a k=x at*
 generalize bit b k=y at*
 have ex:((x:Int)*(y:Int))=((x*y:Nat):Int):=by simp
 have hxy:x*y≤1:=by
  obtain rfl | rfl:x=0∨x=1:=by omega
  all_goals omega
 rw[ex]
 generalize x*y=z at*
 rw[IntWalk.wrap64_in (z:Int) ⟨by omega,by omega⟩];obtain rfl | rfl:z=0∨z=1:=by omega
 ·simp only[Int.natCast_zero,Int.zero_mul,Nat.zero_mul,Nat.add_zero];rw[IntWalk.wrap64_in 0 ⟨by omega,by omega⟩,Int.add_zero];exact IntWalk.wrap64_in _ ⟨by omega,by omega⟩
 ·simp only[Int.natCast_one,Int.one_mul,Nat.one_mul];rw[IntWalk.wrap64_in (2^k) ⟨by omega,by omega⟩];rw[IntWalk.wrap64_in _ ⟨by omega,by omega⟩]
  simp
theorem jK (a b:Nat) (ha:a<4611686018427387904) (w:World):
  Calls Tryz.prog 157 #[.int .i64 a,.int .i64 b] w fun e w'=>e= .returned (.int .i64 ((a &&& b:Nat):Int))∧w=w':=by
 have HB:Hid (∀k,(a:Int)<2^k∨(b:Int)<2^k→oN a b k=a &&& b):=by
  refine af fun k hk=>?_
  unfold oN
  apply Nat.mod_eq_of_lt
  have e:((2^k:Nat):Int)=2^k:=by simp
  rw[←e] at hk;have h1:a &&& b≤a:=Nat.and_le_left;have h2:a &&& b≤b:=Nat.and_le_right
  omega
 go_enter Tryz.func157,Tryz.ntmps157;go_wp2
 go_loop [5,6] (fun o i=>∃k:Nat,k≤62∧i= .int .i64 k∧o= .int .i64 (oN a b k:Nat)) (fun _ i=>62-(intOf i).toNat)
 case atStart=>exact⟨0,by omega,rfl,by simp[oN,Nat.mod_one]⟩
 case round=>
  obtain⟨k,hk,rfl,rfl⟩:=hrel;have hw:=lg k hk;have hstep:oN a b (k+1)=oN a b k+bit a k*bit b k*2^k:=Qn a b k;have H1:=af hstep;clear hstep
  have hlt:(2:Int)^k≤a→k<62:=fun h=>by
   rcases Nat.lt_or_ge k 62 with h1 | h1
   ·exact h1
   ·have h1:=oO 62 k h1
    omega
  have H2:=af hlt;clear hlt
  go_wp2_with (go_at_call 126;refine(jO _ _ (by omega) _).mono ?_;rintro e w' ⟨rfl,rfl⟩)
  ·have h1:(2:Int)^k≤a:=by assumption
   have hk2:=H2.out h1
   go_round
   case rel=>exact⟨k+1,by omega,by go_num,by rw[H1.out,TK a b k hk2 ha h1]⟩
   case measure=>simp[intOf];omega
  all_goals
   go_ret;refine⟨aG ?_,rfl⟩
   show((oN a b k:Nat):Int)=_
   rw[HB.out k (by first | exact .inl (by assumption) | exact .inr (by assumption))]
theorem oL (a b:Int) (h0:0≤a) (ha:a<4611686018427387904) (h1:0≤b) (w:World):
  Calls Tryz.prog 157 #[.int .i64 a,.int .i64 b] w fun e w'=>e= .returned (.int .i64 ((a.toNat &&& b.toNat:Nat):Int))∧w=w':=by
 have h:=jK a.toNat b.toNat (by omega) w
 rwa[toNat_cast h0,toNat_cast h1] at h
theorem JH (a b:Int) (h0:0≤a) (ha:a<4611686018427387904) (h1:0≤b) (hb:b<4611686018427387904) (w:World):
  Calls Tryz.prog 103 #[.int .i64 a,.int .i64 b] w fun e w'=>e= .returned (.int .i64 ((a.toNat^^^b.toNat:Nat):Int))∧w=w':=by
 have hx:=zV a.toNat b.toNat
 generalize hy:a.toNat &&& b.toNat=y at*
 have HY:=af hy;clear hy
 generalize hz:a.toNat^^^b.toNat=z at*
 have HX:Hid (a+b-2*y=z):=by refine af ?_;clear hz;omega
 clear hz;have hy1:(y:Int)≤a:=by have:=HY.out;have h2:=@Nat.and_le_left a.toNat b.toNat;omega
 clear hx;go_enter Tryz.func103,Tryz.ntmps103
 go_wp2_with (go_at_call 157;refine(oL a b h0 ha h1 _).mono ?_;rw[HY.out];rintro e w' ⟨rfl,rfl⟩)
 go_ret;exact⟨aG HX.out,rfl⟩
theorem nZ (a b:Int) (h0:0≤a) (ha:a<4611686018427387904) (h1:0≤b) (hb:b<4611686018427387904) (w:World):
  Calls Tryz.prog 159 #[.int .i64 a,.int .i64 b] w fun e w'=>e= .returned (.int .i64 ((a.toNat ||| b.toNat:Nat):Int))∧w=w':=by
 have hx:=Y2 a.toNat b.toNat
 generalize hy:a.toNat &&& b.toNat=y at*
 have HY:=af hy;clear hy
 generalize hz:a.toNat ||| b.toNat=z at*
 have HX:Hid (a+b-y=z):=by refine af ?_;clear hz;omega
 clear hz;have hy1:(y:Int)≤a:=by have:=HY.out;have h2:=@Nat.and_le_left a.toNat b.toNat;omega
 clear hx;go_enter Tryz.func159,Tryz.ntmps159
 go_wp2_with (go_at_call 157;refine(oL a b h0 ha h1 _).mono ?_;rw[HY.out];rintro e w' ⟨rfl,rfl⟩)
 go_ret;exact⟨aG HX.out,rfl⟩
def jd (xs:List Int) (k:Nat):Array Value:=(ints (xs.take k++List.replicate (xs.length-k) 0)).toArray
theorem MZ (xs:List Int) (k:Nat) (hk:k≤xs.length):(jd xs k).size=xs.length:=by simp[jd];omega
theorem JJ (xs:List Int) (k:Nat) (hk:k<xs.length):(jd xs k)[k]? =some (.int .i64 0):=by
 unfold jd ints
 simp only[List.getElem?_toArray,List.getElem?_map,Option.map_eq_some_iff];refine⟨0,?_,rfl⟩;rw[List.getElem?_append_right (by simp only[List.length_take];omega)];simp only[List.length_take,List.getElem?_replicate];rw[if_pos (by omega)]
theorem BZ (xs:List Int) (k:Nat) (x:Int) (hx:xs[k]? =some x):(jd xs k).setIfInBounds k (.int .i64 x)=jd xs (k+1):=by
 have hk:k<xs.length:=(aW.1 hx).1
 apply Array.ext'
 unfold jd ints
 simp only[Array.toList_setIfInBounds]
 apply List.ext_getElem?
 intro i;rw[List.getElem?_set];simp only[List.getElem?_map,List.length_map,bK,List.length_take,List.length_replicate];have e1:min k xs.length=k:=by omega
 have e2:min (k+1) xs.length=k+1:=by omega
 rcases Nat.lt_trichotomy k i with h | h | h
 ·rw[if_neg (by omega),List.getElem?_append_right (by simp;omega),List.getElem?_append_right (by simp;omega)];simp only[List.length_take,List.getElem?_replicate,e1,e2]
  by_cases h2:i<xs.length
  ·rw[if_pos (by omega),if_pos (by omega)]
  ·rw[if_neg (by omega),if_neg (by omega)]
 ·subst h;rw[if_pos rfl,if_pos (by omega),List.getElem?_append_left (by simp;omega),List.getElem?_take,if_pos (by omega),hx];rfl
 ·rw[if_neg (by omega),List.getElem?_append_left (by simp;omega),List.getElem?_append_left (by simp;omega),List.getElem?_take,List.getElem?_take,if_pos (by omega),if_pos (by omega)]
theorem Cb (xs:List Int):(jd xs xs.length).toList=ints xs:=by simp[jd]
theorem JK (xs:List Int):(madeCells #[.int .i64 0] xs.length)=jd xs 0:=by
 apply Array.ext'
 rw[toList_madeCells_one]
 simp[jd,ints]
theorem Na {w:World} {base g:Nat} {t:TypeId} {xs:List Int} (hb:base≤g) (hk:iJ w g t (jd xs xs.length)) (hn:xs.length≤maxLen):w.ownsRow base t 1 (.slice (some ⟨g,0,none⟩) xs.length xs.length) xs.length (ints xs):=
 ⟨by simp,.inr ⟨g,xs.length,_,rfl,hb,hk,ay _,hn,by rw[MZ _ _ (ay _)];omega,by rw[Cb,Nat.mul_one];exact dJ (by simp)⟩⟩
theorem MR (A:Option Addr) (n c:Nat) (xs:List Int) (w:World) (h:iO .i64 w w.heap.size A n c xs) (hn:n≤1099511627776):
  Calls Tryz.prog 77 #[.slice A n c] w fun e w'=>e= .returned (.slice (some ⟨w.heap.size,0,none⟩) n n)∧w'.ownsRow w.heap.size 3 1 (.slice (some ⟨w.heap.size,0,none⟩) n n) n (ints xs)∧Below w.heap.size w w':=by
 have hl:=h.len;obtain⟨i0,hi,hz0,hz1,hz2⟩:=jv.hi;have HL:=af hl;clear hl;go_enter Tryz.func77,Tryz.ntmps77
 go_wp2_with (at_make;refine wpList_make_full _ rfl _ _ 23 rfl w.heap.size 3 i0 _ 1 Tryz.underlying23 hi hz0 hz1 _ _ _ _ n rfl rfl rfl rfl (by rw[hz2];omega) (by unfold maxLen;omega) (ay _) ?_;intro w1 hown hgr)
 have hb1:Below w.heap.size w w1:=(ai _ _).grown hgr (ay _) (by simp)
 have hk1:iJ w1 w.heap.size 3 (jd xs 0):=by
  rcases hown.2 with⟨e,-⟩ | ⟨g,cap,cur,e,-,hh,-,-,hs,ht⟩
  ·cases e
  ·simp only[Value.slice.injEq,Option.some.injEq,Addr.mk.injEq] at e;obtain⟨⟨rfl,-⟩,-,rfl⟩:=e
   have:cur=jd xs 0:=by
    rw[←JK,HL.out]
    apply Array.ext'
    rw[dJ (by simp[hs])] at ht
    simpa[Value.cells] using ht
   rw[←this];exact hh
 clear hown hgr;have HB:=af hb1;clear hb1;go_wp2
 go_loopw [4] (fun i wr=>∃k:Nat,k≤n∧i= .int .i64 k∧iJ wr w.heap.size 3 (jd xs k)∧Below w.heap.size w wr) (fun i _=>n-(intOf i).toNat)
 case atStart=>exact⟨0,by omega,rfl,hk1,HB.out⟩
 case round=>
  obtain⟨k,hk,rfl,hblk,hbel⟩:=hrel
  by_cases hlt:k<n
  ·obtain⟨b,off,x,rfl,hb,hx,hw,hc⟩:=h.get hlt;have hcr:wr.cell? ⟨b,off+k,none⟩=some (.int .i64 x):=(aC hbel b _ hb).trans hc;have hck:wr.cell? ⟨w.heap.size,k,none⟩=some (.int .i64 0):=(hblk.cell k).trans (JJ xs k (by rw[HL.out];exact hlt));have hfk:wr.frozen? ⟨w.heap.size,k,none⟩=false:=hblk.frozen k;have HX:=af hx;clear hx hc;go_wp2
   go_roundw
   case rel=>
    refine⟨k+1,by omega,by go_num,?_,hbel.setCell (by simp) _⟩;rw[←BZ xs k x HX.out];exact hblk.nT k _
   case measure=>simp[intOf];omega
  ·obtain rfl:k=n:=by omega
   go_wp2;go_ret;refine⟨rfl,?_,hbel⟩
   have:=Na (ay w.heap.size) (by rw[HL.out];exact hblk) (by rw[HL.out];unfold maxLen;omega)
   rw[HL.out] at this;exact this
theorem wI (A:Option Addr) (n c:Nat) (xs:List Int) (A':Option Addr) (n' c':Nat) (ys:List Int) (w:World) (h:iO .i64 w w.heap.size A n c xs) (h':iO .i64 w w.heap.size A' n' c' ys):
  Calls Tryz.prog 79 #[.slice A n c,.slice A' n' c'] w fun e w'=>e= .returned (.bool (decide (xs=ys)))∧∃q,w'=w.drewN q:=by
 have hl:=h.len;have hl':=h'.len;have hc:=h.cap;have hm:=h.bZ
 unfold maxLen at hm
 by_cases hn:n=n'
 ·subst hn;have HL:=af hl;clear hl;have Wh:=af hl';clear hl';go_enter Tryz.func79,Tryz.ntmps79;go_wp2
  go_loopw [5] (fun i wr=>∃k q:Nat,k≤n∧i= .int .i64 k∧Hid (∀j,j<k→xs[j]? =ys[j]?)∧wr=w.drewN q) (fun i _=>n-(intOf i).toNat)
  case atStart=>exact⟨0,0,by omega,rfl,af (by omega),rfl⟩
  case round=>
   obtain⟨k,q,hk,rfl,hpre,rfl⟩:=hrel
   by_cases hlt:k<n
   ·obtain⟨b,off,x,rfl,hb,hx,hw,hc⟩:=h.get hlt;obtain⟨b',off',y,rfl,hb',hy,hw',hc'⟩:=h'.get hlt
    by_cases hxy:x=y
    ·subst hxy;have HX:=af (hx.trans hy.symm);clear hx hy;go_wp2
     go_quiet (fail)
     go_wp2
     go_roundw
     case rel=>exact⟨k+1,_,by omega,by go_num,af fun j hj=>by
      rcases Nat.lt_or_ge j k with h1 | h1
      ·exact hpre.out j h1
      ·obtain rfl:j=k:=by omega
       exact HX.out,rfl⟩
     case measure=>simp[intOf];omega
    ·have HF:Hid (decide (xs=ys)=false):=af (decide_eq_false fun e=>by rw[e,hy] at hx;injection hx with hx;exact hxy hx.symm);have hne:(x != y)=true:=by rw[bne_iff_ne];exact hxy
     clear hx hy hxy;go_wp2
     go_quiet (fail)
     go_wp2;go_ret;exact⟨bf HF.out.symm,_,World.drewN_drewN _ _ _⟩
   ·have HT:Hid (decide (xs=ys)=true):=af (decide_eq_true (List.ext_getElem? fun j=>by
     rcases Nat.lt_or_ge j k with h1 | h1
     ·exact hpre.out j h1
     ·rw[List.getElem?_eq_none (by rw[HL.out];omega),List.getElem?_eq_none (by rw[Wh.out];omega)]))
    go_wp2;go_ret;exact⟨bf HT.out.symm,_,rfl⟩
 ·have HF:Hid (decide (xs=ys)=false):=af (decide_eq_false fun e=>hn (by rw[←hl,←hl',e]));have hne:((n:Int) != (n':Int))=true:=by rw[bne_iff_ne];omega
  clear hl hl';go_enter Tryz.func79,Tryz.ntmps79;go_wp2;go_ret;exact⟨bf HF.out.symm,0,rfl⟩
theorem kD (d:Nat) (x:Int) (h:x<0∨9<x):gJ d x=none:=by unfold gJ;rw[if_pos h]
theorem jZ (d:Nat) (x:Int) (h0:0≤x) (h:x≤6):gJ d x=some (d+1):=by unfold gJ;rw[if_neg (by omega),if_pos h]
theorem qJ (d:Nat) (h:1≤d):gJ d 7=some d:=by unfold gJ;rw[if_neg (by omega),if_neg (by omega),if_pos rfl,if_pos h]
theorem oM (d:Nat) (h:¬1≤d):gJ d 7=none:=by unfold gJ;rw[if_neg (by omega),if_neg (by omega),if_pos rfl,if_neg h]
theorem mZ (d:Nat) (x:Int) (h0:7<x) (h:x≤9) (hd:2≤d):gJ d x=some (d-1):=by unfold gJ;rw[if_neg (by omega),if_neg (by omega),if_neg (by omega),if_pos hd]
theorem lu (d:Nat) (x:Int) (h0:7<x) (h:x≤9) (hd:¬2≤d):gJ d x=none:=by unfold gJ;rw[if_neg (by omega),if_neg (by omega),if_neg (by omega),if_neg hd]
theorem tN (A:Option Addr) (n c:Nat) (xs:List Int) (w:World) (h:iO .i64 w w.heap.size A n c xs):
  Calls Tryz.prog 178 #[.slice A n c] w fun e w'=>e= .returned (.int .i64 (jf xs))∧w=w':=by
 have hl:=h.len;have hc:=h.cap;have hm:=h.bZ
 unfold maxLen at hm
 by_cases hn:1≤n∧n≤40
 ·obtain⟨hn1,hn2⟩:=hn;have HL:=af hl;clear hl;have HBAD:Hid (codeOk xs=false→jf xs= -1):=af (l7 xs).2;go_enter Tryz.func178,Tryz.ntmps178;go_wp2
  go_loop [17,3,4] (fun i dd mm=>∃k d:Nat,k≤n∧d≤k∧l9 0 0 (xs.take k)≤k∧i= .int .i64 k∧dd= .int .i64 d∧mm= .int .i64 (l9 0 0 (xs.take k):Nat)∧Hid (jm 0 (xs.take k)=some d)) (fun i _ _=>n-(intOf i).toNat)
  case atStart=>exact⟨0,0,by omega,by omega,by simp[l9],rfl,rfl,by simp[l9],af rfl⟩
  case round=>
   obtain⟨k,d,hk,hd,hmk,rfl,rfl,rfl,hrun⟩:=hrel
   by_cases hlt:k<n
   ·obtain⟨b,off,x,rfl,hb,hx,hw,hc⟩:=h.get hlt;have hs:=qI xs k x hx d hrun.out;have HB:=af fun hq=>HBAD.out (JD xs k x hx d hrun.out hq)
    have HS:=af hs;clear hx hs
    generalize hmz:l9 0 0 (xs.take k)=mz at*
    have HMZ:=af hmz;clear hmz
    by_cases h1:x<0
    ·have HF:=af (HB.out (kD d x (.inl h1)));go_wp2;go_ret;exact⟨aG HF.out.symm,rfl⟩
    by_cases h2:9<x
    ·have HF:=af (HB.out (kD d x (.inr h2)));go_wp2;go_ret;exact⟨aG HF.out.symm,rfl⟩
    have HK:=af (fun(d':Nat) (hq:gJ d x=some d')=>(⟨HS.out.1.trans hq,HS.out.2 d' hq⟩:jm 0 (xs.take (k+1))=some d'∧l9 0 0 (xs.take (k+1))=max mz d'))
    by_cases h3:x≤6
    ·have HD:=af (HK.out (d+1) (jZ d x (by omega) h3));go_wp2
     go_round
     case rel=>exact⟨k+1,d+1,by omega,by omega,by rw[HD.out.2];omega,by go_num,by go_num,by rw[HD.out.2];congr 1;split<;>omega,af HD.out.1⟩
     case measure=>simp[intOf];omega
    by_cases h4:x=7
    ·subst h4
     by_cases h5:1≤d
     ·have HD:=af (HK.out d (qJ d h5));go_wp2
      go_round
      case rel=>exact⟨k+1,d,by omega,by omega,by rw[HD.out.2];omega,by go_num,rfl,by rw[HD.out.2];congr 1;split<;>omega,af HD.out.1⟩
      case measure=>simp[intOf];omega
     ·have HF:=af (HB.out (oM d h5));go_wp2;go_ret;exact⟨aG HF.out.symm,rfl⟩
    ·have h7:((x:Int) == 7)=false:=by simpa using h4
     by_cases h5:2≤d
     ·have HD:=af (HK.out (d-1) (mZ d x (by omega) (by omega) h5));clear h4;go_wp2
      go_round
      case rel=>exact⟨k+1,d-1,by omega,by omega,by rw[HD.out.2];omega,by go_num,by first | rfl | (congr 1;omega),by rw[HD.out.2];congr 1;split<;>omega,af HD.out.1⟩
      case measure=>simp[intOf];omega
     ·have HF:=af (HB.out (lu d x (by omega) (by omega) h5));clear h4;go_wp2;go_ret;exact⟨aG HF.out.symm,rfl⟩
   ·have hkn:k=n:=by omega
    have hrun':=hrun.out;subst hkn;rw[←HL.out,List.take_length] at hrun';have sZ:Hid (xs.take k=xs):=af (by rw[←HL.out];exact List.take_length)
    by_cases hd1:d=1
    ·subst hd1;have HG:=af (zS xs (by rw[HL.out];exact⟨hn1,hn2⟩) hrun');clear hrun';go_wp2;go_ret;refine⟨aG ?_,rfl⟩
     unfold jf
     rw[HG.out,if_pos rfl]
     show((l9 0 0 (xs.take k):Nat):Int)=_
     rw[sZ.out]
    ·have HF:=af (HBAD.out (BX xs d hrun' hd1));have hne:(((d:Nat):Int) != 1)=true:=by rw[bne_iff_ne];omega
     clear hrun' hd1;go_wp2;go_ret;exact⟨aG HF.out.symm,rfl⟩
 ·have HF:=af ((l7 xs).2 (zT xs (by rw[hl];exact hn)));go_enter Tryz.func178,Tryz.ntmps178;go_wp2
  all_goals first | (exfalso;omega) | go_ret
  all_goals exact⟨aG HF.out.symm,rfl⟩
theorem lI (x:Int) (w:World):
  Calls Tryz.prog 200 #[.int .i64 x] w fun e w'=>e= .returned (.int .i64 (if x=7 then 1 else if x=8∨x=9 then 2 else 0))∧w=w':=by
 by_cases h7:x=7
 ·subst h7;go_enter Tryz.func200,Tryz.ntmps200;go_wp2;go_ret;exact⟨rfl,rfl⟩
 by_cases h8:x=8
 ·subst h8;go_enter Tryz.func200,Tryz.ntmps200;go_wp2;go_ret;exact⟨rfl,rfl⟩
 by_cases h9:x=9
 ·subst h9;go_enter Tryz.func200,Tryz.ntmps200;go_wp2;go_ret;exact⟨rfl,rfl⟩
 rw[if_neg h7,if_neg (by omega)];have e7:(x == 7)=false:=by simpa using h7
 have e8:(x == 8)=false:=by simpa using h8
 have e9:(x == 9)=false:=by simpa using h9
 clear h7 h8 h9;go_enter Tryz.func200,Tryz.ntmps200;go_wp2;go_ret;exact⟨rfl,rfl⟩
theorem tV (A:Option Addr) (n c:Nat) (xs:List Int) (w:World) (h:iO .i64 w w.heap.size A n c xs) (kY:n≤1099511627776):
  Calls Tryz.prog 177 #[.slice A n c] w fun e w'=>e= .returned (.int .i64 (jf xs))∧w=w':=by
 have hl:=h.len;have HL:=af hl;clear hl;have HBAD:Hid (codeOk xs=false→jf xs= -1):=af (l7 xs).2;go_enter Tryz.func177,Tryz.ntmps177;go_wp2
 go_loop [5,3,4] (fun i dd mm=>∃k d:Nat,k≤n∧d≤k∧l9 0 0 (xs.take k)≤k∧i= .int .i64 k∧dd= .int .i64 d∧mm= .int .i64 (l9 0 0 (xs.take k):Nat)∧Hid (jm 0 (xs.take k)=some d)) (fun i _ _=>n-(intOf i).toNat)
 case atStart=>exact⟨0,0,by omega,by omega,by simp[l9],rfl,rfl,by simp[l9],af rfl⟩
 case round=>
  obtain⟨k,d,hk,hd,hmk,rfl,rfl,rfl,hrun⟩:=hrel
  by_cases hlt:k<n
  ·obtain⟨b,off,x,rfl,hb,hx,hw,hc⟩:=h.get hlt;have hs:=qI xs k x hx d hrun.out;have HB:=af fun hq=>HBAD.out (JD xs k x hx d hrun.out hq)
   have HS:=af hs;clear hx hs
   generalize hmz:l9 0 0 (xs.take k)=mz at*
   have HMZ:=af hmz;clear hmz;have HK:=af (fun(d':Nat) (hq:gJ d x=some d')=>(⟨HS.out.1.trans hq,HS.out.2 d' hq⟩:jm 0 (xs.take (k+1))=some d'∧l9 0 0 (xs.take (k+1))=max mz d'))
   by_cases h1:0≤x∧x≤9
   ·obtain⟨h1,h2⟩:=h1
    by_cases h3:x≤6
    ·have HD:=af (HK.out (d+1) (jZ d x (by omega) h3));have HT:Hid ((if x=7 then(1:Int) else if x=8∨x=9 then 2 else 0)=0):=af (by rw[if_neg (by omega),if_neg (by omega)])
     go_wp2_with (first
      | (go_at_call 125;refine(fB _ _ _ _ h1 h2).mono ?_;rintro e w' ⟨rfl,rfl⟩)
      | (go_at_call 200;refine(lI _ _).mono ?_;rw[HT.out];rintro e w' ⟨rfl,rfl⟩))
     go_round
     case rel=>exact⟨k+1,d+1,by omega,by omega,by rw[HD.out.2];omega,by go_num,by go_num,by rw[HD.out.2];congr 1;split<;>omega,af HD.out.1⟩
     case measure=>simp[intOf];omega
    by_cases h4:x=7
    ·have HT:Hid ((if x=7 then(1:Int) else if x=8∨x=9 then 2 else 0)=1):=af (by rw[if_pos h4])
     by_cases h5:1≤d
     ·have HD:=af (HK.out d (by rw[h4];exact qJ d h5));clear h4
      go_wp2_with (first
       | (go_at_call 125;refine(fB _ _ _ _ h1 h2).mono ?_;rintro e w' ⟨rfl,rfl⟩)
       | (go_at_call 200;refine(lI _ _).mono ?_;rw[HT.out];rintro e w' ⟨rfl,rfl⟩))
      go_round
      case rel=>exact⟨k+1,d,by omega,by omega,by rw[HD.out.2];omega,by go_num,by first | rfl | (congr 1;omega),by rw[HD.out.2];congr 1;split<;>omega,af HD.out.1⟩
      case measure=>simp[intOf];omega
     ·have HF:=af (HB.out (by rw[h4];exact oM d h5));clear h4
      go_wp2_with (first
       | (go_at_call 125;refine(fB _ _ _ _ h1 h2).mono ?_;rintro e w' ⟨rfl,rfl⟩)
       | (go_at_call 200;refine(lI _ _).mono ?_;rw[HT.out];rintro e w' ⟨rfl,rfl⟩))
      go_ret;exact⟨aG HF.out.symm,rfl⟩
    ·have HT:Hid ((if x=7 then(1:Int) else if x=8∨x=9 then 2 else 0)=2):=af (by rw[if_neg h4,if_pos (by omega)])
     by_cases h5:2≤d
     ·have HD:=af (HK.out (d-1) (mZ d x (by omega) (by omega) h5));clear h4
      go_wp2_with (first
       | (go_at_call 125;refine(fB _ _ _ _ h1 h2).mono ?_;rintro e w' ⟨rfl,rfl⟩)
       | (go_at_call 200;refine(lI _ _).mono ?_;rw[HT.out];rintro e w' ⟨rfl,rfl⟩))
      go_round
      case rel=>exact⟨k+1,d-1,by omega,by omega,by rw[HD.out.2];omega,by go_num,by first | rfl | (congr 1;omega),by rw[HD.out.2];congr 1;split<;>omega,af HD.out.1⟩
      case measure=>simp[intOf];omega
     ·have HF:=af (HB.out (lu d x (by omega) (by omega) h5));clear h4
      go_wp2_with (first
       | (go_at_call 125;refine(fB _ _ _ _ h1 h2).mono ?_;rintro e w' ⟨rfl,rfl⟩)
       | (go_at_call 200;refine(lI _ _).mono ?_;rw[HT.out];rintro e w' ⟨rfl,rfl⟩))
      go_ret;exact⟨aG HF.out.symm,rfl⟩
   ·have HF:=af (HB.out (kD d x (by omega)));have h1':=h1;clear h1
    go_wp2_with (go_at_call 125;refine(lZ _ _ _ _ h1').mono ?_;rintro e w' ⟨rfl,rfl⟩)
    go_ret;exact⟨aG HF.out.symm,rfl⟩
  ·have hkn:k=n:=by omega
   have hrun':=hrun.out;subst hkn;rw[←HL.out,List.take_length] at hrun';have sZ:Hid (xs.take k=xs):=af (by rw[←HL.out];exact List.take_length)
   by_cases hsz:1≤k∧k≤40
   ·obtain⟨hn1,hn2⟩:=hsz
    by_cases hd1:d=1
    ·subst hd1;have HG:=af (zS xs (by rw[HL.out];exact⟨hn1,hn2⟩) hrun');clear hrun'
     go_wp2_with (go_at_call 125;refine(fB _ _ _ _ (by omega) (by omega)).mono ?_;rintro e w' ⟨rfl,rfl⟩)
     go_ret;refine⟨aG ?_,rfl⟩
     unfold jf
     rw[HG.out,if_pos rfl]
     show((l9 0 0 (xs.take k):Nat):Int)=_
     rw[sZ.out]
    ·have HF:=af (HBAD.out (BX xs d hrun' hd1));have hne:(((d:Nat):Int) != 1)=true:=by rw[bne_iff_ne];omega
     clear hrun' hd1
     go_wp2_with (go_at_call 125;refine(fB _ _ _ _ (by omega) (by omega)).mono ?_;rintro e w' ⟨rfl,rfl⟩)
     go_ret;exact⟨aG HF.out.symm,rfl⟩
   ·have HF:=af (HBAD.out (zT xs (by rw[HL.out];exact hsz)));clear hrun'
    go_wp2_with (go_at_call 125;refine(lZ _ _ _ _ (by omega)).mono ?_;rintro e w' ⟨rfl,rfl⟩)
    go_ret;exact⟨aG HF.out.symm,rfl⟩
theorem jy (A:Option Addr) (n c:Nat) (xs:List Int) (w:World) (h:iO .i64 w w.heap.size A n c xs) (kY:n≤1099511627776):
  Calls Tryz.prog 135 #[.slice A n c] w fun e w'=>e= .returned (.bool (codeOk xs))∧w=w':=by
 have hb:=l7 xs
 cases hok:codeOk xs
 ·have h1:=hb.2 hok;have HK:=af hok;clear hb hok;go_enter Tryz.func135,Tryz.ntmps135
  go_wp2_with (go_at_call 177;refine(tV A n c xs _ h kY).mono ?_;rintro e w' ⟨rfl,rfl⟩)
  go_ret;exact⟨rfl,rfl⟩
 ·obtain⟨h1,h2⟩:=hb.1 hok;have HK:=af hok;clear hb hok;go_enter Tryz.func135,Tryz.ntmps135
  go_wp2_with (go_at_call 177;refine(tV A n c xs _ h kY).mono ?_;rintro e w' ⟨rfl,rfl⟩)
  go_ret;exact⟨bf (decide_eq_true (show 0<jf xs by omega)),rfl⟩
theorem dN (A:Option Addr) (n c:Nat) (xs:List Int) (w:World) (h:iO .i64 w w.heap.size A n c xs):
  Calls Tryz.prog 140 #[.slice A n c] w fun e w'=>e= .returned (.bool (codeOk xs))∧w=w':=by
 have hb:=l7 xs
 cases hok:codeOk xs
 ·have h1:=hb.2 hok;have HK:=af hok;clear hb hok;go_enter Tryz.func140,Tryz.ntmps140
  go_wp2_with (go_at_call 178;refine(tN A n c xs _ h).mono ?_;rintro e w' ⟨rfl,rfl⟩)
  go_ret;exact⟨rfl,rfl⟩
 ·obtain⟨h1,h2⟩:=hb.1 hok;have HK:=af hok;have hne:(jf xs != -1)=true:=by rw[bne_iff_ne];omega
  clear hb hok;go_enter Tryz.func140,Tryz.ntmps140
  go_wp2_with (go_at_call 178;refine(tN A n c xs _ h).mono ?_;rintro e w' ⟨rfl,rfl⟩)
  go_ret;exact⟨rfl,rfl⟩
end Go.Proofs.YtkmcengmglgdeaaGreatDoor
