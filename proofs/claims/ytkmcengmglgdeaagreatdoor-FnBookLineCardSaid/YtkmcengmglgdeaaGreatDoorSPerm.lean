/- Joined texts: Perm, PermW, Named, IntS, GraphV, Search, Truth, Behind. -/
import Derived.Test.YtkmcengmglgdeaaGreatDoorSApp
import Derived.Test.YtkmcengmglgdeaaGreatDoorSDeed
import Derived.Test.YtkmcengmglgdeaaGreatDoorSCopy
import Derived.Test.YtkmcengmglgdeaaGreatDoorSPush
import Derived.RegionTactic
import Derived.ChangeAlike

namespace Go.Proofs.YtkmcengmglgdeaaGreatDoor
set_option linter.unusedVariables false
set_option linter.unusedSimpArgs false
set_option maxRecDepth 100000
set_option maxHeartbeats 8000000
def aac (p:List Int):Bool:=decide (1≤p.length∧p.length≤5)&&(p.all (fun x=>decide (0≤x∧x<p.length))&&decide p.Nodup)
def aeO (p:List Int):Nat→Bool:=fun j=>decide ((j:Int)∈p)
def nameP (s:Nat) (p:List Int) (m:Nat):Nat→Bool:=fun j=>(List.range m).any fun k=>bit s k == 1&&p[k]? == some (j:Int)
def Xf (p:List Int) (s:Nat):Nat:=aQ (nameP s p 5) 5
def YM (p:List Int) (x:Int):Int:=if x<5 then p.getD x.toNat 0 else x
def YN (p xs:List Int):List Int:=xs.map (YM p)
def ae8 (p xs:List Int) (k:Nat):List Int:=(xs.take k).map (YM p)++xs.drop k
def abI (p:List Int) (d:au):au:=⟨YN p d.need,Xf p d.on.toNat,Xf p d.off.toNat,Xf p d.flip.toNat⟩
def aa9 (t:aB) (p:List Int):aB:=if aK t=true∧aac p=true∧p.length=5 then⟨Xf p t.start.toNat,YN p t.goal,t.ay.map (abI p)⟩ else⟨0,[],[]⟩
open Go.ChangeShapes Go.WideShapes Go.ChangeAt Go.RowKit
theorem zV (A:Option Addr) (n c:Nat) (xs:List Int) (x:Int) (w:World) (h:jd .i64 w w.heap.size A n c xs):
  Calls Tryz.prog 124 #[.slice A n c,.int .i64 x] w fun e w'=>e= .returned (.bool (decide (x∈xs)))∧w=w':=by
 have hc:=h.cap;have hm:=h.dw
 unfold maxLen at hm
 have HL:=af h.len;go_enter Tryz.func124,Tryz.ntmps124;go_wp2
 go_loop [5] (fun i=>∃k:Nat,k≤n∧i= .int .i64 k∧Hid (x∉xs.take k)) (fun i=>n-(intOf i).toNat)
 case atStart=>exact⟨0,by omega,rfl,af (by simp)⟩
 case round=>
  obtain⟨k,hk,rfl,hno⟩:=hrel
  by_cases hlt:k<n
  ·obtain⟨b,off,y,rfl,hb,hx,hw,hc⟩:=h.get hlt;have HX:=af hx;clear hx
   by_cases he:y=x
   ·have HM:=af (bT HX.out);subst he;go_wp2;go_ret;exact⟨aY (decide_eq_true HM.out).symm,rfl⟩
   ·have hne:(y == x)=false:=by simpa using he
    have HN:Hid (x∉xs.take (k+1)):=af (by
     rw[take_succ' HX.out,List.mem_append];rintro(h | h)
     ·exact hno.out h
     ·exact he (List.mem_singleton.1 h).symm)
    clear he;go_wp2
    go_round
    case rel=>exact⟨k+1,by omega,by go_num,HN⟩
    case measure=>simp[intOf];omega
  ·have hkn:k=n:=by omega
   have HF:Hid (x∉xs):=af (by have:=hno.out;rw[hkn,←HL.out,List.take_length] at this;exact this);clear hkn;go_wp2;go_ret;exact⟨aY (decide_eq_false HF.out).symm,rfl⟩
section
variable {w W W' : World} {L : List dh}
theorem ints_set (xs:List Int) (k:Nat) (x:Int):(ints xs).set k (.int .i64 x)=ints (xs.set k x):=by simp[ints,List.map_set]
theorem St.IY (h:St w W L) (i:Nat) {g n c:Nat} {xs:List Int} (hi:L[i]? =some (ax (.slice (some ⟨g,0,none⟩) n c) xs)) (hn:xs.length=n) (k:Nat) (x:Int) (hw:(Lit.int .i64 x).wf=true):
  St w (W.setCell ⟨g,k,none⟩ (.int .i64 x)) (L.set i (ax (.slice (some ⟨g,0,none⟩) n c) (xs.set k x))):=
 h.mod i hi fun F h1 _=>⟨F,⟨by
  have:=(World.ownsRow.stored (hn▸h1.row:W.ownsRow 0 3 1 (.slice (some ⟨g,0,none⟩) n c) n (Go.Proofs.YtkmcengmglgdeaaGreatDoor.ints xs)) k (.int .i64 x)).1
  rw[ints_set] at this
  rw[List.length_set,hn];exact this,fun y hy=>by
   rcases List.mem_or_eq_of_mem_set hy with e | e
   ·exact h1.wf y e
   ·subst e;exact hw,h1.foot⟩,fun b hb=>.inl hb,(Only.refl F W).set (by rw[h1.foot];simp[Value.ownBlock]) _⟩
theorem St.Lj (h:St w W L) (i:Nat) {v:Value} {xs:List Int} (hi:L[i]? =some (ax v xs)) {n:Nat} (hn:xs.length=n) (h0:0<n):∃g c,v= .slice (some ⟨g,0,none⟩) n c:=by
 obtain⟨F,h1,-⟩:=h.get i hi;subst hn
 rcases h1.row.2 with⟨_,h2⟩ | ⟨g,cap,cur,hv,_⟩
 ·omega
 ·exact⟨g,cap,hv⟩
theorem St.oK (h:St w W L) (i:Nat) {g n c:Nat} {xs:List Int} (hi:L[i]? =some (ax (.slice (some ⟨g,0,none⟩) n c) xs)) (hn:xs.length=n) (k:Nat) (x:Int) (hx:xs[k]? =some x):W.cell? ⟨g,k,none⟩=some (.int .i64 x)∧W.frozen? ⟨g,k,none⟩=false:=by
 obtain⟨F,h1,-⟩:=h.get i hi;have hr:W.ownsRow 0 3 1 (.slice (some ⟨g,0,none⟩) n c) n (Go.Proofs.YtkmcengmglgdeaaGreatDoor.ints xs):=hn▸h1.row;refine⟨?_,hr.frozenAt k⟩;have hk:=(bI.1 hx).1;rw[hr.cellAt k (by omega)]
 simp[Go.Proofs.YtkmcengmglgdeaaGreatDoor.ints,hx]
end
theorem St.oZ {w W:World} {L:List dh} (h:St w W L) (k:Nat) {A:Option Addr} {n c:Nat} {xs:List Int} (hk:L[k]? =some (ax (.slice A n c) xs)):jd .i64 W W.heap.size A n c xs:=by
 obtain⟨A',c',e,hr⟩:=h.uj k hk;simp only[Value.slice.injEq] at e;obtain⟨rfl,rfl,rfl⟩:=e;exact hr
theorem Sn.oZ {w W:World} {M:Nat→Option dh} (h:Sn w W M) (k:Nat) {A:Option Addr} {n c:Nat} {xs:List Int} (hk:M k=some (ax (.slice A n c) xs)):jd .i64 W W.heap.size A n c xs:=by
 obtain⟨A',c',e,hr⟩:=h.uj k hk;simp only[Value.slice.injEq] at e;obtain⟨rfl,rfl,rfl⟩:=e;exact hr
def rowOk (n:Nat) (k:Nat) (s:Int):Bool:=decide (0≤s∧s<2^n)&& !(bit s.toNat k == 1)
def oC (xs:List Int):Bool:=
 decide (1≤xs.length∧xs.length≤9)&&(List.range xs.length).all (fun k=>rowOk xs.length k (xs.getD k 0))&&
  (List.range xs.length).all (fun k=>(List.range xs.length).all fun j=>bit (xs.getD k 0).toNat j == bit (xs.getD j 0).toNat k)
theorem JY (xs:List Int) (h:¬(1≤xs.length∧xs.length≤9)):oC xs=false:=by
 unfold oC;rw[decide_eq_false h];simp
theorem vO (xs:List Int) (k:Nat) (hk:k<xs.length) (h:rowOk xs.length k (xs.getD k 0)=false):oC xs=false:=by
 unfold oC
 have:((List.range xs.length).all fun k=>rowOk xs.length k (xs.getD k 0))=false:=by
  rw[List.all_eq_false];exact⟨k,List.mem_range.2 hk,by rw[h];simp⟩
 rw[this];simp
theorem JZ (xs:List Int) (k j:Nat) (hk:k<xs.length) (hj:j<xs.length) (h:¬bit (xs.getD k 0).toNat j=bit (xs.getD j 0).toNat k):oC xs=false:=by
 unfold oC
 have:((List.range xs.length).all fun k=>(List.range xs.length).all fun j=>bit (xs.getD k 0).toNat j == bit (xs.getD j 0).toNat k)=false:=by
  rw[List.all_eq_false];refine⟨k,List.mem_range.2 hk,?_⟩;simp only[Bool.not_eq_true];rw[List.all_eq_false];exact⟨j,List.mem_range.2 hj,by simpa using h⟩
 rw[this];simp
theorem NC (xs:List Int) (hn:1≤xs.length∧xs.length≤9) (h1:∀k,k<xs.length→rowOk xs.length k (xs.getD k 0)=true)
  (h2:∀k,k<xs.length→∀j,j<xs.length→bit (xs.getD k 0).toNat j=bit (xs.getD j 0).toNat k):oC xs=true:=by
 unfold oC
 rw[decide_eq_true hn];simp only[Bool.true_and,Bool.and_eq_true,List.all_eq_true,List.mem_range];exact⟨h1,fun k hk j hj=>by simpa using h2 k hk j hj⟩
theorem Cm (A:Option Addr) (n c:Nat) (xs:List Int) (w:World) (h:jd .i64 w w.heap.size A n c xs):
  Calls Tryz.prog 137 #[.agg #[.slice A n c]] w fun e w'=>e= .returned (.bool (oC xs))∧Below w.heap.size w w':=by
 have hlen:=h.len;have hcap:=h.cap;have hmax:=h.dw
 unfold maxLen at hmax
 by_cases hn:1≤n∧n≤9
 ·obtain⟨hn1,hn9⟩:=hn;obtain⟨b,off,rfl,hb,hcell⟩:=h.at_ (by omega);have HC:=af hcell;clear hcell;have HL:=af hlen;clear hlen;have hw:=iK n (by omega);have hp9:=jS n 9 hn9;have hp1:1≤(2:Int)^n:=Int.pow_pos (by omega);go_enter Tryz.func137,Tryz.ntmps137;go_wp2
  go_loop [21] (fun i=>∃k:Nat,k≤n∧i= .int .i64 k∧Hid (∀j,j<k→rowOk n j (xs.getD j 0)=true)) (fun i=>n-(intOf i).toNat)
  case atStart=>exact⟨0,by omega,rfl,af (by omega)⟩
  case round=>
   obtain⟨k,hk,rfl,hrows⟩:=hrel
   by_cases hlt:k<n
   ·obtain⟨x,hx⟩:∃x,xs[k]? =some x:=⟨xs[k]'(by rw[HL.out];exact hlt),bH _⟩;have hc:=HC.out k x hx;have hwf:=wf_i64 (h.wf x (bT hx));obtain⟨af5,af6⟩:=hwf;have hxd:xs.getD k 0=x:=by rw[List.getD,hx];rfl
    have HX:=af hxd;clear hx hxd
    by_cases hx0:x<0
    ·have HF:=af (vO xs k (by rw[HL.out];exact hlt) (by rw[HL.out,HX.out];unfold rowOk;rw[decide_eq_false (by omega),Bool.false_and]));go_wp2;go_ret;exact⟨aY HF.out.symm,(ai _ _).alloc (aA _) _⟩
    ·obtain⟨m,rfl⟩:=bC (by omega:0≤x)
     by_cases hx1:(m:Int)<2^n
     ·have hbit:=and_one m k (by omega);have hb2:=jo m k
      by_cases hbb:bit m k=1
      ·have HF:=af (vO xs k (by rw[HL.out];exact hlt) (by rw[HL.out,HX.out];unfold rowOk;rw[bW,hbb];simp));rw[hbb] at hbit;go_wp2;go_ret;exact⟨aY HF.out.symm,(ai _ _).alloc (aA _) _⟩
      ·have aa6:bit m k=0:=by omega
       rw[aa6] at hbit;have HR:Hid (rowOk n k (xs.getD k 0)=true):=af (by rw[HX.out];unfold rowOk;rw[bW,aa6,decide_eq_true ⟨by omega,hx1⟩];rfl);clear aa6 hbb hb2;go_wp2
       go_round
       case rel=>exact⟨k+1,by omega,by go_num,af fun j hj=>by
        rcases Nat.lt_or_ge j k with h1 | h1
        ·exact hrows.out j h1
        ·obtain rfl:j=k:=by omega
         exact HR.out⟩
       case measure=>simp[intOf];omega
     ·have HF:=af (vO xs k (by rw[HL.out];exact hlt) (by rw[HL.out,HX.out];unfold rowOk;rw[decide_eq_false (by omega),Bool.false_and]));go_wp2;go_ret;exact⟨aY HF.out.symm,(ai _ _).alloc (aA _) _⟩
   ·obtain rfl:k=n:=by omega
    have hrow1:=hrows.out
    have HM:Hid (∀j,j<k→∃m:Nat,xs[j]? =some (m:Int)∧m<512∧w.cell? ⟨b,off+j,none⟩=some (.int .i64 (m:Int))∧(xs.getD j 0).toNat=m):=af fun j hj=>by
     have h1:=hrow1 j hj;obtain⟨x,hx⟩:∃x,xs[j]? =some x:=⟨xs[j]'(by rw[HL.out];exact hj),bH _⟩;have hxd:xs.getD j 0=x:=by rw[List.getD,hx];rfl
     rw[hxd] at h1 ⊢
     unfold rowOk at h1
     simp only[Bool.and_eq_true,decide_eq_true_eq] at h1;obtain⟨⟨h0,h2⟩,-⟩:=h1;obtain⟨m,rfl⟩:=bC h0;exact⟨m,hx,by omega,HC.out j _ hx,bW m⟩
    have aeC:Hid (∀j,j<k→rowOk k j (xs.getD j 0)=true):=af hrow1;clear hrow1 hrows hw hp9 hp1;go_wp2
    go_loopw [45] (fun i wr=>∃a q:Nat,a≤k∧i= .int .i64 a∧Hid (∀a',a'<a→∀j,j<k→bit (xs.getD a' 0).toNat j=bit (xs.getD j 0).toNat a')∧wr=(w.alloc (Obj.cells #[Value.slice (some ⟨b,off,none⟩) k c] 94)).drewN q) (fun i _=>k-(intOf i).toNat)
    case atStart=>exact⟨0,0,by omega,rfl,af (by omega),rfl⟩
    case round=>
     obtain⟨a,q,ha,rfl,hpre,rfl⟩:=hrel
     by_cases hak:a<k
     ·obtain⟨x,hx,hx9,hxc,hxd⟩:=HM.out a hak;have HXD:=af hxd;clear hx hxd;go_wp2
      go_loopw [51] (fun i wr=>∃j q:Nat,j≤k∧i= .int .i64 j∧Hid (∀j',j'<j→bit x j'=bit (xs.getD j' 0).toNat a)∧wr=(w.alloc (Obj.cells #[Value.slice (some ⟨b,off,none⟩) k c] 94)).drewN q) (fun i _=>k-(intOf i).toNat)
      case atStart=>exact⟨0,q,by omega,rfl,af (by omega),rfl⟩
      case round=>
       obtain⟨j,q',hj,rfl,hpre',rfl⟩:=hrel
       by_cases hjk:j<k
       ·obtain⟨y,hy,hy9,hyc,hyd⟩:=HM.out j hjk;have HYD:=af hyd;have hb1:=and_one x j (by omega);have hb2:=and_one y a (by omega);have hl1:=jo x j;have hl2:=jo y a;clear hy hyd
        by_cases heq:bit x j=bit y a
        ·have Qz:=af heq;rw[heq] at hb1;clear heq;go_wp2
         go_quiet (fail)
         go_wp2
         go_roundw
         case rel=>exact⟨j+1,_,by omega,by go_num,af fun j' hj'=>by
          rcases Nat.lt_or_ge j' j with h1 | h1
          ·exact hpre'.out j' h1
          ·obtain rfl:j'=j:=by omega
           rw[HYD.out];exact Qz.out,rfl⟩
         case measure=>simp[intOf];omega
        ·have HF:=af (JZ xs a j (by rw[HL.out];exact hak) (by rw[HL.out];exact hjk) (by rw[HXD.out,HYD.out];exact heq));have hne:(((bit x j:Nat):Int) != ((bit y a:Nat):Int))=true:=by rw[bne_iff_ne];omega
         clear heq;go_wp2
         go_quiet (fail)
         go_wp2;go_ret;exact⟨aY HF.out.symm,below_drewN (below_drewN ((ai _ _).alloc (aA _) _) _) _⟩
       ·have ada:j=k:=by omega
        have HJ:=af ada;clear ada;go_wp2
        go_roundw
        case rel=>exact⟨a+1,_,by omega,by go_num,af fun a' ha' j' hj'=>by
         rcases Nat.lt_or_ge a' a with h1 | h1
         ·exact hpre.out a' h1 j' hj'
         ·obtain rfl:a'=a:=by omega
          rw[HXD.out];exact hpre'.out j' (by rw[HJ.out];exact hj'),rfl⟩
        case measure=>simp[intOf];omega
     ·have aeD:a=k:=by omega
      have HF:=af (NC xs (by rw[HL.out];exact⟨hn1,hn9⟩) (by rw[HL.out];exact aeC.out) (by rw[HL.out];intro a' h1 j hj;exact hpre.out a' (by omega) j hj));clear aeD;go_wp2;go_ret;exact⟨aY HF.out.symm,below_drewN ((ai _ _).alloc (aA _) _) _⟩
 ·have HF:=af (JY xs (by rw[hlen];exact hn));go_enter Tryz.func137,Tryz.ntmps137;go_wp2
  all_goals first | (exfalso;omega) | go_ret
  all_goals exact⟨aY HF.out.symm,(ai _ _).alloc (aA _) _⟩
def eu (ds:List au) (S:Nat→Bool) (s:Nat):Bool:=ds.any fun d=>(bD d s).any S
def layer (ds:List au) (S:Nat→Bool):Nat→Nat→Bool
 |0,s=>S s
 |n+1,s=>layer ds S n s||eu ds (layer ds S n) s
def gI (ds:List au) (S:Nat→Bool):Nat→Nat→Int
 |0,s=>if S s then 0 else -1
 |n+1,s=>if layer ds S n s then gI ds S n s else if eu ds (layer ds S n) s then((n+1:Nat):Int) else -1
def jc (ds:List au) (S:Nat→Bool) (s:Nat):Int:=gI ds S 32 s
def cnt (p:Nat→Bool) (n:Nat):Nat:=(List.range n).countP p
def kD (ds:List au) (S:Nat→Bool) (n:Nat):Prop:=∀s,s<32→eu ds (layer ds S n) s=true→layer ds S n s=true
section
variable {ds : List au} {S : Nat → Bool}
theorem jM {s:Nat}:eu ds S s=true↔∃d∈ds,∃s',bD d s=some s'∧S s'=true:=by
 unfold eu
 rw[List.any_eq_true]
 constructor
 ·rintro⟨d,hd,h⟩
  cases e:bD d s with
  |none=>rw[e] at h;cases h
  |some s'=>rw[e] at h;exact⟨d,hd,s',e,h⟩
 ·rintro⟨d,hd,s',e,h⟩;exact⟨d,hd,by rw[e];exact h⟩
theorem Om {T:Nat→Bool} {s:Nat} (h:∀s',S s'=true→T s'=true) (k:eu ds S s=true):eu ds T s=true:=by
 obtain⟨d,hd,s',e,hs⟩:=jM.1 k;exact jM.2 ⟨d,hd,s',e,h s' hs⟩
theorem uQ {T:Nat→Bool} {s:Nat} (hd:∀d∈ds,bK d=true) (hs:s<32) (h:∀s',s'<32→S s'=T s'):eu ds S s=eu ds T s:=by
 have key:∀S T:Nat→Bool,(∀s',s'<32→S s'=T s')→eu ds S s=true→eu ds T s=true:=fun S T h k=>by
  obtain⟨d,hm,s',e,hs'⟩:=jM.1 k;exact jM.2 ⟨d,hm,s',e,by rw[←h s' (iy d s s' (hd d hm) hs e)];exact hs'⟩
 rw[Bool.eq_iff_iff];exact⟨key S T h,key T S fun s' hs'=>(h s' hs').symm⟩
theorem D7 {n s:Nat} (h:layer ds S n s=true):layer ds S (n+1) s=true:=by simp[layer,h]
theorem xI {m n s:Nat} (hmn:m≤n) (h:layer ds S m s=true):layer ds S n s=true:=by
 induction n with
 |zero=>have:m=0:=by omega
        subst this;exact h
 |succ n ih=>
  rcases Nat.lt_or_ge m (n+1) with h1 | h1
  ·exact D7 (ih (by omega))
  ·have:m=n+1:=by omega
   subst this;exact h
theorem rD {n s:Nat}:layer ds S n s=false→gI ds S n s= -1:=by
 cases n with
 |zero=>intro h;simp only[layer] at h;simp[gI,h]
 |succ n=>
  intro h;simp only[layer,Bool.or_eq_false_iff] at h
  simp[gI,h.1,h.2]
theorem wu {n s:Nat} (h:layer ds S n s=true):∃k,k≤n∧gI ds S n s=(k:Int)∧layer ds S k s=true∧∀m,m<k→layer ds S m s=false:=by
 induction n with
 |zero=>exact⟨0,aA _,by simp only[layer] at h;simp[gI,h],h,fun m hm=>absurd hm (by omega)⟩
 |succ n ih=>
  cases hn:layer ds S n s with
  |true=>
   obtain⟨k,h1,h2,h3⟩:=ih hn;exact⟨k,by omega,by simp[gI,hn,h2],h3⟩
  |false=>
   have hb:eu ds (layer ds S n) s=true:=by simpa[layer,hn] using h
   refine⟨n+1,aA _,by simp[gI,hn,hb],h,fun m hm=>?_⟩
   cases e:layer ds S m s with
   |false=>rfl
   |true=>rw[xI (by omega) e] at hn;cases hn
theorem uO {n s:Nat}:(0≤gI ds S n s)↔layer ds S n s=true:=by
 constructor
 ·intro h
  cases e:layer ds S n s with
  |true=>rfl
  |false=>rw[rD e] at h;omega
 ·intro h;obtain⟨k,-,h2,-⟩:=wu h
  omega
theorem Qk {n s:Nat}: -1≤gI ds S n s∧gI ds S n s≤n:=by
 cases e:layer ds S n s with
 |false=>rw[rD e];omega
 |true=>obtain⟨k,h1,h2,-⟩:=wu e;omega
theorem I5 {n k s:Nat} (hk:k≤n) (h1:layer ds S k s=true) (h2:∀m,m<k→layer ds S m s=false):gI ds S n s=(k:Int):=by
 obtain⟨j,-,h4,h5,h6⟩:=wu (xI hk h1)
 rcases Nat.lt_trichotomy j k with h | h | h
 ·rw[h2 j h] at h5;cases h5
 ·rw[h4,h]
 ·rw[h6 k h] at h1;cases h1
theorem Bj (hd:∀d∈ds,bK d=true) {n:Nat} (h:kD ds S n) (m:Nat):∀s,s<32→layer ds S (n+m) s=layer ds S n s:=by
 induction m with
 |zero=>intro s _;rfl
 |succ m ih=>
  intro s hs;rw[←Nat.add_assoc];simp only[layer];rw[ih s hs,uQ hd hs ih]
  cases hb:eu ds (layer ds S n) s with
  |false=>simp
  |true=>rw[h s hs hb];rfl
theorem xJ (hd:∀d∈ds,bK d=true) {n:Nat} (h:kD ds S n) {m:Nat} (hm:n≤m) {s:Nat} (hs:s<32):gI ds S m s=gI ds S n s:=by
 have hl:=Bj hd h (m-n) s hs;rw[show n+(m-n)=m by omega] at hl
 cases e:layer ds S n s with
 |false=>rw[rD e,rD (hl.trans e)]
 |true=>
  obtain⟨k,h1,h2,h3,h4⟩:=wu e;rw[h2];exact I5 (by omega) h3 h4
theorem cnt_le (p:Nat→Bool) (n:Nat):cnt p n≤n:=by
 unfold cnt
 have:=List.countP_le_length (p:=p) (l:=List.range n)
 simpa using this
theorem cnt_lt {p q:Nat→Bool} {n:Nat} (h:∀k,k<n→p k=true→q k=true) {j:Nat} (hj:j<n) (hp:p j=false) (hq:q j=true):cnt p n<cnt q n:=by
 unfold cnt
 induction n with
 |zero=>omega
 |succ n ih=>
  rw[List.range_succ,List.countP_append,List.countP_append];have hmono:(List.range n).countP p≤(List.range n).countP q:=List.countP_mono_left fun k hk=>h k (by have:=List.mem_range.1 hk;omega)
  by_cases e:j=n
  ·subst e
   simp[hp,hq];omega
  ·have:=ih (fun k hk=>h k (by omega)) (by omega)
   have h2:[n].countP p≤[n].countP q:=List.countP_mono_left fun k hk=>h k (by simp at hk;omega)
   omega
theorem Xd {p:Nat→Bool} {n:Nat}:0<cnt p n↔∃k,k<n∧p k=true:=by
 unfold cnt
 rw[List.countP_pos_iff]
 simp
theorem LG {n:Nat} (h:¬kD ds S n):cnt (layer ds S n) 32<cnt (layer ds S (n+1)) 32:=by
 unfold kD at h
 simp only[Classical.not_forall] at h;obtain⟨s,hs,hb,hl⟩:=h;exact cnt_lt (fun k _=>D7) hs (by simpa using hl) (by simp[layer,hb])
theorem xK (hd:∀d∈ds,bK d=true) {n:Nat} (h:kD ds S n) {m:Nat} (hm:n≤m):kD ds S m:=by
 intro s hs hb
 have e:∀s,s<32→layer ds S m s=layer ds S n s:=fun s hs=>by
  have:=Bj hd h (m-n) s hs
  rwa[show n+(m-n)=m by omega] at this
 rw[uQ hd hs e] at hb;rw[e s hs];exact h s hs hb
theorem Ql (hd:∀d∈ds,bK d=true):kD ds S 31:=by
 have key:∀n,(∃s,s<32∧S s=true)→kD ds S n∨n+1≤cnt (layer ds S n) 32:=by
  intro n hne
  induction n with
  |zero=>exact .inr (Xd.2 hne)
  |succ n ih=>
   by_cases hf:kD ds S n
   ·exact .inl (xK hd hf (by omega))
   ·rcases ih with h | h
    ·exact absurd h hf
    ·have:=LG hf;exact .inr (by omega)
 by_cases hne:∃s,s<32∧S s=true
 ·rcases key 31 hne with h | h
  ·exact h
  ·intro s hs _
   cases e:layer ds S 31 s with
   |true=>rfl
   |false=>
    have:=cnt_lt (p:=layer ds S 31) (q:=fun _=>true) (n:=32) (fun _ _ _=>rfl) hs e rfl
    have h2:=cnt_le (fun _=>true) 32
    omega
 ·have h0:kD ds S 0:=by
   intro s hs hb;obtain⟨d,hm,s',e,h⟩:=jM.1 hb;exact absurd ⟨s',iy d s s' (hd d hm) hs e,h⟩ hne
  exact xK hd h0 (by omega)
theorem Xe (hd:∀d∈ds,bK d=true) {s:Nat} (hs:s<32):jc ds S s=gI ds S 31 s:=xJ hd (Ql hd) (by omega) hs
theorem IX (hd:∀d∈ds,bK d=true) {s:Nat} (hs:s<32): -1≤jc ds S s∧jc ds S s≤31:=by
 rw[Xe hd hs];exact Qk
theorem DV (hd:∀d∈ds,bK d=true) {n s:Nat} (h:kD ds S n) (hs:s<32):jc ds S s=gI ds S n s:=by
 rcases Nat.lt_or_ge n 32 with hn | hn
 ·exact xJ hd h (by omega) hs
 ·exact(xJ hd (xK hd (Ql hd) (show 31≤32 by omega)) hn hs).symm
theorem GY (hd:∀d∈ds,bK d=true) {s k:Nat} (hs:s<32) (h:jc ds S s=((k+1:Nat):Int)):∃d∈ds,∃s',bD d s=some s'∧s'<32∧jc ds S s'=(k:Int):=by
 have hl:layer ds S 32 s=true:=uO.1 (by have:gI ds S 32 s=_:=h;omega);obtain⟨j,h1,h2,h3,h4⟩:=wu hl;have hj:j=k+1:=by have:gI ds S 32 s=_:=h;omega
 subst hj;have h5:=h4 k (by omega);simp only[layer,h5,Bool.false_or] at h3;obtain⟨d,hm,s',e,h6⟩:=jM.1 h3;refine⟨d,hm,s',e,iy d s s' (hd d hm) hs e,I5 (by omega) h6 fun m hmk=>?_⟩
 cases e':layer ds S m s' with
 |false=>rfl
 |true=>
  have:layer ds S (m+1) s=true:=by simp[layer,jM.2 ⟨d,hm,s',e,e'⟩]
  rw[xI (by omega) this] at h5;cases h5
theorem RS {s:Nat}:jc ds S s=0↔S s=true:=by
 constructor
 ·intro h;have hl:layer ds S 32 s=true:=uO.1 (by have:gI ds S 32 s=_:=h;omega);obtain⟨j,h1,h2,h3,h4⟩:=wu hl;have hj:j=0:=by have:gI ds S 32 s=_:=h;omega
  subst hj;exact h3
 ·intro h;exact I5 (k:=0) (by omega) h fun m hm=>absurd hm (by omega)
end
def pick (f:Nat→Bool) (s:Nat):List au→Nat→Option (Nat×Nat)
 | [],_=>none
 |d::ds,k=>match bD d s with
  |some s'=>if f s' then some (k,s') else pick f s ds (k+1)
  |none=>pick f s ds (k+1)
theorem GZ {f:Nat→Bool} {s:Nat} {ds:List au} {k:Nat} (h:∃d∈ds,∃s',bD d s=some s'∧f s'=true):∃j s',pick f s ds k=some (k+j,s')∧(ds[j]?).bind (bD · s)=some s'∧f s'=true∧j<ds.length:=by
 induction ds generalizing k with
 |nil=>obtain⟨d,hd,-⟩:=h;cases hd
 |cons d ds ih=>
  have rest:(∃d∈ds,∃s',bD d s=some s'∧f s'=true)→∃j s',pick f s ds (k+1)=some (k+(j+1),s')∧(ds[j]?).bind (bD · s)=some s'∧f s'=true∧j<ds.length:=fun h'=>by
   obtain⟨j,s',h1,h2⟩:=ih (k:=k+1) h';exact⟨j,s',by rw[h1];simp;omega,h2⟩
  cases e:bD d s with
  |none=>
   obtain⟨x,hx,s',e',hf⟩:=h
   have hx':x∈ds:=by
    rcases List.mem_cons.1 hx with rfl | hx
    ·rw[e] at e';cases e'
    ·exact hx
   obtain⟨j,s'',h1,h2,h3,h4⟩:=rest ⟨x,hx',s',e',hf⟩;exact⟨j+1,s'',by simp only[pick,e];exact h1,by simpa using h2,h3,by simpa using h4⟩
  |some s1=>
   cases hf1:f s1 with
   |true=>exact⟨0,s1,by simp[pick,e,hf1],by simp[e],hf1,by simp⟩
   |false=>
    obtain⟨x,hx,s',e',hf⟩:=h
    have hx':x∈ds:=by
     rcases List.mem_cons.1 hx with rfl | hx
     ·rw[e] at e';injection e' with e';subst e';rw[hf1] at hf;cases hf
     ·exact hx
    obtain⟨j,s'',h1,h2,h3,h4⟩:=rest ⟨x,hx',s',e',hf⟩;exact⟨j+1,s'',by simp only[pick,e,hf1];exact h1,by simpa using h2,h3,by simpa using h4⟩
def nR (ds:List au) (S:Nat→Bool):Nat→Nat→List Int
 |0,_=>[]
 |n+1,s=>match pick (fun s'=>jc ds S s' == (n:Int)) s ds 0 with
  |some (k,s')=>(k:Int)::nR ds S n s'
  |none=>[]
def Oz (ds:List au) (S:Nat→Bool) (s:Nat):Option (List Int):=if jc ds S s<0 then none else some (nR ds S (jc ds S s).toNat s)
def dG (t:aB):Option (List Int):=if aK t then Oz t.ay (aH t.goal) t.start.toNat else none
theorem RU (t:aB) (hd:∀d∈t.ay,bK d=true) (S:Nat→Bool) (n:Nat):∀s,s<32→jc t.ay S s=(n:Int)→(nR t.ay S n s).length=n∧∃s',jY t s (nR t.ay S n s)=some s'∧s'<32∧S s'=true:=by
 induction n with
 |zero=>intro s hs h;exact⟨rfl,s,rfl,hs,RS.1 h⟩
 |succ n ih=>
  intro s hs h;obtain⟨d,hm,s1,e,hs1,h1⟩:=GY hd hs h;obtain⟨j,s',h2,h3,h4,h5⟩:=GZ (f:=fun s'=>jc t.ay S s' == (n:Int)) (s:=s) (ds:=t.ay) (k:=0) ⟨d,hm,s1,e,by simpa using h1⟩;have hv:jc t.ay S s'=(n:Int):=by simpa using h4
  have hs':s'<32:=by
   obtain⟨x,hx,h6⟩:=Option.bind_eq_some_iff.1 h3;exact iy x s s' (hd x (bT hx)) hs h6
  obtain⟨k1,s2,k2,k3⟩:=ih s' hs' hv;rw[Nat.zero_add] at h2;simp only[nR,h2];refine⟨by simp[k1],s2,?_,k3⟩;simp only[jY,mr];rw[if_pos ⟨by omega,by omega⟩,bW,h3];exact k2
theorem sK {t:aB} {p:List Int} (h:dG t=some p):aK t=true∧(p.length:Int)=jc t.ay (aH t.goal) t.start.toNat∧p.length≤31∧∃s,jY t t.start.toNat p=some s∧s<32∧aH t.goal s=true:=by
 unfold dG at h
 split at h
 ·rename_i hok;obtain⟨h1,h2,h3,h4⟩:=aJ t hok;have hs:t.start.toNat<32:=by omega
  have hle:=IX (S:=aH t.goal) h4 hs
  unfold Oz at h
  split at h
  ·cases h
  ·injection h with h
   obtain⟨k1,k2⟩:=RU t h4 (aH t.goal) (jc t.ay (aH t.goal) t.start.toNat).toNat t.start.toNat hs (by omega);rw[h] at k1 k2;exact⟨hok,by omega,by omega,k2⟩
 ·cases h
def lG (xs:List Int):Nat:=aQ (aH xs) 32
def vZ (xs:List Int):Int:=if codeOk xs then(lG xs:Int) else -1
theorem yJ (xs:List Int) (h:codeOk xs=false):vZ xs= -1:=if_neg (by rw[h];simp)
theorem gV (xs:List Int) (h:codeOk xs=true):vZ xs=(lG xs:Int):=if_pos h
theorem dI (p:Nat→Bool):aQ p 32<4294967296:=Qc p 32
theorem yH {k:Nat} (h:k<32):2^k<4294967296:=Nat.pow_lt_pow_right (a:=2) (n:=32) (by omega) h
theorem zS {p q:Nat→Bool} {M k:Nat} (hk:k<32) (hM:M=aQ p 32) (hq:∀j,j<32→q j=(p j||decide (k=j))):bits .or .i64 (M:Int) (2^k)=((aQ q 32:Nat):Int):=by
 have h1:=dI p;have h2:=yH hk
 have:=nT M (2^k) (by omega) (by omega)
 rw[show M ||| 2^k=aQ q 32 by rw[hM,qG _ _ _ hk];exact(cO hq).symm] at this
 simpa using this
theorem GX (p:Nat→Bool) (k:Nat) (h:p k=true):∀j,j<32→upto p (k+1) j=(upto p k j||decide (k=j)):=by
 intro j _
 unfold upto
 by_cases e:k=j
 ·subst e;simp[h]
 ·simp[e,show(j<k+1)↔(j<k) by omega]
theorem vV (p:Nat→Bool) (k:Nat) (h:p k=false):aQ (upto p (k+1)) 32=aQ (upto p k) 32:=IJ p 32 k h
theorem D5 {xs:List Int} {M k:Nat} (hM:M=aQ (upto (aH xs) k) 32) (hk:k=32):(M:Int)=(lG xs:Nat):=by rw[hM,hk,xw];rfl
theorem ng (A:Option Addr) (n c:Nat) (xs:List Int) (w:World) (h:jd .i64 w w.heap.size A n c xs):
  Calls Tryz.prog 88 #[.slice A n c] w fun e w'=>e= .returned (.int .i64 (vZ xs))∧Below w.heap.size w w':=by
 obtain⟨bo,hok⟩:∃b,codeOk xs=b:=⟨_,rfl⟩;have bG:=af hok;clear hok;have HR:=af h;clear h
 cases bo with
 |false=>
  go_enter Tryz.func88,Tryz.ntmps88
  go_wp2_with fail
  refine(dZ A n c xs _ HR.out).mono ?_;rw[bG.out];rintro e w1 ⟨rfl,rfl⟩;go_wp2;go_ret;exact⟨aP (yJ xs bG.out).symm,ai _ _⟩
 |true=>
  go_enter Tryz.func88,Tryz.ntmps88
  go_wp2_with fail
  refine(dZ A n c xs _ HR.out).mono ?_;rw[bG.out];rintro e w1 ⟨rfl,rfl⟩;go_wp2
  go_loopw [8,3] (fun i sv wr=>∃k M:Nat,k≤32∧i= .int .i64 k∧sv= .int .i64 M∧Hid (M=aQ (upto (aH xs) k) 32)∧Below w.heap.size w wr) (fun i _ _=>32-(intOf i).toNat)
  case atStart=>exact⟨0,0,by omega,rfl,rfl,af (sD _ _).symm,ai _ _⟩
  case round=>
   obtain⟨k,M,hk,rfl,rfl,HM,hbel⟩:=hrel;have HB:=af hbel;clear hbel
   by_cases hlt:k<32
   ·obtain⟨bv,hv⟩:∃b,aH xs k=b:=⟨_,rfl⟩;have HV:=af hv;clear hv
    go_wp2_with fail
    refine(uD A n c xs k _ (HR.out.up HB.out) bG.out hlt).mono ?_;rw[HV.out];rintro e w2 ⟨rfl,hb2⟩;have HB2:=af (HB.out.trans (hb2.mono HB.out.size));clear hb2
    cases bv with
    |true=>
     have hpw:=iK k (by omega);have hor:=zS hlt HM.out (GX (aH xs) k HV.out);go_wp2
     go_roundw
     case rel=>exact⟨k+1,_,by omega,by go_num,rfl,af rfl,HB2.out⟩
     case measure=>simp[intOf];omega
    |false=>
     have iO:Hid (M=aQ (upto (aH xs) (k+1)) 32):=af (HM.out.trans (vV _ k HV.out).symm);go_wp2
     go_roundw
     case rel=>exact⟨k+1,M,by omega,by go_num,rfl,iO,HB2.out⟩
     case measure=>simp[intOf];omega
   ·have HF:=af (D5 HM.out (show k=32 by omega));go_wp2;go_ret;exact⟨aP (by rw[HF.out,gV xs bG.out]),HB.out⟩
theorem qg (A:Option Addr) (n c:Nat) (xs:List Int) (w:World) (h:jd .i64 w w.heap.size A n c xs) (hn:n≤1048576):
  Calls Tryz.prog 174 #[.slice A n c] w fun e w'=>e= .returned (.int .i64 (vZ xs))∧Below w.heap.size w w':=by
 obtain⟨bo,hok⟩:∃b,codeOk xs=b:=⟨_,rfl⟩;have bG:=af hok;clear hok;have HR:=af h;clear h
 cases bo with
 |false=>
  go_enter Tryz.func174,Tryz.ntmps174
  go_wp2_with fail
  refine(jK A n c xs _ HR.out (by omega)).mono ?_;rw[bG.out];rintro e w1 ⟨rfl,rfl⟩;go_wp2;go_ret;exact⟨aP (yJ xs bG.out).symm,ai _ _⟩
 |true=>
  go_enter Tryz.func174,Tryz.ntmps174
  go_wp2_with fail
  refine(jK A n c xs _ HR.out (by omega)).mono ?_;rw[bG.out];rintro e w1 ⟨rfl,rfl⟩;go_wp2
  go_loopw [4,3] (fun i sv wr=>∃k M:Nat,k≤32∧i= .int .i64 k∧sv= .int .i64 M∧M<2^k∧Hid (M=aQ (upto (aH xs) k) 32)∧Below w.heap.size w wr) (fun i _ _=>32-(intOf i).toNat)
  case atStart=>exact⟨0,0,by omega,rfl,rfl,by omega,af (sD _ _).symm,ai _ _⟩
  case round=>
   obtain⟨k,M,hk,rfl,rfl,hM,HM,hbel⟩:=hrel;have HB:=af hbel;clear hbel
   by_cases hlt:k<32
   ·obtain⟨bv,hv⟩:∃b,aH xs k=b:=⟨_,rfl⟩;have HV:=af hv;clear hv;have hpw:=iK k (by omega);have hpl:=yH hlt;have Yu:=af hM;clear hM
    go_wp2_with fail
    refine(kU A n c xs k _ (HR.out.up HB.out) bG.out hlt).mono ?_;rw[HV.out];rintro e w2 ⟨rfl,hb2⟩;have HB2:=af (HB.out.trans (hb2.mono HB.out.size));clear hb2
    cases bv with
    |true=>
     obtain⟨M2,hM2⟩:∃M2,M+2^k=M2:=⟨_,rfl⟩;have hadd:(M:Int)+2^k=(M2:Int):=by rw[←hM2];push_cast;rfl
     have iO:Hid (M2=aQ (upto (aH xs) (k+1)) 32):=af (by rw[←hM2,wR _ 32 k hlt HV.out,←HM.out]);have hlt2:M2<2^(k+1):=by rw[←hM2,Nat.pow_succ];have:=Yu.out;omega
     have hl2:M2<4294967296:=by rw[iO.out];exact dI _
     have HL2:=af hlt2;clear hM2 hlt2;go_wp2
     go_roundw
     case rel=>exact⟨k+1,M2,by omega,by go_num,by first | rfl | go_num | (congr 1;rw[hadd]),HL2.out,iO,HB2.out⟩
     case measure=>simp[intOf];omega
    |false=>
     have iO:Hid (M=aQ (upto (aH xs) (k+1)) 32):=af (HM.out.trans (vV _ k HV.out).symm);go_wp2
     go_roundw
     case rel=>exact⟨k+1,M,by omega,by go_num,rfl,by rw[Nat.pow_succ];have:=Yu.out;omega,iO,HB2.out⟩
     case measure=>simp[intOf];omega
   ·have HF:=af (D5 HM.out (show k=32 by omega));clear hM;go_wp2;go_ret;exact⟨aP (by rw[HF.out,gV xs bG.out]),HB.out⟩
def abG (ds:List au) (i:Nat):Int:=match ds[i/32]? with
 |some d=>opt (bD d (i%32))
 |none=>-1
def yI (ds:List au):List Int:=(List.range (ds.length*32)).map (abG ds)
theorem UN (ds:List au):(yI ds).length=ds.length*32:=by simp[yI]
theorem Qi (ds:List au) (k s:Nat) (d:au) (hd:ds[k]? =some d) (hs:s<32):(yI ds)[k*32+s]? =some (opt (bD d s)):=by
 have hk:=(bI.1 hd).1
 unfold yI
 rw[List.getElem?_map,List.getElem?_range (by omega)];simp only[Option.map_some,abG];rw[show(k*32+s)/32=k by omega,show(k*32+s)%32=s by omega,hd]
theorem FH (z:Value) (n:Nat):madeCells (Array.replicate 32 z) n=Array.replicate n z:=by
 apply Array.ext
 ·simp[madeCells]
 ·intro i h1 h2;have h3:i%32<32:=Nat.mod_lt _ (by omega)
  simp[madeCells,getElem!_pos,h3]
theorem Oy (ys:List Int):lq ys 0=Array.replicate ys.length (.int .i64 0):=by
 apply Array.ext'
 simp[lq,ints]
theorem abH:qE Tryz.prog 103 108 (.agg (Array.replicate 32 (.int .i64 0))) 32 256:=⟨Tryz.underlying103,info_parts (by kernel_rfl),rfl,by omega⟩
def pF (v:Value) (ds:List au):dh:=rRow 108 32 v ds.length (ints (yI ds))
theorem Z9 {w:World} {base:Nat} {e:TypeId} {size n:Nat} {v:Value} {xs:List Value} (h:w.ownsRow base e size v n xs):∃A c,v= .slice A n c∧bJ w w.heap.size size A n c xs:=by
 obtain⟨hl,h2⟩:=h
 rcases h2 with⟨rfl,rfl⟩ | ⟨g,cap,cur,rfl,hb,hh,h3,h4,h5,h6⟩
 ·exact⟨none,0,rfl,hl,aA _,by unfold maxLen;omega,fun h=>absurd h (by omega)⟩
 ·refine⟨_,_,rfl,hl,h3,h4,fun _=>⟨g,0,rfl,(Array.getElem?_eq_some_iff.1 hh).1,fun i x hx=>?_⟩⟩;have hc:w.cell? ⟨g,0+i,none⟩=cur[i]? :=by rw[Nat.zero_add];exact cell_of_row w g i cur e (0,0) hh
  rw[hc];have h7:(cur.toList.take (n*size))[i]? =some x:=by rw[h6];exact hx
  rw[List.getElem?_take] at h7
  split at h7
  ·simpa using h7
  ·cases h7
theorem St.oD {w W:World} {L:List dh} (h:St w W L) (i:Nat) {e:TypeId} {size n:Nat} {v:Value} {cells:List Value} (hi:L[i]? =some (rRow e size v n cells)):∃A c,v= .slice A n c∧bJ W W.heap.size size A n c cells:=Z9 (h.row i hi)
theorem bJ.below {w w':World} {B size:Nat} {A:Option Addr} {n c:Nat} {vs:List Value} (h:bJ w B size A n c vs) (hb:Below B w w'):bJ w' B size A n c vs:=
 ⟨h.len,h.cap,h.dw,fun hn=>by
  obtain⟨b,off,e,hb',hc⟩:=h.at_ hn
  exact⟨b,off,e,hb',fun i v hv=>(aF hb b _ hb').trans (hc i v hv)⟩⟩
theorem bJ.up {w w':World} {size:Nat} {A:Option Addr} {n c:Nat} {vs:List Value} (h:bJ w w.heap.size size A n c vs) (hb:Below w.heap.size w w'):bJ w' w'.heap.size size A n c vs:=by
 have k:=h.below hb
 exact⟨k.len,k.cap,k.dw,fun hn=>by
  obtain⟨b,off,e,hb',hc⟩:=k.at_ hn
  exact⟨b,off,e,by have:=hb.size;omega,hc⟩⟩
theorem qU (v:Value) (t:aB) (w:World) (h:oW w w.heap.size v t) (hok:aK t=true):
  Calls Tryz.prog 86 #[v] w (Gives w id fun v=>[pF v t.ay]):=by
 obtain⟨G,gn,gc,G',n',c',rfl,hg,hgs,hds,hst⟩:=h;have S0:=(St.refl w).alloc #[.int .i64 t.start,.slice G gn gc,.slice G' n' c'] 26;have gy:=af hds.len;have pz:n'≤6:=by rw[←gy.out];exact(aJ t hok).2.2.1
 have gQ:=af (aJ t hok).2.2.2;obtain⟨ys,hys⟩:∃ys,yI t.ay=ys:=⟨_,rfl⟩;have HYS:=af hys;have HYL:Hid (ys.length=n'*32):=af (by rw[←hys,UN,gy.out]);obtain⟨i0,hi,hz0,hz1,hz2⟩:=abH.hi;have aS:=af S0;have Bf:=af hds;have HQ:Hid (∀w2,(w.alloc (.cells #[.int .i64 t.start,.slice G gn gc,.slice G' n' c'] 26)).grownBy w2 none→∀j,w2.cell? ⟨w.heap.size,j,none⟩= #[Value.int .i64 t.start,.slice G gn gc,.slice G' n' c'][j]?):=af fun w2 hgr=>(S0.quiet ((ai _ _).grown hgr (aA _) (by simp))).cells 0 rfl
 unfold pF
 rw[hys];clear S0 hok hys hds;go_enter Tryz.func86,Tryz.ntmps86
 go_wp2_with (at_make;refine wpList_make_full _ rfl _ _ 103 rfl (w.heap.size+1) 108 i0 _ 32 Tryz.underlying103 hi hz0 hz1 _ _ _ _ n' rfl rfl rfl rfl (by rw[hz2];omega) (by unfold maxLen;omega) (by simp) ?_;intro w2 hown hgr;have q0:=HQ.out w2 hgr)
 have hb2:Below (w.heap.size+1) (w.alloc (.cells #[.int .i64 t.start,.slice G gn gc,.slice G' n' c'] 26)) w2:=(ai _ _).grown hgr (by simp) (by simp);obtain⟨g,hg0⟩:∃g,(w.alloc (.cells #[.int .i64 t.start,.slice G gn gc,.slice G' n' c'] 26)).heap.size=g:=⟨_,rfl⟩;have hgw:w.heap.size+1=g:=by rw[←hg0];simp
 have hk1:fU w2 g 108 (lq ys 0):=by
  rcases hown.2 with⟨e,-⟩ | ⟨g',cap,cur,e,-,hh,-,-,hs,ht⟩
  ·cases e
  ·simp only[Value.slice.injEq,Option.some.injEq,Addr.mk.injEq] at e;obtain⟨⟨rfl,-⟩,-,rfl⟩:=e
   have:cur=lq ys 0:=by
    rw[Oy,HYL.out,←FH]
    apply Array.ext'
    rw[gW (by simp[hs])] at ht
    simpa[Value.cells] using ht
   rw[←this,←hg0];exact hh
 have S2:St w w2 [ah w.heap.size 26 #[.int .i64 t.start,.slice G gn gc,.slice G' n' c'],ah g 108 (lq ys 0)]:=aS.out.call ⟨by rw[hg0,←hgw];exact hb2,[[g]],rfl,fun i R F hR hF=>by
  match i with
  |0=>injection hR with hR;injection hF with hF;subst hR hF;exact⟨⟨hk1,rfl⟩,by rw[hg0];simp⟩
  |i+1=>simp at hR,by simp⟩
 have HS2:=af S2
 try rw[hg0]
 try rw[hgw]
 clear hown hgr hb2 hk1 S2 hg0 hgw;go_wp2
 go_loopw [14] (fun i wr=>∃k:Nat,k≤n'∧i= .int .i64 k∧St w wr [ah w.heap.size 26 #[.int .i64 t.start,.slice G gn gc,.slice G' n' c'],ah g 108 (lq ys (k*32))]) (fun i _=>n'-(intOf i).toNat)
 case atStart=>exact⟨0,by omega,rfl,HS2.out⟩
 case round=>
  obtain⟨k,hk,rfl,M⟩:=hrel;have HM:=af M;clear M q0
  by_cases hlt:k<n'
  ·obtain⟨b,off,d,rfl,hb,hd,hda⟩:=Bf.out.get hlt;obtain⟨An,nn,cn,p0,p1,p2,p3,dU,hnn,-⟩:=hda;have r0:wr.cell? ⟨b,off+k*4,none⟩=some (.slice An nn cn):=(aF HM.out.below b _ hb).trans p0;have r1:wr.cell? ⟨b,off+k*4+1,none⟩=some (.int .i64 d.on):=(aF HM.out.below b _ hb).trans p1;have r2:wr.cell? ⟨b,off+k*4+2,none⟩=some (.int .i64 d.off):=(aF HM.out.below b _ hb).trans p2;have r3:wr.cell? ⟨b,off+k*4+3,none⟩=some (.int .i64 d.flip):=(aF HM.out.below b _ hb).trans p3;have HDK:=af (gQ.out d (bT hd));have Ll:=af dU;have HD0:=af hd;have cu:Hid (St w (wr.alloc (.cells #[.slice An nn cn,.int .i64 d.on,.int .i64 d.off,.int .i64 d.flip] 144)) [ah w.heap.size 26 #[.int .i64 t.start,.slice G gn gc,.slice (some ⟨b,off,none⟩) n' c'],ah g 108 (lq ys (k*32)),ah wr.heap.size 144 #[.slice An nn cn,.int .i64 d.on,.int .i64 d.off,.int .i64 d.flip]]):=af (HM.out.alloc _ _);clear p0 p1 p2 p3 dU hd;obtain⟨dd,hdd⟩:∃dd,wr.heap.size=dd:=⟨_,rfl⟩;rw[hdd] at cu;go_wp2
   try rw[hdd]
   clear r0 r1 r2 r3 hdd
   go_loopw [19] (fun i wr=>∃m:Nat,m≤32∧i= .int .i64 m∧St w wr [ah w.heap.size 26 #[.int .i64 t.start,.slice G gn gc,.slice (some ⟨b,off,none⟩) n' c'],ah g 108 (lq ys (k*32+m)),ah dd 144 #[.slice An nn cn,.int .i64 d.on,.int .i64 d.off,.int .i64 d.flip]]) (fun i _=>32-(intOf i).toNat)
   case atStart=>exact⟨0,by omega,rfl,cu.out⟩
   case round=>
    obtain⟨m,xH,rfl,M3⟩:=hrel;have zF:=af M3;clear M3
    by_cases hm:m<32
    ·have HY:Hid (ys[k*32+m]? =some (opt (bD d m))):=af (by rw[←HYS.out];exact Qi t.ay k m d HD0.out hm)
     go_upto_region 8 with(fail)
     refine kG (σ:=Unit)
      (fun s i=>match i with
       |0=>.slice (some ⟨g,0,none⟩) n' n'
       |1=>.int .i64 k
       |2=>.int .i64 m
       |3=>.agg #[.slice An nn cn,.int .i64 d.on,.int .i64 d.off,.int .i64 d.flip]
       |4=>.int .i64 m
       |5=>.int .i64 (opt (bD d m))
       |6=>.pointer (some ⟨g,k*32,none⟩)
       |7=>.pointer (some ⟨g,k*32+m,none⟩)
       |_=>undef)
      (fun D s wx=>Sn w wx fun i=>match i with
       |0=>some (ah w.heap.size 26 #[.int .i64 t.start,.slice G gn gc,.slice (some ⟨b,off,none⟩) n' c'])
       |1=>some (ah g 108 (if D 8=true then lq ys (k*32+m+1) else lq ys (k*32+m)))
       |2=>some (ah dd 144 #[.slice An nn cn,.int .i64 d.on,.int .i64 d.off,.int .i64 d.flip])
       |_=>none)
      () ?_ ?_ ?_
     ·intro D hD;refine((Sn.dN zF.out).quiet ((ai _ _).drew)).congr fun i=>?_
      match i with
      |0=>rfl
      |1=>simp only[hD 8 (by decide)];rfl
      |2=>rfl
      |q+3=>rfl
     ·refine Cs (fun D s wx hR _ hd _ _ hs K hK=>?_) ?_
      ·have e3:=hs.o 3 (.slice (some ⟨g,0,none⟩) n' n');clear hs;go_simp;exact hK s wx sv hR
      refine Cs (fun D s wx hR _ hd _ _ hs K hK=>?_) ?_
      ·have e4:=hs.o 4 (.int .i64 k);clear hs;go_simp;exact hK s wx sv hR
      refine Cs (fun D s wx hR _ hd _ _ hs K hK=>?_) ?_
      ·have e6:=hs.o 6 (.int .i64 m);clear hs;go_simp;exact hK s wx sv hR
      refine Cs (fun D s wx hR _ hd _ _ hs K hK=>?_) ?_
      ·have e5:=hs.o 5 (.pointer (some ⟨dd,0,none⟩));clear hs;have qk:=(hR.blk 2 rfl).cell;go_simp;exact hK s wx sv hR
      refine Cs (fun D s wx hR _ hd _ _ hs K hK=>?_) ?_
      ·have e6:=hs.o 6 (.int .i64 m);clear hs;go_simp;exact hK s wx sv hR
      refine Cs (fun D s wx hR _ hd _ _ hs K hK=>?_) ?_
      ·have e25:=hs.v 3 25 hd;have e26:=hs.v 4 26 hd;have g25:=aX e25;have g26:=aX e26;clear hs;go_simp;refine(mZ An nn cn d m _ (Ll.out.up hR.below) HDK.out hm).mono ?_;rintro e w2 ⟨rfl,hb2⟩;exact hK s w2 sv (hR.quiet hb2)
      refine Cs (fun D s wx hR _ hd _ _ hs K hK=>?_) ?_
      ·have e22:=hs.v 0 22 hd;have e23:=hs.v 1 23 hd;clear hs;go_simp;exact hK s wx sv hR
      refine Cs (fun D s wx hR _ hd _ _ hs K hK=>?_) ?_
      ·have e28:=hs.v 6 28 hd;have e24:=hs.v 2 24 hd;clear hs;go_simp;exact hK s wx sv hR
      refine Cs (fun D s wx hR (hDi:D 8=false) hd _ _ hs K hK=>?_) ?_
      ·have e29:=hs.v 7 29 hd;have e27:=hs.v 5 27 hd;clear hs;have kb:fU wx g 108 (lq ys (k*32+m)):=hR.blk 1 (by simp only[hDi];rfl);have c0:=(kb.cell (k*32+m)).trans (Ux ys (k*32+m) (by rw[HYL.out];omega));have f0:=kb.frozen (k*32+m);go_simp
       refine hK s _ sv ((hR.set 1 (t:=108) (cs:=lq ys (k*32+m)) (by simp only[hDi];rfl) (k*32+m) _).congr
        (fun i=>by
         match i with
         |0=>rfl
         |1=>rw[Oa ys _ _ HY.out];rfl
         |2=>rfl
         |q+3=>exact(if_neg (show¬(q+3=1) by omega)).symm))
      exact aj.nil
     ·intro D s wx hR hD;simp only[eH,Act.put,aO,aU,aW];have S6:St w wx [ah w.heap.size 26 #[.int .i64 t.start,.slice G gn gc,.slice (some ⟨b,off,none⟩) n' c'],ah g 108 (lq ys (k*32+(m+1))),ah dd 144 #[.slice An nn cn,.int .i64 d.on,.int .i64 d.off,.int .i64 d.flip]]:=hR.eG [0,1,2] (by decide) (by simp only[List.map,hD 8 (by decide)];rfl);have jB:=af S6;clear S6 hR hD;go_wp2
      go_roundw
      case rel=>exact⟨m+1,by omega,by go_num,jB.out⟩
      case measure=>simp[intOf];omega
    ·have jB:Hid (St w wr [ah w.heap.size 26 #[.int .i64 t.start,.slice G gn gc,.slice (some ⟨b,off,none⟩) n' c'],ah g 108 (lq ys ((k+1)*32))]):=af (by
      have:=zF.out.pick [0,1] (by decide) rfl rfl
      rw[show k*32+m=(k+1)*32 by omega] at this
      exact this)
     go_wp2
     go_roundw
     case rel=>exact⟨k+1,by omega,by go_num,jB.out⟩
     case measure=>simp[intOf];omega
  ·have HF:Hid (St w wr [rRow 108 32 (.slice (some ⟨g,0,none⟩) n' n') t.ay.length (ints ys)]):=af ((HM.out.pick [1] (by decide) rfl rfl).see fun F h1 _=>by
    obtain⟨h1,rfl⟩:=h1
    have e:lq ys (k*32)=(ints ys).toArray:=by
     apply Array.ext'
     rw[show k*32=ys.length by rw[HYL.out];omega,Ob]
    rw[e] at h1;refine⟨⟨by simp[HYL.out,gy.out],.inr ⟨g,n',(ints ys).toArray,?_,Nat.zero_le _,h1,by rw[gy.out];exact aA _,by unfold maxLen;omega,by simp[HYL.out],?_⟩⟩,rfl⟩
    ·rw[gy.out]
    ·rw[gW (by simp[HYL.out,gy.out])])
   go_wp2;go_ret;exact⟨_,rfl,HF.out⟩
end Go.Proofs.YtkmcengmglgdeaaGreatDoor
