/- Joined texts: Draw, Front, TDraw, DsPut, TDraw2, GraphP, Same, Fwd, NextW, StepsOn, Reach, Count, PermD, StatesNext, FromS. -/
import Derived.Test.YtkmcengmglgdeaaGreatDoorSNum
import Derived.Test.YtkmcengmglgdeaaGreatDoorSBack
import Derived.Test.YtkmcengmglgdeaaGreatDoorSPerm
import Derived.Test.YtkmcengmglgdeaaGreatDoorSPlanForW
import Derived.RegionTactic
import Derived.ChangeAlike
import Derived.Test.YtkmcengmglgdeaaGreatDoorSEq
import Derived.Test.YtkmcengmglgdeaaGreatDoorSPlanW
import Derived.Test.YtkmcengmglgdeaaGreatDoorSPlanForS
import Derived.Test.YtkmcengmglgdeaaGreatDoorSStatesBack

namespace Go.Proofs.YtkmcengmglgdeaaGreatDoor
set_option linter.unusedVariables false
set_option linter.unusedSimpArgs false
set_option maxRecDepth 100000
set_option maxHeartbeats 8000000
open Go.ChangeShapes Go.WideShapes Go.ChangeAt Go.RowKit
def Rdr (w:World) (base g p:Nat):Prop:=base≤g∧p<1099511627776∧∃A n c xs,n≤2000∧iO .u8 w base A n c xs∧iJ w g 125 #[.slice A n c,.int .i64 p]
theorem oV {k:IntKind} {w:World} {B:Nat} {A:Option Addr} {n c:Nat} {xs:List Int} (h:iO k w B A n c xs) (m:Nat) (hm:m≤n):iO k w B A m c (xs.take m):=
 ⟨by rw[List.length_take,h.len];omega,by have:=h.cap;omega,h.bZ,fun x hx=>h.wf x (List.mem_of_mem_take hx),fun hp=>by
  obtain⟨b,off,e,hb,hc⟩:=h.at_ (by omega);refine⟨b,off,e,hb,fun i x hx=>hc i x ?_⟩;rw[List.getElem?_take] at hx
  split at hx
  ·exact hx
  ·cases hx⟩
def adH (n x:Int):Prop:=0≤x∧(1≤n→x<n)∧(n<1→x=0)
def abU (e:Ending):Prop:=∃b:Bool,e= .returned (.bool b)
section
variable {w W W' : World} {L L' : List dW} {R R' : dW}
theorem NW {W:World} {L L':List dW} (h:L.Perm L'):∀Fs:List (List Nat),Fs.length=L.length→(∀(i:Nat) R F,L[i]? =some R→Fs[i]? =some F→R.at_ W F∧∀b∈F,w.heap.size≤b)→
  ∃Gs:List (List Nat),Gs.Perm Fs∧Gs.length=L'.length∧∀(i:Nat) R F,L'[i]? =some R→Gs[i]? =some F→R.at_ W F∧∀b∈F,w.heap.size≤b:=by
 induction h with
 |nil=>intro Fs h1 h2;exact⟨Fs,List.Perm.refl _,h1,h2⟩
 |cons x h ih=>
  intro Fs h1 h2
  match Fs,h1 with
  |F::Fs,h1=>
   obtain⟨Gs,g1,g2,g3⟩:=ih Fs (by simpa using h1) fun i R G hR hG=>h2 (i+1) R G (by simpa using hR) (by simpa using hG)
   refine⟨F::Gs,g1.cons F,by simpa using g2,fun i R G hR hG=>?_⟩
   match i with
   |0=>exact h2 0 R G hR hG
   |i+1=>exact g3 i R G (by simpa using hR) (by simpa using hG)
 |swap x y l=>
  intro Fs h1 h2
  match Fs,h1 with
  |F::G::Fs,h1=>
   refine⟨G::F::Fs,List.Perm.swap ..,by simpa using h1,fun i R H hR hH=>?_⟩
   match i with
   |0=>exact h2 1 R H hR hH
   |1=>exact h2 0 R H hR hH
   |i+2=>exact h2 (i+2) R H hR hH
 |trans _ _ ih1 ih2=>
  intro Fs h1 h2;obtain⟨Gs,g1,g2,g3⟩:=ih1 Fs h1 h2;obtain⟨Hs,k1,k2,k3⟩:=ih2 Gs g2 g3;exact⟨Hs,k1.trans g1,k2,k3⟩
theorem St.perm (h:St w W L) (p:L.Perm L'):St w W L':=by
 obtain⟨Fs,h1,h2,h3⟩:=h.has;obtain⟨Gs,g1,g2,g3⟩:=NW (w:=w) p Fs h1 h2;exact⟨h.below,Gs,g2,g3,(g1.flatten.nodup_iff).2 h3⟩
theorem St.tl (h:St w W (R::L)):St w W L:=by
 obtain⟨Fs,h1,h2,h3⟩:=h.has
 match Fs,h1,h2,h3 with
 |F::Fs,h1,h2,h3=>
  refine⟨h.below,Fs,by simpa using h1,fun i R G hR hG=>h2 (i+1) R G (by simpa using hR) (by simpa using hG),?_⟩;rw[List.flatten_cons,List.nodup_append] at h3;exact h3.2.1
theorem EO {L:List dW}:∀{i:Nat},L[i]? =some R→L.Perm (R::L.eraseIdx i):=by
 induction L with
 |nil=>intro i h;simp at h
 |cons x l ih=>
  intro i h
  match i with
  |0=>simp at h;subst h;exact List.Perm.refl _
  |i+1=>
   simp only[List.getElem?_cons_succ] at h;exact((ih h).cons x).trans (List.Perm.swap ..)
theorem St.bring (h:St w W L) (i:Nat) (hi:L[i]? =some R):St w W (R::L.eraseIdx i):=h.perm (EO hi)
theorem St.rid (h:St w W L) (i:Nat) (hi:L[i]? =some R):St w W (L.eraseIdx i):=(h.bring i hi).tl
theorem St.swap2 {BM Jz:dW} (h:St w W (BM::Jz::L)):St w W (Jz::BM::L):=h.perm (List.Perm.swap ..)
theorem St.abT (h:St w W (R::L)) (k:St W W' [R']):St w W' (R::R'::L):=
 (h.call k).perm (((List.perm_append_comm (l₁:=R::L) (l₂:=[R'])).trans (List.Perm.swap ..)))
theorem St.alloc1 (h:St w W (R::L)) (cs:Array Value) (t:TypeId):St w (W.alloc (.cells cs t)) (R::ah W.heap.size t cs::L):=h.abT (St.new1 W cs t)
theorem Sn.all {M:Nat→Option dW} (h:Sn w W M) (e:∀i,M i=L[i]?):St w W L:=
 h.fO (List.range L.length) List.nodup_range (by
  refine List.ext_getElem (by simp) fun i h1 h2=>?_
  simp only[List.length_map,List.length_range] at h1;simp only[List.getElem_map,List.getElem_range]
  rw[e i,bD h1])
end
def rRd (w0:World) (g hi:Nat):dW where
 at_ W F:=F=[g]∧∃p A n c xs,p≤hi∧n≤2000∧iO .u8 w0 w0.heap.size A n c xs∧iJ W g 125 #[.slice A n c,.int .i64 (p:Nat)]
 keep W W' F h hk:=by
  obtain⟨e,p,A,n,c,xs,h1,h2,h3,h4⟩:=h;exact⟨e,p,A,n,c,xs,h1,h2,h3,(hk g (by rw[e];simp)).trans h4⟩
 lt W F h b hb:=by
  obtain⟨e,p,A,n,c,xs,h1,h2,h3,h4⟩:=h;rw[e] at hb;simp at hb;subst hb;exact h4.lt
 nd W F h:=by rw[h.1];simp
section
variable {w W W' : World} {L L' : List dW}
end
def Dig (xs:List Int):Prop:=∀x∈xs,0≤x∧x≤9
theorem St.lit (w:World) (xs:List Int) (n:Nat) (e:n=xs.length) (hn:xs.length≤1024) (hwf:∀x∈xs,(Lit.int .i64 x).wf=true):
  St w (w.alloc (.cells (Go.Proofs.YtkmcengmglgdeaaGreatDoor.ints xs).toArray 3)) [aA (.slice (some ⟨w.heap.size,0,none⟩) n n) xs]:=
 (St.new1 w (Go.Proofs.YtkmcengmglgdeaaGreatDoor.ints xs).toArray 3).see fun F h _=>BO (xs:=xs) h (by unfold maxLen;omega) hwf e
section
variable {w W W' : World} {L : List dW}
end
def up5 (i:Nat):Nat:=if i<5 then i else i+2
def dn6 (i:Nat):Nat:=if i=0 then 0 else if i<5 then i+1 else if i=5 then 1 else i-1
def dn5 (i:Nat):Nat:=if i<5 then i else i-2
def KG (m:Int) (d:aj):Prop:=d.need.length≤4∧(-m≤d.on∧d.on≤m)∧(-m≤d.off∧d.off≤m)∧(-m≤d.flip∧d.flip≤m)
abbrev adF (d:aj):Prop:=KG 200 d
theorem KG.mono {m m':Int} {d:aj} (h:KG m d) (hm:m≤m'):KG m' d:=by
 obtain⟨h1,h2,h3,h4⟩:=h;exact⟨h1,by omega,by omega,by omega⟩
def adG (t:aB):Prop:=t.goal.length≤6∧t.ax.length≤7∧(-1≤t.start∧t.start≤32)∧∀d∈t.ax,KG 600 d
def cntF:Nat→Nat→Nat
 |0,_=>0
 |f+1,n=>if n=0 then 0 else 1+cntF f (n &&& (n-1))
def jc (n:Nat):Nat:=cntF n n
theorem Ll (f:Nat):∀f' n,n≤f→n≤f'→cntF f n=cntF f' n:=by
 induction f with
 |zero=>intro f' n h _;obtain rfl:n=0:=by omega
        cases f'<;>simp[cntF]
 |succ f ih=>
  intro f' n h h'
  by_cases hn:n=0
  ·subst hn;cases f'<;>simp[cntF]
  ·cases f' with
   |zero=>omega
   |succ f'=>
    have hle:n &&& (n-1)≤n-1:=Nat.and_le_right;rw[cntF,cntF,if_neg hn,if_neg hn,ih f' _ (by omega) (by omega)]
theorem Gt:jc 0=0:=rfl
theorem RJ (n:Nat) (h:0<n):jc n=1+jc (n &&& (n-1)):=by
 unfold jc
 cases n with
 |zero=>omega
 |succ m=>
  have hle:(m+1) &&& (m+1-1)≤m+1-1:=Nat.and_le_right;rw[cntF,if_neg (by omega)];rw[Ll m _ _ (by omega) (ay _)]
theorem qC (n:Nat) (hn:n<4611686018427387904) (w:World):
  Calls Tryz.prog 138 #[.int .i64 n] w fun e w'=>e= .returned (.int .i64 (jc n:Nat))∧w=w':=by
 go_enter Tryz.func138,Tryz.ntmps138;go_wp2
 go_loop [0,3] (fun s p=>∃m k:Nat,m≤n∧k+jc m=jc n∧k+m≤n∧s= .int .i64 m∧p= .int .i64 k) (fun s _=>(intOf s).toNat)
 case atStart=>exact⟨n,0,ay _,by omega,by omega,rfl,rfl⟩
 case round=>
  obtain⟨m,k,hm,hk,hkm,rfl,rfl⟩:=hrel;have HK:=af hk;clear hk
  by_cases hz:0<m
  ·have hle:m &&& (m-1)≤m-1:=Nat.and_le_right;have hx:=jE m (m-1) (by omega) (by omega);have hs:((m-1:Nat):Int)=(m:Int)-1:=by omega
   rw[hs] at hx;have HS:=af (RJ m hz)
   generalize m &&& (m-1)=m' at*
   clear hs;have hne:((m:Int) != 0)=true:=by rw[bne_iff_ne];omega
   go_wp2
   go_round
   case rel=>exact⟨m',k+1,by omega,by have:=HS.out;have:=HK.out;omega,by omega,rfl,by go_num⟩
   case measure=>simp[intOf];omega
  ·obtain rfl:m=0:=by omega
   go_wp2;go_ret;refine⟨aG ?_,rfl⟩
   have:=HK.out
   rw[Gt] at this
   show(k:Int)=_
   omega

def aac (ds:List aj) (S:Nat→Bool):Nat→Nat→Int
 |0,s=>if S s then 0 else -1
 |n+1,s=>if lG ds S n s then aac ds S n s else if kV ds (lG ds S n) s then((n+1:Nat):Int) else -1
def Lh (ds:List aj) (S:Nat→Bool) (s:Nat):Int:=aac ds S 32 s
def uS (ds:List aj) (S:Nat→Bool) (n:Nat):Prop:=∀s,s<32→kV ds (lG ds S n) s=true→lG ds S n s=true
section
variable {ds : List aj} {S : Nat → Bool}
theorem DV {T:Nat→Bool} {s:Nat} (h:∀s',s'<32→S s'=T s'):kV ds S s=kV ds T s:=by
 rw[Bool.eq_iff_iff,yu,yu]
 constructor
 ·rintro⟨s',h1,h2,h3⟩;exact⟨s',h1,by rw[←h s' h1];exact h2,h3⟩
 ·rintro⟨s',h1,h2,h3⟩;exact⟨s',h1,by rw[h s' h1];exact h2,h3⟩
theorem Vd {n s:Nat} (h:lG ds S n s=true):lG ds S (n+1) s=true:=by simp[lG,h]
theorem Oz {n:Nat} (h:uS ds S n) (m:Nat):∀s,s<32→lG ds S (n+m) s=lG ds S n s:=by
 induction m with
 |zero=>intro s _;rfl
 |succ m ih=>
  intro s hs;rw[←Nat.add_assoc];simp only[lG];rw[ih s hs,DV ih]
  cases hb:kV ds (lG ds S n) s with
  |false=>simp
  |true=>rw[h s hs hb];rfl
theorem RF {n:Nat} (h:¬uS ds S n):cnt (lG ds S n) 32<cnt (lG ds S (n+1)) 32:=by
 unfold uS at h
 simp only[Classical.not_forall] at h;obtain⟨s,hs,hb,hl⟩:=h;exact cnt_lt (fun k _=>Vd) hs (by simpa using hl) (by simp[lG,hb])
end
def RG (d:aj) (S m s:Nat):Bool:=(List.range m).any fun s'=>bit S s' == 1&&aX d s' == some s
def qp (ds:List aj) (d:aj) (S m:Nat) (s:Nat):Bool:=kV ds (fD S) s||RG d S m s
theorem Vb (S:Nat→Bool) (s:Nat):kV [] S s=false:=by simp[kV]
theorem OA (ds:List aj) (d:aj) (S:Nat):aN (qp ds d S 0) 32=aN (kV ds (fD S)) 32:=bY fun k _=>by simp[qp,RG]
theorem Gq (d:aj) (S m s:Nat):RG d S (m+1) s=(RG d S m s||(bit S m == 1&&aX d m == some s)):=by
 unfold RG;rw[List.range_succ,List.any_append];simp
theorem Z9 {α:Type} (l:List α) (p q:α→Bool):(l.any fun a=>p a||q a)=(l.any p||l.any q):=by
 induction l with
 |nil=>rfl
 |cons a l ih=>simp only[List.any_cons,ih];cases p a<;>cases q a<;>simp
theorem RH (ds:List aj) (d:aj) (S k:Nat) (h:ds[k]? =some d):aN (qp (ds.take k) d S 32) 32=aN (kV (ds.take (k+1)) (fD S)) 32:=bY fun s hs=>by
 rw[take_succ' h]
 unfold qp RG kV fD
 simp only[List.any_append,List.any_cons,List.any_nil,Bool.or_false,Bool.and_or_distrib_left];rw[Z9]
theorem Lj (ds:List aj) (d:aj) (S m:Nat) (h:bit S m=1→∀s,aX d m=some s→False):aN (qp ds d S (m+1)) 32=aN (qp ds d S m) 32:=bY fun s hs=>by
 unfold qp
 rw[Gq]
 have:(bit S m == 1&&aX d m == some s)=false:=by
  rw[cO];intro hh;simp only[Bool.and_eq_true,beq_iff_eq] at hh;exact h hh.1 s hh.2
 rw[this,Bool.or_false]
theorem RI (ds:List aj) (d:aj) (S m q:Nat) (h:aX d m=some q) (hb:bit S m=1):∀j,j<32→qp ds d S (m+1) j=(qp ds d S m j||decide (q=j)):=fun j hj=>by
 unfold qp
 rw[Gq,h,hb,Bool.or_assoc]
 congr 1
theorem DU (A:Option Addr) (n c:Nat) (ds:List aj) (S:Nat) (w:World) (h:bQ w w.heap.size 32 A n c (ints (xP ds))) (hn:ds.length=n) (hd:∀d∈ds,bJ d=true) (oq:n≤6) (hS:S<4294967296):
  Calls Tryz.prog 193 #[.slice A n c,.int .i64 S] w fun e w'=>e= .returned (.int .i64 (aN (kV ds (fD S)) 32:Nat))∧Below w.heap.size w w':=by
 have HR:=af h;have HL:=af hn;have gU:=af hd;clear h hn hd;go_enter Tryz.func193,Tryz.ntmps193;go_wp2
 go_loopw [12,5] (fun i sv wr=>∃k M:Nat,k≤n∧i= .int .i64 k∧sv= .int .i64 M∧Hid (M=aN (kV (ds.take k) (fD S)) 32)∧Below w.heap.size w wr) (fun i _ _=>n-(intOf i).toNat)
 case atStart=>exact⟨0,0,by omega,rfl,rfl,af (kF.2 fun s _=>Vb _ s).symm,ai _ _⟩
 case round=>
  obtain⟨k,M,hk,rfl,rfl,HM,hbel⟩:=hrel;have HB:=af hbel;clear hbel
  by_cases hlt:k<n
  ·obtain⟨b,off,d,rfl,hb,hdk,hrow⟩:=BB HR.out HL.out hlt;have SS:Hid (∀j v,(rowOf d)[j]? =some v→wr.cell? ⟨b,off+k*32+j,none⟩=some v):=af fun j v hv=>(aC HB.out b _ hb).trans (hrow j v hv)
   have HDK:=af hdk;clear hrow hdk
   go_wp2_with (first
    | (refine gB 108 (.tmp 14) rfl rfl 3 32 oZ b (off+k*32) (rowOf d) rfl (by rw[fM];exact kH) SS.out ?_)
    | (refine jB 108 (.tmp 7) (.tmp 15) rfl rfl _ (rowOf d) rfl rfl (by rw[fM];exact kH) (by rw[fM];rfl) (by simp[rowOf,Value.oneCell']) ?_)
    | (refine gB 108 (.tmp 7) rfl rfl 3 32 oZ wr.heap.size 0 (rowOf d) rfl (by rw[fM];exact kH) (by simp) ?_))
   have Bz:Hid (M=aN (qp (ds.take k) d S 0) 32):=af (HM.out.trans (OA _ _ _).symm);have L8:=af (gU.out d (bU HDK.out));have HB1:Hid (Below w.heap.size w (wr.alloc (.cells (rowOf d).toArray 108))):=af (HB.out.alloc HB.out.size _);have Ae:=af (uz d);have HLEN:=af (fM d)
   generalize rowOf d=R at Ae HLEN HB1 ⊢
   clear SS HM
   go_loopw [17,5] (fun i sv wr=>∃m M:Nat,m≤32∧i= .int .i64 m∧sv= .int .i64 M∧Hid (M=aN (qp (ds.take k) d S m) 32)∧Below w.heap.size w wr) (fun i _ _=>32-(intOf i).toNat)
   case atStart=>exact⟨0,M,by omega,rfl,rfl,Bz,HB1.out⟩
   case round=>
    clear Bz HB1 HB;obtain⟨m,M1,wQ,rfl,rfl,HM,hbel⟩:=hrel;have HB:=af hbel;clear hbel
    by_cases hm:m<32
    ·obtain⟨o,ho⟩:∃o,aX d m=o:=⟨_,rfl⟩;have hix:=Ae.out m hm;rw[ho] at hix;have O9:=fun w=>qA (P:=Tryz.prog) (w:=w) (xs:=R) (k:=m) (v:=.int .i64 (opt o)) oZ hix HLEN.out Ij Tryz.underlying3
     have HO:=af ho;clear ho
     cases o with
     |none=>
      have gY:Hid (M1=aN (qp (ds.take k) d S (m+1)) 32):=af (HM.out.trans (Lj _ d S m (by rw[HO.out];exact fun _ _ h=>by cases h)).symm);simp only[opt] at O9;go_wp2
      go_roundw
      case rel=>exact⟨m+1,M1,by omega,by go_num,rfl,gY,HB.out⟩
      case measure=>simp[intOf];omega
     |some q=>
      have hq:=gu d m q L8.out hm HO.out;have hbit:=and_one S m (by omega);simp only[opt] at O9
      by_cases hs1:bit S m=1
      ·rw[hs1] at hbit;have hpw:=lg q (by omega);have hor:=zn hq HM.out (RI (ds.take k) d S m q HO.out hs1);clear hs1;go_wp2
       go_roundw
       case rel=>exact⟨m+1,_,by omega,by go_num,rfl,af rfl,HB.out⟩
       case measure=>simp[intOf];omega
      ·have hs0:bit S m=0:=by have:=jI S m;omega
       rw[hs0] at hbit;have gY:Hid (M1=aN (qp (ds.take k) d S (m+1)) 32):=af (HM.out.trans (Lj _ d S m (fun h _ _=>absurd (hs0.symm.trans h) (by decide))).symm);clear hs1 hs0;go_wp2
       go_roundw
       case rel=>exact⟨m+1,M1,by omega,by go_num,rfl,gY,HB.out⟩
       case measure=>simp[intOf];omega
    ·have gY:Hid (M1=aN (kV (ds.take (k+1)) (fD S)) 32):=af (by rw[HM.out,show m=32 by omega];exact RH ds d S k HDK.out);go_wp2
     go_roundw
     case rel=>exact⟨k+1,M1,by omega,by go_num,rfl,gY,HB.out⟩
     case measure=>simp[intOf];omega
  ·have HF:Hid (M=aN (kV ds (fD S)) 32):=af (by
    rw[HM.out,dJ (by rw[HL.out];omega)])
   go_wp2;go_ret;exact⟨aG (by rw[HF.out]),HB.out⟩
def only (s0:Nat):Nat→Bool:=fun s=>decide (s0=s)
theorem Gp {s0:Nat} (h:s0<32):aN (only s0) 32=2^s0:=by
 have:=qg (fun _=>false) 32 s0 h
 rw[show aN (fun _=>false) 32=0 from kF.2 fun _ _=>rfl,Nat.zero_or] at this;rw[this];exact bY fun k _=>by simp[only]
def abX (ds:List aj) (p:Nat→Bool):List Int:=(List.range 32).map (Lh ds p)
theorem PU {ds:List aj} (p:Nat→Bool):aN (kV ds (fD (aN p 32))) 32=aN (kV ds p) 32:=bY fun s hs=>DV (FX p)
def Z8 (ds:List aj) (p:Nat→Bool) (m:Nat):Nat→Bool:=fun s=>kV ds (lG ds p m) s&& !lG ds p m s
def reached (t:aB):Int:=if aK t then(aN (lG t.ax (only t.start.toNat) 32) 32:Nat) else -1
theorem Oy (t:aB) (h:aK t=false):reached t= -1:=if_neg (by rw[h];simp)
theorem Ld (t:aB) (h:aK t=true) (s:Nat) (hs:t.start=(s:Int)):reached t=(aN (lG t.ax (only s) 32) 32:Nat):=by unfold reached;rw[if_pos h,hs,dD]
def leadsTo (t:aB):Int:=if aK t then(aN (layer t.ax (aH t.goal) 32) 32:Nat) else -1
def ZX (t:aB):List Int:=if aK t then eP t.ax (aH t.goal) else []
def aay (t:aB):List Int:=if aK t then abX t.ax (only t.start.toNat) else []
theorem ZY {ds:List aj} {p:Nat→Bool} {m M N:Nat} (hM:M=aN (lG ds p m) 32) (hN:N=aN (kV ds (lG ds p m)) 32):bits .or .i64 (M:Int) (N:Int)=((aN (lG ds p (m+1)) 32:Nat):Int):=by
 have h1:=cZ (lG ds p m);have h2:=cZ (kV ds (lG ds p m));rw[qZ _ _ (by omega) (by omega),hM,hN,Bq];rfl
theorem Va {ds:List aj} {p:Nat→Bool} {m:Nat}:aN (lG ds p m) 32≤aN (lG ds p (m+1)) 32:=by
 have:aN (lG ds p (m+1)) 32=aN (lG ds p m) 32 ||| aN (kV ds (lG ds p m)) 32:=by rw[Bq];rfl
 rw[this];exact Nat.left_le_or
theorem PS {ds:List aj} {p:Nat→Bool} {m:Nat} (hm:m≤32) (h:aN (lG ds p (m+1)) 32=aN (lG ds p m) 32):aN (lG ds p m) 32=aN (lG ds p 32) 32:=by
 have hf:uS ds p m:=fun s hs hb=>by
  have:=JL h s hs
  rw[←this];simp[lG,hb]
 exact bY fun s hs=>by
  have:=Oz hf (32-m) s hs
  rwa[show m+(32-m)=32 by omega,eq_comm] at this
theorem Le {ds:List aj} {p:Nat→Bool} {m:Nat} (h:aN (lG ds p (m+1)) 32≠aN (lG ds p m) 32) (hc:m≤cnt (lG ds p m) 32):m+1≤cnt (lG ds p (m+1)) 32:=by
 have hf:¬uS ds p m:=fun hf=>h (bY fun s hs=>by
  simp only[lG]
  cases hb:kV ds (lG ds p m) s with
  |false=>simp
  |true=>rw[hf s hs hb];rfl)
 have:=RF hf;omega
def acy (d:aj) (s:Int):Int:=if bJ d=true∧ig s=true then opt (aX d s.toNat) else -1
theorem I8 (v:Value) (t:aB) (w:World) (h:nI w w.heap.size v t):
  Calls Tryz.prog 167 #[v] w fun e w'=>e= .returned (.int .i64 (reached t))∧Below w.heap.size w w':=by
 have h':=h;obtain⟨G,gn,gc,G',n',c',rfl,hg,hgs,hds,hst⟩:=h;have S0:=(St.refl w).alloc #[.int .i64 t.start,.slice G gn gc,.slice G' n' c'] 26;have HT:=af h';have HG:=af hg;have aQ:=af S0;have fF:=af hds.len;clear S0 h' hg hds;obtain⟨bo,hok⟩:∃b,aK t=b:=⟨_,rfl⟩;have bC:=af hok;clear hok
 cases bo with
 |false=>
  have Nj:=Bx.mk (Oy t bC.out);go_enter Tryz.func167,Tryz.ntmps167
  go_wp2_with fail
  refine(bV _ t _ (HT.out.up aQ.out.below)).mono ?_;rw[bC.out];rintro e w1 ⟨rfl,hb1⟩;have HB:=af (aQ.out.quiet hb1).below;clear hb1;go_wp2;go_ret;exact⟨aG Nj.out.symm,HB.out⟩
 |true=>
  obtain⟨hs0,pV,oq,iq⟩:=aJ t bC.out;obtain⟨s0,xJ⟩:=bI hs0.1;have gU:=af iq;have Ug:=af pV;have lQ:s0<32:=by omega
  have Z4:=lg s0 (by omega);have Z5:IntKind.i64.wrap ((2:Int)^s0)=2^s0:=IntWalk.i64_in _ (by have:=oO s0 31 (by omega);have:(0:Int)<2^s0:=Int.pow_pos (by omega);omega);have Nu:=Bx.mk (fQ t.goal Ug.out);have xK:n'≤6:=by rw[←fF.out];exact oq
  have Ub:=Bx.mk (Ld t bC.out s0 xJ);rw[xJ] at aQ ⊢
  clear iq pV hs0 oq;go_enter Tryz.func167,Tryz.ntmps167
  go_wp2_with fail
  refine(bV _ t _ (by rw[←xJ];rw[←xJ] at aQ;exact HT.out.up aQ.out.below)).mono ?_;rw[bC.out];rintro e w1 ⟨rfl,hb1⟩;have WT:=Bx.mk xJ;have bG:=af (aQ.out.quiet hb1);clear hb1 aQ
  go_upto_region 3 with(fail)
  refine kS (σ:=Value)
   (fun s i=>match i with
    |0=>.agg #[.int .i64 s0,.slice G gn gc,.slice G' n' c']
    |1=>s
    |2=>.pointer (some ⟨w.heap.size,0,none⟩)
    |3=>.int .i64 s0
    |4=>.int .i64 (2^s0)
    |5=>s
    |6=>.int .i64 (2^s0)
    |_=>undef)
   (fun D s wx=>Sn w wx fun i=>match i with
    |0=>some (ah w.heap.size 26 #[.int .i64 s0,.slice G gn gc,.slice G' n' c'])
    |1=>if D 1=true then some (ou s t.ax) else none
    |_=>none)
   undef ?_ ?_ ?_
  ·intro D hD;refine((Sn.eY bG.out).quiet ((ai _ _).drew)).congr fun i=>?_
   match i with
   |0=>rfl
   |1=>exact if_neg (by rw[hD 1 (by decide)];simp)
   |q+2=>rfl
  ·refine Cs (fun D s wx hR _ hd _ _ hs K hK=>?_) ?_
   ·have e1:=hs.o 1 (.pointer (some ⟨w.heap.size,0,none⟩));clear hs;have qk:=(hR.blk 0 rfl).cell;go_simp;exact hK s wx sv hR
   refine Cs (fun D s wx hR (hDi:D 1=false) hd hsh _ hs K hK=>?_) ?_
   ·have e9:=hs.v 0 9 hd;have g9:=aZ e9;clear hs;have n5:D 5=false:=hsh.no hDi 5 rfl ⟨1,.data⟩ (by simp) rfl rfl;go_simp;refine(qB _ t _ (by have:=HT.out.up hR.below;rw[WT.out] at this;exact this) bC.out).mono ?_;rintro e2 w2 ⟨v2,rfl,s2⟩
    refine hK v2 w2
     (fun j hj=>by
      match j,hj with
      |0,hj=>rfl
      |1,hj=>rw[hDi] at hj;cases hj
      |2,hj | 3,hj | 4,hj=>rfl
      |5,hj=>rw[n5] at hj;cases hj
      |6,hj=>rfl
      |_+7,hj=>rfl)
     ((hR.add 1 (if_neg (by rw[hDi];simp)) s2).congr
      (fun i=>by
       match i with
       |0 | 1=>rfl
       |q+2=>exact(if_neg (show¬(q+2=1) by omega)).symm))
   refine Cs (fun D s wx hR _ hd _ _ hs K hK=>?_) ?_
   ·have e1:=hs.o 1 (.pointer (some ⟨w.heap.size,0,none⟩));clear hs;go_simp;exact hK s wx sv hR
   refine Cs (fun D s wx hR _ hd _ _ hs K hK=>?_) ?_
   ·have e11:=hs.v 2 11 hd;clear hs;have qk:=(hR.blk 0 rfl).cell;go_simp;exact hK s wx sv hR
   refine Cs (fun D s wx hR _ hd _ _ hs K hK=>?_) ?_
   ·have e12:=hs.v 3 12 hd;clear hs;go_simp;exact hK s wx sv hR
   refine Cs (fun D s wx hR _ hd _ _ hs K hK=>?_) ?_
   ·have e10:=hs.v 1 10 hd;clear hs;go_simp;exact hK s wx sv hR
   refine Cs (fun D s wx hR _ hd _ _ hs K hK=>?_) ?_
   ·have e13:=hs.v 4 13 hd;clear hs;go_simp;exact hK s wx sv hR
   exact au.nil
  ·intro D s wx hR hD;simp only[eG,Act.put,aO,aS,aV];have HS2:Hid (St w wx [ah w.heap.size 26 #[.int .i64 s0,.slice G gn gc,.slice G' n' c'],ou s t.ax]):=af (hR.fO [0,1] (by decide) (by simp only[List.map,hD 1 (by decide)];rfl));clear hR hD;obtain⟨RA,RC,X4,-⟩:=HS2.out.lT 1 rfl;rw[fF.out] at X4;subst X4;have X5:Hid (∀W L,St w W (ah w.heap.size 26 #[.int .i64 s0,.slice G gn gc,.slice G' n' c']::ou (.slice RA n' RC) t.ax::L)→bQ W W.heap.size 32 RA n' RC (ints (xP t.ax))):=af fun W L h=>h.Io (n:=n') 1 (by rw[←fF.out];rfl)
   have hP0:(2:Int)^s0=((aN (lG t.ax (only s0) 0) 32:Nat):Int):=by
    rw[show aN (lG t.ax (only s0) 0) 32=aN (only s0) 32 from rfl,Gp lQ];simp
   rw[hP0];clear hP0 Z4 Z5;go_wp2
   go_loopw [4] (fun sv wr=>∃m M:Nat,m≤32∧sv= .int .i64 M∧Bx (M=aN (lG t.ax (only s0) m) 32)∧Bx (m≤cnt (lG t.ax (only s0) m) 32)∧M<4294967296∧St w wr [ah w.heap.size 26 #[.int .i64 s0,.slice G gn gc,.slice G' n' c'],ou (.slice RA n' RC) t.ax]) (fun sv _=>4294967296-(intOf sv).toNat)
   case atStart=>exact⟨0,_,by omega,rfl,Bx.mk rfl,Bx.mk (Nat.zero_le _),cZ _,HS2.out⟩
   case round=>
    clear HS2;obtain⟨m,M,hm,rfl,HM,HC,hM,S⟩:=hrel;have HS:=af S;clear S
    go_wp2_with fail
    refine(DU RA n' RC t.ax M _ (X5.out _ _ HS.out) fF.out gU.out xK hM).mono ?_;obtain⟨N,hN⟩:∃N,aN (kV t.ax (fD M)) 32=N:=⟨_,rfl⟩;obtain⟨M2,hM2⟩:∃M2,aN (lG t.ax (only s0) (m+1)) 32=M2:=⟨_,rfl⟩;have XY:bits .or .i64 (M:Int) (N:Int)=(M2:Int):=by rw[ZY HM.out (by rw[←hN,HM.out];exact PU _),hM2]
    have hle:M≤M2:=by rw[←hM2,HM.out];exact Va
    have Z7:M2<4294967296:=by rw[←hM2];exact cZ _
    have gY:=Bx.mk hM2;rw[hN];rintro e w3 ⟨rfl,hb3⟩;have dV:=af (HS.out.quiet hb3);clear hb3 hN hM2
    by_cases he:M2=M
    ·have HF:Bx (aN (lG t.ax (only s0) m) 32=aN (lG t.ax (only s0) 32) 32):=Bx.mk (PS hm (by rw[gY.out,←HM.out];exact he));subst he;go_wp2;go_ret;exact⟨aG (by rw[Ub.out,←HF.out,←HM.out]),dV.out.below⟩
    ·have hne:((M2:Int) == (M:Int))=false:=by simp;omega
     have HC2:Bx (m+1≤cnt (lG t.ax (only s0) (m+1)) 32):=Bx.mk (Le (by rw[gY.out,←HM.out];exact he) HC.out);have hm2:m+1≤32:=by have:=cnt_le (lG t.ax (only s0) (m+1)) 32;have:=HC2.out;omega
     have hlt:M<M2:=by omega
     clear he hle;go_wp2
     go_roundw
     case rel=>exact⟨m+1,M2,hm2,rfl,Bx.mk gY.out.symm,HC2,Z7,dV.out⟩
     case measure=>simp[intOf];omega
def aad:Nat→(Nat→Int)→Int
 |0,_=>0
 |n+1,f=>aad n f+f n
def aae {α:Type} (l:List α) (f:α→Int):Int:=(l.map f).sum
def fwN (ds:List aj) (s0:Nat):Nat→Nat→Int
 |0,s=>if s=s0 then 1 else 0
 |n+1,s=>aad 32 fun s'=>aae ds fun d=>if aX d s'=some s then fwN ds s0 n s' else 0
section
variable {ds : List aj} {S : Nat → Bool} {s0 : Nat}
end
def wrap (x:Int):Int:=(x+9223372036854775808)%18446744073709551616-9223372036854775808
def addN (ds:List aj) (s0 k:Nat) (s' s:Nat) (d:aj):Int:=if Lh ds (only s0) s'=(k:Int)∧aX d s'=some s then fwN ds s0 k s' else 0
def abZ (ds:List aj) (s0 k st j s:Nat):Int:=aad st (fun s'=>aae ds (addN ds s0 k s' s))+aae (ds.take j) (addN ds s0 k st s)
def aeu (ds:List aj) (s0 k st j s:Nat):Int:=
 if Lh ds (only s0) s=((k+1:Nat):Int) then wrap (abZ ds s0 k st j s) else if 0≤Lh ds (only s0) s∧Lh ds (only s0) s≤k then wrap (fwN ds s0 (Lh ds (only s0) s).toNat s) else 0
section
variable {ds : List aj} {S : Nat → Bool} {s0 : Nat}
end
theorem IE {w:World} {base:Nat} {e:TypeId} {A:Option Addr} {n c m:Nat} {xs:List Value} (h:w.ownsRow base e 1 (.slice A n c) n xs) (hm:m≤n):w.ownsRow base e 1 (.slice A m c) m (xs.take m):=by
 obtain⟨h1,h2⟩:=h;refine⟨by rw[List.length_take,h1];omega,?_⟩
 rcases h2 with⟨hv,hn⟩ | ⟨g,cap,cur,hv,hb,hg,h3,h4,h5,h6⟩
 ·simp only[Value.slice.injEq] at hv;obtain⟨rfl,rfl,rfl⟩:=hv;obtain rfl:m=0:=by omega
  exact .inl ⟨rfl,rfl⟩
 ·simp only[Value.slice.injEq] at hv;obtain⟨rfl,-,rfl⟩:=hv;refine .inr ⟨g,c,cur,rfl,hb,hg,by omega,h4,h5,?_⟩;rw[←h6,List.take_take]
  congr 1
  omega
theorem iO.ZJ {k:IntKind} {w:World} {B g n c:Nat} {xs:List Int} (h:iO k w B (some ⟨g,0,none⟩) n c xs) (m:Nat) (hm:m≤n):iO k w B (some ⟨g,m,none⟩) (n-m) (c-m) (xs.drop m):=by
 refine⟨by rw[List.length_drop,h.len],by have:=h.cap;omega,by have:=h.bZ;omega,fun x hx=>h.wf x (List.mem_of_mem_drop hx),fun hp=>?_⟩;obtain⟨b,off,e,hb,hc⟩:=h.at_ (by omega);simp only[Option.some.injEq,Addr.mk.injEq,and_true] at e;obtain⟨rfl,rfl⟩:=e;refine⟨_,_,rfl,hb,fun i x hx=>?_⟩;rw[List.getElem?_drop] at hx
 have:=hc (m+i) x hx
 simpa[Nat.zero_add] using this
def zF (ds:List aj) (S m s:Nat):Bool:=(List.range m).any fun s'=>fD S s'&&ds.any fun d=>aX d s' == some s
def vT (ds:List aj) (S m k s:Nat):Bool:=zF ds S m s||(fD S m&&(ds.take k).any fun d=>aX d m == some s)
theorem aaf (ds:List aj) (S:Nat):aN (zF ds S 0) 32=0:=kF.2 fun s _=>by simp[zF]
theorem Ve (ds:List aj) (S:Nat):aN (zF ds S 32) 32=aN (kV ds (fD S)) 32:=rfl
theorem Gu (ds:List aj) (S m s:Nat):zF ds S (m+1) s=(zF ds S m s||(fD S m&&ds.any fun d=>aX d m == some s)):=by
 unfold zF
 rw[List.range_succ,List.any_append]
 simp
theorem RP (ds:List aj) (S m:Nat):aN (vT ds S m 0) 32=aN (zF ds S m) 32:=bY fun s _=>by simp[vT]
theorem Vf (ds:List aj) (S m k:Nat) (hk:ds.length≤k):aN (vT ds S m k) 32=aN (zF ds S (m+1)) 32:=bY fun s _=>by
 unfold vT;rw[Gu,dJ hk]
theorem Vg (ds:List aj) (S m k:Nat) (h:fD S m=false):aN (vT ds S m k) 32=aN (zF ds S (m+1)) 32:=bY fun s _=>by
 unfold vT;rw[Gu,h];rfl
theorem Xc (ds:List aj) (S m k:Nat) (d:aj) (h:ds[k]? =some d) (hh:aX d m=none):aN (vT ds S m (k+1)) 32=aN (vT ds S m k) 32:=bY fun s _=>by
 unfold vT
 rw[take_succ' h,List.any_append]
 simp[hh]
theorem Vh (ds:List aj) (S m k q:Nat) (d:aj) (h:ds[k]? =some d) (hh:aX d m=some q) (hS:fD S m=true):∀s,s<32→vT ds S m (k+1) s=(vT ds S m k s||decide (q=s)):=fun s _=>by
 unfold vT
 have e:(some q == some s)=decide (q=s):=by rw[Bool.eq_iff_iff];simp
 rw[take_succ' h,List.any_append,hS];simp only[List.any_cons,List.any_nil,Bool.or_false,hh,Bool.true_and,Bool.or_assoc,e]
theorem sU (v:Value) (t:aB) (S:Nat) (w:World) (h:nI w w.heap.size v t) (hok:aK t=true) (hS:S<4294967296):
  Calls Tryz.prog 160 #[v,.int .i64 S] w fun e w'=>e= .returned (.int .i64 (aN (kV t.ax (fD S)) 32:Nat))∧Below w.heap.size w w':=by
 have h':=h;obtain⟨G,gn,gc,G',n',c',rfl,hg,hgs,hds,hst⟩:=h;have S0:=(St.refl w).alloc #[.int .i64 t.start,.slice G gn gc,.slice G' n' c'] 26;have HT:=af (h'.up S0.below);have aQ:=af S0;have bC:=af hok;have fF:=af hds.len;have yM:=af hds;obtain⟨-,-,oq,iq⟩:=aJ t hok;have gU:=af iq;have xK:n'≤6:=by rw[←hds.len];exact oq
 obtain⟨B,hB⟩:∃B,aN (kV t.ax (fD S)) 32=B:=⟨_,rfl⟩;have HB:=Bx.mk hB;rw[hB];clear S0 h' hok hds oq iq hB hg;go_enter Tryz.func160,Tryz.ntmps160
 go_wp2_with fail
 refine(bP _ t _ HT.out).mono ?_;rw[bC.out];rintro e w1 ⟨rfl,hb1⟩;have bG:=af (aQ.out.quiet hb1);clear hb1
 go_wp2_with fail
 refine(fB (S:Int) 0 4294967295 _ (by omega) (by omega)).mono ?_;rintro e w2 ⟨rfl,rfl⟩;go_wp2
 go_loopw [6,5] (fun i sv wr=>∃m M:Nat,m≤32∧i= .int .i64 m∧sv= .int .i64 M∧Bx (M=aN (zF t.ax S m) 32)∧St w wr [ah w.heap.size 26 #[.int .i64 t.start,.slice G gn gc,.slice G' n' c']]) (fun i _ _=>32-(intOf i).toNat)
 case atStart=>exact⟨0,0,by omega,rfl,rfl,Bx.mk (aaf _ _).symm,bG.out⟩
 case round=>
  obtain⟨m,M,hm,rfl,rfl,HM,MM⟩:=hrel;have rV:=af MM;clear MM
  by_cases hlt:m<32
  ·have Bz:Bx (M=aN (vT t.ax S m 0) 32):=Bx.mk (HM.out.trans (RP _ _ _).symm);clear HM;go_wp2
   try generalize decide ((m:Int)<32)=dm
   go_loopw [7,5] (fun i sv wr=>∃k M:Nat,k≤n'∧i= .int .i64 k∧sv= .int .i64 M∧Bx (M=aN (vT t.ax S m k) 32)∧St w wr [ah w.heap.size 26 #[.int .i64 t.start,.slice G gn gc,.slice G' n' c']]) (fun i _ _=>n'-(intOf i).toNat)
   case atStart=>exact⟨0,M,by omega,rfl,rfl,Bz,rV.out⟩
   case round=>
    clear Bz rV;obtain⟨k,M1,hk,rfl,rfl,HM,MM⟩:=hrel;have q0:=MM.cells 0 rfl;have rV:=af MM;clear MM
    by_cases hkn:k<n'
    ·by_cases hs1:bit S m=1
     case neg=>
      have hs0:bit S m=0:=by have:=jI S m;omega
      have gY:Bx (M1=aN (zF t.ax S (m+1)) 32):=Bx.mk (HM.out.trans (Vg _ _ _ _ (by unfold fD;rw[hs0];rfl)))
      go_wp2_with fail
      refine(jO S m (by omega) _).mono ?_;rw[hs0];rintro e w4 ⟨rfl,rfl⟩;clear hs1 hs0;go_wp2
      go_roundw
      case rel=>exact⟨m+1,M1,by omega,by go_num,rfl,gY,rV.out⟩
      case measure=>simp[intOf];omega
     obtain⟨b,off,d,rfl,hb,hd,hda⟩:=yM.out.get hkn;obtain⟨An,nn,cn,p0,p1,p2,p3,bW,hnn,-⟩:=hda;have r0:wr.cell? ⟨b,off+k*4,none⟩=some (.slice An nn cn):=(aC rV.out.below b _ hb).trans p0;have r1:wr.cell? ⟨b,off+k*4+1,none⟩=some (.int .i64 d.on):=(aC rV.out.below b _ hb).trans p1;have r2:wr.cell? ⟨b,off+k*4+2,none⟩=some (.int .i64 d.off):=(aC rV.out.below b _ hb).trans p2;have r3:wr.cell? ⟨b,off+k*4+3,none⟩=some (.int .i64 d.flip):=(aC rV.out.below b _ hb).trans p3;have HDK:=af (gU.out d (bU hd));have HD0:=af hd;have J8:=af bW;obtain⟨o,ho⟩:∃o,aX d m=o:=⟨_,rfl⟩;have HO:=af ho;have Me:Bx (fD S m=true):=Bx.mk (by unfold fD;rw[hs1];rfl);clear p0 p1 p2 p3 bW hd ho
     go_wp2_with fail
     refine(jO S m (by omega) _).mono ?_;rw[hs1];rintro e w4 ⟨rfl,rfl⟩;clear hs1
     go_wp2_with fail
     refine(um An nn cn d m _ (J8.out.up rV.out.below) HDK.out hlt).mono ?_;rw[HO.out];rintro e w3 ⟨rfl,hb3⟩;have BA:=af (rV.out.quiet hb3);clear hb3 q0 r0 r1 r2 r3
     cases o with
     |none=>
      have gY:Bx (M1=aN (vT t.ax S m (k+1)) 32):=Bx.mk (HM.out.trans (Xc _ _ _ _ d HD0.out HO.out).symm);simp only[opt];go_wp2
      go_roundw
      case rel=>exact⟨k+1,M1,by omega,by go_num,rfl,gY,BA.out⟩
      case measure=>simp[intOf];omega
     |some q=>
      have hq:=gu d m q HDK.out hlt HO.out;simp only[opt];have hpw:=lg q (by omega);obtain⟨hp0,hp1⟩:=CY hq;obtain⟨M2,hM2⟩:∃M2,aN (vT t.ax S m (k+1)) 32=M2:=⟨_,rfl⟩
      have XY:Bx ((((M1:Int).toNat ||| ((2:Int)^q).toNat:Nat):Int)=(M2:Int)):=Bx.mk (by
       rw[←hM2]
       exact vW hq HM.out (Vh t.ax S m k q d HD0.out HO.out Me.out))
      have gY:=Bx.mk hM2.symm;have hM1:M1<4294967296:=by rw[HM.out];exact cZ _
      clear hM2
      go_wp2_with fail
      refine(nZ (M1:Int) (2^q) (by omega) (by omega) (by omega) (by omega) _).mono ?_;rw[XY.out];rintro e w5 ⟨rfl,rfl⟩;clear hp0 hp1 hM1 hpw;go_wp2
      go_roundw
      case rel=>exact⟨k+1,M2,by omega,by go_num,rfl,gY,BA.out⟩
      case measure=>simp[intOf];omega
    ·have gY:Bx (M1=aN (zF t.ax S (m+1)) 32):=Bx.mk (HM.out.trans (Vf _ _ _ _ (by rw[fF.out];omega)));go_wp2
     go_roundw
     case rel=>exact⟨m+1,M1,by omega,by go_num,rfl,gY,rV.out⟩
     case measure=>simp[intOf];omega
  ·have HF:Bx (M=B):=Bx.mk (by rw[HM.out,show m=32 by omega,Ve,HB.out]);go_wp2;go_ret;exact⟨aG (by rw[HF.out]),rV.out.below⟩
def newF (ds:List aj) (p:Nat→Bool):Nat→Nat→Bool
 |0,s=>p s
 |m+1,s=>Z8 ds p m s
def afy (ds:List aj) (p:Nat→Bool):Nat→Nat→Int
 |0,_=>-1
 |m+1,s=>aac ds p m s
end Go.Proofs.YtkmcengmglgdeaaGreatDoor
