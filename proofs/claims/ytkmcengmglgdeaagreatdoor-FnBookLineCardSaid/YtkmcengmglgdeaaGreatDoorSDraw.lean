/- Joined texts: Draw, Front, TDraw, DsPut. -/
import Derived.Test.YtkmcengmglgdeaaGreatDoorSNum
import Derived.Test.YtkmcengmglgdeaaGreatDoorSBack
import Derived.Test.YtkmcengmglgdeaaGreatDoorSPerm

namespace Go.Proofs.YtkmcengmglgdeaaGreatDoor
set_option linter.unusedVariables false
set_option linter.unusedSimpArgs false
set_option maxRecDepth 100000
set_option maxHeartbeats 8000000
open Go.ChangeShapes Go.WideShapes Go.ChangeAt Go.RowKit
def XB (w:World) (base g p:Nat):Prop:=base≤g∧p<1099511627776∧∃A n c xs,n≤2000∧jd .u8 w base A n c xs∧fU w g 125 #[.slice A n c,.int .i64 p]
theorem lW {k:IntKind} {w:World} {B:Nat} {A:Option Addr} {n c:Nat} {xs:List Int} (h:jd k w B A n c xs) (m:Nat) (hm:m≤n):jd k w B A m c (xs.take m):=
 ⟨by rw[List.length_take,h.len];omega,by have:=h.cap;omega,h.dw,fun x hx=>h.wf x (List.mem_of_mem_take hx),fun hp=>by
  obtain⟨b,off,e,hb,hc⟩:=h.at_ (by omega);refine⟨b,off,e,hb,fun i x hx=>hc i x ?_⟩;rw[List.getElem?_take] at hx
  split at hx
  ·exact hx
  ·cases hx⟩
theorem Zr (A:Option Addr) (n c:Nat) (xs:List Int) (w:World) (h:jd .u8 w w.heap.size A n c xs):
  Calls Tryz.prog 41 #[.slice A n c] w fun e w'=>e= .returned (.pointer (some ⟨w.heap.size,0,none⟩))∧Below w.heap.size w w'∧XB w' w.heap.size w.heap.size 0∧w'.heap.size=w.heap.size+1:=by
 have hn:=h.cap;have hm:=h.dw
 unfold maxLen at hm
 by_cases hb:2000<n
 ·go_enter Tryz.func41,Tryz.ntmps41;go_wp2;go_ret;have hbel:Below w.heap.size w (w.alloc (Obj.cells #[Value.slice A 2000 c,Value.int IntKind.i64 0] 125)):=(ai _ _).alloc (aA _) _;exact⟨rfl,hbel,⟨aA _,by omega,A,2000,c,xs.take 2000,by omega,(lW h 2000 (by omega)).below hbel,fU.new _ _ _⟩,by simp⟩
 ·go_enter Tryz.func41,Tryz.ntmps41;go_wp2;go_ret;have hbel:Below w.heap.size w (w.alloc (Obj.cells #[Value.slice A n c,Value.int IntKind.i64 0] 125)):=(ai _ _).alloc (aA _) _;exact⟨rfl,hbel,⟨aA _,by omega,A,n,c,xs,by omega,h.below hbel,fU.new _ _ _⟩,by simp⟩
theorem Vr {w:World} {base g p n c:Nat} {A:Option Addr} {xs:List Int} (hg:base≤g) (hp:p+1<1099511627776) (hn:n≤2000) (hr:jd .u8 w base A n c xs)
  (hk:fU w g 125 #[.slice A n c,.int .i64 p]) (q:Nat):
  w.grownBy ((w.setCell ⟨g,1,none⟩ (.int .i64 (p+1:Nat))).drewN q) (some g)∧XB ((w.setCell ⟨g,1,none⟩ (.int .i64 (p+1:Nat))).drewN q) base g (p+1):=
 ⟨grown_drewN (Dy _ _ _ _) _,hg,hp,A,n,c,xs,hn,(hr.keep (w':=(w.setCell ⟨g,1,none⟩ (.int .i64 (p+1:Nat))).drewN q) fun b o hb=>by
  show(w.setCell _ _).cell? _=_
  exact World.cell?_setCell_other _ _ _ _ (fun e=>by cases e;omega)),(hk.nM 1 _).drewN q⟩
def Ji (n x:Int):Prop:=0≤x∧(1≤n→x<n)∧(n<1→x=0)
theorem Vs (X m:Int) (h0:0≤X) (h1:X<4611686018427387904) (hm:1≤m):Ji m ((bits BinOp.xor IntKind.i64 X (X/64)).tmod m):=by
 obtain⟨t,rfl⟩:=bC h0;have e:((t:Int)/64)=((t/64:Nat):Int):=by omega
 rw[e,AX _ _ (by omega) (by omega),Int.tmod_eq_emod_of_nonneg (by omega)];exact⟨Int.emod_nonneg _ (by omega),fun _=>Int.emod_lt_of_pos _ (by omega),by omega⟩
theorem pick_any (g base p:Nat) (m:Int) (w:World) (h:XB w base g p) (hp:p+1<1099511627776):
  Calls Tryz.prog 43 #[.pointer (some ⟨g,0,none⟩),.int .i64 m] w fun e w'=>(∃x,e= .returned (.int .i64 x)∧Ji m x)∧w.grownBy w' (some g)∧XB w' base g (p+1):=by
 obtain⟨hg,_,A,n,c,xs,hn,hr,hk⟩:=h;have HN:=af fun q=>Vr hg hp hn hr hk q
 have c0:w.cell? ⟨g,0,none⟩=some (.slice A n c):=hk.cell 0;have c1:w.cell? ⟨g,1,none⟩=some (.int .i64 p):=hk.cell 1;have f1:w.frozen? ⟨g,1,none⟩=false:=hk.frozen 1
 by_cases hm:m<1
 ·go_enter Tryz.func43,Tryz.ntmps43;go_wp2;go_ret;exact⟨⟨0,rfl,by omega,by omega,fun _=>rfl⟩,HN.out 0⟩
 by_cases hz:n=0
 ·subst hz;go_enter Tryz.func43,Tryz.ntmps43;go_wp2;go_ret;exact⟨⟨0,rfl,by omega,by omega,fun _=>rfl⟩,HN.out 0⟩
 have hz':((n:Int) == 0)=false:=by simpa using hz
 by_cases hlt:p<n
 ·obtain⟨b,off,x,rfl,hb,hx,hw,hc⟩:=hr.get hlt;have hne:b≠g:=by omega
  have hx2:=wf_u8 hw;obtain⟨x0,x1⟩:=hx2
  have hc':∀v,(w.setCell ⟨g,1,none⟩ v).cell? ⟨b,off+p,none⟩=some (.int .u8 x):=fun v=>by
   rw[World.cell?_setCell_other _ _ _ _ (fun e=>hne (congrArg Addr.block e).symm)];exact hc
  clear hx hw;go_enter Tryz.func43,Tryz.ntmps43;go_wp2;go_ret;exact⟨⟨x%m,rfl,Int.emod_nonneg _ (by omega),fun _=>Int.emod_lt_of_pos _ (by omega),by omega⟩,HN.out 0⟩
 ·obtain⟨i1,hi1⟩:∃i1:Nat,i1=p%n:=⟨_,rfl⟩;obtain⟨i2,hi2⟩:∃i2:Nat,i2=(p*7+3)%n:=⟨_,rfl⟩;obtain⟨q,hq⟩:∃q:Nat,q=p/n:=⟨_,rfl⟩;have hm1:i1<n:=by rw[hi1];exact Nat.mod_lt _ (by omega)
  have hm2:i2<n:=by rw[hi2];exact Nat.mod_lt _ (by omega)
  have hqp:q≤p:=by rw[hq];exact Nat.div_le_self _ _
  have t1:((p:Int).tmod (n:Int))=(i1:Int):=by rw[hi1,Int.tmod_eq_emod_of_nonneg (by omega)];simp
  have t2:(((p:Int)*7+3).tmod (n:Int))=(i2:Int):=by rw[hi2,Int.tmod_eq_emod_of_nonneg (by omega)];simp
  have t3:((p:Int).tdiv (n:Int))=(q:Int):=by rw[hq,Int.tdiv_eq_ediv_of_nonneg (by omega)];simp
  clear hi1 hi2 hq;obtain⟨b,off,x,rfl,hb,hx,hw,hc⟩:=hr.get hm1;obtain⟨b',off',y,e,hb',hy,hwy,hcy⟩:=hr.get hm2;simp only[Option.some.injEq,Addr.mk.injEq] at e;obtain⟨rfl,rfl,-⟩:=e;have hne:b≠g:=by omega
  obtain⟨x0,x1⟩:=wf_u8 hw;obtain⟨y0,y1⟩:=wf_u8 hwy
  have hc':∀v,(w.setCell ⟨g,1,none⟩ v).cell? ⟨b,off+i1,none⟩=some (.int .u8 x):=fun v=>by
   rw[World.cell?_setCell_other _ _ _ _ (fun e=>hne (congrArg Addr.block e).symm)];exact hc
  have afm:∀v,(w.setCell ⟨g,1,none⟩ v).cell? ⟨b,off+i2,none⟩=some (.int .u8 y):=fun v=>by
   rw[World.cell?_setCell_other _ _ _ _ (fun e=>hne (congrArg Addr.block e).symm)];exact hcy
  have X0:IntKind.i64.wrap x=x:=IntWalk.i64_in _ (by omega);have Y0:IntKind.i64.wrap y=y:=IntWalk.i64_in _ (by omega);have W1:IntKind.i64.wrap (x*131)=x*131:=IntWalk.i64_in _ (by omega);have W2:IntKind.i64.wrap ((p:Int)*7)=(p:Int)*7:=IntWalk.i64_in _ (by omega);have W3:IntKind.i64.wrap ((p:Int)*7+3)=(p:Int)*7+3:=IntWalk.i64_in _ (by omega);have W4:IntKind.i64.wrap (y*1117)=y*1117:=IntWalk.i64_in _ (by omega);have W5:IntKind.i64.wrap (x*131+y*1117)=x*131+y*1117:=IntWalk.i64_in _ (by omega);have W6:IntKind.i64.wrap ((p:Int)*29)=(p:Int)*29:=IntWalk.i64_in _ (by omega);have W7:IntKind.i64.wrap (x*131+y*1117+(p:Int)*29)=x*131+y*1117+(p:Int)*29:=IntWalk.i64_in _ (by omega);have Q0:IntKind.i64.wrap (q:Int)=(q:Int):=IntWalk.i64_in _ (by omega);have W8:IntKind.i64.wrap ((q:Int)*53)=(q:Int)*53:=IntWalk.i64_in _ (by omega);have W9:IntKind.i64.wrap (x*131+y*1117+(p:Int)*29+(q:Int)*53)=x*131+y*1117+(p:Int)*29+(q:Int)*53:=IntWalk.i64_in _ (by omega);clear hx hw hy hwy hc hcy;go_enter Tryz.func43,Tryz.ntmps43;go_wp2
  go_quiet (fail)
  clear X0 Y0 W1 W2 W3 W4 W5 W6 W7 Q0 W8 W9;go_wp2;go_ret;exact⟨⟨_,rfl,Vs _ _ (by omega) (by omega) hm⟩,HN.out nq⟩
def Vt (e:Ending):Prop:=∃b:Bool,e= .returned (.bool b)
theorem XC (g base p:Nat) (m:Int) (w:World) (h:XB w base g p) (hp:p+1<1099511627776):
  Calls Tryz.prog 85 #[.pointer (some ⟨g,0,none⟩),.int .i64 m] w fun e w'=>Vt e∧w.grownBy w' (some g)∧∃p',p'≤p+1∧XB w' base g p':=by
 by_cases hm:0<m
 ·go_enter Tryz.func85,Tryz.ntmps85
  go_wp2_with (go_at_call 43;refine(pick_any g base p m _ h hp).mono ?_;rintro e w' ⟨⟨x,rfl,hx⟩,hw,hr⟩;have HX:=af hx;clear hx)
  go_ret;exact⟨⟨_,rfl⟩,hw,p+1,aA _,hr⟩
 ·go_enter Tryz.func85,Tryz.ntmps85;go_wp2;go_ret;exact⟨⟨_,rfl⟩,World.grownBy.refl _ _,p,by omega,h⟩
section
variable {w W W' : World} {L L' : List dh} {R R' : dh}
theorem OV {W:World} {L L':List dh} (h:L.Perm L'):∀Fs:List (List Nat),Fs.length=L.length→(∀(i:Nat) R F,L[i]? =some R→Fs[i]? =some F→R.at_ W F∧∀b∈F,w.heap.size≤b)→
  ∃Gs:List (List Nat),Gs.Perm Fs∧Gs.length=L'.length∧∀(i:Nat) R F,L'[i]? =some R→Gs[i]? =some F→R.at_ W F∧∀b∈F,w.heap.size≤b:=by
 induction h with
 |nil=>intro Fs h1 h2;exact⟨Fs,List.Perm.refl _,h1,h2⟩
 |cons x h ih=>
  intro Fs h1 h2
  match Fs,h1 with
  |F::Fs,h1=>
   obtain⟨Gs,g1,g2,g3⟩:=ih Fs (by simpa using h1) fun i R G hR hG=>h2 (i+1) R G (by simpa using hR) (by simpa using hG)
   refine⟨F::Gs,g1.cons F,by simpa using g2,fun i R G hR hG=>?_⟩
   match i with
   |0=>exact h2 0 R G hR hG
   |i+1=>exact g3 i R G (by simpa using hR) (by simpa using hG)
 |swap x y l=>
  intro Fs h1 h2
  match Fs,h1 with
  |F::G::Fs,h1=>
   refine⟨G::F::Fs,List.Perm.swap ..,by simpa using h1,fun i R H hR hH=>?_⟩
   match i with
   |0=>exact h2 1 R H hR hH
   |1=>exact h2 0 R H hR hH
   |i+2=>exact h2 (i+2) R H hR hH
 |trans _ _ ih1 ih2=>
  intro Fs h1 h2;obtain⟨Gs,g1,g2,g3⟩:=ih1 Fs h1 h2;obtain⟨Hs,k1,k2,k3⟩:=ih2 Gs g2 g3;exact⟨Hs,k1.trans g1,k2,k3⟩
theorem St.perm (h:St w W L) (p:L.Perm L'):St w W L':=by
 obtain⟨Fs,h1,h2,h3⟩:=h.has;obtain⟨Gs,g1,g2,g3⟩:=OV (w:=w) p Fs h1 h2;exact⟨h.below,Gs,g2,g3,(g1.flatten.nodup_iff).2 h3⟩
theorem St.tl (h:St w W (R::L)):St w W L:=by
 obtain⟨Fs,h1,h2,h3⟩:=h.has
 match Fs,h1,h2,h3 with
 |F::Fs,h1,h2,h3=>
  refine⟨h.below,Fs,by simpa using h1,fun i R G hR hG=>h2 (i+1) R G (by simpa using hR) (by simpa using hG),?_⟩;rw[List.flatten_cons,List.nodup_append] at h3;exact h3.2.1
theorem FN {L:List dh}:∀{i:Nat},L[i]? =some R→L.Perm (R::L.eraseIdx i):=by
 induction L with
 |nil=>intro i h;simp at h
 |cons x l ih=>
  intro i h
  match i with
  |0=>simp at h;subst h;exact List.Perm.refl _
  |i+1=>
   simp only[List.getElem?_cons_succ] at h;exact((ih h).cons x).trans (List.Perm.swap ..)
theorem St.bring (h:St w W L) (i:Nat) (hi:L[i]? =some R):St w W (R::L.eraseIdx i):=h.perm (FN hi)
theorem St.rid (h:St w W L) (i:Nat) (hi:L[i]? =some R):St w W (L.eraseIdx i):=(h.bring i hi).tl
theorem St.swap2 {Dk KH:dh} (h:St w W (Dk::KH::L)):St w W (KH::Dk::L):=h.perm (List.Perm.swap ..)
theorem St.qL (h:St w W (R::L)) (k:St W W' [R']):St w W' (R::R'::L):=
 (h.call k).perm (((List.perm_append_comm (l₁:=R::L) (l₂:=[R'])).trans (List.Perm.swap ..)))
theorem St.acA (h:St w W L) (k:St W W' [R']):St w W' (R'::L):=(h.call k).perm (List.perm_append_comm (l₁:=L) (l₂:=[R']))
theorem St.alloc1 (h:St w W (R::L)) (cs:Array Value) (t:TypeId):St w (W.alloc (.cells cs t)) (R::ah W.heap.size t cs::L):=h.qL (St.new1 W cs t)
theorem St.Vq (h:St w W L) (cs:Array Value) (t:TypeId):St w (W.alloc (.cells cs t)) (ah W.heap.size t cs::L):=h.acA (St.new1 W cs t)
theorem Sn.all {M:Nat→Option dh} (h:Sn w W M) (e:∀i,M i=L[i]?):St w W L:=
 h.eG (List.range L.length) List.nodup_range (by
  refine List.ext_getElem (by simp) fun i h1 h2=>?_
  simp only[List.length_map,List.length_range] at h1;simp only[List.getElem_map,List.getElem_range]
  rw[e i,bH h1])
end
def fG (w0:World) (g hi:Nat):dh where
 at_ W F:=F=[g]∧∃p A n c xs,p≤hi∧n≤2000∧jd .u8 w0 w0.heap.size A n c xs∧fU W g 125 #[.slice A n c,.int .i64 (p:Nat)]
 keep W W' F h hk:=by
  obtain⟨e,p,A,n,c,xs,h1,h2,h3,h4⟩:=h;exact⟨e,p,A,n,c,xs,h1,h2,h3,(hk g (by rw[e];simp)).trans h4⟩
 lt W F h b hb:=by
  obtain⟨e,p,A,n,c,xs,h1,h2,h3,h4⟩:=h;rw[e] at hb;simp at hb;subst hb;exact h4.lt
 nd W F h:=by rw[h.1];simp
section
variable {w W W' : World} {L L' : List dh}
theorem St.more {g hi hi':Nat} (h:St w W (fG w g hi::L)) (hh:hi≤hi'):St w W (fG w g hi'::L):=
 h.see fun F ⟨e,p,A,n,c,xs,h1,h2⟩ _=>⟨e,p,A,n,c,xs,by omega,h2⟩
theorem QB {g hi:Nat} (S:St w W (fG w g hi::L)) {base p q:Nat} (hpq:q≤hi+1) (hg:W.grownBy W' (some g)) {A:Option Addr} {n c:Nat} {xs:List Int} (hn:n≤2000) (hr:jd .u8 w w.heap.size A n c xs) (hb:fU W' g 125 #[.slice A n c,.int .i64 (q:Nat)]):St w W' (fG w g (hi+1)::L):=
 S.mod 0 rfl fun F ⟨e,_⟩ _=>⟨F,⟨e,q,A,n,c,xs,hpq,hn,hr,hb⟩,fun b hb=>.inl hb,by rw[e];exact Only.lJ hg⟩
theorem dQ {g hi:Nat} (S:St w W (fG w g hi::L)) (hh:hi≤549755813888) (m:Int):
  Calls Tryz.prog 43 #[.pointer (some ⟨g,0,none⟩),.int .i64 m] W fun e w'=>∃x,e= .returned (.int .i64 x)∧Ji m x∧St w w' (fG w g (hi+1)::L):=by
 obtain⟨F,⟨hF,p,A,n,c,xs,h1,h2,h3,h4⟩,hlo⟩:=S.get 0 rfl;have hg:w.heap.size≤g:=hlo g (by rw[hF];simp);have hR:XB W w.heap.size g p:=⟨hg,by omega,A,n,c,xs,h2,h3.below S.below,h4⟩;refine(pick_any g w.heap.size p m W hR (by omega)).mono fun e w' ⟨⟨x,he,hx⟩,hgr,hr⟩=>⟨x,he,hx,?_⟩
 obtain⟨-,-,A',n',c',ys,k1,k2,k3⟩:=hr;have hb:Below w.heap.size W w':=(ai _ _).grown hgr S.size (fun k hk=>by cases hk;exact hg);refine QB S (p:=p) (base:=0) (q:=p+1) (by omega) hgr k1 ⟨k2.len,k2.cap,k2.dw,k2.wf,fun hp=>?_⟩ k3;obtain⟨b,off,e,hbb,hc⟩:=k2.at_ hp;exact⟨b,off,e,hbb,fun i x hx=>(aF (S.below.trans hb) b _ hbb).symm.trans (hc i x hx)⟩
theorem rW {g hi:Nat} (S:St w W (fG w g hi::L)) (hh:hi≤549755813888) (m:Int):
  Calls Tryz.prog 85 #[.pointer (some ⟨g,0,none⟩),.int .i64 m] W fun e w'=>∃b:Bool,e= .returned (.bool b)∧St w w' (fG w g (hi+1)::L):=by
 obtain⟨F,⟨hF,p,A,n,c,xs,h1,h2,h3,h4⟩,hlo⟩:=S.get 0 rfl;have hg:w.heap.size≤g:=hlo g (by rw[hF];simp);have hR:XB W w.heap.size g p:=⟨hg,by omega,A,n,c,xs,h2,h3.below S.below,h4⟩;refine(XC g w.heap.size p m W hR (by omega)).mono fun e w' ⟨⟨b,he⟩,hgr,q,hq,hr⟩=>⟨b,he,?_⟩
 obtain⟨-,-,A',n',c',ys,k1,k2,k3⟩:=hr;have hb:Below w.heap.size W w':=(ai _ _).grown hgr S.size (fun k hk=>by cases hk;exact hg);refine QB S (p:=p) (base:=0) (q:=q) (by omega) hgr k1 ⟨k2.len,k2.cap,k2.dw,k2.wf,fun hp=>?_⟩ k3;obtain⟨b,off,e,hbb,hc⟩:=k2.at_ hp;exact⟨b,off,e,hbb,fun i x hx=>(aF (S.below.trans hb) b _ hbb).symm.trans (hc i x hx)⟩
end
def sW (xs:List Int):Prop:=∀x∈xs,0≤x∧x≤9
theorem sW.wf {xs:List Int} (h:sW xs):∀x∈xs,(Lit.int .i64 x).wf=true:=fun x hx=>bU (by have:=h x hx;omega)
theorem sW.app {xs ys:List Int} (h:sW xs) (k:sW ys):sW (xs++ys):=fun x hx=>(List.mem_append.1 hx).elim (h x) (k x)
theorem sW.one {x:Int} (h0:0≤x) (h1:x≤9):sW [x]:=fun y hy=>by rw[List.mem_singleton] at hy;subst hy;exact⟨h0,h1⟩
theorem sW.two {x y:Int} (h0:0≤x) (h1:x≤9) (k0:0≤y) (k1:y≤9):sW [x,y]:=(sW.one h0 h1).app (sW.one k0 k1)
theorem St.lit (w:World) (xs:List Int) (n:Nat) (e:n=xs.length) (hn:xs.length≤1024) (hwf:∀x∈xs,(Lit.int .i64 x).wf=true):
  St w (w.alloc (.cells (Go.Proofs.YtkmcengmglgdeaaGreatDoor.ints xs).toArray 3)) [ax (.slice (some ⟨w.heap.size,0,none⟩) n n) xs]:=
 (St.new1 w (Go.Proofs.YtkmcengmglgdeaaGreatDoor.ints xs).toArray 3).see fun F h _=>Dn (xs:=xs) h (by unfold maxLen;omega) hwf e
theorem St.ad1 {w W:World} {L:List dh} (h:St w W L) (i:Nat) {g n c:Nat} {xs:List Int} (hi:L[i]? =some (ax (.slice (some ⟨g,0,none⟩) n c) xs)) (hn:xs.length=n) (k:Nat) (y:Int) (hy:(Lit.int .i64 y).wf=true):
  St w (W.setCell ⟨g,k,none⟩ (.int .i64 y)) (L.set i (ax (.slice (some ⟨g,0,none⟩) n c) (xs.set k y))):=by
 subst hn;refine h.mod i hi fun F h1 _=>⟨F,⟨?_,fun x hx=>(List.mem_or_eq_of_mem_set hx).elim (h1.wf x) (fun e=>e▸hy),h1.foot⟩,fun b hb=>.inl hb,(Only.refl F W).set (by rw[h1.foot];simp[Value.ownBlock]) _⟩
 have:=(h1.row.stored k (.int .i64 y)).1
 rw[ints_set] at this;rw[List.length_set];exact this
theorem OU {w W:World} {L:List dh} {g hi:Nat} (S:St w W (fG w g hi::L)) (hh:hi≤500000000000):
  Calls Tryz.prog 185 #[.pointer (some ⟨g,0,none⟩)] W fun e w'=>∃v xs,e= .returned v∧xs.length≤4∧sW xs∧St w w' (fG w g (hi+8)::ax v xs::L):=by
 have HS:=af S;clear S;go_enter Tryz.func185,Tryz.ntmps185
 go_wp2_with fail
 refine(dQ HS.out (by omega) 5).mono ?_;rintro e w1 ⟨x1,rfl,⟨a1,a2,-⟩,s1⟩;have a3:=a2 (by omega);obtain⟨g1,hg1⟩:∃g1,w1.heap.size=g1:=⟨_,rfl⟩;have bf:Hid (St w (w1.alloc (.cells #[.int .i64 x1] 3)) (fG w g (hi+1)::ax (.slice (some ⟨g1,0,none⟩) 1 1) [x1]::L)):=af (by rw[←hg1];exact s1.qL (St.lit w1 [x1] 1 rfl (by simp) (sW.one a1 (by omega)).wf));clear s1 a2
 go_wp2_with fail
 refine(dQ bf.out (by omega) 9).mono ?_;rintro e w2 ⟨x2,rfl,⟨b1,b2,-⟩,s2⟩;have b3:=b2 (by omega);have HS2:=af s2
 try rw[hg1]
 clear s2 b2 hg1
 go_upto_if 9 with(fail)
 go_cut [3] (fun s3 wx=>s3= .slice (some ⟨g1,0,none⟩) 1 1∧∃y,0≤y∧y≤9∧St w wx (fG w g (hi+3)::ax s3 [y]::L))
 case first=>
  by_cases h2:x2=0
  ·subst h2
   go_wp2_with fail
   refine(dQ HS2.out (by omega) 2).mono ?_;rintro e w3 ⟨x3,rfl,⟨c1,c2,-⟩,s3⟩;have c3:=c2 (by omega);obtain⟨q0,f0⟩:=s3.oK 1 rfl rfl 0 x1 rfl;have cu:=af (s3.ad1 1 rfl rfl 0 (5+x3) (bU (by omega)));clear s3 c2;go_wp2
   go_meet
   case rel=>exact⟨rfl,5+x3,by omega,by omega,cu.out⟩
  ·have h2':(x2 == 0)=false:=by simpa using h2
   have cu:=af (HS2.out.more (hi':=hi+3) (by omega));clear h2;go_wp2
   go_meet
   case rel=>exact⟨rfl,x1,a1,by omega,cu.out⟩
 case rest=>
  obtain⟨rfl,y,y1,y2,SC⟩:=hcut;have fH:=af SC;clear SC HS2 bf HS a1 a3 b1 b3
  go_wp2_with fail
  refine(dQ fH.out (by omega) 3).mono ?_;rintro e w4 ⟨x4,rfl,⟨d1,d2,-⟩,s4⟩;have d3:=d2 (by omega);have dX:=af s4;clear s4 d2
  go_upto_if 17 with(fail)
  go_cut [3] (fun s3 wx=>∃xs,xs.length≤3∧sW xs∧St w wx (fG w g (hi+6)::ax s3 xs::L))
  case first=>
   by_cases h4:x4=0
   ·subst h4
    go_wp2_with fail
    refine(dQ dX.out (by omega) 5).mono ?_;rintro e w6 ⟨x6,rfl,⟨e1,e2,-⟩,s6⟩;have e3:=e2 (by omega);have jB:=af s6;clear s6 e2
    go_wp2_with fail
    refine(dQ jB.out (by omega) 2).mono ?_;rintro e w7 ⟨x7,rfl,⟨f1,f2,-⟩,s7⟩;have f3:=f2 (by omega);have HO:=af (s7.qA 1 rfl)
    have Lr:Hid (∀v8 w8,w8.ownsRow 0 3 1 v8 3 (ints [y]++[.int .i64 x6,.int .i64 (8+x7)])→(w7.alloc (.cells #[.int .i64 x6,.int .i64 (8+x7)] 3)).grownBy w8 (Value.slice (some ⟨g1,0,none⟩) 1 1).ownBlock→(v8.ownBlock=(Value.slice (some ⟨g1,0,none⟩) 1 1).ownBlock∨v8.ownBlock=some (w7.alloc (.cells #[.int .i64 x6,.int .i64 (8+x7)] 3)).heap.size)→
      St w w8 (fG w g (hi+6)::ax v8 ([y]++[x6,8+x7])::L)):=af fun v8 w8 h1 h2 h3=>
     (((s7.alloc1 #[.int .i64 x6,.int .i64 (8+x7)] 3).rid 1 rfl).rY 1 (ys:=[x6,8+x7]) rfl rfl h1 (sW.two e1 (by omega) (by omega) (by omega)).wf h2 h3)
    clear s7 f2
    go_wp2_with (at_builtin;refine cZ iR rfl (.tmp 18) (.tmp 24) rfl 0 _ _ _ rfl (HO.out.alloc _) _ _ 2 2 [.int .i64 x6,.int .i64 (8+x7)] rfl (bJ.new w7 [.int .i64 x6,.int .i64 (8+x7)] 3 1 2 rfl (by unfold maxLen;omega)) (by simp[Value.oneCell']) (by simp) (by simp) (Nat.zero_le _) ?_;intro v8 w8 yx NV KG;have nJ:=af (Lr.out v8 w8 yx NV KG);clear yx NV KG)
    have HD:Hid (sW ([y]++[x6,8+x7])):=af ((sW.one y1 y2).app (sW.two e1 (by omega) (by omega) (by omega)));go_wp2
    go_meet
    case rel=>exact⟨_,by simp,HD.out,nJ.out⟩
   ·have h4':(x4 == 0)=false:=by simpa using h4
    have jB:=af (dX.out.more (hi':=hi+6) (by omega));clear h4;go_wp2
    go_meet
    case rel=>exact⟨_,by simp,sW.one y1 y2,jB.out⟩
  case rest=>
   obtain⟨ys,hy1,hy2,SC⟩:=hcut;have fP:=af SC;have HD:=af hy2;clear SC dX fH y1 y2 d1 d3 hy2
   go_wp2_with fail
   refine(dQ fP.out (by omega) 4).mono ?_;rintro e w10 ⟨x10,rfl,⟨e1,e2,-⟩,s10⟩;have e3:=e2 (by omega)
   by_cases h10:x10=0
   ·subst h10;have HO:=af (s10.qA 1 rfl)
    have Lr:Hid (∀v8 w8,w8.ownsRow 0 3 1 v8 (ys.length+1) (ints ys++[.int .i64 7])→(w10.alloc (.cells #[.int .i64 7] 3)).grownBy w8 u3.ownBlock→(v8.ownBlock=u3.ownBlock∨v8.ownBlock=some (w10.alloc (.cells #[.int .i64 7] 3)).heap.size)→
      St w w8 (fG w g (hi+7)::ax v8 (ys++[7])::L)):=af fun v8 w8 h1 h2 h3=>
     (((s10.alloc1 #[.int .i64 7] 3).rid 1 rfl).rY 1 (ys:=[7]) rfl rfl h1 (sW.one (by omega) (by omega)).wf h2 h3)
    clear s10 e2
    go_wp2_with (at_builtin;refine cZ iR rfl (.tmp 29) (.tmp 30) rfl 0 _ _ _ rfl (HO.out.alloc _) _ _ 1 1 [.int .i64 7] rfl (bJ.new w10 [.int .i64 7] 3 1 1 rfl (by unfold maxLen;omega)) (by simp[Value.oneCell']) (by omega) (by omega) (Nat.zero_le _) ?_;intro v8 w8 yx NV KG;have nJ:=af (Lr.out v8 w8 yx NV KG);clear yx NV KG)
    have HD2:=af (HD.out.app (sW.one (x:=7) (by omega) (by omega)));go_wp2;go_ret;exact⟨_,_,rfl,by simp;omega,HD2.out,nJ.out.more (by omega)⟩
   ·have afl:(x10 == 0)=false:=by simpa using h10
    have BU:=af s10;clear h10 s10 e2;go_wp2;go_ret;exact⟨_,_,rfl,by omega,HD.out,BU.out.more (by omega)⟩
theorem Ei {w W:World} {L:List dh} {g hi:Nat} (S:St w W (fG w g hi::L)) (hh:hi≤400000000000):
  Calls Tryz.prog 153 #[.pointer (some ⟨g,0,none⟩)] W fun e w'=>∃v xs,e= .returned v∧xs.length≤4∧sW xs∧St w w' (fG w g (hi+9)::ax v xs::L):=by
 have HS:=af S;clear S;go_enter Tryz.func153,Tryz.ntmps153
 go_wp2_with fail
 refine(dQ HS.out (by omega) 4).mono ?_;rintro e w1 ⟨x1,rfl,⟨a1,a2,-⟩,s1⟩;have a3:=a2 (by omega);have bf:=af s1;clear s1 a2 HS
 by_cases h0:x1=0
 ·subst h0;have HS2:=af ((bf.out.qL (St.lit w1 [5] 1 rfl (by simp) (sW.one (by omega) (by omega)).wf)).more (hi':=hi+9) (by omega));go_wp2;go_ret;exact⟨_,[5],rfl,by simp,sW.one (by omega) (by omega),HS2.out⟩
 have h0':(x1 == 0)=false:=by simpa using h0
 by_cases h1:x1=1
 ·subst h1;clear h0 h0'
  go_wp2_with fail
  refine(dQ bf.out (by omega) 5).mono ?_;rintro e w2 ⟨x2,rfl,⟨b1,b2,-⟩,s2⟩;have b3:=b2 (by omega);have HS2:=af ((s2.qL (St.lit w2 [x2] 1 rfl (by simp) (sW.one b1 (by omega)).wf)).more (hi':=hi+9) (by omega));clear s2 b2;go_wp2;go_ret;exact⟨_,[x2],rfl,by simp,sW.one b1 (by omega),HS2.out⟩
 have h1':(x1 == 1)=false:=by simpa using h1
 by_cases h2:x1=2
 ·subst h2;clear h0 h0' h1 h1'
  go_wp2_with fail
  refine(dQ bf.out (by omega) 5).mono ?_;rintro e w2 ⟨x2,rfl,⟨b1,b2,-⟩,s2⟩;have b3:=b2 (by omega);have HS2:=af ((s2.qL (St.lit w2 [x2,7] 2 rfl (by simp) (sW.two b1 (by omega) (by omega) (by omega)).wf)).more (hi':=hi+9) (by omega));clear s2 b2;go_wp2;go_ret;exact⟨_,[x2,7],rfl,by simp,sW.two b1 (by omega) (by omega) (by omega),HS2.out⟩
 have h2':(x1 == 2)=false:=by simpa using h2
 clear h0 h1 h2
 go_wp2_with fail
 refine(OU bf.out (by omega)).mono ?_;rintro e w2 ⟨v,xs,rfl,hl,hd,s2⟩;have HS2:=af (s2.more (hi':=hi+9) (by omega));have HD:=af hd;clear s2 hd;go_wp2;go_ret;exact⟨v,xs,rfl,hl,HD.out,HS2.out⟩
theorem OQ {w W:World} {L:List dh} {g hi:Nat} (S:St w W (fG w g hi::L)) (hh:hi≤300000000000) (n:Int):
  Calls Tryz.prog 154 #[.pointer (some ⟨g,0,none⟩),.int .i64 n] W fun e w'=>∃nv,∃d:au,e= .returned (.agg #[nv,.int .i64 d.on,.int .i64 d.off,.int .i64 d.flip])∧d.need.length≤4∧sW d.need∧(-1≤d.on∧d.on≤200)∧(-1≤d.off∧d.off≤200)∧(-1≤d.flip∧d.flip≤200)∧St w w' (fG w g (hi+20)::ax nv d.need::L):=by
 obtain⟨r,hr⟩:∃r,W.heap.size=r:=⟨_,rfl⟩;have HS:Hid (St w (W.alloc (.cells #[.slice none 0 0,.int .i64 0,.int .i64 0,.int .i64 0] 144)) (fG w g hi::ah r 144 #[.slice none 0 0,.int .i64 0,.int .i64 0,.int .i64 0]::L)):=af (by rw[←hr];exact S.alloc1 _ _);clear S;go_enter Tryz.func154,Tryz.ntmps154
 go_wp2_with fail
 refine(Ei HS.out (by omega)).mono ?_;rintro e w1 ⟨nv,xs,rfl,hxl,hxd,s1⟩;obtain⟨D,hD⟩:∃D,w1.heap.size=D:=⟨_,rfl⟩;obtain⟨A1,c1,hnv,-⟩:=s1.uj 1 rfl;subst hnv;obtain⟨nv,hnv⟩:∃nv,nv=Value.slice A1 xs.length c1:=⟨_,rfl⟩;have HXD:=af hxd
 have bf:Hid (St w (w1.alloc (.cells #[.slice A1 xs.length c1,.int .i64 0,.int .i64 0,.int .i64 0] 144)) (fG w g (hi+10)::ax nv xs::ah D 144 #[nv,.int .i64 0,.int .i64 0,.int .i64 0]::ah r 144 #[.slice none 0 0,.int .i64 0,.int .i64 0,.int .i64 0]::L)):=af (by
  rw[←hD,hnv]
  exact(((s1.alloc1 #[.slice A1 xs.length c1,.int .i64 0,.int .i64 0,.int .i64 0] 144).bring 2 rfl).bring 1 rfl).more (by omega))
 clear s1 hxd HS;go_wp2
 try rw[hr]
 try rw[hD]
 clear hD hr
 go_loopw [6] (fun i wr=>∃(k:Nat) (on off fl:Int),k≤5∧i= .int .i64 k∧(0≤on∧on≤32*k)∧(0≤off∧off≤32*k)∧(0≤fl∧fl≤32*k)∧St w wr (fG w g (hi+10+k)::ax nv xs::ah D 144 #[nv,.int .i64 on,.int .i64 off,.int .i64 fl]::ah r 144 #[.slice none 0 0,.int .i64 0,.int .i64 0,.int .i64 0]::L)) (fun i _=>5-(intOf i).toNat)
 case atStart=>exact⟨0,0,0,0,by omega,rfl,by omega,by omega,by omega,bf.out⟩
 case round=>
  clear bf;obtain⟨k,on,off,fl,hk,rfl,hon,hoff,hfl,S⟩:=hrel;have HS:=af S;clear S
  by_cases hlt:k<5
  ·have hpw:=iK k (by omega);have hp1:(2:Int)^k≤32:=jS k 5 (by omega);have hp0:(0:Int)<2^k:=Int.pow_pos (by omega)
   go_wp2_with fail
   refine(dQ HS.out (by omega) 6).mono ?_;rintro e w2 ⟨x2,rfl,⟨b1,b2,-⟩,s2⟩;have b3:=b2 (by omega);have HS2:=af s2;clear s2 b2 HS
   by_cases h0:x2=0
   ·subst h0;have HW:Hid (IntKind.i64.wrap (on+2^k)=on+2^k):=af (IntWalk.i64_in _ (by omega));have hw2:=HW.out;have q1:=HS2.out.cells 2 rfl;have f1:=HS2.out.free 2 rfl;have cu:Hid (St w (w2.drew.setCell ⟨D,1,none⟩ (.int .i64 (on+2^k))) (fG w g (hi+10+k+1)::ax nv xs::ah D 144 #[nv,.int .i64 (on+2^k),.int .i64 off,.int .i64 fl]::ah r 144 #[.slice none 0 0,.int .i64 0,.int .i64 0,.int .i64 0]::L)):=af ((HS2.out.drew).set 2 rfl 1 _);go_wp2
    go_still_tail 6,(by kernel_rfl)
    change wpList _ _ _ _ _ w2.drew
    go_wp2
    go_roundw
    case rel=>exact⟨k+1,on+2^k,off,fl,by omega,by go_num,by omega,by omega,by omega,cu.out⟩
    case measure=>simp[intOf];omega
   have h0':(x2 == 0)=false:=by simpa using h0
   by_cases h1:x2=1
   ·subst h1;clear h0 h0';have HW:Hid (IntKind.i64.wrap (off+2^k)=off+2^k):=af (IntWalk.i64_in _ (by omega));have hw2:=HW.out;have q1:=HS2.out.cells 2 rfl;have f1:=HS2.out.free 2 rfl;have cu:Hid (St w (w2.drew.setCell ⟨D,2,none⟩ (.int .i64 (off+2^k))) (fG w g (hi+10+k+1)::ax nv xs::ah D 144 #[nv,.int .i64 on,.int .i64 (off+2^k),.int .i64 fl]::ah r 144 #[.slice none 0 0,.int .i64 0,.int .i64 0,.int .i64 0]::L)):=af ((HS2.out.drew).set 2 rfl 2 _);go_wp2
    go_still_tail 6,(by kernel_rfl)
    change wpList _ _ _ _ _ w2.drew
    go_wp2
    go_roundw
    case rel=>exact⟨k+1,on,off+2^k,fl,by omega,by go_num,by omega,by omega,by omega,cu.out⟩
    case measure=>simp[intOf];omega
   have h1':(x2 == 1)=false:=by simpa using h1
   by_cases h2:x2=2
   ·subst h2;clear h0 h0' h1 h1';have HW:Hid (IntKind.i64.wrap (fl+2^k)=fl+2^k):=af (IntWalk.i64_in _ (by omega));have hw2:=HW.out;have q1:=HS2.out.cells 2 rfl;have f1:=HS2.out.free 2 rfl;have cu:Hid (St w (w2.drew.setCell ⟨D,3,none⟩ (.int .i64 (fl+2^k))) (fG w g (hi+10+k+1)::ax nv xs::ah D 144 #[nv,.int .i64 on,.int .i64 off,.int .i64 (fl+2^k)]::ah r 144 #[.slice none 0 0,.int .i64 0,.int .i64 0,.int .i64 0]::L)):=af ((HS2.out.drew).set 2 rfl 3 _);go_wp2
    go_still_tail 6,(by kernel_rfl)
    change wpList _ _ _ _ _ w2.drew
    go_wp2
    go_roundw
    case rel=>exact⟨k+1,on,off,fl+2^k,by omega,by go_num,by omega,by omega,by omega,cu.out⟩
    case measure=>simp[intOf];omega
   have h2':(x2 == 2)=false:=by simpa using h2
   clear h0 h1 h2;go_wp2
   go_roundw
   case rel=>exact⟨k+1,on,off,fl,by omega,by go_num,by omega,by omega,by omega,HS2.out⟩
   case measure=>simp[intOf];omega
  ·have hk5:k=5:=by omega
   subst hk5;clear hnv
   go_wp2_with fail
   refine(rW HS.out (by omega) n).mono ?_;rintro e w2 ⟨b2,rfl,s2⟩;have HS2:=af s2;clear s2 HS
   go_upto_if 42 with(fail)
   go_cut [6] (fun s6 wx=>∃(mv:Value) (ys:List Int) (a b c:Int),ys.length≤4∧sW ys∧(-1≤a∧a≤200)∧(-1≤b∧b≤200)∧(-1≤c∧c≤200)∧St w wx (fG w g (hi+20)::ax mv ys::ah D 144 #[mv,.int .i64 a,.int .i64 b,.int .i64 c]::ah r 144 #[.slice none 0 0,.int .i64 0,.int .i64 0,.int .i64 0]::L))
   case first=>
    cases b2 with
    |false=>
     have cu:=af (HS2.out.more (hi':=hi+20) (by omega));go_wp2
     go_meet
     case rel=>exact⟨nv,xs,on,off,fl,hxl,HXD.out,by omega,by omega,by omega,cu.out⟩
    |true=>
     go_wp2_with fail
     refine(dQ HS2.out (by omega) 4).mono ?_;rintro e w3 ⟨x3,rfl,⟨c1',c2,-⟩,s3⟩;have c3:=c2 (by omega);have q3:=s3.cells 2 rfl;have f3:=s3.free 2 rfl;have cu:=af (s3.more (hi':=hi+20) (by omega));clear s3 c2
     by_cases h0:x3=0
     ·subst h0;have fH:=af ((((cu.out.qL (St.lit w3 [7] 1 rfl (by simp) (sW.one (by omega) (by omega)).wf)).set 3 rfl 0 (.slice (some ⟨w3.heap.size,0,none⟩) 1 1)).rid 2 rfl));have q4:∀j,(w3.alloc (.cells #[.int .i64 7] 3)).cell? ⟨D,j,none⟩=_:=(cu.out.qL (St.lit w3 [7] 1 rfl (by simp) (sW.one (by omega) (by omega)).wf)).cells 3 rfl;have f4:∀j,(w3.alloc (.cells #[.int .i64 7] 3)).frozen? ⟨D,j,none⟩=false:=(cu.out.qL (St.lit w3 [7] 1 rfl (by simp) (sW.one (by omega) (by omega)).wf)).free 3 rfl;go_wp2
      go_meet
      case rel=>exact⟨_,[7],on,off,fl,by simp,sW.one (by omega) (by omega),by omega,by omega,by omega,fH.out⟩
     have h0':(x3 == 0)=false:=by simpa using h0
     by_cases h1:x3=1
     ·subst h1;clear h0 h0';have fH:=af (cu.out.set 2 rfl 1 (.int .i64 32));go_wp2
      go_meet
      case rel=>exact⟨nv,xs,32,off,fl,hxl,HXD.out,by omega,by omega,by omega,fH.out⟩
     have h1':(x3 == 1)=false:=by simpa using h1
     by_cases h2:x3=2
     ·subst h2;clear h0 h0' h1 h1';have fH:=af (cu.out.set 2 rfl 2 (.int .i64 (-1)));go_wp2
      go_meet
      case rel=>exact⟨nv,xs,on,-1,fl,hxl,HXD.out,by omega,by omega,by omega,fH.out⟩
     have h2':(x3 == 2)=false:=by simpa using h2
     have fH:=af (((cu.out.set 2 rfl 1 (.int .i64 1)).set 2 rfl 3 (.int .i64 1)).set 2 rfl 2 (.int .i64 0));clear h0 h1 h2;go_wp2
     go_meet
     case rel=>exact⟨nv,xs,1,0,1,hxl,HXD.out,by omega,by omega,by omega,fH.out⟩
   case rest=>
    clear hon hoff hfl hk hlt;obtain⟨mv,ys,a,b,c,hy1,hy2,ha,hb,hc,SC⟩:=hcut;obtain⟨A9,c9,hmv,-⟩:=SC.uj 1 rfl;subst hmv;have q5:=SC.cells 2 rfl;have r5:=SC.cells 3 rfl;have f5:=SC.free 3 rfl;have HD:=af hy2;have jB:Hid (St w ((((wc.setCell ⟨r,0,none⟩ (.slice A9 ys.length c9)).setCell ⟨r,1,none⟩ (.int .i64 a)).setCell ⟨r,2,none⟩ (.int .i64 b)).setCell ⟨r,3,none⟩ (.int .i64 c)) (fG w g (hi+20)::ax (.slice A9 ys.length c9) ys::L)):=af ((((((SC.set 3 rfl 0 (.slice A9 ys.length c9)).set 3 rfl 1 (.int .i64 a)).set 3 rfl 2 (.int .i64 b)).set 3 rfl 3 (.int .i64 c)).rid 2 rfl).rid 2 rfl);clear SC HS2 hy2;go_wp2;refine bodyPost_ret (v:=.agg #[.slice A9 ys.length c9,.int .i64 a,.int .i64 b,.int .i64 c]) (by simp[results,Tryz.results154,go_sem,r5]) rfl ⟨_,⟨ys,a,b,c⟩,rfl,hy1,HD.out,ha,hb,hc,jB.out⟩
theorem Sn.re {w W:World} {M M':Nat→Option dh} (h:Sn w W M) (f:Nat→Nat) (e:∀i,M' i=none∨M' i=M (f i)) (inj:∀i j,M' i≠none→M' j≠none→f i=f j→i=j):Sn w W M':=by
 obtain⟨F,h1,h2⟩:=h.has;refine⟨h.below,fun i=>F (f i),fun i R hR=>?_,fun i j hne hi hj=>?_⟩
 ·rcases e i with h | h
  ·rw[h] at hR;cases hR
  ·exact h1 (f i) R (by rw[←h];exact hR)
 ·have ei:M (f i)≠none:=by
   rcases e i with h | h
   ·exact absurd h hi
   ·rw[←h];exact hi
  have ej:M (f j)≠none:=by
   rcases e j with h | h
   ·exact absurd h hj
   ·rw[←h];exact hj
  exact h2 (f i) (f j) (fun hf=>hne (inj i j hi hj hf)) ei ej
section
variable {w W W' : World} {L : List dh}
theorem St.Vo (h:St w W L) (i:Nat) {v:Value} {ds:List au} (hi:L[i]? =some (fD v ds)) {k:Nat} (hk:k<ds.length):
  ∃g c d A n' c',v= .slice (some ⟨g,0,none⟩) ds.length c∧ds.length≤c∧c≤maxLen∧ds[k]? =some d∧W.cell? ⟨g,k*4,none⟩=some (.slice A n' c')∧W.cell? ⟨g,k*4+1,none⟩=some (.int .i64 d.on)∧W.cell? ⟨g,k*4+2,none⟩=some (.int .i64 d.off)∧W.cell? ⟨g,k*4+3,none⟩=some (.int .i64 d.flip)∧
   (∀j,W.frozen? ⟨g,j,none⟩=false)∧((Lit.int .i64 d.on).wf=true∧(Lit.int .i64 d.off).wf=true∧(Lit.int .i64 d.flip).wf=true)∧n'=d.need.length:=by
 obtain⟨F,⟨cells,Fs,h1,-⟩,-⟩:=h.get i hi;obtain⟨g,c,hv,hg,hcap,hmax⟩:=mP h1.row (by omega);subst hv;have hcl:cells.length=ds.length*4:=h1.row.1;obtain⟨nv,q0,q1,q2,q3,q4,-,q5⟩:=h1.deed k _ _ (bH hk) (bH (show k<Fs.length by rw[h1.IA];exact hk));obtain⟨A,c',hn,-⟩:=q4.rd;subst hn;exact⟨g,c,ds[k],A,_,c',rfl,hcap,hmax,bH hk,(h1.row.cellAt (k*4) (by omega)).trans q0,(h1.row.cellAt (k*4+1) (by omega)).trans q1,(h1.row.cellAt (k*4+2) (by omega)).trans q2,(h1.row.cellAt (k*4+3) (by omega)).trans q3,fun j=>h1.row.frozenAt j,q5,rfl⟩
theorem jG.put {nv:Value} {ds:List au} {F G:List Nat} {cells:List Value} {Fs:List (List Nat)} {d:au} {g n c i:Nat} (h:jG W 0 (.slice (some ⟨g,0,none⟩) n c) ds F cells Fs) (hn:ds.length=n) (hF:F.Nodup) (ho:jH W 0 nv d.need G) (hdis:∀b∈F,b∉G)
  (hi:i<n) (hs:d.need.length≤1048576) (hwf:(Lit.int .i64 d.on).wf=true∧(Lit.int .i64 d.off).wf=true∧(Lit.int .i64 d.flip).wf=true):
  ∃F',(∃cells Fs,jG ((((W.setCell ⟨g,i*4,none⟩ nv).setCell ⟨g,i*4+1,none⟩ (.int .i64 d.on)).setCell ⟨g,i*4+2,none⟩ (.int .i64 d.off)).setCell ⟨g,i*4+3,none⟩ (.int .i64 d.flip)) 0 (.slice (some ⟨g,0,none⟩) n c) (ds.set i d) F' cells Fs∧F'.Nodup)∧(∀b∈F',b∈F∨b∈G∨W.heap.size≤b)∧
   Only F W ((((W.setCell ⟨g,i*4,none⟩ nv).setCell ⟨g,i*4+1,none⟩ (.int .i64 d.on)).setCell ⟨g,i*4+2,none⟩ (.int .i64 d.off)).setCell ⟨g,i*4+3,none⟩ (.int .i64 d.flip)):=by
 subst hn;have hrow:=h.row;have hcl:cells.length=ds.length*4:=hrow.1;have hfl:=h.IA;have hft:F=g::Fs.flatten:=h.foot;have hgF:g∈F:=by rw[hft];simp
 have hnd:(g::Fs.flatten).Nodup:=hft▸hF;have hgn:g∉Fs.flatten:=(List.nodup_cons.1 hnd).1;have ho4:=(((hrow.stored (i*4) nv).1.stored (i*4+1) (.int .i64 d.on)).1.stored (i*4+2) (.int .i64 d.off)).1.stored (i*4+3) (.int .i64 d.flip)
 have hon:Only [g] W ((((W.setCell ⟨g,i*4,none⟩ nv).setCell ⟨g,i*4+1,none⟩ (.int .i64 d.on)).setCell ⟨g,i*4+2,none⟩ (.int .i64 d.off)).setCell ⟨g,i*4+3,none⟩ (.int .i64 d.flip)):=
  ((((Only.refl [g] W).set (by simp) nv).set (by simp) (.int .i64 d.on)).set (by simp) (.int .i64 d.off)).set (by simp) (.int .i64 d.flip)
 generalize ((((W.setCell ⟨g,i*4,none⟩ nv).setCell ⟨g,i*4+1,none⟩ (.int .i64 d.on)).setCell ⟨g,i*4+2,none⟩ (.int .i64 d.off)).setCell ⟨g,i*4+3,none⟩ (.int .i64 d.flip))=W2 at ho4 hon ⊢
 have hkeep:∀b,b∈Fs.flatten∨b∈G→W2.heap[b]? =W.heap[b]? :=fun b hb=>by
  refine hon.block b ?_ (fun hm=>?_)
  ·rcases hb with hb | hb
   ·exact(h.lt b (by rw[hft];exact List.mem_cons_of_mem _ hb)).2
   ·exact(ho.lt b hb).2
  ·rw[List.mem_singleton] at hm;subst hm
   rcases hb with hb | hb
   ·exact hgn hb
   ·exact hdis b hgF hb
 have hset:(Fs.set i G).length=Fs.length:=by simp
 have hmem:∀b,b∈(Fs.set i G).flatten→b∈Fs.flatten∨b∈G:=fun b hb=>by
  obtain⟨K,hK,hb⟩:=List.mem_flatten.1 hb
  rcases List.mem_or_eq_of_mem_set hK with hK | hK
  ·exact .inl (List.mem_flatten.2 ⟨K,hK,hb⟩)
  ·exact .inr (hK▸hb)
 refine⟨g::(Fs.set i G).flatten,⟨_,Fs.set i G,⟨by rw[List.length_set];exact ho4.1,by simpa using h.small,by simpa using hfl,rfl,fun j e Fj he hFj=>?_⟩,?_⟩,fun b hb=>?_,hon.sub fun x hx=>by rw[List.mem_singleton] at hx;rw[hx];exact hgF⟩
 ·by_cases hij:i=j
  ·subst hij;rw[List.getElem?_set_self hi] at he
   injection he with he
   subst he;rw[List.getElem?_set_self (by omega)] at hFj
   injection hFj with hFj
   subst hFj;refine⟨nv,?_,?_,?_,?_,ho.keep fun b hb=>hkeep b (.inr hb),hs,hwf⟩
   ·rw[List.getElem?_set_ne (by omega),List.getElem?_set_ne (by omega),List.getElem?_set_ne (by omega),List.getElem?_set_self (by omega)]
   ·rw[List.getElem?_set_ne (by omega),List.getElem?_set_ne (by omega),List.getElem?_set_self (by simp;omega)]
   ·rw[List.getElem?_set_ne (by omega),List.getElem?_set_self (by simp;omega)]
   ·rw[List.getElem?_set_self (by simp;omega)]
  ·rw[List.getElem?_set_ne hij] at he hFj;obtain⟨nv',q0,q1,q2,q3,q4,r⟩:=h.deed j e Fj he hFj;refine⟨nv',?_,?_,?_,?_,q4.keep fun b hb=>hkeep b (.inl (oH hFj hb)),r⟩
   ·rw[List.getElem?_set_ne (by omega),List.getElem?_set_ne (by omega),List.getElem?_set_ne (by omega),List.getElem?_set_ne (by omega)];exact q0
   ·rw[List.getElem?_set_ne (by omega),List.getElem?_set_ne (by omega),List.getElem?_set_ne (by omega),List.getElem?_set_ne (by omega)];exact q1
   ·rw[List.getElem?_set_ne (by omega),List.getElem?_set_ne (by omega),List.getElem?_set_ne (by omega),List.getElem?_set_ne (by omega)];exact q2
   ·rw[List.getElem?_set_ne (by omega),List.getElem?_set_ne (by omega),List.getElem?_set_ne (by omega),List.getElem?_set_ne (by omega)];exact q3
 ·rw[List.nodup_cons];refine⟨fun hb=>?_,rZ (fun j K hK=>?_) fun j l K H hne hK hH=>?_⟩
  ·rcases hmem g hb with hb | hb
   ·exact hgn hb
   ·exact hdis g hgF hb
  ·by_cases hij:i=j
   ·subst hij;rw[List.getElem?_set_self (by omega)] at hK
    injection hK with hK
    rw[←hK];exact ho.nodup
   ·rw[List.getElem?_set_ne hij] at hK;exact(List.pairwise_flatten.1 (List.nodup_cons.1 hnd).2).1 K (bT hK)
  ·have hap:=fun(j l:Nat) (K H:List Nat) hne hK hH=>pV (i:=j) (j:=l) (F:=K) (G:=H) (List.nodup_cons.1 hnd).2 hK hH hne
   by_cases hij:i=j
   ·subst hij;rw[List.getElem?_set_self (by omega)] at hK
    injection hK with hK
    rw[List.getElem?_set_ne (by omega)] at hH;rw[←hK];exact fun b hb hb'=>hdis b (by rw[hft];exact List.mem_cons_of_mem _ (oH hH hb')) hb
   ·rw[List.getElem?_set_ne hij] at hK
    by_cases hil:i=l
    ·subst hil;rw[List.getElem?_set_self (by omega)] at hH
     injection hH with hH
     rw[←hH];exact fun b hb hb'=>hdis b (by rw[hft];exact List.mem_cons_of_mem _ (oH hK hb)) hb'
    ·rw[List.getElem?_set_ne hil] at hH;exact hap j l K H hne hK hH
 ·rcases List.mem_cons.1 hb with hb | hb
  ·exact .inl (hb▸hgF)
  ·rcases hmem b hb with hb | hb
   ·exact .inl (by rw[hft];exact List.mem_cons_of_mem _ hb)
   ·exact .inr (.inl hb)
theorem St.lT {nv:Value} {ds:List au} {d:au} {g n c i:Nat} (h:St w W (fD (.slice (some ⟨g,0,none⟩) n c) ds::ax nv d.need::L)) (hn:ds.length=n) (hi:i<n) (hs:d.need.length≤1048576)
  (hwf:(Lit.int .i64 d.on).wf=true∧(Lit.int .i64 d.off).wf=true∧(Lit.int .i64 d.flip).wf=true):
  St w ((((W.setCell ⟨g,i*4,none⟩ nv).setCell ⟨g,i*4+1,none⟩ (.int .i64 d.on)).setCell ⟨g,i*4+2,none⟩ (.int .i64 d.off)).setCell ⟨g,i*4+3,none⟩ (.int .i64 d.flip)) (fD (.slice (some ⟨g,0,none⟩) n c) (ds.set i d)::L):=
 LH ((Sn.dN h).merge 0 1 (by decide) rfl rfl fun F G ⟨cs,Fs,h1,h2⟩ g1 hdis hlo=>jG.put h1 hn h2 g1 hdis hi hs hwf) rfl fun i=>rfl
end
end Go.Proofs.YtkmcengmglgdeaaGreatDoor
