/- Joined texts: Deed, Task, Own. -/
import Derived.Test.YtkmcengmglgdeaaGreatDoorSRun

namespace Go.Proofs.YtkmcengmglgdeaaGreatDoor
set_option linter.unusedVariables false
set_option linter.unusedSimpArgs false
set_option maxRecDepth 100000
set_option maxHeartbeats 8000000
open Go.ChangeShapes Go.WideShapes Go.ChangeAt Go.RowKit
def ig (x:Int):Bool:=decide (0≤x∧x<32)
def Hr (a b c:Int):Bool:=decide (a.toNat &&& b.toNat=0)&&decide (a.toNat &&& c.toNat=0)&&decide (b.toNat &&& c.toNat=0)
def bJ (d:aj):Bool:=codeOk d.need&&ig d.on&&ig d.off&&ig d.flip&&Hr d.on d.off d.flip
def aK (t:aB):Bool:=ig t.start&&codeOk t.goal&&decide (t.ax.length≤6)&&t.ax.all bJ
theorem aU (x:Int):ig x=true↔0≤x∧x<32:=by unfold ig;simp
theorem vg (x:Int):ig x=false↔¬(0≤x∧x<32):=by unfold ig;simp only[decide_eq_false_iff_not]
theorem dH (x:Int) (w:World):Calls Tryz.prog 72 #[.int .i64 x] w fun e w'=>e= .returned (.bool (ig x))∧w=w':=by
 go_enter Tryz.func72,Tryz.ntmps72;go_wp2
 all_goals go_ret
 all_goals refine⟨bf ?_,rfl⟩
 all_goals unfold ig
 all_goals (symm;simp;omega)
theorem and_cast (a b:Int) (ha:0≤a∧a<32) (hb:0≤b∧b<32):bits .and .i64 a b=((a.toNat &&& b.toNat:Nat):Int):=by
 have h:=jE a.toNat b.toNat (by omega) (by omega)
 rwa[toNat_cast ha.1,toNat_cast hb.1] at h
theorem JB {n:Nat} (h:n=0):(((n:Nat):Int) == 0)=true:=by subst h;rfl
theorem JC {n:Nat} (h:¬n=0):(((n:Nat):Int) == 0)=false:=by simpa using h
theorem oD (x:Nat):∃b:Bool,(((x:Nat):Int) == 0)=b∧decide (x=0)=b:=by
 by_cases h:x=0
 ·exact⟨true,JB h,decide_eq_true h⟩
 ·exact⟨false,JC h,decide_eq_false h⟩
theorem BU (A:Option Addr) (n c:Nat) (need:List Int) (on off fl:Int) (w:World)
  (hw1:iO .i64 (w.alloc (Obj.cells #[.slice A n c,.int .i64 on,.int .i64 off,.int .i64 fl] 144)) (w.alloc (Obj.cells #[.slice A n c,.int .i64 on,.int .i64 off,.int .i64 fl] 144)).heap.size A n c need)
  (h1:codeOk need=true) (h2:ig on=true) (h3:ig off=true) (h4:ig fl=true):
  Calls Tryz.prog 141 #[.agg #[.slice A n c,.int .i64 on,.int .i64 off,.int .i64 fl]] w fun e w'=>e= .returned (.bool (bJ ⟨need,on,off,fl⟩))∧Below w.heap.size w w':=by
 have HW1:=af hw1;clear hw1;have e1:=and_cast on off ((aU _).1 h2) ((aU _).1 h3);have e2:=and_cast on fl ((aU _).1 h2) ((aU _).1 h4);have e3:=and_cast off fl ((aU _).1 h3) ((aU _).1 h4);obtain⟨bx,hx,hx'⟩:=oD (on.toNat &&& off.toNat);obtain⟨by',hy,hy'⟩:=oD (on.toNat &&& fl.toNat);obtain⟨bz,hz,hz'⟩:=oD (off.toNat &&& fl.toNat);have HV:Hid (bJ ⟨need,on,off,fl⟩=(bx&&by'&&bz)):=af (by unfold bJ Hr;rw[h1,h2,h3,h4,hx',hy',hz'];rfl);have H1:=af h1;have H2:=af h2;have H3:=af h3;have H4:=af h4;clear h1 h2 h3 h4 hx' hy' hz'
 generalize on.toNat &&& off.toNat=x at*
 generalize on.toNat &&& fl.toNat=y at*
 generalize off.toNat &&& fl.toNat=z at*
 go_enter Tryz.func141,Tryz.ntmps141
 go_wp2_with fail
 refine(dN _ _ _ need _ HW1.out).mono ?_;rw[H1.out];rintro e w' ⟨rfl,rfl⟩
 go_wp2_with fail
 refine(dH on _).mono ?_;rw[H2.out];rintro e w' ⟨rfl,rfl⟩
 go_wp2_with fail
 refine(dH off _).mono ?_;rw[H3.out];rintro e w' ⟨rfl,rfl⟩
 go_wp2_with fail
 refine(dH fl _).mono ?_;rw[H4.out];rintro e w' ⟨rfl,rfl⟩
 cases bx
 ·go_wp2;go_ret;exact⟨by rw[HV.out];rfl,(ai _ _).alloc (ay _) _⟩
 cases by'
 ·go_wp2;go_ret;exact⟨by rw[HV.out];rfl,(ai _ _).alloc (ay _) _⟩
 cases bz
 ·go_wp2;go_ret;exact⟨by rw[HV.out];rfl,(ai _ _).alloc (ay _) _⟩
 ·go_wp2;go_ret;exact⟨by rw[HV.out];rfl,(ai _ _).alloc (ay _) _⟩
theorem BR (A:Option Addr) (n c:Nat) (d:aj) (w:World) (h:iO .i64 w w.heap.size A n c d.need):
  Calls Tryz.prog 141 #[.agg #[.slice A n c,.int .i64 d.on,.int .i64 d.off,.int .i64 d.flip]] w fun e w'=>e= .returned (.bool (bJ d))∧Below w.heap.size w w':=by
 obtain⟨need,on,off,fl⟩:=d
 simp only at h ⊢
 have hw1:iO .i64 (w.alloc (Obj.cells #[.slice A n c,.int .i64 on,.int .i64 off,.int .i64 fl] 144)) (w.alloc (Obj.cells #[.slice A n c,.int .i64 on,.int .i64 off,.int .i64 fl] 144)).heap.size A n c need:=(h.below ((ai _ _).alloc (ay _) _)).more (by simp);have HW1:=af hw1;clear hw1
 by_cases h1:codeOk need=true
 case neg=>
  have h1f:codeOk need=false:=by simpa using h1
  have HV:Hid (bJ ⟨need,on,off,fl⟩=false):=af (by unfold bJ;rw[h1f];simp);have H1:=af h1f;clear h1 h1f;go_enter Tryz.func141,Tryz.ntmps141
  go_wp2_with (go_at_call 140;refine(dN _ _ _ need _ HW1.out).mono ?_;rw[H1.out];rintro e w' ⟨rfl,rfl⟩)
  go_ret;exact⟨bf HV.out.symm,(ai _ _).alloc (ay _) _⟩
 by_cases h2:ig on=true
 case neg=>
  have h2f:ig on=false:=by simpa using h2
  have HV:Hid (bJ ⟨need,on,off,fl⟩=false):=af (by unfold bJ;rw[h2f];simp);have H1:=af h1;have H2:=af h2f;clear h1 h2 h2f;go_enter Tryz.func141,Tryz.ntmps141
  go_wp2_with (first
   | (go_at_call 140;refine(dN _ _ _ need _ HW1.out).mono ?_;rw[H1.out];rintro e w' ⟨rfl,rfl⟩)
   | (go_at_call 72;refine(dH on _).mono ?_;rw[H2.out];rintro e w' ⟨rfl,rfl⟩))
  go_ret;exact⟨bf HV.out.symm,(ai _ _).alloc (ay _) _⟩
 by_cases h3:ig off=true
 case neg=>
  have h3f:ig off=false:=by simpa using h3
  have HV:Hid (bJ ⟨need,on,off,fl⟩=false):=af (by unfold bJ;rw[h3f];simp);have H1:=af h1;have H2:=af h2;have H3:=af h3f;clear h1 h2 h3 h3f;go_enter Tryz.func141,Tryz.ntmps141
  go_wp2_with fail
  refine(dN _ _ _ need _ HW1.out).mono ?_;rw[H1.out];rintro e w' ⟨rfl,rfl⟩
  go_wp2_with fail
  refine(dH on _).mono ?_;rw[H2.out];rintro e w' ⟨rfl,rfl⟩
  go_wp2_with fail
  refine(dH off _).mono ?_;rw[H3.out];rintro e w' ⟨rfl,rfl⟩;go_wp2;go_ret;exact⟨bf HV.out.symm,(ai _ _).alloc (ay _) _⟩
 by_cases h4:ig fl=true
 case neg=>
  have h4f:ig fl=false:=by simpa using h4
  have HV:Hid (bJ ⟨need,on,off,fl⟩=false):=af (by unfold bJ;rw[h4f];simp);have H1:=af h1;have H2:=af h2;have H3:=af h3;have H4:=af h4f;clear h1 h2 h3 h4 h4f;go_enter Tryz.func141,Tryz.ntmps141
  go_wp2_with fail
  refine(dN _ _ _ need _ HW1.out).mono ?_;rw[H1.out];rintro e w' ⟨rfl,rfl⟩
  go_wp2_with fail
  refine(dH on _).mono ?_;rw[H2.out];rintro e w' ⟨rfl,rfl⟩
  go_wp2_with fail
  refine(dH off _).mono ?_;rw[H3.out];rintro e w' ⟨rfl,rfl⟩
  go_wp2_with fail
  refine(dH fl _).mono ?_;rw[H4.out];rintro e w' ⟨rfl,rfl⟩;go_wp2;go_ret;exact⟨bf HV.out.symm,(ai _ _).alloc (ay _) _⟩
 exact BU A n c need on off fl w HW1.out h1 h2 h3 h4
theorem lY (A:Option Addr) (n c:Nat) (d:aj) (w:World) (h:iO .i64 w w.heap.size A n c d.need) (kY:n≤1099511627776):
  Calls Tryz.prog 134 #[.agg #[.slice A n c,.int .i64 d.on,.int .i64 d.off,.int .i64 d.flip]] w fun e w'=>e= .returned (.bool (bJ d))∧Below w.heap.size w w':=by
 obtain⟨need,on,off,fl⟩:=d
 simp only at h ⊢
 have hw1:iO .i64 (w.alloc (Obj.cells #[.slice A n c,.int .i64 on,.int .i64 off,.int .i64 fl] 144)) (w.alloc (Obj.cells #[.slice A n c,.int .i64 on,.int .i64 off,.int .i64 fl] 144)).heap.size A n c need:=(h.below ((ai _ _).alloc (ay _) _)).more (by simp);have HW1:=af hw1;clear hw1
 by_cases h2:ig on=true
 case neg=>
  have hf:ig on=false:=by simpa using h2
  have HV:Hid (bJ ⟨need,on,off,fl⟩=false):=af (by unfold bJ;rw[hf];simp);have HF:=af hf
  clear h2 hf;go_enter Tryz.func134,Tryz.ntmps134
  go_wp2_with fail
  refine(iU on _ _ _).mono ?_;rw[show decide (0≤on∧on≤31)=false from decide_eq_false (by have:=(vg on).1 HF.out;omega)];rintro e w' ⟨rfl,rfl⟩;go_wp2;go_ret;exact⟨bf HV.out.symm,(ai _ _).alloc (ay _) _⟩
 by_cases h3:ig off=true
 case neg=>
  have hf:ig off=false:=by simpa using h3
  have HV:Hid (bJ ⟨need,on,off,fl⟩=false):=af (by unfold bJ;rw[hf];simp);have HF:=af hf;have H2:=af h2;clear h3 hf h2;go_enter Tryz.func134,Tryz.ntmps134
  go_wp2_with fail
  refine(iU on _ _ _).mono ?_;rw[show decide (0≤on∧on≤31)=true from decide_eq_true (by have:=(aU on).1 H2.out;omega)];rintro e w' ⟨rfl,rfl⟩
  go_wp2_with fail
  refine(iU off _ _ _).mono ?_;rw[show decide (0≤off∧off≤31)=false from decide_eq_false (by have:=(vg off).1 HF.out;omega)];rintro e w' ⟨rfl,rfl⟩;go_wp2;go_ret;exact⟨bf HV.out.symm,(ai _ _).alloc (ay _) _⟩
 by_cases h4:ig fl=true
 case neg=>
  have hf:ig fl=false:=by simpa using h4
  have HV:Hid (bJ ⟨need,on,off,fl⟩=false):=af (by unfold bJ;rw[hf];simp);have HF:=af hf;have H2:=af h2;have H3:=af h3;clear h4 hf h2 h3;go_enter Tryz.func134,Tryz.ntmps134
  go_wp2_with fail
  refine(iU on _ _ _).mono ?_;rw[show decide (0≤on∧on≤31)=true from decide_eq_true (by have:=(aU on).1 H2.out;omega)];rintro e w' ⟨rfl,rfl⟩
  go_wp2_with fail
  refine(iU off _ _ _).mono ?_;rw[show decide (0≤off∧off≤31)=true from decide_eq_true (by have:=(aU off).1 H3.out;omega)];rintro e w' ⟨rfl,rfl⟩
  go_wp2_with fail
  refine(iU fl _ _ _).mono ?_;rw[show decide (0≤fl∧fl≤31)=false from decide_eq_false (by have:=(vg fl).1 HF.out;omega)];rintro e w' ⟨rfl,rfl⟩;go_wp2;go_ret;exact⟨bf HV.out.symm,(ai _ _).alloc (ay _) _⟩
 obtain⟨bx,hx,hx'⟩:=oD (on.toNat &&& off.toNat);obtain⟨by',hy,hy'⟩:=oD (on.toNat &&& fl.toNat);obtain⟨bz,hz,hz'⟩:=oD (off.toNat &&& fl.toNat);obtain⟨b1,h1⟩:∃b,codeOk need=b:=⟨_,rfl⟩;have HV:Hid (bJ ⟨need,on,off,fl⟩=(b1&&bx&&by'&&bz)):=af (by unfold bJ Hr;rw[h1,h2,h3,h4,hx',hy',hz'];cases b1<;>cases bx<;>cases by'<;>cases bz<;>rfl);have H1:=af h1;have H2:=af h2;have H3:=af h3;have H4:=af h4;have C1:=af (oL on off ((aU _).1 h2).1 (by have:=((aU _).1 h2).2;omega) ((aU _).1 h3).1);have C2:=af (oL on fl ((aU _).1 h2).1 (by have:=((aU _).1 h2).2;omega) ((aU _).1 h4).1);have C3:=af (oL off fl ((aU _).1 h3).1 (by have:=((aU _).1 h3).2;omega) ((aU _).1 h4).1);clear h1 h2 h3 h4 hx' hy' hz'
 generalize on.toNat &&& off.toNat=x at*
 generalize on.toNat &&& fl.toNat=y at*
 generalize off.toNat &&& fl.toNat=z at*
 go_enter Tryz.func134,Tryz.ntmps134
 go_wp2_with fail
 refine(iU on _ _ _).mono ?_;rw[show decide (0≤on∧on≤31)=true from decide_eq_true (by have:=(aU on).1 H2.out;omega)];rintro e w' ⟨rfl,rfl⟩
 go_wp2_with fail
 refine(iU off _ _ _).mono ?_;rw[show decide (0≤off∧off≤31)=true from decide_eq_true (by have:=(aU off).1 H3.out;omega)];rintro e w' ⟨rfl,rfl⟩
 go_wp2_with fail
 refine(iU fl _ _ _).mono ?_;rw[show decide (0≤fl∧fl≤31)=true from decide_eq_true (by have:=(aU fl).1 H4.out;omega)];rintro e w' ⟨rfl,rfl⟩
 go_wp2_with fail
 refine(jy _ _ _ need _ HW1.out kY).mono ?_;rw[H1.out];rintro e w' ⟨rfl,rfl⟩
 cases b1
 ·go_wp2;go_ret;exact⟨by rw[HV.out];rfl,(ai _ _).alloc (ay _) _⟩
 go_wp2_with fail
 refine(C1.out _).mono ?_;rintro e w' ⟨rfl,rfl⟩
 cases bx
 ·go_wp2;go_ret;exact⟨by rw[HV.out];rfl,(ai _ _).alloc (ay _) _⟩
 go_wp2_with fail
 refine(C2.out _).mono ?_;rintro e w' ⟨rfl,rfl⟩
 cases by'
 ·go_wp2;go_ret;exact⟨by rw[HV.out];rfl,(ai _ _).alloc (ay _) _⟩
 go_wp2_with fail
 refine(C3.out _).mono ?_;rintro e w' ⟨rfl,rfl⟩
 cases bz
 ·go_wp2;go_ret;exact⟨by rw[HV.out];rfl,(ai _ _).alloc (ay _) _⟩
 ·go_wp2;go_ret;exact⟨by rw[HV.out];rfl,(ai _ _).alloc (ay _) _⟩
def qY (M:Nat) (w:World) (B b o:Nat) (d:aj):Prop:=
 ∃A n c,w.cell? ⟨b,o,none⟩=some (.slice A n c)∧w.cell? ⟨b,o+1,none⟩=some (.int .i64 d.on)∧w.cell? ⟨b,o+2,none⟩=some (.int .i64 d.off)∧w.cell? ⟨b,o+3,none⟩=some (.int .i64 d.flip)∧
  iO .i64 w B A n c d.need∧n≤M∧(Lit.int .i64 d.on).wf=true∧(Lit.int .i64 d.off).wf=true∧(Lit.int .i64 d.flip).wf=true
structure jY (M:Nat) (w:World) (B:Nat) (A:Option Addr) (n c:Nat) (ds:List aj):Prop where
 len:ds.length=n
 cap:n≤c
 bZ:c≤maxLen
 small:n≤M
 at_:0<n→∃b off,A=some ⟨b,off,none⟩∧b<B∧∀i d,ds[i]? =some d→qY M w B b (off+i*4) d
def pU (M:Nat) (w:World) (B:Nat) (v:Value) (t:aB):Prop:=
 ∃A n c A' n' c',v= .agg #[.int .i64 t.start,.slice A n c,.slice A' n' c']∧iO .i64 w B A n c t.goal∧n≤M∧jY M w B A' n' c' t.ax∧(Lit.int .i64 t.start).wf=true
abbrev aek:=qY 1048576
abbrev MQ:=jY 1048576
abbrev nI:=pU 1048576
section
variable {M : Nat} {w w' : World} {B B' : Nat}
theorem qY.keep {b o:Nat} {d:aj} (h:qY M w B b o d) (hb:b<B) (hk:∀b o,b<B→w'.cell? ⟨b,o,none⟩=w.cell? ⟨b,o,none⟩):qY M w' B b o d:=by
 obtain⟨A,n,c,h0,h1,h2,h3,h4,r⟩:=h;exact⟨A,n,c,(hk _ _ hb).trans h0,(hk _ _ hb).trans h1,(hk _ _ hb).trans h2,(hk _ _ hb).trans h3,h4.keep hk,r⟩
theorem qY.more {b o:Nat} {d:aj} (h:qY M w B b o d) (hB:B≤B'):qY M w B' b o d:=by
 obtain⟨A,n,c,h0,h1,h2,h3,h4,r⟩:=h;exact⟨A,n,c,h0,h1,h2,h3,h4.more hB,r⟩
theorem jY.keep {A:Option Addr} {n c:Nat} {ds:List aj} (h:jY M w B A n c ds) (hk:∀b o,b<B→w'.cell? ⟨b,o,none⟩=w.cell? ⟨b,o,none⟩):jY M w' B A n c ds:=
 ⟨h.len,h.cap,h.bZ,h.small,fun hn=>by
  obtain⟨b,off,e,hb,hc⟩:=h.at_ hn
  exact⟨b,off,e,hb,fun i d hd=>(hc i d hd).keep hb hk⟩⟩
theorem jY.more {A:Option Addr} {n c:Nat} {ds:List aj} (h:jY M w B A n c ds) (hB:B≤B'):jY M w B' A n c ds:=
 ⟨h.len,h.cap,h.bZ,h.small,fun hn=>by
  obtain⟨b,off,e,hb,hc⟩:=h.at_ hn
  exact⟨b,off,e,by omega,fun i d hd=>(hc i d hd).more hB⟩⟩
theorem jY.below {A:Option Addr} {n c:Nat} {ds:List aj} (h:jY M w B A n c ds) (hb:Below B w w'):jY M w' B A n c ds:=h.keep (aC hb)
theorem jY.get {A:Option Addr} {n c:Nat} {ds:List aj} (h:jY M w B A n c ds) {i:Nat} (hi:i<n):∃b off d,A=some ⟨b,off,none⟩∧b<B∧ds[i]? =some d∧qY M w B b (off+i*4) d:=by
 obtain⟨b,off,e,hb,hc⟩:=h.at_ (by omega);have hl:i<ds.length:=by rw[h.len];exact hi
 exact⟨b,off,ds[i],e,hb,bD hl,hc i _ (bD hl)⟩
theorem pU.keep {v:Value} {t:aB} (h:pU M w B v t) (hk:∀b o,b<B→w'.cell? ⟨b,o,none⟩=w.cell? ⟨b,o,none⟩):pU M w' B v t:=by
 obtain⟨A,n,c,A',n',c',e,h1,h2,h3,h4⟩:=h;exact⟨A,n,c,A',n',c',e,h1.keep hk,h2,h3.keep hk,h4⟩
theorem pU.more {v:Value} {t:aB} (h:pU M w B v t) (hB:B≤B'):pU M w B' v t:=by
 obtain⟨A,n,c,A',n',c',e,h1,h2,h3,h4⟩:=h;exact⟨A,n,c,A',n',c',e,h1.more hB,h2,h3.more hB,h4⟩
theorem pU.below {v:Value} {t:aB} (h:pU M w B v t) (hb:Below B w w'):pU M w' B v t:=h.keep (aC hb)
theorem pU.up {v:Value} {t:aB} (h:pU M w w.heap.size v t) (hb:Below w.heap.size w w'):pU M w' w'.heap.size v t:=(h.below hb).more hb.size
theorem iO.up {k:IntKind} {A:Option Addr} {n c:Nat} {xs:List Int} (h:iO k w w.heap.size A n c xs) (hb:Below w.heap.size w w'):iO k w' w'.heap.size A n c xs:=(h.below hb).more hb.size
theorem jY.up {A:Option Addr} {n c:Nat} {ds:List aj} (h:jY M w w.heap.size A n c ds) (hb:Below w.heap.size w w'):jY M w' w'.heap.size A n c ds:=(h.below hb).more hb.size
end
theorem zQ (t:aB) (k:Nat) (d:aj) (hd:t.ax[k]? =some d) (h:bJ d=false):aK t=false:=by
 unfold aK
 have:t.ax.all bJ=false:=by rw[List.all_eq_false];exact⟨d,bU hd,by rw[h];simp⟩
 rw[this];simp
theorem BQ (t:aB) (h1:ig t.start=true) (h2:codeOk t.goal=true) (h3:t.ax.length≤6) (h4:∀(k:Nat) (d:aj),t.ax[k]? =some d→bJ d=true):aK t=true:=by
 unfold aK
 rw[h1,h2,decide_eq_true h3];simp only[Bool.true_and,List.all_eq_true];exact fun d hd=>by obtain⟨k,hk⟩:=List.mem_iff_getElem?.1 hd;exact h4 k d hk
theorem bV (v:Value) (t:aB) (w:World) (h:nI w w.heap.size v t):
  Calls Tryz.prog 71 #[v] w fun e w'=>e= .returned (.bool (aK t))∧Below w.heap.size w w':=by
 obtain⟨A,n,c,A',n',c',rfl,hg,hgs,hds,hst⟩:=h;have hb0:Below w.heap.size w (w.alloc (Obj.cells #[.int .i64 t.start,.slice A n c,.slice A' n' c'] 26)):=(ai _ _).alloc (ay _) _;have HG:=af (hg.up hb0);have hdl:=hds.len;have hdc:=hds.cap;have hdm:=hds.bZ;have aaL:=hds.small
 unfold maxLen at hdm
 obtain⟨bs,h1⟩:∃b,ig t.start=b:=⟨_,rfl⟩;obtain⟨bg,h2⟩:∃b,codeOk t.goal=b:=⟨_,rfl⟩;have H1:=af h1;have H2:=af h2;have fF:=af hdl;have HB0:=af hb0;clear h1 h2 hdl hb0;go_enter Tryz.func71,Tryz.ntmps71
 go_wp2_with fail
 refine(dH _ _).mono ?_;rw[H1.out];rintro e w' ⟨rfl,rfl⟩
 cases bs
 ·have HV:Hid (aK t=false):=af (by unfold aK;rw[H1.out];simp);go_wp2;go_ret;exact⟨by rw[HV.out];rfl,HB0.out⟩
 go_wp2_with fail
 refine(dN _ _ _ _ _ HG.out).mono ?_;rw[H2.out];rintro e w' ⟨rfl,rfl⟩
 cases bg
 ·have HV:Hid (aK t=false):=af (by unfold aK;rw[H2.out];simp);go_wp2;go_ret;exact⟨by rw[HV.out];rfl,HB0.out⟩
 by_cases h6:n'≤6
 case neg=>
  have HV:Hid (aK t=false):=af (by unfold aK;rw[decide_eq_false (by rw[fF.out];exact h6)];simp);go_wp2;go_ret;exact⟨by rw[HV.out];rfl,HB0.out⟩
 go_wp2
 go_loopw [24] (fun i wr=>∃k:Nat,k≤n'∧i= .int .i64 k∧Hid (∀(j:Nat) (d:aj),j<k→t.ax[j]? =some d→bJ d=true)∧Below w.heap.size w wr) (fun i _=>n'-(intOf i).toNat)
 case atStart=>exact⟨0,by omega,rfl,af (by omega),HB0.out⟩
 case round=>
  obtain⟨k,hk,rfl,hpre,hbel⟩:=hrel
  by_cases hlt:k<n'
  ·obtain⟨b,off,d,rfl,hb,hd,hda⟩:=hds.get hlt;obtain⟨An,nn,cn,q0,q1,q2,q3,bW,-⟩:=(hda.keep hb (aC hbel));have HD:=af hd;clear hd hda
   go_wp2_with fail
   have hal:Below wr.heap.size wr (wr.alloc (Obj.cells #[Value.slice An nn cn,Value.int IntKind.i64 d.on,Value.int IntKind.i64 d.off,Value.int IntKind.i64 d.flip] 144)):=(ai _ _).alloc (ay _) _;refine(BR An nn cn d _ (((bW.more hbel.size).below hal).more hal.size)).mono ?_;rintro e w2 ⟨rfl,hb2⟩;have qH:Below w.heap.size w w2:=hbel.trans ((hal.trans (hb2.mono hal.size)).mono hbel.size);clear hal hb2 q0 q1 q2 q3;obtain⟨bd,hdk⟩:∃b,bJ d=b:=⟨_,rfl⟩;rw[hdk];have HDK:=af hdk;clear hdk
   cases bd
   ·have HV:=af (zQ t k d HD.out HDK.out);go_wp2;go_ret;exact⟨by rw[HV.out];rfl,qH⟩
   ·go_wp2
    go_roundw
    case rel=>exact⟨k+1,by omega,by go_num,af (fun j e hj he=>by
     rcases Nat.lt_or_ge j k with h1 | h1
     ·exact hpre.out j e h1 he
     ·obtain rfl:j=k:=by omega
      have:=he.symm.trans HD.out
      injection this with this
      subst this
      exact HDK.out),qH⟩
    case measure=>simp[intOf];omega
  ·have HV:=af (BQ t H1.out H2.out (by rw[fF.out];exact h6) (fun j d hd=>hpre.out j d (by have:=(aW.1 hd).1;have:=fF.out;omega) hd));go_wp2;go_ret;exact⟨by rw[HV.out];rfl,hbel⟩
theorem bP (v:Value) (t:aB) (w:World) (h:nI w w.heap.size v t):
  Calls Tryz.prog 66 #[v] w fun e w'=>e= .returned (.bool (aK t))∧Below w.heap.size w w':=by
 obtain⟨A,n,c,A',n',c',rfl,hg,hgs,hds,hst⟩:=h;have hb0:Below w.heap.size w (w.alloc (Obj.cells #[.int .i64 t.start,.slice A n c,.slice A' n' c'] 26)):=(ai _ _).alloc (ay _) _;have hk0:=iJ.new w 26 #[.int .i64 t.start,.slice A n c,.slice A' n' c'];have hdl:=hds.len;have hdc:=hds.cap;have hdm:=hds.bZ;have aaL:=hds.small
 unfold maxLen at hdm
 have fF:=af hdl;clear hdl;go_enter Tryz.func66,Tryz.ntmps66;go_wp2
 go_loopw [3] (fun i wr=>∃k:Nat,k≤n'∧i= .int .i64 k∧Hid (∀(j:Nat) (d:aj),j<k→t.ax[j]? =some d→bJ d=true)∧iJ wr w.heap.size 26 #[.int .i64 t.start,.slice A n c,.slice A' n' c']∧Below w.heap.size w wr) (fun i _=>n'-(intOf i).toNat)
 case atStart=>exact⟨0,by omega,rfl,af (by omega),hk0,hb0⟩
 case round=>
  obtain⟨k,hk,rfl,hpre,hblk,hbel⟩:=hrel;have p0:wr.cell? ⟨w.heap.size,0,none⟩=some (.int .i64 t.start):=hblk.cell 0;have p1:wr.cell? ⟨w.heap.size,1,none⟩=some (.slice A n c):=hblk.cell 1;have p2:wr.cell? ⟨w.heap.size,2,none⟩=some (.slice A' n' c'):=hblk.cell 2
  by_cases hlt:k<n'
  ·obtain⟨b,off,d,rfl,hb,hd,hda⟩:=hds.get hlt;obtain⟨An,nn,cn,q0,q1,q2,q3,bW,hnn,-⟩:=(hda.keep hb (aC hbel));have HD:=af hd;clear hd hda
   go_wp2_with fail
   refine(lY An nn cn d _ (bW.more hbel.size) (by omega)).mono ?_;rintro e w2 ⟨rfl,hb2⟩;have qH:Below w.heap.size w w2:=hbel.trans (hb2.mono hbel.size);have hblk2:=hblk.below hb2 hblk.lt;clear hb2 q0 q1 q2 q3 p0 p1 p2 hblk;obtain⟨bd,hdk⟩:∃b,bJ d=b:=⟨_,rfl⟩;rw[hdk];have HDK:=af hdk;clear hdk
   cases bd
   ·have HV:=af (zQ t k d HD.out HDK.out);go_wp2;go_ret;exact⟨by rw[HV.out];rfl,qH⟩
   ·go_wp2
    go_roundw
    case rel=>exact⟨k+1,by omega,by go_num,af (fun j e hj he=>by
     rcases Nat.lt_or_ge j k with h1 | h1
     ·exact hpre.out j e h1 he
     ·obtain rfl:j=k:=by omega
      have:=he.symm.trans HD.out
      injection this with this
      subst this
      exact HDK.out),hblk2,qH⟩
    case measure=>simp[intOf];omega
  ·obtain⟨bs,h1⟩:∃b,ig t.start=b:=⟨_,rfl⟩;obtain⟨bg,h2⟩:∃b,codeOk t.goal=b:=⟨_,rfl⟩;have H1:=af h1;have H2:=af h2;clear h1 h2
   go_wp2_with fail
   cases bs
   ·have HV:Hid (aK t=false):=af (by unfold aK;rw[H1.out];simp);refine(lZ _ _ _ _ (by have:=(vg _).1 H1.out;omega)).mono ?_;rintro e w' ⟨rfl,rfl⟩;go_wp2;go_ret;exact⟨by rw[HV.out];rfl,hbel⟩
   refine(fB _ _ _ _ ((aU _).1 H1.out).1 (by have:=((aU _).1 H1.out).2;omega)).mono ?_;rintro e w' ⟨rfl,rfl⟩
   go_wp2_with fail
   refine(jy _ _ _ t.goal _ ((hg.below hbel).more hbel.size) (by omega)).mono ?_;rw[H2.out];rintro e w' ⟨rfl,rfl⟩
   cases bg
   ·have HV:Hid (aK t=false):=af (by unfold aK;rw[H2.out];simp);go_wp2;go_ret;exact⟨by rw[HV.out];rfl,hbel⟩
   by_cases h6:n'≤6
   ·have HV:=af (BQ t H1.out H2.out (by rw[fF.out];exact h6) (fun j d hd=>hpre.out j d (by have:=(aW.1 hd).1;have:=fF.out;omega) hd));go_wp2;go_ret;exact⟨by rw[HV.out];exact bf (decide_eq_true (show(n':Int)≤6 by omega)),hbel⟩
   ·have HV:Hid (aK t=false):=af (by unfold aK;rw[decide_eq_false (by rw[fF.out];exact h6)];simp);go_wp2;go_ret;exact⟨by rw[HV.out];exact bf (decide_eq_false (show¬(n':Int)≤6 by omega)),hbel⟩
structure Only (F:List Nat) (w w':World):Prop where
 os:w'.os=w.os
 tape:w'.tape=w.tape
 output:w'.output=w.output
 size:w.heap.size≤w'.heap.size
 block:∀k,k<w.heap.size→k∉F→w'.heap[k]? =w.heap[k]?
theorem Only.refl (F:List Nat) (w:World):Only F w w:=⟨rfl,rfl,rfl,ay _,fun _ _ _=>rfl⟩
theorem Only.trans {F:List Nat} {a b c:World} (h:Only F a b) (k:Only F b c):Only F a c:=
 ⟨k.os.trans h.os,k.tape.trans h.tape,k.output.trans h.output,Nat.le_trans h.size k.size,fun i hi hn=>(k.block i (Nat.lt_of_lt_of_le hi h.size) hn).trans (h.block i hi hn)⟩
theorem Only.sub {F F':List Nat} {a b:World} (h:Only F a b) (hs:∀x∈F,x∈F'):Only F' a b:=⟨h.os,h.tape,h.output,h.size,fun i hi hn=>h.block i hi fun hx=>hn (hs i hx)⟩
theorem Only.of_below {F:List Nat} {a b:World} (h:Below a.heap.size a b):Only F a b:=⟨h.os,h.tape,h.output,h.size,fun i hi _=>h.block i hi⟩
theorem Only.below {F:List Nat} {a b:World} {B:Nat} (h:Only F a b) (hF:∀x∈F,B≤x) (hB:B≤a.heap.size):Below B a b:=⟨h.os,h.tape,h.output,h.size,fun i hi=>h.block i (by omega) fun hx=>by have:=hF i hx;omega⟩
theorem Only.set {F:List Nat} {a w:World} (h:Only F a w) {p:Addr} (hp:p.block∈F) (u:Value):Only F a (w.setCell p u):=
 h.trans ⟨rfl,rfl,rfl,by simp[World.setCell],fun k _ hn=>Below.heap_setCell _ _ _ _ (by rintro rfl;exact hn hp)⟩
theorem Only.nN {a b:World} {row:Option Nat} (h:a.grownBy b row):Only row.toList a b:=⟨h.os,h.tape,h.output,h.size,fun i hi hn=>h.block i hi (by rintro rfl;simp at hn)⟩
structure jP (w:World) (lo:Nat) (v:Value) (xs:List Int) (F:List Nat):Prop where
 row:w.ownsRow lo 3 1 v xs.length (ints xs)
 wf:∀x∈xs,(Lit.int .i64 x).wf=true
 foot:F=v.ownBlock.toList
theorem kC {w w':World} {base:Nat} {e:TypeId} {size n:Nat} {v:Value} {xs:List Value} (h:w.ownsRow base e size v n xs) (hk:∀b,v.ownBlock=some b→w'.heap[b]? =w.heap[b]?):w'.ownsRow base e size v n xs:=by
 refine⟨h.1,?_⟩
 rcases h.2 with h | ⟨g,cap,cur,rfl,hg,hh,r⟩
 ·exact .inl h
 ·exact .inr ⟨g,cap,cur,rfl,hg,(hk g rfl).trans hh,r⟩
section
variable {w w' : World} {lo : Nat} {v : Value} {xs : List Int} {F : List Nat}
theorem jP.keep (h:jP w lo v xs F) (hk:∀b∈F,w'.heap[b]? =w.heap[b]?):jP w' lo v xs F:=
 ⟨kC h.row fun b hb=>hk b (by rw[h.foot,hb];simp),h.wf,h.foot⟩
theorem jP.lt (h:jP w lo v xs F):∀b∈F,lo≤b∧b<w.heap.size:=fun b hb=>h.row.lt b (by rw[h.foot] at hb;simpa using hb)
theorem jP.nodup (h:jP w lo v xs F):F.Nodup:=by rw[h.foot];cases v.ownBlock<;>simp
theorem jP.rd (h:jP w lo v xs F):∃A c,v= .slice A xs.length c∧iO .i64 w w.heap.size A xs.length c xs:=by
 obtain⟨A,c,hv⟩:=dS h.row;subst hv;exact⟨A,c,rfl,O0 h.row h.wf⟩
theorem jP.mono {lo':Nat} (h:jP w lo v xs F) (hl:lo'≤lo):jP w lo' v xs F:=⟨qG h.row hl,h.wf,h.foot⟩
theorem jP.below (h:jP w lo v xs F) (hb:Below w.heap.size w w'):jP w' lo v xs F:=h.keep fun b hx=>hb.block b (h.lt b hx).2
end
def TI (w:World) (lo:Nat) (cells:List Value) (i:Nat) (d:aj) (F:List Nat):Prop:=
 ∃nv,cells[i*4]? =some nv∧cells[i*4+1]? =some (.int .i64 d.on)∧cells[i*4+2]? =some (.int .i64 d.off)∧cells[i*4+3]? =some (.int .i64 d.flip)∧jP w lo nv d.need F∧d.need.length≤1048576∧
  (Lit.int .i64 d.on).wf=true∧(Lit.int .i64 d.off).wf=true∧(Lit.int .i64 d.flip).wf=true
structure iH (w:World) (lo:Nat) (v:Value) (ds:List aj) (F:List Nat) (cells:List Value) (Fs:List (List Nat)):Prop where
 row:w.ownsRow lo 144 4 v ds.length cells
 small:ds.length≤1048576
 qF:Fs.length=ds.length
 foot:F=v.ownBlock.toList++Fs.flatten
 deed:∀(i:Nat) d Fi,ds[i]? =some d→Fs[i]? =some Fi→TI w lo cells i d Fi
section
variable {w w' : World} {lo : Nat} {v : Value} {ds : List aj} {F : List Nat} {cells : List Value} {Fs : List (List Nat)}
theorem TI.keep {i:Nat} {d:aj} {Fi:List Nat} (h:TI w lo cells i d Fi) (hk:∀b∈Fi,w'.heap[b]? =w.heap[b]?):TI w' lo cells i d Fi:=by
 obtain⟨nv,h0,h1,h2,h3,h4,r⟩:=h;exact⟨nv,h0,h1,h2,h3,h4.keep hk,r⟩
theorem lV {Fs:List (List Nat)} {i:Nat} {Fi:List Nat} (h:Fs[i]? =some Fi) {b:Nat} (hb:b∈Fi):b∈Fs.flatten:=List.mem_flatten.2 ⟨Fi,bU h,hb⟩
theorem iH.keep (h:iH w lo v ds F cells Fs) (hk:∀b∈F,w'.heap[b]? =w.heap[b]?):iH w' lo v ds F cells Fs:=
 ⟨kC h.row fun b hb=>hk b (by rw[h.foot,hb];simp),h.small,h.qF,h.foot,fun i d Fi hd hF=>(h.deed i d Fi hd hF).keep fun b hb=>hk b (by rw[h.foot];exact List.mem_append_right _ (lV hF hb))⟩
theorem iH.lt (h:iH w lo v ds F cells Fs):∀b∈F,lo≤b∧b<w.heap.size:=fun b hb=>by
 rw[h.foot] at hb
 rcases List.mem_append.1 hb with hb | hb
 ·exact h.row.lt b (by simpa using hb)
 ·obtain⟨Fi,hF,hb⟩:=List.mem_flatten.1 hb;obtain⟨i,hi⟩:=List.mem_iff_getElem?.1 hF;have hl:i<ds.length:=by rw[←h.qF];exact(aW.1 hi).1
  obtain⟨nv,_,_,_,_,h4,_⟩:=h.deed i _ _ (bD hl) hi;exact h4.lt b hb
theorem iH.mono {lo':Nat} (h:iH w lo v ds F cells Fs) (hl:lo'≤lo):iH w lo' v ds F cells Fs:=
 ⟨qG h.row hl,h.small,h.qF,h.foot,fun i d Fi hd hF=>by
  obtain⟨nv,h0,h1,h2,h3,h4,r⟩:=h.deed i d Fi hd hF
  exact⟨nv,h0,h1,h2,h3,h4.mono hl,r⟩⟩
theorem iH.below (h:iH w lo v ds F cells Fs) (hb:Below w.heap.size w w'):iH w' lo v ds F cells Fs:=h.keep fun b hx=>hb.block b (h.lt b hx).2
theorem iH.rd (h:iH w lo v ds F cells Fs):∃A c,v= .slice A ds.length c∧MQ w w.heap.size A ds.length c ds:=by
 rcases h.row.2 with⟨rfl,h0⟩ | ⟨g,cap,cur,rfl,hg,hh,h3,h4,h5,h6⟩
 ·exact⟨none,0,by rw[h0],rfl,by omega,by unfold maxLen;omega,h.small,fun hn=>by omega⟩
 ·refine⟨_,_,rfl,rfl,h3,h4,h.small,fun _=>⟨g,0,rfl,(Array.getElem?_eq_some_iff.1 hh).1,fun i d hd=>?_⟩⟩;have hl:i<ds.length:=(aW.1 hd).1;obtain⟨nv,q0,q1,q2,q3,q4,q5,q6⟩:=h.deed i d (Fs[i]'(by rw[h.qF];exact hl)) hd (bD _)
  have hcell:∀j u,cells[j]? =some u→w.cell? ⟨g,j,none⟩=some u:=fun j u hu=>by
   have hj:j<ds.length*4:=by rw[←h.row.1];exact(aW.1 hu).1
   exact(h.row.cellAt j hj).trans hu
  obtain⟨A,c,rfl,hr⟩:=q4.rd;rw[Nat.zero_add];exact⟨A,_,c,hcell _ _ q0,hcell _ _ q1,hcell _ _ q2,hcell _ _ q3,hr,q5,q6⟩
end
def mY (w:World) (lo:Nat) (v:Value) (t:aB) (F:List Nat):Prop:=
 ∃gv dv Fg Fd cells Fs,v= .agg #[.int .i64 t.start,gv,dv]∧jP w lo gv t.goal Fg∧t.goal.length≤1048576∧iH w lo dv t.ax Fd cells Fs∧F=Fg++Fd∧(Lit.int .i64 t.start).wf=true
section
variable {w w' : World} {lo : Nat} {v : Value} {t : aB} {F : List Nat}
theorem mY.keep (h:mY w lo v t F) (hk:∀b∈F,w'.heap[b]? =w.heap[b]?):mY w' lo v t F:=by
 obtain⟨gv,dv,Fg,Fd,cells,Fs,e,h1,h2,h3,rfl,h4⟩:=h;exact⟨gv,dv,Fg,Fd,cells,Fs,e,h1.keep fun b hb=>hk b (List.mem_append_left _ hb),h2,h3.keep fun b hb=>hk b (List.mem_append_right _ hb),rfl,h4⟩
theorem mY.lt (h:mY w lo v t F):∀b∈F,lo≤b∧b<w.heap.size:=by
 obtain⟨gv,dv,Fg,Fd,cells,Fs,e,h1,h2,h3,rfl,h4⟩:=h;intro b hb
 rcases List.mem_append.1 hb with hb | hb
 ·exact h1.lt b hb
 ·exact h3.lt b hb
theorem mY.mono {lo':Nat} (h:mY w lo v t F) (hl:lo'≤lo):mY w lo' v t F:=by
 obtain⟨gv,dv,Fg,Fd,cells,Fs,e,h1,h2,h3,rfl,h4⟩:=h;exact⟨gv,dv,Fg,Fd,cells,Fs,e,h1.mono hl,h2,h3.mono hl,rfl,h4⟩
theorem mY.below (h:mY w lo v t F) (hb:Below w.heap.size w w'):mY w' lo v t F:=h.keep fun b hx=>hb.block b (h.lt b hx).2
theorem mY.rd (h:mY w lo v t F):nI w w.heap.size v t:=by
 obtain⟨gv,dv,Fg,Fd,cells,Fs,rfl,h1,h2,h3,rfl,h4⟩:=h;obtain⟨A,c,rfl,hg⟩:=h1.rd;obtain⟨A',c',rfl,hd⟩:=h3.rd;exact⟨A,_,c,A',_,c',rfl,hg,h2,hd,h4⟩
end
end Go.Proofs.YtkmcengmglgdeaaGreatDoor
