/- Joined texts: Deed, Task, Own, Sz, Part, To, Eq, Mark, Mark2. -/
import Derived.Test.YtkmcengmglgdeaaGreatDoorSNum
import Derived.StillTailTactics

namespace Go.Proofs.YtkmcengmglgdeaaGreatDoor
set_option linter.unusedVariables false
set_option linter.unusedSimpArgs false
set_option maxRecDepth 100000
set_option maxHeartbeats 8000000
open Go.ChangeShapes Go.WideShapes Go.ChangeAt Go.RowKit
def iJ (x:Int):Bool:=decide (0≤x∧x<32)
def IG (a b c:Int):Bool:=decide (a.toNat &&& b.toNat=0)&&decide (a.toNat &&& c.toNat=0)&&decide (b.toNat &&& c.toNat=0)
def bK (d:au):Bool:=codeOk d.need&&iJ d.on&&iJ d.off&&iJ d.flip&&IG d.on d.off d.flip
def aK (t:aB):Bool:=iJ t.start&&codeOk t.goal&&decide (t.ay.length≤6)&&t.ay.all bK
theorem aV (x:Int):iJ x=true↔0≤x∧x<32:=by unfold iJ;simp
theorem vP (x:Int):iJ x=false↔¬(0≤x∧x<32):=by unfold iJ;simp only[decide_eq_false_iff_not]
theorem dS (x:Int) (w:World):Calls Tryz.prog 72 #[.int .i64 x] w fun e w'=>e= .returned (.bool (iJ x))∧w=w':=by
 go_enter Tryz.func72,Tryz.ntmps72;go_wp2
 all_goals go_ret
 all_goals refine⟨aY ?_,rfl⟩
 all_goals unfold iJ
 all_goals (symm;simp;omega)
theorem and_cast (a b:Int) (ha:0≤a∧a<32) (hb:0≤b∧b<32):bits .and .i64 a b=((a.toNat &&& b.toNat:Nat):Int):=by
 have h:=jP a.toNat b.toNat (by omega) (by omega)
 rwa[toNat_cast ha.1,toNat_cast hb.1] at h
theorem KL {n:Nat} (h:n=0):(((n:Nat):Int) == 0)=true:=by subst h;rfl
theorem KN {n:Nat} (h:¬n=0):(((n:Nat):Int) == 0)=false:=by simpa using h
theorem pJ (x:Nat):∃b:Bool,(((x:Nat):Int) == 0)=b∧decide (x=0)=b:=by
 by_cases h:x=0
 ·exact⟨true,KL h,decide_eq_true h⟩
 ·exact⟨false,KN h,decide_eq_false h⟩
theorem Dv (A:Option Addr) (n c:Nat) (need:List Int) (on off fl:Int) (w:World)
  (hw1:jd .i64 (w.alloc (Obj.cells #[.slice A n c,.int .i64 on,.int .i64 off,.int .i64 fl] 144)) (w.alloc (Obj.cells #[.slice A n c,.int .i64 on,.int .i64 off,.int .i64 fl] 144)).heap.size A n c need)
  (h1:codeOk need=true) (h2:iJ on=true) (h3:iJ off=true) (h4:iJ fl=true):
  Calls Tryz.prog 141 #[.agg #[.slice A n c,.int .i64 on,.int .i64 off,.int .i64 fl]] w fun e w'=>e= .returned (.bool (bK ⟨need,on,off,fl⟩))∧Below w.heap.size w w':=by
 have HW1:=af hw1;clear hw1;have e1:=and_cast on off ((aV _).1 h2) ((aV _).1 h3);have e2:=and_cast on fl ((aV _).1 h2) ((aV _).1 h4);have e3:=and_cast off fl ((aV _).1 h3) ((aV _).1 h4);obtain⟨bx,hx,hx'⟩:=pJ (on.toNat &&& off.toNat);obtain⟨by',hy,hy'⟩:=pJ (on.toNat &&& fl.toNat);obtain⟨bz,hz,hz'⟩:=pJ (off.toNat &&& fl.toNat);have HV:Hid (bK ⟨need,on,off,fl⟩=(bx&&by'&&bz)):=af (by unfold bK IG;rw[h1,h2,h3,h4,hx',hy',hz'];rfl);have H1:=af h1;have H2:=af h2;have H3:=af h3;have H4:=af h4;clear h1 h2 h3 h4 hx' hy' hz'
 generalize on.toNat &&& off.toNat=x at*
 generalize on.toNat &&& fl.toNat=y at*
 generalize off.toNat &&& fl.toNat=z at*
 go_enter Tryz.func141,Tryz.ntmps141
 go_wp2_with fail
 refine(dZ _ _ _ need _ HW1.out).mono ?_;rw[H1.out];rintro e w' ⟨rfl,rfl⟩
 go_wp2_with fail
 refine(dS on _).mono ?_;rw[H2.out];rintro e w' ⟨rfl,rfl⟩
 go_wp2_with fail
 refine(dS off _).mono ?_;rw[H3.out];rintro e w' ⟨rfl,rfl⟩
 go_wp2_with fail
 refine(dS fl _).mono ?_;rw[H4.out];rintro e w' ⟨rfl,rfl⟩
 cases bx
 ·go_wp2;go_ret;exact⟨by rw[HV.out];rfl,(ai _ _).alloc (aA _) _⟩
 cases by'
 ·go_wp2;go_ret;exact⟨by rw[HV.out];rfl,(ai _ _).alloc (aA _) _⟩
 cases bz
 ·go_wp2;go_ret;exact⟨by rw[HV.out];rfl,(ai _ _).alloc (aA _) _⟩
 ·go_wp2;go_ret;exact⟨by rw[HV.out];rfl,(ai _ _).alloc (aA _) _⟩
theorem Du (A:Option Addr) (n c:Nat) (d:au) (w:World) (h:jd .i64 w w.heap.size A n c d.need):
  Calls Tryz.prog 141 #[.agg #[.slice A n c,.int .i64 d.on,.int .i64 d.off,.int .i64 d.flip]] w fun e w'=>e= .returned (.bool (bK d))∧Below w.heap.size w w':=by
 obtain⟨need,on,off,fl⟩:=d
 simp only at h ⊢
 have hw1:jd .i64 (w.alloc (Obj.cells #[.slice A n c,.int .i64 on,.int .i64 off,.int .i64 fl] 144)) (w.alloc (Obj.cells #[.slice A n c,.int .i64 on,.int .i64 off,.int .i64 fl] 144)).heap.size A n c need:=(h.below ((ai _ _).alloc (aA _) _)).more (by simp);have HW1:=af hw1;clear hw1
 by_cases h1:codeOk need=true
 case neg=>
  have h1f:codeOk need=false:=by simpa using h1
  have HV:Hid (bK ⟨need,on,off,fl⟩=false):=af (by unfold bK;rw[h1f];simp);have H1:=af h1f;clear h1 h1f;go_enter Tryz.func141,Tryz.ntmps141
  go_wp2_with (go_at_call 140;refine(dZ _ _ _ need _ HW1.out).mono ?_;rw[H1.out];rintro e w' ⟨rfl,rfl⟩)
  go_ret;exact⟨aY HV.out.symm,(ai _ _).alloc (aA _) _⟩
 by_cases h2:iJ on=true
 case neg=>
  have h2f:iJ on=false:=by simpa using h2
  have HV:Hid (bK ⟨need,on,off,fl⟩=false):=af (by unfold bK;rw[h2f];simp);have H1:=af h1;have H2:=af h2f;clear h1 h2 h2f;go_enter Tryz.func141,Tryz.ntmps141
  go_wp2_with (first
   | (go_at_call 140;refine(dZ _ _ _ need _ HW1.out).mono ?_;rw[H1.out];rintro e w' ⟨rfl,rfl⟩)
   | (go_at_call 72;refine(dS on _).mono ?_;rw[H2.out];rintro e w' ⟨rfl,rfl⟩))
  go_ret;exact⟨aY HV.out.symm,(ai _ _).alloc (aA _) _⟩
 by_cases h3:iJ off=true
 case neg=>
  have h3f:iJ off=false:=by simpa using h3
  have HV:Hid (bK ⟨need,on,off,fl⟩=false):=af (by unfold bK;rw[h3f];simp);have H1:=af h1;have H2:=af h2;have H3:=af h3f;clear h1 h2 h3 h3f;go_enter Tryz.func141,Tryz.ntmps141
  go_wp2_with fail
  refine(dZ _ _ _ need _ HW1.out).mono ?_;rw[H1.out];rintro e w' ⟨rfl,rfl⟩
  go_wp2_with fail
  refine(dS on _).mono ?_;rw[H2.out];rintro e w' ⟨rfl,rfl⟩
  go_wp2_with fail
  refine(dS off _).mono ?_;rw[H3.out];rintro e w' ⟨rfl,rfl⟩;go_wp2;go_ret;exact⟨aY HV.out.symm,(ai _ _).alloc (aA _) _⟩
 by_cases h4:iJ fl=true
 case neg=>
  have h4f:iJ fl=false:=by simpa using h4
  have HV:Hid (bK ⟨need,on,off,fl⟩=false):=af (by unfold bK;rw[h4f];simp);have H1:=af h1;have H2:=af h2;have H3:=af h3;have H4:=af h4f;clear h1 h2 h3 h4 h4f;go_enter Tryz.func141,Tryz.ntmps141
  go_wp2_with fail
  refine(dZ _ _ _ need _ HW1.out).mono ?_;rw[H1.out];rintro e w' ⟨rfl,rfl⟩
  go_wp2_with fail
  refine(dS on _).mono ?_;rw[H2.out];rintro e w' ⟨rfl,rfl⟩
  go_wp2_with fail
  refine(dS off _).mono ?_;rw[H3.out];rintro e w' ⟨rfl,rfl⟩
  go_wp2_with fail
  refine(dS fl _).mono ?_;rw[H4.out];rintro e w' ⟨rfl,rfl⟩;go_wp2;go_ret;exact⟨aY HV.out.symm,(ai _ _).alloc (aA _) _⟩
 exact Dv A n c need on off fl w HW1.out h1 h2 h3 h4
theorem mO (A:Option Addr) (n c:Nat) (d:au) (w:World) (h:jd .i64 w w.heap.size A n c d.need) (kQ:n≤1099511627776):
  Calls Tryz.prog 134 #[.agg #[.slice A n c,.int .i64 d.on,.int .i64 d.off,.int .i64 d.flip]] w fun e w'=>e= .returned (.bool (bK d))∧Below w.heap.size w w':=by
 obtain⟨need,on,off,fl⟩:=d
 simp only at h ⊢
 have hw1:jd .i64 (w.alloc (Obj.cells #[.slice A n c,.int .i64 on,.int .i64 off,.int .i64 fl] 144)) (w.alloc (Obj.cells #[.slice A n c,.int .i64 on,.int .i64 off,.int .i64 fl] 144)).heap.size A n c need:=(h.below ((ai _ _).alloc (aA _) _)).more (by simp);have HW1:=af hw1;clear hw1
 by_cases h2:iJ on=true
 case neg=>
  have hf:iJ on=false:=by simpa using h2
  have HV:Hid (bK ⟨need,on,off,fl⟩=false):=af (by unfold bK;rw[hf];simp);have HF:=af hf
  clear h2 hf;go_enter Tryz.func134,Tryz.ntmps134
  go_wp2_with fail
  refine(jf on _ _ _).mono ?_;rw[show decide (0≤on∧on≤31)=false from decide_eq_false (by have:=(vP on).1 HF.out;omega)];rintro e w' ⟨rfl,rfl⟩;go_wp2;go_ret;exact⟨aY HV.out.symm,(ai _ _).alloc (aA _) _⟩
 by_cases h3:iJ off=true
 case neg=>
  have hf:iJ off=false:=by simpa using h3
  have HV:Hid (bK ⟨need,on,off,fl⟩=false):=af (by unfold bK;rw[hf];simp);have HF:=af hf;have H2:=af h2;clear h3 hf h2;go_enter Tryz.func134,Tryz.ntmps134
  go_wp2_with fail
  refine(jf on _ _ _).mono ?_;rw[show decide (0≤on∧on≤31)=true from decide_eq_true (by have:=(aV on).1 H2.out;omega)];rintro e w' ⟨rfl,rfl⟩
  go_wp2_with fail
  refine(jf off _ _ _).mono ?_;rw[show decide (0≤off∧off≤31)=false from decide_eq_false (by have:=(vP off).1 HF.out;omega)];rintro e w' ⟨rfl,rfl⟩;go_wp2;go_ret;exact⟨aY HV.out.symm,(ai _ _).alloc (aA _) _⟩
 by_cases h4:iJ fl=true
 case neg=>
  have hf:iJ fl=false:=by simpa using h4
  have HV:Hid (bK ⟨need,on,off,fl⟩=false):=af (by unfold bK;rw[hf];simp);have HF:=af hf;have H2:=af h2;have H3:=af h3;clear h4 hf h2 h3;go_enter Tryz.func134,Tryz.ntmps134
  go_wp2_with fail
  refine(jf on _ _ _).mono ?_;rw[show decide (0≤on∧on≤31)=true from decide_eq_true (by have:=(aV on).1 H2.out;omega)];rintro e w' ⟨rfl,rfl⟩
  go_wp2_with fail
  refine(jf off _ _ _).mono ?_;rw[show decide (0≤off∧off≤31)=true from decide_eq_true (by have:=(aV off).1 H3.out;omega)];rintro e w' ⟨rfl,rfl⟩
  go_wp2_with fail
  refine(jf fl _ _ _).mono ?_;rw[show decide (0≤fl∧fl≤31)=false from decide_eq_false (by have:=(vP fl).1 HF.out;omega)];rintro e w' ⟨rfl,rfl⟩;go_wp2;go_ret;exact⟨aY HV.out.symm,(ai _ _).alloc (aA _) _⟩
 obtain⟨bx,hx,hx'⟩:=pJ (on.toNat &&& off.toNat);obtain⟨by',hy,hy'⟩:=pJ (on.toNat &&& fl.toNat);obtain⟨bz,hz,hz'⟩:=pJ (off.toNat &&& fl.toNat);obtain⟨b1,h1⟩:∃b,codeOk need=b:=⟨_,rfl⟩;have HV:Hid (bK ⟨need,on,off,fl⟩=(b1&&bx&&by'&&bz)):=af (by unfold bK IG;rw[h1,h2,h3,h4,hx',hy',hz'];cases b1<;>cases bx<;>cases by'<;>cases bz<;>rfl);have H1:=af h1;have H2:=af h2;have H3:=af h3;have H4:=af h4;have C1:=af (pW on off ((aV _).1 h2).1 (by have:=((aV _).1 h2).2;omega) ((aV _).1 h3).1);have C2:=af (pW on fl ((aV _).1 h2).1 (by have:=((aV _).1 h2).2;omega) ((aV _).1 h4).1);have C3:=af (pW off fl ((aV _).1 h3).1 (by have:=((aV _).1 h3).2;omega) ((aV _).1 h4).1);clear h1 h2 h3 h4 hx' hy' hz'
 generalize on.toNat &&& off.toNat=x at*
 generalize on.toNat &&& fl.toNat=y at*
 generalize off.toNat &&& fl.toNat=z at*
 go_enter Tryz.func134,Tryz.ntmps134
 go_wp2_with fail
 refine(jf on _ _ _).mono ?_;rw[show decide (0≤on∧on≤31)=true from decide_eq_true (by have:=(aV on).1 H2.out;omega)];rintro e w' ⟨rfl,rfl⟩
 go_wp2_with fail
 refine(jf off _ _ _).mono ?_;rw[show decide (0≤off∧off≤31)=true from decide_eq_true (by have:=(aV off).1 H3.out;omega)];rintro e w' ⟨rfl,rfl⟩
 go_wp2_with fail
 refine(jf fl _ _ _).mono ?_;rw[show decide (0≤fl∧fl≤31)=true from decide_eq_true (by have:=(aV fl).1 H4.out;omega)];rintro e w' ⟨rfl,rfl⟩
 go_wp2_with fail
 refine(jK _ _ _ need _ HW1.out kQ).mono ?_;rw[H1.out];rintro e w' ⟨rfl,rfl⟩
 cases b1
 ·go_wp2;go_ret;exact⟨by rw[HV.out];rfl,(ai _ _).alloc (aA _) _⟩
 go_wp2_with fail
 refine(C1.out _).mono ?_;rintro e w' ⟨rfl,rfl⟩
 cases bx
 ·go_wp2;go_ret;exact⟨by rw[HV.out];rfl,(ai _ _).alloc (aA _) _⟩
 go_wp2_with fail
 refine(C2.out _).mono ?_;rintro e w' ⟨rfl,rfl⟩
 cases by'
 ·go_wp2;go_ret;exact⟨by rw[HV.out];rfl,(ai _ _).alloc (aA _) _⟩
 go_wp2_with fail
 refine(C3.out _).mono ?_;rintro e w' ⟨rfl,rfl⟩
 cases bz
 ·go_wp2;go_ret;exact⟨by rw[HV.out];rfl,(ai _ _).alloc (aA _) _⟩
 ·go_wp2;go_ret;exact⟨by rw[HV.out];rfl,(ai _ _).alloc (aA _) _⟩
def su (M:Nat) (w:World) (B b o:Nat) (d:au):Prop:=
 ∃A n c,w.cell? ⟨b,o,none⟩=some (.slice A n c)∧w.cell? ⟨b,o+1,none⟩=some (.int .i64 d.on)∧w.cell? ⟨b,o+2,none⟩=some (.int .i64 d.off)∧w.cell? ⟨b,o+3,none⟩=some (.int .i64 d.flip)∧
  jd .i64 w B A n c d.need∧n≤M∧(Lit.int .i64 d.on).wf=true∧(Lit.int .i64 d.off).wf=true∧(Lit.int .i64 d.flip).wf=true
structure oI (M:Nat) (w:World) (B:Nat) (A:Option Addr) (n c:Nat) (ds:List au):Prop where
 len:ds.length=n
 cap:n≤c
 dw:c≤maxLen
 small:n≤M
 at_:0<n→∃b off,A=some ⟨b,off,none⟩∧b<B∧∀i d,ds[i]? =some d→su M w B b (off+i*4) d
def uz (M:Nat) (w:World) (B:Nat) (v:Value) (t:aB):Prop:=
 ∃A n c A' n' c',v= .agg #[.int .i64 t.start,.slice A n c,.slice A' n' c']∧jd .i64 w B A n c t.goal∧n≤M∧oI M w B A' n' c' t.ay∧(Lit.int .i64 t.start).wf=true
abbrev aeI:=su 1048576
abbrev abo:=oI 1048576
abbrev oW:=uz 1048576
section
variable {M : Nat} {w w' : World} {B B' : Nat}
theorem su.keep {b o:Nat} {d:au} (h:su M w B b o d) (hb:b<B) (hk:∀b o,b<B→w'.cell? ⟨b,o,none⟩=w.cell? ⟨b,o,none⟩):su M w' B b o d:=by
 obtain⟨A,n,c,h0,h1,h2,h3,h4,r⟩:=h;exact⟨A,n,c,(hk _ _ hb).trans h0,(hk _ _ hb).trans h1,(hk _ _ hb).trans h2,(hk _ _ hb).trans h3,h4.keep hk,r⟩
theorem su.more {b o:Nat} {d:au} (h:su M w B b o d) (hB:B≤B'):su M w B' b o d:=by
 obtain⟨A,n,c,h0,h1,h2,h3,h4,r⟩:=h;exact⟨A,n,c,h0,h1,h2,h3,h4.more hB,r⟩
theorem oI.keep {A:Option Addr} {n c:Nat} {ds:List au} (h:oI M w B A n c ds) (hk:∀b o,b<B→w'.cell? ⟨b,o,none⟩=w.cell? ⟨b,o,none⟩):oI M w' B A n c ds:=
 ⟨h.len,h.cap,h.dw,h.small,fun hn=>by
  obtain⟨b,off,e,hb,hc⟩:=h.at_ hn
  exact⟨b,off,e,hb,fun i d hd=>(hc i d hd).keep hb hk⟩⟩
theorem oI.more {A:Option Addr} {n c:Nat} {ds:List au} (h:oI M w B A n c ds) (hB:B≤B'):oI M w B' A n c ds:=
 ⟨h.len,h.cap,h.dw,h.small,fun hn=>by
  obtain⟨b,off,e,hb,hc⟩:=h.at_ hn
  exact⟨b,off,e,by omega,fun i d hd=>(hc i d hd).more hB⟩⟩
theorem oI.below {A:Option Addr} {n c:Nat} {ds:List au} (h:oI M w B A n c ds) (hb:Below B w w'):oI M w' B A n c ds:=h.keep (aF hb)
theorem oI.get {A:Option Addr} {n c:Nat} {ds:List au} (h:oI M w B A n c ds) {i:Nat} (hi:i<n):∃b off d,A=some ⟨b,off,none⟩∧b<B∧ds[i]? =some d∧su M w B b (off+i*4) d:=by
 obtain⟨b,off,e,hb,hc⟩:=h.at_ (by omega);have hl:i<ds.length:=by rw[h.len];exact hi
 exact⟨b,off,ds[i],e,hb,bH hl,hc i _ (bH hl)⟩
theorem uz.keep {v:Value} {t:aB} (h:uz M w B v t) (hk:∀b o,b<B→w'.cell? ⟨b,o,none⟩=w.cell? ⟨b,o,none⟩):uz M w' B v t:=by
 obtain⟨A,n,c,A',n',c',e,h1,h2,h3,h4⟩:=h;exact⟨A,n,c,A',n',c',e,h1.keep hk,h2,h3.keep hk,h4⟩
theorem uz.more {v:Value} {t:aB} (h:uz M w B v t) (hB:B≤B'):uz M w B' v t:=by
 obtain⟨A,n,c,A',n',c',e,h1,h2,h3,h4⟩:=h;exact⟨A,n,c,A',n',c',e,h1.more hB,h2,h3.more hB,h4⟩
theorem uz.below {v:Value} {t:aB} (h:uz M w B v t) (hb:Below B w w'):uz M w' B v t:=h.keep (aF hb)
theorem uz.up {v:Value} {t:aB} (h:uz M w w.heap.size v t) (hb:Below w.heap.size w w'):uz M w' w'.heap.size v t:=(h.below hb).more hb.size
theorem jd.up {k:IntKind} {A:Option Addr} {n c:Nat} {xs:List Int} (h:jd k w w.heap.size A n c xs) (hb:Below w.heap.size w w'):jd k w' w'.heap.size A n c xs:=(h.below hb).more hb.size
theorem oI.up {A:Option Addr} {n c:Nat} {ds:List au} (h:oI M w w.heap.size A n c ds) (hb:Below w.heap.size w w'):oI M w' w'.heap.size A n c ds:=(h.below hb).more hb.size
end
theorem AQ (t:aB) (k:Nat) (d:au) (hd:t.ay[k]? =some d) (h:bK d=false):aK t=false:=by
 unfold aK
 have:t.ay.all bK=false:=by rw[List.all_eq_false];exact⟨d,bT hd,by rw[h];simp⟩
 rw[this];simp
theorem Dt (t:aB) (h1:iJ t.start=true) (h2:codeOk t.goal=true) (h3:t.ay.length≤6) (h4:∀(k:Nat) (d:au),t.ay[k]? =some d→bK d=true):aK t=true:=by
 unfold aK
 rw[h1,h2,decide_eq_true h3];simp only[Bool.true_and,List.all_eq_true];exact fun d hd=>by obtain⟨k,hk⟩:=List.mem_iff_getElem?.1 hd;exact h4 k d hk
theorem bZ (v:Value) (t:aB) (w:World) (h:oW w w.heap.size v t):
  Calls Tryz.prog 71 #[v] w fun e w'=>e= .returned (.bool (aK t))∧Below w.heap.size w w':=by
 obtain⟨A,n,c,A',n',c',rfl,hg,hgs,hds,hst⟩:=h;have hb0:Below w.heap.size w (w.alloc (Obj.cells #[.int .i64 t.start,.slice A n c,.slice A' n' c'] 26)):=(ai _ _).alloc (aA _) _;have HG:=af (hg.up hb0);have hdl:=hds.len;have hdc:=hds.cap;have hdm:=hds.dw;have abp:=hds.small
 unfold maxLen at hdm
 obtain⟨bs,h1⟩:∃b,iJ t.start=b:=⟨_,rfl⟩;obtain⟨bg,h2⟩:∃b,codeOk t.goal=b:=⟨_,rfl⟩;have H1:=af h1;have H2:=af h2;have gy:=af hdl;have HB0:=af hb0;clear h1 h2 hdl hb0;go_enter Tryz.func71,Tryz.ntmps71
 go_wp2_with fail
 refine(dS _ _).mono ?_;rw[H1.out];rintro e w' ⟨rfl,rfl⟩
 cases bs
 ·have HV:Hid (aK t=false):=af (by unfold aK;rw[H1.out];simp);go_wp2;go_ret;exact⟨by rw[HV.out];rfl,HB0.out⟩
 go_wp2_with fail
 refine(dZ _ _ _ _ _ HG.out).mono ?_;rw[H2.out];rintro e w' ⟨rfl,rfl⟩
 cases bg
 ·have HV:Hid (aK t=false):=af (by unfold aK;rw[H2.out];simp);go_wp2;go_ret;exact⟨by rw[HV.out];rfl,HB0.out⟩
 by_cases h6:n'≤6
 case neg=>
  have HV:Hid (aK t=false):=af (by unfold aK;rw[decide_eq_false (by rw[gy.out];exact h6)];simp);go_wp2;go_ret;exact⟨by rw[HV.out];rfl,HB0.out⟩
 go_wp2
 go_loopw [24] (fun i wr=>∃k:Nat,k≤n'∧i= .int .i64 k∧Hid (∀(j:Nat) (d:au),j<k→t.ay[j]? =some d→bK d=true)∧Below w.heap.size w wr) (fun i _=>n'-(intOf i).toNat)
 case atStart=>exact⟨0,by omega,rfl,af (by omega),HB0.out⟩
 case round=>
  obtain⟨k,hk,rfl,hpre,hbel⟩:=hrel
  by_cases hlt:k<n'
  ·obtain⟨b,off,d,rfl,hb,hd,hda⟩:=hds.get hlt;obtain⟨An,nn,cn,q0,q1,q2,q3,dU,-⟩:=(hda.keep hb (aF hbel));have HD:=af hd;clear hd hda
   go_wp2_with fail
   have hal:Below wr.heap.size wr (wr.alloc (Obj.cells #[Value.slice An nn cn,Value.int IntKind.i64 d.on,Value.int IntKind.i64 d.off,Value.int IntKind.i64 d.flip] 144)):=(ai _ _).alloc (aA _) _;refine(Du An nn cn d _ (((dU.more hbel.size).below hal).more hal.size)).mono ?_;rintro e w2 ⟨rfl,hb2⟩;have KJ:Below w.heap.size w w2:=hbel.trans ((hal.trans (hb2.mono hal.size)).mono hbel.size);clear hal hb2 q0 q1 q2 q3;obtain⟨bd,hdk⟩:∃b,bK d=b:=⟨_,rfl⟩;rw[hdk];have HDK:=af hdk;clear hdk
   cases bd
   ·have HV:=af (AQ t k d HD.out HDK.out);go_wp2;go_ret;exact⟨by rw[HV.out];rfl,KJ⟩
   ·go_wp2
    go_roundw
    case rel=>exact⟨k+1,by omega,by go_num,af (fun j e hj he=>by
     rcases Nat.lt_or_ge j k with h1 | h1
     ·exact hpre.out j e h1 he
     ·obtain rfl:j=k:=by omega
      have:=he.symm.trans HD.out
      injection this with this
      subst this
      exact HDK.out),KJ⟩
    case measure=>simp[intOf];omega
  ·have HV:=af (Dt t H1.out H2.out (by rw[gy.out];exact h6) (fun j d hd=>hpre.out j d (by have:=(bI.1 hd).1;have:=gy.out;omega) hd));go_wp2;go_ret;exact⟨by rw[HV.out];rfl,hbel⟩
theorem bV (v:Value) (t:aB) (w:World) (h:oW w w.heap.size v t):
  Calls Tryz.prog 66 #[v] w fun e w'=>e= .returned (.bool (aK t))∧Below w.heap.size w w':=by
 obtain⟨A,n,c,A',n',c',rfl,hg,hgs,hds,hst⟩:=h;have hb0:Below w.heap.size w (w.alloc (Obj.cells #[.int .i64 t.start,.slice A n c,.slice A' n' c'] 26)):=(ai _ _).alloc (aA _) _;have hk0:=fU.new w 26 #[.int .i64 t.start,.slice A n c,.slice A' n' c'];have hdl:=hds.len;have hdc:=hds.cap;have hdm:=hds.dw;have abp:=hds.small
 unfold maxLen at hdm
 have gy:=af hdl;clear hdl;go_enter Tryz.func66,Tryz.ntmps66;go_wp2
 go_loopw [3] (fun i wr=>∃k:Nat,k≤n'∧i= .int .i64 k∧Hid (∀(j:Nat) (d:au),j<k→t.ay[j]? =some d→bK d=true)∧fU wr w.heap.size 26 #[.int .i64 t.start,.slice A n c,.slice A' n' c']∧Below w.heap.size w wr) (fun i _=>n'-(intOf i).toNat)
 case atStart=>exact⟨0,by omega,rfl,af (by omega),hk0,hb0⟩
 case round=>
  obtain⟨k,hk,rfl,hpre,hblk,hbel⟩:=hrel;have p0:wr.cell? ⟨w.heap.size,0,none⟩=some (.int .i64 t.start):=hblk.cell 0;have p1:wr.cell? ⟨w.heap.size,1,none⟩=some (.slice A n c):=hblk.cell 1;have p2:wr.cell? ⟨w.heap.size,2,none⟩=some (.slice A' n' c'):=hblk.cell 2
  by_cases hlt:k<n'
  ·obtain⟨b,off,d,rfl,hb,hd,hda⟩:=hds.get hlt;obtain⟨An,nn,cn,q0,q1,q2,q3,dU,hnn,-⟩:=(hda.keep hb (aF hbel));have HD:=af hd;clear hd hda
   go_wp2_with fail
   refine(mO An nn cn d _ (dU.more hbel.size) (by omega)).mono ?_;rintro e w2 ⟨rfl,hb2⟩;have KJ:Below w.heap.size w w2:=hbel.trans (hb2.mono hbel.size);have hblk2:=hblk.below hb2 hblk.lt;clear hb2 q0 q1 q2 q3 p0 p1 p2 hblk;obtain⟨bd,hdk⟩:∃b,bK d=b:=⟨_,rfl⟩;rw[hdk];have HDK:=af hdk;clear hdk
   cases bd
   ·have HV:=af (AQ t k d HD.out HDK.out);go_wp2;go_ret;exact⟨by rw[HV.out];rfl,KJ⟩
   ·go_wp2
    go_roundw
    case rel=>exact⟨k+1,by omega,by go_num,af (fun j e hj he=>by
     rcases Nat.lt_or_ge j k with h1 | h1
     ·exact hpre.out j e h1 he
     ·obtain rfl:j=k:=by omega
      have:=he.symm.trans HD.out
      injection this with this
      subst this
      exact HDK.out),hblk2,KJ⟩
    case measure=>simp[intOf];omega
  ·obtain⟨bs,h1⟩:∃b,iJ t.start=b:=⟨_,rfl⟩;obtain⟨bg,h2⟩:∃b,codeOk t.goal=b:=⟨_,rfl⟩;have H1:=af h1;have H2:=af h2;clear h1 h2
   go_wp2_with fail
   cases bs
   ·have HV:Hid (aK t=false):=af (by unfold aK;rw[H1.out];simp);refine(kS _ _ _ _ (by have:=(vP _).1 H1.out;omega)).mono ?_;rintro e w' ⟨rfl,rfl⟩;go_wp2;go_ret;exact⟨by rw[HV.out];rfl,hbel⟩
   refine(fO _ _ _ _ ((aV _).1 H1.out).1 (by have:=((aV _).1 H1.out).2;omega)).mono ?_;rintro e w' ⟨rfl,rfl⟩
   go_wp2_with fail
   refine(jK _ _ _ t.goal _ ((hg.below hbel).more hbel.size) (by omega)).mono ?_;rw[H2.out];rintro e w' ⟨rfl,rfl⟩
   cases bg
   ·have HV:Hid (aK t=false):=af (by unfold aK;rw[H2.out];simp);go_wp2;go_ret;exact⟨by rw[HV.out];rfl,hbel⟩
   by_cases h6:n'≤6
   ·have HV:=af (Dt t H1.out H2.out (by rw[gy.out];exact h6) (fun j d hd=>hpre.out j d (by have:=(bI.1 hd).1;have:=gy.out;omega) hd));go_wp2;go_ret;exact⟨by rw[HV.out];exact aY (decide_eq_true (show(n':Int)≤6 by omega)),hbel⟩
   ·have HV:Hid (aK t=false):=af (by unfold aK;rw[decide_eq_false (by rw[gy.out];exact h6)];simp);go_wp2;go_ret;exact⟨by rw[HV.out];exact aY (decide_eq_false (show¬(n':Int)≤6 by omega)),hbel⟩
structure Only (F:List Nat) (w w':World):Prop where
 os:w'.os=w.os
 tape:w'.tape=w.tape
 output:w'.output=w.output
 size:w.heap.size≤w'.heap.size
 block:∀k,k<w.heap.size→k∉F→w'.heap[k]? =w.heap[k]?
theorem Only.refl (F:List Nat) (w:World):Only F w w:=⟨rfl,rfl,rfl,aA _,fun _ _ _=>rfl⟩
theorem Only.trans {F:List Nat} {a b c:World} (h:Only F a b) (k:Only F b c):Only F a c:=
 ⟨k.os.trans h.os,k.tape.trans h.tape,k.output.trans h.output,Nat.le_trans h.size k.size,fun i hi hn=>(k.block i (Nat.lt_of_lt_of_le hi h.size) hn).trans (h.block i hi hn)⟩
theorem Only.sub {F F':List Nat} {a b:World} (h:Only F a b) (hs:∀x∈F,x∈F'):Only F' a b:=⟨h.os,h.tape,h.output,h.size,fun i hi hn=>h.block i hi fun hx=>hn (hs i hx)⟩
theorem Only.below {F:List Nat} {a b:World} {B:Nat} (h:Only F a b) (hF:∀x∈F,B≤x) (hB:B≤a.heap.size):Below B a b:=⟨h.os,h.tape,h.output,h.size,fun i hi=>h.block i (by omega) fun hx=>by have:=hF i hx;omega⟩
theorem Only.set {F:List Nat} {a w:World} (h:Only F a w) {p:Addr} (hp:p.block∈F) (u:Value):Only F a (w.setCell p u):=
 h.trans ⟨rfl,rfl,rfl,by simp[World.setCell],fun k _ hn=>Below.heap_setCell _ _ _ _ (by rintro rfl;exact hn hp)⟩
theorem Only.lJ {a b:World} {row:Option Nat} (h:a.grownBy b row):Only row.toList a b:=⟨h.os,h.tape,h.output,h.size,fun i hi hn=>h.block i hi (by rintro rfl;simp at hn)⟩
structure jH (w:World) (lo:Nat) (v:Value) (xs:List Int) (F:List Nat):Prop where
 row:w.ownsRow lo 3 1 v xs.length (ints xs)
 wf:∀x∈xs,(Lit.int .i64 x).wf=true
 foot:F=v.ownBlock.toList
theorem mM {w w':World} {base:Nat} {e:TypeId} {size n:Nat} {v:Value} {xs:List Value} (h:w.ownsRow base e size v n xs) (hk:∀b,v.ownBlock=some b→w'.heap[b]? =w.heap[b]?):w'.ownsRow base e size v n xs:=by
 refine⟨h.1,?_⟩
 rcases h.2 with h | ⟨g,cap,cur,rfl,hg,hh,r⟩
 ·exact .inl h
 ·exact .inr ⟨g,cap,cur,rfl,hg,(hk g rfl).trans hh,r⟩
section
variable {w w' : World} {lo : Nat} {v : Value} {xs : List Int} {F : List Nat}
theorem jH.keep (h:jH w lo v xs F) (hk:∀b∈F,w'.heap[b]? =w.heap[b]?):jH w' lo v xs F:=
 ⟨mM h.row fun b hb=>hk b (by rw[h.foot,hb];simp),h.wf,h.foot⟩
theorem jH.lt (h:jH w lo v xs F):∀b∈F,lo≤b∧b<w.heap.size:=fun b hb=>h.row.lt b (by rw[h.foot] at hb;simpa using hb)
theorem jH.nodup (h:jH w lo v xs F):F.Nodup:=by rw[h.foot];cases v.ownBlock<;>simp
theorem jH.rd (h:jH w lo v xs F):∃A c,v= .slice A xs.length c∧jd .i64 w w.heap.size A xs.length c xs:=by
 obtain⟨A,c,hv⟩:=dR h.row;subst hv;exact⟨A,c,rfl,WR h.row h.wf⟩
theorem jH.mono {lo':Nat} (h:jH w lo v xs F) (hl:lo'≤lo):jH w lo' v xs F:=⟨qY h.row hl,h.wf,h.foot⟩
theorem jH.below (h:jH w lo v xs F) (hb:Below w.heap.size w w'):jH w' lo v xs F:=h.keep fun b hx=>hb.block b (h.lt b hx).2
end
def Ut (w:World) (lo:Nat) (cells:List Value) (i:Nat) (d:au) (F:List Nat):Prop:=
 ∃nv,cells[i*4]? =some nv∧cells[i*4+1]? =some (.int .i64 d.on)∧cells[i*4+2]? =some (.int .i64 d.off)∧cells[i*4+3]? =some (.int .i64 d.flip)∧jH w lo nv d.need F∧d.need.length≤1048576∧
  (Lit.int .i64 d.on).wf=true∧(Lit.int .i64 d.off).wf=true∧(Lit.int .i64 d.flip).wf=true
structure jG (w:World) (lo:Nat) (v:Value) (ds:List au) (F:List Nat) (cells:List Value) (Fs:List (List Nat)):Prop where
 row:w.ownsRow lo 144 4 v ds.length cells
 small:ds.length≤1048576
 IA:Fs.length=ds.length
 foot:F=v.ownBlock.toList++Fs.flatten
 deed:∀(i:Nat) d Fi,ds[i]? =some d→Fs[i]? =some Fi→Ut w lo cells i d Fi
section
variable {w w' : World} {lo : Nat} {v : Value} {ds : List au} {F : List Nat} {cells : List Value} {Fs : List (List Nat)}
theorem Ut.keep {i:Nat} {d:au} {Fi:List Nat} (h:Ut w lo cells i d Fi) (hk:∀b∈Fi,w'.heap[b]? =w.heap[b]?):Ut w' lo cells i d Fi:=by
 obtain⟨nv,h0,h1,h2,h3,h4,r⟩:=h;exact⟨nv,h0,h1,h2,h3,h4.keep hk,r⟩
theorem oH {Fs:List (List Nat)} {i:Nat} {Fi:List Nat} (h:Fs[i]? =some Fi) {b:Nat} (hb:b∈Fi):b∈Fs.flatten:=List.mem_flatten.2 ⟨Fi,bT h,hb⟩
theorem jG.keep (h:jG w lo v ds F cells Fs) (hk:∀b∈F,w'.heap[b]? =w.heap[b]?):jG w' lo v ds F cells Fs:=
 ⟨mM h.row fun b hb=>hk b (by rw[h.foot,hb];simp),h.small,h.IA,h.foot,fun i d Fi hd hF=>(h.deed i d Fi hd hF).keep fun b hb=>hk b (by rw[h.foot];exact List.mem_append_right _ (oH hF hb))⟩
theorem jG.lt (h:jG w lo v ds F cells Fs):∀b∈F,lo≤b∧b<w.heap.size:=fun b hb=>by
 rw[h.foot] at hb
 rcases List.mem_append.1 hb with hb | hb
 ·exact h.row.lt b (by simpa using hb)
 ·obtain⟨Fi,hF,hb⟩:=List.mem_flatten.1 hb;obtain⟨i,hi⟩:=List.mem_iff_getElem?.1 hF;have hl:i<ds.length:=by rw[←h.IA];exact(bI.1 hi).1
  obtain⟨nv,_,_,_,_,h4,_⟩:=h.deed i _ _ (bH hl) hi;exact h4.lt b hb
theorem jG.mono {lo':Nat} (h:jG w lo v ds F cells Fs) (hl:lo'≤lo):jG w lo' v ds F cells Fs:=
 ⟨qY h.row hl,h.small,h.IA,h.foot,fun i d Fi hd hF=>by
  obtain⟨nv,h0,h1,h2,h3,h4,r⟩:=h.deed i d Fi hd hF
  exact⟨nv,h0,h1,h2,h3,h4.mono hl,r⟩⟩
theorem jG.below (h:jG w lo v ds F cells Fs) (hb:Below w.heap.size w w'):jG w' lo v ds F cells Fs:=h.keep fun b hx=>hb.block b (h.lt b hx).2
theorem jG.rd (h:jG w lo v ds F cells Fs):∃A c,v= .slice A ds.length c∧abo w w.heap.size A ds.length c ds:=by
 rcases h.row.2 with⟨rfl,h0⟩ | ⟨g,cap,cur,rfl,hg,hh,h3,h4,h5,h6⟩
 ·exact⟨none,0,by rw[h0],rfl,by omega,by unfold maxLen;omega,h.small,fun hn=>by omega⟩
 ·refine⟨_,_,rfl,rfl,h3,h4,h.small,fun _=>⟨g,0,rfl,(Array.getElem?_eq_some_iff.1 hh).1,fun i d hd=>?_⟩⟩;have hl:i<ds.length:=(bI.1 hd).1;obtain⟨nv,q0,q1,q2,q3,q4,q5,q6⟩:=h.deed i d (Fs[i]'(by rw[h.IA];exact hl)) hd (bH _)
  have hcell:∀j u,cells[j]? =some u→w.cell? ⟨g,j,none⟩=some u:=fun j u hu=>by
   have hj:j<ds.length*4:=by rw[←h.row.1];exact(bI.1 hu).1
   exact(h.row.cellAt j hj).trans hu
  obtain⟨A,c,rfl,hr⟩:=q4.rd;rw[Nat.zero_add];exact⟨A,_,c,hcell _ _ q0,hcell _ _ q1,hcell _ _ q2,hcell _ _ q3,hr,q5,q6⟩
end
def pU (w:World) (lo:Nat) (v:Value) (t:aB) (F:List Nat):Prop:=
 ∃gv dv Fg Fd cells Fs,v= .agg #[.int .i64 t.start,gv,dv]∧jH w lo gv t.goal Fg∧t.goal.length≤1048576∧jG w lo dv t.ay Fd cells Fs∧F=Fg++Fd∧(Lit.int .i64 t.start).wf=true
section
variable {w w' : World} {lo : Nat} {v : Value} {t : aB} {F : List Nat}
theorem pU.keep (h:pU w lo v t F) (hk:∀b∈F,w'.heap[b]? =w.heap[b]?):pU w' lo v t F:=by
 obtain⟨gv,dv,Fg,Fd,cells,Fs,e,h1,h2,h3,rfl,h4⟩:=h;exact⟨gv,dv,Fg,Fd,cells,Fs,e,h1.keep fun b hb=>hk b (List.mem_append_left _ hb),h2,h3.keep fun b hb=>hk b (List.mem_append_right _ hb),rfl,h4⟩
theorem pU.lt (h:pU w lo v t F):∀b∈F,lo≤b∧b<w.heap.size:=by
 obtain⟨gv,dv,Fg,Fd,cells,Fs,e,h1,h2,h3,rfl,h4⟩:=h;intro b hb
 rcases List.mem_append.1 hb with hb | hb
 ·exact h1.lt b hb
 ·exact h3.lt b hb
theorem pU.mono {lo':Nat} (h:pU w lo v t F) (hl:lo'≤lo):pU w lo' v t F:=by
 obtain⟨gv,dv,Fg,Fd,cells,Fs,e,h1,h2,h3,rfl,h4⟩:=h;exact⟨gv,dv,Fg,Fd,cells,Fs,e,h1.mono hl,h2,h3.mono hl,rfl,h4⟩
theorem pU.rd (h:pU w lo v t F):oW w w.heap.size v t:=by
 obtain⟨gv,dv,Fg,Fd,cells,Fs,rfl,h1,h2,h3,rfl,h4⟩:=h;obtain⟨A,c,rfl,hg⟩:=h1.rd;obtain⟨A',c',rfl,hd⟩:=h3.rd;exact⟨A,_,c,A',_,c',rfl,hg,h2,hd,h4⟩
end
def less (left:Int) (n:Nat):Int:=if(n:Int)≤left then left-n else -1
def szD (d:au):Nat:=d.need.length
def adI (ds:List au):Nat:=ds.length+(ds.map szD).sum
def szT (t:aB):Nat:=t.goal.length+adI t.ay
def aeY (cells:List Value) (k:Nat) (nv:Value) (d:au):List Value:=
 (((cells.set (k*4) nv).set (k*4+1) (.int .i64 d.on)).set (k*4+2) (.int .i64 d.off)).set (k*4+3) (.int .i64 d.flip)
structure adx (w:World) (g:Nat) (ds:List au) (k:Nat) (cells:List Value) (Fs:List (List Nat)):Prop where
 blk:fU w g 144 cells.toArray
 aeZ:cells.length=ds.length*4
 IA:Fs.length=k
 deed:∀(i:Nat) d Fi,ds[i]? =some d→Fs[i]? =some Fi→Ut w (g+1) cells i d Fi
 nodup:Fs.flatten.Nodup
theorem zJ:qE Tryz.prog 24 144 (.agg #[.slice none 0 0,.int .i64 0,.int .i64 0,.int .i64 0]) 4 48:=⟨Tryz.underlying24,info_parts (by kernel_rfl),rfl,by omega⟩

def marks (k n:Nat):List Int:=(List.range n).map fun i=>((k+i:Nat):Int)
@[simp] theorem aa7 (k n : Nat) : (marks k n).length = n := by simp [marks]
theorem aa8 (k n i:Nat) (h:i<n):(marks k n)[i]? =some ((k+i:Nat):Int):=by unfold marks;rw[List.getElem?_map,List.getElem?_range h];rfl
def ae0 (k:Nat) (xs:List Int) (i:Nat):List Int:=marks k i++xs.drop i
def abv (k:Nat) (d:au):au:=⟨marks k d.need.length,((k+d.need.length:Nat):Int),((k+d.need.length+1:Nat):Int),((k+d.need.length+2:Nat):Int)⟩
def mkD (d:au):Nat:=d.need.length+3
def ady (ds:List au):Nat:=(ds.map mkD).sum
def adz (k:Nat) (ds:List au) (i:Nat):Nat:=k+((ds.take i).map mkD).sum
def Oc (k:Nat):List au→List au
 | []=>[]
 |d::ds=>abv k d::Oc (k+mkD d) ds
def ae1 (k:Nat) (ds:List au) (i:Nat):List au:=(Oc k ds).take i++ds.drop i
def Um (cells:List Value) (i:Nat) (a b c:Int):List Value:=((cells.set (i*4+1) (.int .i64 a)).set (i*4+2) (.int .i64 b)).set (i*4+3) (.int .i64 c)
def mkT (t:aB):Nat:=t.goal.length+ady t.ay
def markT (k:Nat) (t:aB):aB:=⟨t.start,marks k t.goal.length,Oc (k+t.goal.length) t.ay⟩
end Go.Proofs.YtkmcengmglgdeaaGreatDoor
