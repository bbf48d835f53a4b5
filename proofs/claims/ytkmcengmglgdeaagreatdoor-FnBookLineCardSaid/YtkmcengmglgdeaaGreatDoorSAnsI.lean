/- Joined texts: AnsI, LineI. -/
import Derived.Test.YtkmcengmglgdeaaGreatDoorSReachS
import Derived.Test.YtkmcengmglgdeaaGreatDoorSTaskTS
import Derived.Test.YtkmcengmglgdeaaGreatDoorSCondS
import Derived.Test.YtkmcengmglgdeaaGreatDoorSBValid
import Derived.Test.YtkmcengmglgdeaaGreatDoorSPlanForS
import Derived.Test.YtkmcengmglgdeaaGreatDoorSPermD
import Derived.Test.YtkmcengmglgdeaaGreatDoorSActR
import Derived.Test.YtkmcengmglgdeaaGreatDoorSJourP
import Derived.Test.YtkmcengmglgdeaaGreatDoorSRunB
import Derived.Test.YtkmcengmglgdeaaGreatDoorSEndActs

namespace Go.Proofs.YtkmcengmglgdeaaGreatDoor
set_option linter.unusedVariables false
set_option linter.unusedSimpArgs false
set_option maxRecDepth 100000
set_option maxHeartbeats 8000000
open Go.ChangeShapes Go.WideShapes Go.ChangeAt Go.RowKit
def QD:Option (List Int)→List UInt8
 |none=>tX
 |some p=>jm p.length
def aaD (b:Bool):List UInt8:=if b then aaE else noW
theorem yR (b:aG):((dB b).getD []).length≤31:=by
 unfold dB
 split
 ·cases h:dG (dD b) with
  |none=>simp
  |some p=>exact(sK h).2.2.1
 ·simp
theorem O8 (v:Value) (b:aG) (w:World) (h:RdB w w.heap.size v b) (hok:aN b=true):
  Calls Tryz.prog 50 #[v,.string ⟨#[115,116,97,116,101]⟩] w fun e w'=>e= .returned (.string ⟨(gK b.state.toNat).toArray⟩)∧Below w.heap.size w w':=by
 obtain⟨A,n,c,A',n',c',A2,n2,c2,hv⟩:=h.form;obtain⟨os,hos⟩:∃x,b.order.start=x:=⟨_,rfl⟩;obtain⟨st,hst⟩:∃x,b.state=x:=⟨_,rfl⟩;rw[hos,hst] at hv;subst hv;have aS:=af ((St.refl w).alloc #[.int .i64 os,.slice A n c,.slice A' n' c',.slice A2 n2 c2,.int .i64 st] 28);obtain⟨hbt,-,hbs,-⟩:=bF hok;have HB:=af h;have Ed:=af h.order;have Sr:=af (h.from_ hst.symm);have bG:=af hbt;have NH:=af (fZ hbt hbs);have HL2:=af h.done.1.len;have QE:=af hbs;obtain⟨sn,rfl⟩:=bC (show 0≤st by rw[←hst];exact hbs.1);have zB:Hid (sn<32):=af (by omega);rw[show b.state.toNat=sn by rw[hst];simp];clear h hok hbt hbs hos hst;go_enter Tryz.func50,Tryz.ntmps50
 go_wp2_with fail
 refine(iQ sn zB.out _).mono ?_;rintro e w2 ⟨rfl,hb2⟩;have HS2:=af (aS.out.quiet hb2);clear hb2 aS;go_wp2;go_ret;exact⟨rfl,HS2.out.below⟩
theorem S9 (v:Value) (b:aG) (w:World) (h:RdB w w.heap.size v b) (hok:aN b=true):
  Calls Tryz.prog 50 #[v,.string ⟨#[116,97,115,107]⟩] w fun e w'=>e= .returned (.string ⟨(rF b.order).toArray⟩)∧Below w.heap.size w w':=by
 obtain⟨A,n,c,A',n',c',A2,n2,c2,hv⟩:=h.form;obtain⟨os,hos⟩:∃x,b.order.start=x:=⟨_,rfl⟩;obtain⟨st,hst⟩:∃x,b.state=x:=⟨_,rfl⟩;rw[hos,hst] at hv;subst hv;have aS:=af ((St.refl w).alloc #[.int .i64 os,.slice A n c,.slice A' n' c',.slice A2 n2 c2,.int .i64 st] 28);obtain⟨hbt,-,hbs,-⟩:=bF hok;have HB:=af h;have Ed:=af h.order;have Sr:=af (h.from_ hst.symm);have bG:=af hbt;have NH:=af (fZ hbt hbs);have HL2:=af h.done.1.len;have QE:=af hbs;clear h hok hbt hbs hos hst;go_enter Tryz.func50,Tryz.ntmps50;have q0:=aS.out.cells 0 rfl
 go_wp2_with fail
 refine(F5 _ b.order _ (Ed.out.up aS.out.below) bG.out).mono ?_;rintro e w2 ⟨rfl,hb2⟩;have HS2:=af (aS.out.quiet hb2);clear hb2 aS;go_wp2;go_ret;exact⟨rfl,HS2.out.below⟩
theorem Tc (v:Value) (b:aG) (w:World) (h:RdB w w.heap.size v b) (hok:aN b=true) (hp:lF w):
  Calls Tryz.prog 50 #[v,.string ⟨#[100,111,110,101]⟩] w fun e w'=>e= .returned (.string ⟨(jm b.done.length).toArray⟩)∧Below w.heap.size w w':=by
 obtain⟨A,n,c,A',n',c',A2,n2,c2,hv⟩:=h.form;obtain⟨os,hos⟩:∃x,b.order.start=x:=⟨_,rfl⟩;obtain⟨st,hst⟩:∃x,b.state=x:=⟨_,rfl⟩;rw[hos,hst] at hv;subst hv;have aS:=af ((St.refl w).alloc #[.int .i64 os,.slice A n c,.slice A' n' c',.slice A2 n2 c2,.int .i64 st] 28);obtain⟨hbt,-,hbs,-⟩:=bF hok;have HB:=af h;have Ed:=af h.order;have Sr:=af (h.from_ hst.symm);have bG:=af hbt;have NH:=af (fZ hbt hbs);have HL2:=af h.done.1.len;have QE:=af hbs;have NI:Hid (n2<100000000000):=af (by have:=h.done.2.1;omega);have XD:=af hp;rw[h.done.1.len];clear hp;clear h hok hbt hbs hos hst;go_enter Tryz.func50,Tryz.ntmps50
 go_wp2_with fail
 refine(Ez n2 NI.out _ (XD.out.up aS.out.below)).mono ?_;rintro e w2 ⟨rfl,hb2⟩;have HS2:=af (aS.out.quiet hb2);clear hb2 aS;go_wp2;go_ret;exact⟨rfl,HS2.out.below⟩
theorem VI (v:Value) (b:aG) (w:World) (h:RdB w w.heap.size v b) (hok:aN b=true):
  Calls Tryz.prog 50 #[v,.string ⟨#[109,97,121]⟩] w fun e w'=>e= .returned (.string ⟨(FP (dO b.order b.state)).toArray⟩)∧Below w.heap.size w w':=by
 obtain⟨A,n,c,A',n',c',A2,n2,c2,hv⟩:=h.form;obtain⟨os,hos⟩:∃x,b.order.start=x:=⟨_,rfl⟩;obtain⟨st,hst⟩:∃x,b.state=x:=⟨_,rfl⟩;rw[hos,hst] at hv;subst hv;have aS:=af ((St.refl w).alloc #[.int .i64 os,.slice A n c,.slice A' n' c',.slice A2 n2 c2,.int .i64 st] 28);obtain⟨hbt,-,hbs,-⟩:=bF hok;have HB:=af h;have Ed:=af h.order;have Sr:=af (h.from_ hst.symm);have bG:=af hbt;have NH:=af (fZ hbt hbs);have HL2:=af h.done.1.len;have QE:=af hbs;rw[hst];have HM:Hid (∀x∈dO b.order st,0≤x∧x<100):=af fun x hx=>by have:=uJ hx;omega
 have HML:Hid ((dO b.order st).length≤100):=af (by have:=sH b.order st;omega);clear h hok hbt hbs hos hst;go_enter Tryz.func50,Tryz.ntmps50
 go_wp2_with fail
 refine(wS _ b.order st _ (Ed.out.up aS.out.below)).mono ?_;rintro e w1 ⟨v1,rfl,s1⟩;have S1:=aS.out.call s1;obtain⟨A1,c1,rfl,Ry⟩:=S1.uj 1 rfl;have HRI:=af Ry;have bf:=af S1;clear S1 s1 aS Ry;simp only[id]
 go_wp2_with fail
 refine(MG A1 _ c1 (dO b.order st) _ HRI.out HM.out HML.out).mono ?_;rintro e w2 ⟨rfl,hb2⟩;have HS2:=af (bf.out.quiet hb2);clear hb2;go_wp2;go_ret;exact⟨rfl,HS2.out.below⟩
theorem Td (v:Value) (b:aG) (w:World) (h:RdB w w.heap.size v b) (hok:aN b=true) (hp:lF w):
  Calls Tryz.prog 50 #[v,.string ⟨#[108,101,102,116]⟩] w fun e w'=>e= .returned (.string ⟨(QD (dB b)).toArray⟩)∧Below w.heap.size w w':=by
 obtain⟨A,n,c,A',n',c',A2,n2,c2,hv⟩:=h.form;obtain⟨os,hos⟩:∃x,b.order.start=x:=⟨_,rfl⟩;obtain⟨st,hst⟩:∃x,b.state=x:=⟨_,rfl⟩;rw[hos,hst] at hv;subst hv;have aS:=af ((St.refl w).alloc #[.int .i64 os,.slice A n c,.slice A' n' c',.slice A2 n2 c2,.int .i64 st] 28);obtain⟨hbt,-,hbs,-⟩:=bF hok;have HB:=af h;have Ed:=af h.order;have Sr:=af (h.from_ hst.symm);have bG:=af hbt;have NH:=af (fZ hbt hbs);have HL2:=af h.done.1.len;have QE:=af hbs;obtain⟨o,ho⟩:∃o,dB b=o:=⟨_,rfl⟩;have HO:=Bx.mk ho;have HOL:Hid (∀p,o=some p→p.length<100000000000):=af fun p hp=>by have:=yR b;rw[ho,hp] at this;simp at this;omega
 have XD:=af hp;rw[ho];clear hp ho;clear h hok hbt hbs hos hst;go_enter Tryz.func50,Tryz.ntmps50
 go_wp2_with fail
 refine(sJ _ b _ (HB.out.up aS.out.below)).mono ?_;rw[HO.out];rintro e w1 ⟨v1,rfl,s1⟩;have bf:=af (aS.out.call s1);clear s1 aS
 cases o with
 |none=>
  simp only[Option.isSome_none];go_wp2;go_ret;exact⟨rfl,bf.out.below⟩
 |some p=>
  obtain⟨A1,c1,rfl,Ry⟩:=bf.out.uj 1 rfl;simp only[Option.isSome_some,Option.getD_some];clear Ry;obtain⟨pn,hpn⟩:∃x,p.length=x:=⟨_,rfl⟩;have Og:=af hpn;rw[hpn];have HPB:Hid (pn<100000000000):=af (by have:=HOL.out p rfl;omega);clear hpn
  go_wp2_with fail
  refine(Ez pn HPB.out _ (XD.out.up bf.out.below)).mono ?_;rintro e w2 ⟨rfl,hb2⟩;have HS2:=af (bf.out.quiet hb2);clear hb2;go_wp2;go_ret;exact⟨by rw[QD,Og.out];rfl,HS2.out.below⟩
theorem O9 (v:Value) (b:aG) (w:World) (h:RdB w w.heap.size v b) (hok:aN b=true):
  Calls Tryz.prog 50 #[v,.string ⟨#[101,110,100,101,100]⟩] w fun e w'=>e= .returned (.string ⟨(aaD (fA b)).toArray⟩)∧Below w.heap.size w w':=by
 obtain⟨A,n,c,A',n',c',A2,n2,c2,hv⟩:=h.form;obtain⟨os,hos⟩:∃x,b.order.start=x:=⟨_,rfl⟩;obtain⟨st,hst⟩:∃x,b.state=x:=⟨_,rfl⟩;rw[hos,hst] at hv;subst hv;have aS:=af ((St.refl w).alloc #[.int .i64 os,.slice A n c,.slice A' n' c',.slice A2 n2 c2,.int .i64 st] 28);obtain⟨hbt,-,hbs,-⟩:=bF hok;have HB:=af h;have Ed:=af h.order;have Sr:=af (h.from_ hst.symm);have bG:=af hbt;have NH:=af (fZ hbt hbs);have HL2:=af h.done.1.len;have QE:=af hbs;obtain⟨o,ho⟩:∃o,fA b=o:=⟨_,rfl⟩;have HO:=Bx.mk ho;rw[ho];clear ho;clear h hok hbt hbs hos hst;go_enter Tryz.func50,Tryz.ntmps50
 go_wp2_with fail
 refine(uw _ b _ (HB.out.up aS.out.below)).mono ?_;rw[HO.out];rintro e w2 ⟨rfl,hb2⟩;have HS2:=af (aS.out.quiet hb2);clear hb2 aS
 cases o with
 |false=>
  go_wp2;go_ret;exact⟨rfl,HS2.out.below⟩
 |true=>
  go_wp2;go_ret;exact⟨rfl,HS2.out.below⟩
theorem Pg (v:Value) (b:aG) (w:World) (h:RdB w w.heap.size v b) (hok:aN b=true) (hp:lF w):
  Calls Tryz.prog 50 #[v,.string ⟨#[112,114,111,111,102]⟩] w fun e w'=>e= .returned (.string ⟨(jq (dD b)).toArray⟩)∧Below w.heap.size w w':=by
 obtain⟨A,n,c,A',n',c',A2,n2,c2,hv⟩:=h.form;obtain⟨os,hos⟩:∃x,b.order.start=x:=⟨_,rfl⟩;obtain⟨st,hst⟩:∃x,b.state=x:=⟨_,rfl⟩;rw[hos,hst] at hv;subst hv;have aS:=af ((St.refl w).alloc #[.int .i64 os,.slice A n c,.slice A' n' c',.slice A2 n2 c2,.int .i64 st] 28);obtain⟨hbt,-,hbs,-⟩:=bF hok;have HB:=af h;have Ed:=af h.order;have Sr:=af (h.from_ hst.symm);have bG:=af hbt;have NH:=af (fZ hbt hbs);have HL2:=af h.done.1.len;have QE:=af hbs;have XD:=af hp;clear hp;clear h hok hbt hbs hos hst;go_enter Tryz.func50,Tryz.ntmps50
 go_wp2_with fail
 refine(sO os st A n c A' n' c' A2 n2 c2 _).mono ?_;rintro e w1 ⟨rfl,hb1⟩;have bf:=af (aS.out.quiet hb1);clear hb1
 go_wp2_with fail
 refine(EC _ (dD b) _ (Sr.out.up bf.out.below) NH.out (XD.out.up bf.out.below)).mono ?_;rintro e w2 ⟨rfl,hb2⟩;have HS2:=af (bf.out.quiet hb2);clear hb2;go_wp2;go_ret;exact⟨rfl,HS2.out.below⟩
theorem Ph (v:Value) (b:aG) (s:ByteArray) (r:List UInt8) (w:World) (h:RdB w w.heap.size v b) (hok:aN b=true) (h1:s.data.toList≠Af) (h2:s.data.toList≠Hf) (h3:s.data.toList≠Hg) (h4:s.data.toList≠Sv) (h5:s.data.toList≠Hq) (h6:s.data.toList≠Aj) (h7:s.data.toList≠Ak) (he:rQ w) (hs:s.size<4294967281) (hd:s.data.toList=qm++r) (hr:r≠[]):
  Calls Tryz.prog 50 #[v,.string s] w fun e w'=>e= .returned (.string ⟨(nC (bY (dD b) r)).toArray⟩)∧Below w.heap.size w w':=by
 obtain⟨A,n,c,A',n',c',A2,n2,c2,hv⟩:=h.form;obtain⟨os,hos⟩:∃x,b.order.start=x:=⟨_,rfl⟩;obtain⟨st,hst⟩:∃x,b.state=x:=⟨_,rfl⟩;rw[hos,hst] at hv;subst hv;have aS:=af ((St.refl w).alloc #[.int .i64 os,.slice A n c,.slice A' n' c',.slice A2 n2 c2,.int .i64 st] 28);obtain⟨hbt,-,hbs,-⟩:=bF hok;have HB:=af h;have Ed:=af h.order;have Sr:=af (h.from_ hst.symm);have bG:=af hbt;have NH:=af (fZ hbt hbs);have HL2:=af h.done.1.len;have QE:=af hbs;have b1:(s.toList == [115,116,97,116,101])=false:=by rw[dH,Lib.toList_data];intro h;exact h1 (beq_iff_eq.1 h)
 have b2:(s.toList == [116,97,115,107])=false:=by rw[dH,Lib.toList_data];intro h;exact h2 (beq_iff_eq.1 h)
 have b3:(s.toList == [100,111,110,101])=false:=by rw[dH,Lib.toList_data];intro h;exact h3 (beq_iff_eq.1 h)
 have b4:(s.toList == [109,97,121])=false:=by rw[dH,Lib.toList_data];intro h;exact h4 (beq_iff_eq.1 h)
 have b5:(s.toList == [108,101,102,116])=false:=by rw[dH,Lib.toList_data];intro h;exact h5 (beq_iff_eq.1 h)
 have b6:(s.toList == [101,110,100,101,100])=false:=by rw[dH,Lib.toList_data];intro h;exact h6 (beq_iff_eq.1 h)
 have b7:(s.toList == [112,114,111,111,102])=false:=by rw[dH,Lib.toList_data];intro h;exact h7 (beq_iff_eq.1 h)
 clear h1 h2 h3 h4 h5 h6 h7;have hcp:=fun w=>oq s ⟨#[99,104,101,99,107,32]⟩ r w hd
 have hrs:(⟨r.toArray⟩:ByteArray).size<4294967281:=by
  have:s.size=6+r.length:=by rw[Lib.size_eq s,hd];simp[qm];omega
  show r.toArray.size<_
  rw[List.size_toArray];omega
 have hpr:=fun w' (hb:Below w.heap.size w w')=>BZ _ (dD b) ⟨r.toArray⟩ w' ((h.from_ hst.symm).up hb) (fZ hbt hbs) (he.up hb) hrs
 rw[show(⟨r.toArray⟩:ByteArray).data.toList=r from rfl] at hpr;have hre:((⟨r.toArray⟩:ByteArray).toList == [])=false:=by rw[dH,Lib.toList_data];intro h;exact hr (beq_iff_eq.1 h)
 obtain⟨rb,hrb⟩:∃x,(⟨r.toArray⟩:ByteArray)=x:=⟨_,rfl⟩;rw[hrb] at hcp hpr hre;obtain⟨z,hz⟩:∃z,bY (dD b) r=z:=⟨_,rfl⟩;rw[hz] at hpr ⊢
 obtain⟨e1,aep⟩:∃e,(z == 1)=e:=⟨_,rfl⟩;obtain⟨e0,aer⟩:∃e,(z == 0)=e:=⟨_,rfl⟩;have HZ1:=af aep;have HZ0:=af aer;have HCP:=af hcp;have HPR:=af hpr;clear hcp hpr hrs hd hs he hr hrb hz;clear h hok hbt hbs hos hst;go_enter Tryz.func50,Tryz.ntmps50
 go_wp2_with fail
 refine(HCP.out _).mono ?_;rintro e w1 ⟨rfl,rfl⟩
 go_wp2_with fail
 refine(sO os st A n c A' n' c' A2 n2 c2 _).mono ?_;rintro e w1 ⟨rfl,hb1⟩;have bf:=af (aS.out.quiet hb1);clear hb1
 go_wp2_with fail
 refine(HPR.out _ bf.out.below).mono ?_;rintro e w2 ⟨rfl,hb2⟩;have HS2:=af (bf.out.quiet hb2);clear hb2
 cases e1 with
 |true=>
  go_wp2;go_ret;exact⟨by rw[nC,if_pos (beq_iff_eq.1 HZ1.out)];rfl,HS2.out.below⟩
 |false=>
  cases e0 with
  |true=>
   go_wp2;go_ret;exact⟨by rw[nC,if_neg (fun h=>by have:=HZ1.out;rw[h] at this;cases this),if_pos (beq_iff_eq.1 HZ0.out)];rfl,HS2.out.below⟩
  |false=>
   go_wp2;go_ret;exact⟨by rw[nC,if_neg (fun h=>by have:=HZ1.out;rw[h] at this;cases this),if_neg (fun h=>by have:=HZ0.out;rw[h] at this;cases this)];rfl,HS2.out.below⟩
theorem Pj (v:Value) (b:aG) (w:World) (h:RdB w w.heap.size v b) (hok:aN b=true):
  Calls Tryz.prog 50 #[v,.string ⟨#[99,104,101,99,107,32]⟩] w fun e w'=>e= .returned (.string ⟨(Ep).toArray⟩)∧Below w.heap.size w w':=by
 obtain⟨A,n,c,A',n',c',A2,n2,c2,hv⟩:=h.form;obtain⟨os,hos⟩:∃x,b.order.start=x:=⟨_,rfl⟩;obtain⟨st,hst⟩:∃x,b.state=x:=⟨_,rfl⟩;rw[hos,hst] at hv;subst hv;have aS:=af ((St.refl w).alloc #[.int .i64 os,.slice A n c,.slice A' n' c',.slice A2 n2 c2,.int .i64 st] 28);obtain⟨hbt,-,hbs,-⟩:=bF hok;have HB:=af h;have Ed:=af h.order;have Sr:=af (h.from_ hst.symm);have bG:=af hbt;have NH:=af (fZ hbt hbs);have HL2:=af h.done.1.len;have QE:=af hbs;clear h hok hbt hbs hos hst;go_enter Tryz.func50,Tryz.ntmps50
 go_wp2_with fail
 refine(oq ⟨#[99,104,101,99,107,32]⟩ ⟨#[99,104,101,99,107,32]⟩ [] _ rfl).mono ?_;rintro e w1 ⟨rfl,rfl⟩;have HS2:=aS;go_wp2;go_ret;exact⟨rfl,HS2.out.below⟩
theorem Pm (v:Value) (b:aG) (s:ByteArray) (w:World) (h:RdB w w.heap.size v b) (hok:aN b=true) (h1:s.data.toList≠Af) (h2:s.data.toList≠Hf) (h3:s.data.toList≠Hg) (h4:s.data.toList≠Sv) (h5:s.data.toList≠Hq) (h6:s.data.toList≠Aj) (h7:s.data.toList≠Ak) (hd:qm.isPrefixOf s.data.toList=false):
  Calls Tryz.prog 50 #[v,.string s] w fun e w'=>e= .returned (.string ⟨(Ep).toArray⟩)∧Below w.heap.size w w':=by
 obtain⟨A,n,c,A',n',c',A2,n2,c2,hv⟩:=h.form;obtain⟨os,hos⟩:∃x,b.order.start=x:=⟨_,rfl⟩;obtain⟨st,hst⟩:∃x,b.state=x:=⟨_,rfl⟩;rw[hos,hst] at hv;subst hv;have aS:=af ((St.refl w).alloc #[.int .i64 os,.slice A n c,.slice A' n' c',.slice A2 n2 c2,.int .i64 st] 28);obtain⟨hbt,-,hbs,-⟩:=bF hok;have HB:=af h;have Ed:=af h.order;have Sr:=af (h.from_ hst.symm);have bG:=af hbt;have NH:=af (fZ hbt hbs);have HL2:=af h.done.1.len;have QE:=af hbs;have b1:(s.toList == [115,116,97,116,101])=false:=by rw[dH,Lib.toList_data];intro h;exact h1 (beq_iff_eq.1 h)
 have b2:(s.toList == [116,97,115,107])=false:=by rw[dH,Lib.toList_data];intro h;exact h2 (beq_iff_eq.1 h)
 have b3:(s.toList == [100,111,110,101])=false:=by rw[dH,Lib.toList_data];intro h;exact h3 (beq_iff_eq.1 h)
 have b4:(s.toList == [109,97,121])=false:=by rw[dH,Lib.toList_data];intro h;exact h4 (beq_iff_eq.1 h)
 have b5:(s.toList == [108,101,102,116])=false:=by rw[dH,Lib.toList_data];intro h;exact h5 (beq_iff_eq.1 h)
 have b6:(s.toList == [101,110,100,101,100])=false:=by rw[dH,Lib.toList_data];intro h;exact h6 (beq_iff_eq.1 h)
 have b7:(s.toList == [112,114,111,111,102])=false:=by rw[dH,Lib.toList_data];intro h;exact h7 (beq_iff_eq.1 h)
 clear h1 h2 h3 h4 h5 h6 h7;have hcp:=fun w=>pI s ⟨#[99,104,101,99,107,32]⟩ w hd
 have HCP:=af hcp;clear hcp hd;clear h hok hbt hbs hos hst;go_enter Tryz.func50,Tryz.ntmps50
 go_wp2_with fail
 refine(HCP.out _).mono ?_;rintro e w1 ⟨rfl,rfl⟩;have HS2:=aS;go_wp2;go_ret;exact⟨rfl,HS2.out.below⟩
theorem FT (v:Value) (b:aG) (s:ByteArray) (w:World) (h:RdB w w.heap.size v b) (hok:aN b=true) (he:rQ w) (hp:lF w) (hs:s.size<4294967281):
  Calls Tryz.prog 50 #[v,.string s] w fun e w'=>e= .returned (.string ⟨(rE b s.data.toList).toArray⟩)∧Below w.heap.size w w':=by
 by_cases h1:s.data.toList=Af
 ·obtain rfl:=ba_eq h1;exact O8 v b w h hok
 by_cases h2:s.data.toList=Hf
 ·obtain rfl:=ba_eq h2;exact S9 v b w h hok
 by_cases h3:s.data.toList=Hg
 ·obtain rfl:=ba_eq h3;exact Tc v b w h hok hp
 by_cases h4:s.data.toList=Sv
 ·obtain rfl:=ba_eq h4;exact VI v b w h hok
 by_cases h5:s.data.toList=Hq
 ·obtain rfl:=ba_eq h5;exact Td v b w h hok hp
 by_cases h6:s.data.toList=Aj
 ·obtain rfl:=ba_eq h6;exact O9 v b w h hok
 by_cases h7:s.data.toList=Ak
 ·obtain rfl:=ba_eq h7;exact Pg v b w h hok hp
 have ha:rE b s.data.toList=if qm.isPrefixOf s.data.toList=true∧6<s.data.toList.length then nC (bY (dD b) (s.data.toList.drop 6)) else Ep:=by
  unfold rE;rw[if_neg h1,if_neg h2,if_neg h3,if_neg h4,if_neg h5,if_neg h6,if_neg h7]
 rw[ha]
 cases hc:qm.isPrefixOf s.data.toList with
 |false=>rw[if_neg (by simp)];exact Pm v b s w h hok h1 h2 h3 h4 h5 h6 h7 hc
 |true=>
  obtain⟨r,hr⟩:=List.isPrefixOf_iff_prefix.1 hc
  by_cases hl:r=[]
  ·rw[if_neg (by rw[←hr,hl];simp[qm])];obtain rfl:=ba_eq (show s.data.toList=qm by rw[←hr,hl,List.append_nil]);exact Pj v b w h hok
  ·rw[if_pos ⟨rfl,by have:=List.length_pos_iff.2 hl;rw[←hr];simp[qm];omega⟩,show s.data.toList.drop 6=r by rw[←hr];rfl];exact Ph v b s r w h hok h1 h2 h3 h4 h5 h6 h7 he hs hr.symm hl
theorem LX {b:aG} {l:List UInt8} (h:aN b=false):lQ b l=(oG,[]):=by unfold lQ;rw[h];rfl
theorem Mc {b:aG} {l:List UInt8} {k n:Int} (h:aN b=true) (hr:readA l=some (k,n)):lQ b l=(dY b ⟨k,n⟩,if eY b ⟨k,n⟩ then okW else noW):=by unfold lQ;rw[if_pos h,hr]
theorem LZ {b:aG} (h:aN b=true):lQ b kC=((gY b (gZ b)).1,if(gZ b).length=0 then tX else okW):=by
 unfold lQ;rw[if_pos h,show readA kC=none from by decide];rfl
theorem L6 {b:aG} {l:List UInt8} (h:aN b=true) (hr:readA l=none) (hf:l≠kC):lQ b l=(b,rE b l):=by
 unfold lQ;rw[if_pos h,hr];exact if_neg hf
theorem En (b:aG) (hok:aN b=true):∀a∈gZ b,(Lit.int .i64 a.number).wf=true:=by
 have hd:=(bF hok).2.1
 unfold gZ
 split
 ·intro a ha
  rcases List.mem_append.1 ha with h | h
  ·split at h
   ·rw[List.mem_singleton.1 h];exact bU (by simp only;omega)
   ·cases h
  ·split at h
   ·cases h
   ·rw[List.mem_singleton.1 h];exact bU (by simp)
 ·intro a ha;cases ha
def xO (b:aG) (l:List UInt8) (w:World) (e:Ending) (w':World):Prop:=Gives w (fun v=>.tuple #[v,.string ⟨(lQ b l).2.toArray⟩]) (fun v=>[aI v (lQ b l).1]) e w'
theorem Sz (v:Value) (b:aG) (s:ByteArray) (w:World) (h:RdB w w.heap.size v b) (hok:aN b=false):
  Calls Tryz.prog 9 #[v,.string s] w (xO b s.data.toList w):=by
 unfold xO
 rw[LX hok];obtain⟨G,gn,gc,G',n',c',D',dn,dc,hv⟩:=h.form;subst hv;obtain⟨os,hos⟩:∃x,b.order.start=x:=⟨_,rfl⟩;obtain⟨st,hst⟩:∃x,b.state=x:=⟨_,rfl⟩;rw[hos,hst] at h ⊢
 have aS:Hid (St w ((w.alloc (.cells #[.int .i64 os,.slice G gn gc,.slice G' n' c',.slice D' dn dc,.int .i64 st] 28)).alloc (.cells #[.int .i64 0,.slice none 0 0,.slice none 0 0,.slice none 0 0,.int .i64 0] 28)) [ah w.heap.size 28 #[.int .i64 os,.slice G gn gc,.slice G' n' c',.slice D' dn dc,.int .i64 st],ah (w.heap.size+1) 28 #[.int .i64 0,.slice none 0 0,.slice none 0 0,.slice none 0 0,.int .i64 0]]):=af (by
  have:=((St.refl w).alloc #[.int .i64 os,.slice G gn gc,.slice G' n' c',.slice D' dn dc,.int .i64 st] 28).alloc #[.int .i64 0,.slice none 0 0,.slice none 0 0,.slice none 0 0,.int .i64 0] 28
  simpa using this)
 have HB:=af h;have bG:=Bx.mk hok;have nP:=Bx.mk hos;have kK:=Bx.mk hst;clear h hok hos hst;go_enter Tryz.func9,Tryz.ntmps9
 go_wp2_with fail
 refine(dF _ b _ (HB.out.up aS.out.below)).mono ?_;rw[bG.out];rintro e w1 ⟨rfl,hb1⟩;have bf:=af (aS.out.quiet hb1);clear hb1 aS;have q1:=bf.out.cells 1 rfl;have f1:=bf.out.free 1 rfl;go_wp2;refine bodyPost_ret (v:=.tuple #[.agg #[.int .i64 0,.slice none 0 0,.slice none 0 0,.slice none 0 0,.int .i64 0],.string ⟨#[]⟩]) (by simp[results,Tryz.results9,go_sem,q1]) rfl ⟨.agg #[.int .i64 0,.slice none 0 0,.slice none 0 0,.slice none 0 0,.int .i64 0],rfl,?_⟩;exact St.book0 (bf.out.fF 1 rfl _ _ _ _ _).below
theorem Jp (v:Value) (b:aG) (w:World) (h:RdB w w.heap.size v b) (hok:aN b=true):
  Calls Tryz.prog 9 #[v,.string ⟨#[102,105,110,105,115,104]⟩] w (xO b kC w):=by
 unfold xO
 rw[LZ hok];have hwf:=En b hok;have hlen:=qK b;obtain⟨aa,Zu⟩:∃x,gZ b=x:=⟨_,rfl⟩;rw[Zu] at hwf hlen ⊢
 have HWF:=af hwf;have HAA:=Bx.mk Zu;have hs:(⟨#[102,105,110,105,115,104]⟩:ByteArray).size≤9223372036854775807:=by decide
 have HS:=Bx.mk hs;have HR:Bx (readA (⟨#[102,105,110,105,115,104]⟩:ByteArray).data.toList=none):=Bx.mk (by decide);obtain⟨fa,hfa⟩:∃x,(⟨(if aa.length=0 then tX else okW).toArray⟩:ByteArray)=x:=⟨_,rfl⟩;have HFA:=Bx.mk hfa
 simp only
 rw[hfa];obtain⟨x,hx⟩:∃x,(gY b aa).1=x:=⟨_,rfl⟩;have HX:=Bx.mk hx;rw[hx];obtain⟨jI,hxs⟩:∃y,x.order.start=y:=⟨_,rfl⟩;obtain⟨xt,hxt⟩:∃y,x.state=y:=⟨_,rfl⟩;have Uh:=Bx.mk hxs;have Ui:=Bx.mk hxt;obtain⟨G,gn,gc,G',n',c',D',dn,dc,hv⟩:=h.form;subst hv;obtain⟨os,hos⟩:∃x,b.order.start=x:=⟨_,rfl⟩;obtain⟨st,hst⟩:∃x,b.state=x:=⟨_,rfl⟩;rw[hos,hst] at h ⊢
 have aS:Hid (St w ((w.alloc (.cells #[.int .i64 os,.slice G gn gc,.slice G' n' c',.slice D' dn dc,.int .i64 st] 28)).alloc (.cells #[.int .i64 0,.slice none 0 0,.slice none 0 0,.slice none 0 0,.int .i64 0] 28)) [ah w.heap.size 28 #[.int .i64 os,.slice G gn gc,.slice G' n' c',.slice D' dn dc,.int .i64 st],ah (w.heap.size+1) 28 #[.int .i64 0,.slice none 0 0,.slice none 0 0,.slice none 0 0,.int .i64 0]]):=af (by
  have:=((St.refl w).alloc #[.int .i64 os,.slice G gn gc,.slice G' n' c',.slice D' dn dc,.int .i64 st] 28).alloc #[.int .i64 0,.slice none 0 0,.slice none 0 0,.slice none 0 0,.int .i64 0] 28
  simpa using this)
 have HB:=af h;have bG:=Bx.mk hok;have nP:=Bx.mk hos;have kK:=Bx.mk hst;clear h hok hos hst hwf Zu hs hx hxs hxt hfa;go_enter Tryz.func9,Tryz.ntmps9
 go_wp2_with fail
 refine(dF _ b _ (HB.out.up aS.out.below)).mono ?_;rw[bG.out];rintro e w1 ⟨rfl,hb1⟩;have bf:=af (aS.out.quiet hb1);clear hb1 aS;have q0:=bf.out.cells 0 rfl
 go_wp2_with fail
 refine(sZ ⟨#[102,105,110,105,115,104]⟩ _ HS.out).mono ?_;rw[HR.out];rintro e w2 ⟨he,hb2⟩;have he':e= .returned (.tuple #[.agg #[.int .i64 0,.int .i64 0],.bool false]):=he;subst he';clear he;obtain⟨g6,yu⟩:∃y,w2.heap.size=y:=⟨_,rfl⟩;have HS2:Hid (St w (w2.alloc (.cells #[.int .i64 0,.int .i64 0] 64)) [ah w.heap.size 28 #[.int .i64 os,.slice G gn gc,.slice G' n' c',.slice D' dn dc,.int .i64 st],ah (w.heap.size+1) 28 #[.int .i64 0,.slice none 0 0,.slice none 0 0,.slice none 0 0,.int .i64 0]]):=af (((bf.out.quiet hb2).alloc _ _).pick [0,1] (by decide) rfl rfl);clear hb2 bf q0;have q0:=HS2.out.cells 0 rfl;clear yu
 go_wp2_with fail
 refine(I9 _ b _ (HB.out.up HS2.out.below)).mono ?_;rw[HAA.out];rintro e w3 ⟨v3,rfl,s3⟩;have S3:=HS2.out.call s3;clear s3 HS2 q0;obtain⟨A,c,rfl,hra⟩:=S3.rdA 2 rfl;have HRA:=af hra;have cu:=af S3;clear S3 hra;simp only[id];obtain⟨al,hal⟩:∃x,aa.length=x:=⟨_,rfl⟩;rw[hal] at hlen;have wB:=af hal;rw[hal];have aaA:Hid (Zp w3 w3.heap.size A al c aa):=af (by have:=HRA.out;rw[hal] at this;exact this);clear HRA;have q0:=cu.out.cells 0 rfl;clear hal
 go_wp2_with fail
 refine(Jq _ b A al c aa _ (HB.out.up cu.out.below) aaA.out HWF.out).mono ?_;rw[HX.out];rintro e w4 ⟨v4,rfl,s4⟩;obtain⟨X1,i1,j1,X2,i2,j2,X3,i3,j3,hv⟩:=s4.gU 0 rfl;rw[Uh.out,Ui.out] at hv;subst hv;obtain⟨g8,NV⟩:∃y,w4.heap.size=y:=⟨_,rfl⟩;have fH:Hid (St w (w4.alloc (.cells #[.int .i64 jI,.slice X1 i1 j1,.slice X2 i2 j2,.slice X3 i3 j3,.int .i64 xt] 28)) [ah (w.heap.size+1) 28 #[.int .i64 0,.slice none 0 0,.slice none 0 0,.slice none 0 0,.int .i64 0],aI (.agg #[.int .i64 jI,.slice X1 i1 j1,.slice X2 i2 j2,.slice X3 i3 j3,.int .i64 xt]) x,ah g8 28 #[.int .i64 jI,.slice X1 i1 j1,.slice X2 i2 j2,.slice X3 i3 j3,.int .i64 xt]]):=af (by rw[←NV];exact((cu.out.call s4).alloc _ _).pick [1,3,4] (by decide) rfl rfl);clear s4 cu q0;have q1:=fH.out.cells 0 rfl;have q8:=fH.out.cells 2 rfl;have f1:=fH.out.free 0 rfl;have dX:=af ((fH.out.fF 0 rfl (.int .i64 jI) (.slice X1 i1 j1) (.slice X2 i2 j2) (.slice X3 i3 j3) (.int .i64 xt)).pick [1,0] (by decide) rfl rfl)
 by_cases h0:al=0
 ·subst h0;skip;go_wp2;have q2:=dX.out.cells 1 rfl;refine bodyPost_ret (v:=.tuple #[.agg #[.int .i64 jI,.slice X1 i1 j1,.slice X2 i2 j2,.slice X3 i3 j3,.int .i64 xt],.string ⟨#[110,111,110,101]⟩]) (by simp[results,Tryz.results9,go_sem,q2]) rfl ⟨.agg #[.int .i64 jI,.slice X1 i1 j1,.slice X2 i2 j2,.slice X3 i3 j3,.int .i64 xt],by rw[←HFA.out,if_pos wB.out];rfl,dX.out.pick [0] (by decide) rfl rfl⟩
 ·have h0i:((al:Int) == 0)=false:=beq_false_of_ne (by omega);have WJ:Hid (¬aa.length=0):=af (by rw[wB.out];exact h0);clear h0;go_wp2;have q2:=dX.out.cells 1 rfl;refine bodyPost_ret (v:=.tuple #[.agg #[.int .i64 jI,.slice X1 i1 j1,.slice X2 i2 j2,.slice X3 i3 j3,.int .i64 xt],.string ⟨#[111,107]⟩]) (by simp[results,Tryz.results9,go_sem,q2]) rfl ⟨.agg #[.int .i64 jI,.slice X1 i1 j1,.slice X2 i2 j2,.slice X3 i3 j3,.int .i64 xt],by rw[←HFA.out,if_neg WJ.out];rfl,dX.out.pick [0] (by decide) rfl rfl⟩
theorem SB (v:Value) (b:aG) (s0:ByteArray) (w:World) (h:RdB w w.heap.size v b) (hok:aN b=true) (he:rQ w) (hp:lF w) (hs:s0.size<4294967281) (hr:readA s0.data.toList=none) (hf:s0.data.toList≠kC):
  Calls Tryz.prog 9 #[v,.string s0] w (xO b s0.data.toList w):=by
 unfold xO
 rw[L6 hok hr hf];have hans:=fun w' (hb:Below w.heap.size w w')=>FT v b s0 w' (h.up hb) hok (he.up hb) (hp.up hb) hs
 obtain⟨ans,hae⟩:∃x,(⟨(rE b s0.data.toList).toArray⟩:ByteArray)=x:=⟨_,rfl⟩
 simp only
 rw[hae] at hans ⊢
 have HS:Bx (s0.size≤9223372036854775807):=Bx.mk (by omega);have HR:=Bx.mk hr;have b1:(s0.toList == [102,105,110,105,115,104])=false:=by rw[dH,Lib.toList_data];intro h;exact hf (beq_iff_eq.1 h)
 obtain⟨G,gn,gc,G',n',c',D',dn,dc,hv⟩:=h.form;subst hv;obtain⟨os,hos⟩:∃x,b.order.start=x:=⟨_,rfl⟩;obtain⟨st,hst⟩:∃x,b.state=x:=⟨_,rfl⟩;rw[hos,hst] at h hans ⊢
 have aS:Hid (St w ((w.alloc (.cells #[.int .i64 os,.slice G gn gc,.slice G' n' c',.slice D' dn dc,.int .i64 st] 28)).alloc (.cells #[.int .i64 0,.slice none 0 0,.slice none 0 0,.slice none 0 0,.int .i64 0] 28)) [ah w.heap.size 28 #[.int .i64 os,.slice G gn gc,.slice G' n' c',.slice D' dn dc,.int .i64 st],ah (w.heap.size+1) 28 #[.int .i64 0,.slice none 0 0,.slice none 0 0,.slice none 0 0,.int .i64 0]]):=af (by
  have:=((St.refl w).alloc #[.int .i64 os,.slice G gn gc,.slice G' n' c',.slice D' dn dc,.int .i64 st] 28).alloc #[.int .i64 0,.slice none 0 0,.slice none 0 0,.slice none 0 0,.int .i64 0] 28
  simpa using this)
 have HB:=af h;have bG:=Bx.mk hok;have nP:=Bx.mk hos;have kK:=Bx.mk hst;have Vz:=af hans;clear h hok hos hst hans hae he hp hs hr hf;go_enter Tryz.func9,Tryz.ntmps9
 go_wp2_with fail
 refine(dF _ b _ (HB.out.up aS.out.below)).mono ?_;rw[bG.out];rintro e w1 ⟨rfl,hb1⟩;have bf:=af (aS.out.quiet hb1);clear hb1 aS;have q0:=bf.out.cells 0 rfl
 go_wp2_with fail
 refine(sZ s0 _ HS.out).mono ?_;rw[HR.out];rintro e w2 ⟨he,hb2⟩;have he':e= .returned (.tuple #[.agg #[.int .i64 0,.int .i64 0],.bool false]):=he;subst he';clear he;obtain⟨g6,yu⟩:∃y,w2.heap.size=y:=⟨_,rfl⟩;have HS2:Hid (St w (w2.alloc (.cells #[.int .i64 0,.int .i64 0] 64)) [ah w.heap.size 28 #[.int .i64 os,.slice G gn gc,.slice G' n' c',.slice D' dn dc,.int .i64 st],ah (w.heap.size+1) 28 #[.int .i64 0,.slice none 0 0,.slice none 0 0,.slice none 0 0,.int .i64 0]]):=af (((bf.out.quiet hb2).alloc _ _).pick [0,1] (by decide) rfl rfl);clear hb2 bf q0;have q0:=HS2.out.cells 0 rfl;clear yu q0
 go_upto_region 15 with(fail)
 clear b1
 refine kG (σ:=((Option Addr×Nat×Nat)×(Option Addr×Nat×Nat)×(Option Addr×Nat×Nat)))
  (fun s i=>match i with
   |0=>.agg #[.int .i64 os,.slice G gn gc,.slice G' n' c',.slice D' dn dc,.int .i64 st]
   |1=>.agg #[.int .i64 os,.slice s.1.1 s.1.2.1 s.1.2.2,.slice s.2.1.1 s.2.1.2.1 s.2.1.2.2,.slice s.2.2.1 s.2.2.2.1 s.2.2.2.2,.int .i64 st]
   |2=>.agg #[.int .i64 os,.slice G gn gc,.slice G' n' c',.slice D' dn dc,.int .i64 st]
   |3=>.string s0
   |4=>.string ans
   |6=>.string ans
   |_=>undef)
  (fun D s wx=>Sn w wx fun i=>match i with
   |0=>some (ah w.heap.size 28 #[.int .i64 os,.slice G gn gc,.slice G' n' c',.slice D' dn dc,.int .i64 st])
   |1=>some (ah (w.heap.size+1) 28 (if D 5=true then #[.int .i64 os,.slice s.1.1 s.1.2.1 s.1.2.2,.slice s.2.1.1 s.2.1.2.1 s.2.1.2.2,.slice s.2.2.1 s.2.2.2.1 s.2.2.2.2,.int .i64 st] else #[.int .i64 0,.slice none 0 0,.slice none 0 0,.slice none 0 0,.int .i64 0]))
   |2=>if D 1=true then some (aI (.agg #[.int .i64 os,.slice s.1.1 s.1.2.1 s.1.2.2,.slice s.2.1.1 s.2.1.2.1 s.2.1.2.2,.slice s.2.2.1 s.2.2.2.1 s.2.2.2.2,.int .i64 st]) b) else none
   |_=>none)
  ((none,0,0),(none,0,0),(none,0,0)) ?_ ?_ ?_
 ·intro D hD;refine((Sn.dN HS2.out).quiet ((ai _ _).drew)).congr fun i=>?_
  match i with
  |0=>rfl
  |1=>simp only[hD 5 (by decide)];rfl
  |2=>simp only[hD 1 (by decide)];rfl
  |q+3=>rfl
 ·refine Cs (fun D s wx hR _ hd _ _ hs K hK=>?_) ?_
  ·have e2:=hs.o 2 (.pointer (some ⟨w.heap.size,0,none⟩));clear hs;have qk:=(hR.blk 0 rfl).cell;go_simp;exact hK s wx sv hR
  refine Cs (fun D s wx hR (hDi:D 1=false) hd hsh _ hs K hK=>?_) ?_
  ·have e47:=hs.v 0 47 hd;have g47:=aX e47;clear hs;have n5:D 5=false:=hsh.no hDi 5 rfl ⟨1,.data⟩ (by simp) rfl rfl;go_simp;refine(pq _ b _ (HB.out.up hR.below)).mono ?_;rintro e w2 ⟨v2,rfl,s2⟩;obtain⟨A1,n1,c1,A2,n2,c2,A3,n3,c3,hv⟩:=s2.gU 0 rfl;rw[nP.out,kK.out] at hv;subst hv
   refine hK ((A1,n1,c1),(A2,n2,c2),(A3,n3,c3)) w2
    (fun j hj=>by
     match j,hj with
     |0,hj=>rfl
     |1,hj=>rw[hDi] at hj;cases hj
     |2,hj | 3,hj | 4,hj | 5,hj | 6,hj=>rfl
     |_+7,hj=>rfl)
    ((hR.add 2 (if_neg (by rw[hDi];simp)) s2).congr
     (fun i=>by
      match i with
      |0=>rfl
      |1=>(show some (ah _ _ (if D 5=true then _ else _))=some (ah _ _ (if D 5=true then _ else _));rw[n5]<;>rfl)
      |2=>rfl
      |q+3=>exact(if_neg (show¬(q+3=2) by omega)).symm))
  refine Cs (fun D s wx hR _ hd _ _ hs K hK=>?_) ?_
  ·have e2:=hs.o 2 (.pointer (some ⟨w.heap.size,0,none⟩));clear hs;have qk:=(hR.blk 0 rfl).cell;go_simp;exact hK s wx sv hR
  refine Cs (fun D s wx hR _ hd _ _ hs K hK=>?_) ?_
  ·have e1:=hs.o 1 (.string s0);clear hs;go_simp;exact hK s wx sv hR
  refine Cs (fun D s wx hR _ hd _ _ hs K hK=>?_) ?_
  ·have e49:=hs.v 2 49 hd;have e50:=hs.v 3 50 hd;have g49:=aX e49;have g50:=aX e50;clear hs;go_simp;refine(Vz.out wx hR.below).mono ?_;rintro e w2 ⟨rfl,hb2⟩;exact hK s w2 sv (hR.quiet hb2)
  refine Cs (fun D s wx hR (hDi:D 5=false) hd _ _ hs K hK=>?_) ?_
  ·have e4:=hs.o 4 (.pointer (some ⟨(w.heap.size+1),0,none⟩));have e48:=hs.v 1 48 hd;clear hs;have kb:fU wx (w.heap.size+1) 28 #[.int .i64 0,.slice none 0 0,.slice none 0 0,.slice none 0 0,.int .i64 0]:=hR.blk 1 (by simp only[hDi]<;>rfl);have f0:=kb.frozen;have qk:=kb.cell;go_simp
   exact hK s _ sv ((hR.fF 1 (by simp only[hDi];rfl) _ _ _ _ _).congr
    (fun i=>by
     match i with
     |0 | 1 | 2=>rfl
     |q+3=>exact(if_neg (show¬(q+3=1) by omega)).symm))
  refine Cs (fun D s wx hR _ hd _ _ hs K hK=>?_) ?_
  ·have e51:=hs.v 4 51 hd;clear hs;go_simp;exact hK s wx sv hR
  exact aj.nil
 ·intro D s wx hR hD;simp only[eH,Act.put,aO,aU,aW];have S3:St w wx [aI (.agg #[.int .i64 os,.slice s.1.1 s.1.2.1 s.1.2.2,.slice s.2.1.1 s.2.1.2.1 s.2.1.2.2,.slice s.2.2.1 s.2.2.2.1 s.2.2.2.2,.int .i64 st]) b,ah (w.heap.size+1) 28 #[.int .i64 os,.slice s.1.1 s.1.2.1 s.1.2.2,.slice s.2.1.1 s.2.1.2.1 s.2.1.2.2,.slice s.2.2.1 s.2.2.2.1 s.2.2.2.2,.int .i64 st]]:=hR.eG [2,1] (by decide) (by simp only[List.map,hD 1 (by decide),hD 5 (by decide)]<;>rfl);clear hR hD;have z0:=S3.cells 1 rfl;have cu:=af S3;clear S3;go_wp2;refine bodyPost_ret (v:=.tuple #[.agg #[.int .i64 os,.slice s.1.1 s.1.2.1 s.1.2.2,.slice s.2.1.1 s.2.1.2.1 s.2.1.2.2,.slice s.2.2.1 s.2.2.2.1 s.2.2.2.2,.int .i64 st],.string ans]) (by simp[results,Tryz.results9,go_sem,z0]) rfl ⟨.agg #[.int .i64 os,.slice s.1.1 s.1.2.1 s.1.2.2,.slice s.2.1.1 s.2.1.2.1 s.2.1.2.2,.slice s.2.2.1 s.2.2.2.1 s.2.2.2.2,.int .i64 st],rfl,cu.out.pick [0] (by decide) rfl rfl⟩
theorem FU (v:Value) (b:aG) (s:ByteArray) (w:World) (h:RdB w w.heap.size v b) (he:rQ w) (hp:lF w) (hs:s.size<4294967281):
  Calls Tryz.prog 9 #[v,.string s] w (xO b s.data.toList w):=by
 cases hok:aN b with
 |false=>exact Sz v b s w h hok
 |true=>
  cases hr:readA s.data.toList with
  |some a=>
   obtain⟨k,m⟩:=a
   have:=Jr v b s k m w h hok (by omega) hr
   unfold xO
   rw[Mc hok hr];have e:aaB (eY b ⟨k,m⟩)=⟨(if eY b ⟨k,m⟩ then okW else noW).toArray⟩:=by unfold aaB;cases eY b ⟨k,m⟩<;>rfl
   rw[e] at this;exact this
  |none=>
   by_cases hf:s.data.toList=kC
   ·obtain rfl:=ba_eq hf;exact Jp v b w h hok
   ·exact SB v b s w h hok he hp hs hr hf
end Go.Proofs.YtkmcengmglgdeaaGreatDoor
