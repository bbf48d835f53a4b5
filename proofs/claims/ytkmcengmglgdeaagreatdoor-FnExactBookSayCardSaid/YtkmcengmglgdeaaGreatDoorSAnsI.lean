/- Joined texts: AnsI, LineI. -/
import Derived.Test.YtkmcengmglgdeaaGreatDoorSRightP
import Derived.Test.YtkmcengmglgdeaaGreatDoorSTaskTS
import Derived.Test.YtkmcengmglgdeaaGreatDoorSCondS
import Derived.Test.YtkmcengmglgdeaaGreatDoorSReachS
import Derived.Test.YtkmcengmglgdeaaGreatDoorSBValid
import Derived.Test.YtkmcengmglgdeaaGreatDoorSPlanForS
import Derived.Test.YtkmcengmglgdeaaGreatDoorSShortP
import Derived.Test.YtkmcengmglgdeaaGreatDoorSActR
import Derived.Test.YtkmcengmglgdeaaGreatDoorSLaid
import Derived.Test.YtkmcengmglgdeaaGreatDoorSRunB
import Derived.Test.YtkmcengmglgdeaaGreatDoorSEndActs

namespace Go.Proofs.YtkmcengmglgdeaaGreatDoor
set_option linter.unusedVariables false
set_option linter.unusedSimpArgs false
set_option maxRecDepth 100000
set_option maxHeartbeats 8000000
open Go.ChangeShapes Go.WideShapes Go.ChangeAt Go.RowKit
def PI:Option (List Int)→List UInt8
 |none=>zM
 |some p=>iY p.length
def ZQ (b:Bool):List UInt8:=if b then abW else noW
theorem yj (b:aI):((dF b).getD []).length≤31:=by
 unfold dF
 split
 ·cases h:dK (dB b) with
  |none=>simp
  |some p=>exact(rF h).2.2.1
 ·simp
theorem Oh (v:Value) (b:aI) (w:World) (h:RdB w w.heap.size v b) (hok:aP b=true):
  Calls Tryz.prog 50 #[v,.string ⟨#[115,116,97,116,101]⟩] w fun e w'=>e= .returned (.string ⟨(fP b.state.toNat).toArray⟩)∧Below w.heap.size w w':=by
 obtain⟨A,n,c,A',n',c',A2,n2,c2,hv⟩:=h.form;obtain⟨os,hos⟩:∃x,b.order.start=x:=⟨_,rfl⟩;obtain⟨st,hst⟩:∃x,b.state=x:=⟨_,rfl⟩;rw[hos,hst] at hv;subst hv;have aQ:=af ((St.refl w).alloc #[.int .i64 os,.slice A n c,.slice A' n' c',.slice A2 n2 c2,.int .i64 st] 28);obtain⟨hbt,-,hbs,-⟩:=bH hok;have HB:=af h;have Dp:=af h.order;have Rl:=af (h.from_ hst.symm);have bC:=af hbt;have Md:=af (fJ hbt hbs);have HL2:=af h.done.1.len;have L6:=af hbs;obtain⟨sn,rfl⟩:=bI (show 0≤st by rw[←hst];exact hbs.1);have yN:Hid (sn<32):=af (by omega);rw[show b.state.toNat=sn by rw[hst];simp];clear h hok hbt hbs hos hst;go_enter Tryz.func50,Tryz.ntmps50
 go_wp2_with fail
 refine(iG sn yN.out _).mono ?_;rintro e w2 ⟨rfl,hb2⟩;have HS2:=af (aQ.out.quiet hb2);clear hb2 aQ;go_wp2;go_ret;exact⟨rfl,HS2.out.below⟩
theorem Rn (v:Value) (b:aI) (w:World) (h:RdB w w.heap.size v b) (hok:aP b=true):
  Calls Tryz.prog 50 #[v,.string ⟨#[116,97,115,107]⟩] w fun e w'=>e= .returned (.string ⟨(sS b.order).toArray⟩)∧Below w.heap.size w w':=by
 obtain⟨A,n,c,A',n',c',A2,n2,c2,hv⟩:=h.form;obtain⟨os,hos⟩:∃x,b.order.start=x:=⟨_,rfl⟩;obtain⟨st,hst⟩:∃x,b.state=x:=⟨_,rfl⟩;rw[hos,hst] at hv;subst hv;have aQ:=af ((St.refl w).alloc #[.int .i64 os,.slice A n c,.slice A' n' c',.slice A2 n2 c2,.int .i64 st] 28);obtain⟨hbt,-,hbs,-⟩:=bH hok;have HB:=af h;have Dp:=af h.order;have Rl:=af (h.from_ hst.symm);have bC:=af hbt;have Md:=af (fJ hbt hbs);have HL2:=af h.done.1.len;have L6:=af hbs;clear h hok hbt hbs hos hst;go_enter Tryz.func50,Tryz.ntmps50;have q0:=aQ.out.cells 0 rfl
 go_wp2_with fail
 refine(ET _ b.order _ (Dp.out.up aQ.out.below) bC.out).mono ?_;rintro e w2 ⟨rfl,hb2⟩;have HS2:=af (aQ.out.quiet hb2);clear hb2 aQ;go_wp2;go_ret;exact⟨rfl,HS2.out.below⟩
theorem Ro (v:Value) (b:aI) (w:World) (h:RdB w w.heap.size v b) (hok:aP b=true) (hp:kR w):
  Calls Tryz.prog 50 #[v,.string ⟨#[100,111,110,101]⟩] w fun e w'=>e= .returned (.string ⟨(iY b.done.length).toArray⟩)∧Below w.heap.size w w':=by
 obtain⟨A,n,c,A',n',c',A2,n2,c2,hv⟩:=h.form;obtain⟨os,hos⟩:∃x,b.order.start=x:=⟨_,rfl⟩;obtain⟨st,hst⟩:∃x,b.state=x:=⟨_,rfl⟩;rw[hos,hst] at hv;subst hv;have aQ:=af ((St.refl w).alloc #[.int .i64 os,.slice A n c,.slice A' n' c',.slice A2 n2 c2,.int .i64 st] 28);obtain⟨hbt,-,hbs,-⟩:=bH hok;have HB:=af h;have Dp:=af h.order;have Rl:=af (h.from_ hst.symm);have bC:=af hbt;have Md:=af (fJ hbt hbs);have HL2:=af h.done.1.len;have L6:=af hbs;have JS:Hid (n2<100000000000):=af (by have:=h.done.2.1;omega);have Xa:=af hp;rw[h.done.1.len];clear hp;clear h hok hbt hbs hos hst;go_enter Tryz.func50,Tryz.ntmps50
 go_wp2_with fail
 refine(DC n2 JS.out _ (Xa.out.up aQ.out.below)).mono ?_;rintro e w2 ⟨rfl,hb2⟩;have HS2:=af (aQ.out.quiet hb2);clear hb2 aQ;go_wp2;go_ret;exact⟨rfl,HS2.out.below⟩
theorem U3 (v:Value) (b:aI) (w:World) (h:RdB w w.heap.size v b) (hok:aP b=true):
  Calls Tryz.prog 50 #[v,.string ⟨#[109,97,121]⟩] w fun e w'=>e= .returned (.string ⟨(Oi (dG b.order b.state)).toArray⟩)∧Below w.heap.size w w':=by
 obtain⟨A,n,c,A',n',c',A2,n2,c2,hv⟩:=h.form;obtain⟨os,hos⟩:∃x,b.order.start=x:=⟨_,rfl⟩;obtain⟨st,hst⟩:∃x,b.state=x:=⟨_,rfl⟩;rw[hos,hst] at hv;subst hv;have aQ:=af ((St.refl w).alloc #[.int .i64 os,.slice A n c,.slice A' n' c',.slice A2 n2 c2,.int .i64 st] 28);obtain⟨hbt,-,hbs,-⟩:=bH hok;have HB:=af h;have Dp:=af h.order;have Rl:=af (h.from_ hst.symm);have bC:=af hbt;have Md:=af (fJ hbt hbs);have HL2:=af h.done.1.len;have L6:=af hbs;rw[hst];have HM:Hid (∀x∈dG b.order st,0≤x∧x<100):=af fun x hx=>by have:=Aa hx;omega
 have HML:Hid ((dG b.order st).length≤100):=af (by have:=xI b.order st;omega);clear h hok hbt hbs hos hst;go_enter Tryz.func50,Tryz.ntmps50
 go_wp2_with fail
 refine(vV _ b.order st _ (Dp.out.up aQ.out.below)).mono ?_;rintro e w1 ⟨v1,rfl,s1⟩;have S1:=aQ.out.call s1;obtain⟨A1,c1,rfl,Qz⟩:=S1.xq 1 rfl;have HRI:=af Qz;have bG:=af S1;clear S1 s1 aQ Qz;simp only[id]
 go_wp2_with fail
 refine(KO A1 _ c1 (dG b.order st) _ HRI.out HM.out HML.out).mono ?_;rintro e w2 ⟨rfl,hb2⟩;have HS2:=af (bG.out.quiet hb2);clear hb2;go_wp2;go_ret;exact⟨rfl,HS2.out.below⟩
theorem Rq (v:Value) (b:aI) (w:World) (h:RdB w w.heap.size v b) (hok:aP b=true) (hp:kR w):
  Calls Tryz.prog 50 #[v,.string ⟨#[108,101,102,116]⟩] w fun e w'=>e= .returned (.string ⟨(PI (dF b)).toArray⟩)∧Below w.heap.size w w':=by
 obtain⟨A,n,c,A',n',c',A2,n2,c2,hv⟩:=h.form;obtain⟨os,hos⟩:∃x,b.order.start=x:=⟨_,rfl⟩;obtain⟨st,hst⟩:∃x,b.state=x:=⟨_,rfl⟩;rw[hos,hst] at hv;subst hv;have aQ:=af ((St.refl w).alloc #[.int .i64 os,.slice A n c,.slice A' n' c',.slice A2 n2 c2,.int .i64 st] 28);obtain⟨hbt,-,hbs,-⟩:=bH hok;have HB:=af h;have Dp:=af h.order;have Rl:=af (h.from_ hst.symm);have bC:=af hbt;have Md:=af (fJ hbt hbs);have HL2:=af h.done.1.len;have L6:=af hbs;obtain⟨o,ho⟩:∃o,dF b=o:=⟨_,rfl⟩;have HO:=Bx.mk ho;have HOL:Hid (∀p,o=some p→p.length<100000000000):=af fun p hp=>by have:=yj b;rw[ho,hp] at this;simp at this;omega
 have Xa:=af hp;rw[ho];clear hp ho;clear h hok hbt hbs hos hst;go_enter Tryz.func50,Tryz.ntmps50
 go_wp2_with fail
 refine(rE _ b _ (HB.out.up aQ.out.below)).mono ?_;rw[HO.out];rintro e w1 ⟨v1,rfl,s1⟩;have bG:=af (aQ.out.call s1);clear s1 aQ
 cases o with
 |none=>
  simp only[Option.isSome_none];go_wp2;go_ret;exact⟨rfl,bG.out.below⟩
 |some p=>
  obtain⟨A1,c1,rfl,Qz⟩:=bG.out.xq 1 rfl;simp only[Option.isSome_some,Option.getD_some];clear Qz;obtain⟨pn,hpn⟩:∃x,p.length=x:=⟨_,rfl⟩;have Nj:=af hpn;rw[hpn];have ZR:Hid (pn<100000000000):=af (by have:=HOL.out p rfl;omega);clear hpn
  go_wp2_with fail
  refine(DC pn ZR.out _ (Xa.out.up bG.out.below)).mono ?_;rintro e w2 ⟨rfl,hb2⟩;have HS2:=af (bG.out.quiet hb2);clear hb2;go_wp2;go_ret;exact⟨by rw[PI,Nj.out];rfl,HS2.out.below⟩
theorem Oj (v:Value) (b:aI) (w:World) (h:RdB w w.heap.size v b) (hok:aP b=true):
  Calls Tryz.prog 50 #[v,.string ⟨#[101,110,100,101,100]⟩] w fun e w'=>e= .returned (.string ⟨(ZQ (iF b)).toArray⟩)∧Below w.heap.size w w':=by
 obtain⟨A,n,c,A',n',c',A2,n2,c2,hv⟩:=h.form;obtain⟨os,hos⟩:∃x,b.order.start=x:=⟨_,rfl⟩;obtain⟨st,hst⟩:∃x,b.state=x:=⟨_,rfl⟩;rw[hos,hst] at hv;subst hv;have aQ:=af ((St.refl w).alloc #[.int .i64 os,.slice A n c,.slice A' n' c',.slice A2 n2 c2,.int .i64 st] 28);obtain⟨hbt,-,hbs,-⟩:=bH hok;have HB:=af h;have Dp:=af h.order;have Rl:=af (h.from_ hst.symm);have bC:=af hbt;have Md:=af (fJ hbt hbs);have HL2:=af h.done.1.len;have L6:=af hbs;obtain⟨o,ho⟩:∃o,iF b=o:=⟨_,rfl⟩;have HO:=Bx.mk ho;rw[ho];clear ho;clear h hok hbt hbs hos hst;go_enter Tryz.func50,Tryz.ntmps50
 go_wp2_with fail
 refine(Di _ b _ (HB.out.up aQ.out.below)).mono ?_;rw[HO.out];rintro e w2 ⟨rfl,hb2⟩;have HS2:=af (aQ.out.quiet hb2);clear hb2 aQ
 cases o with
 |false=>
  go_wp2;go_ret;exact⟨rfl,HS2.out.below⟩
 |true=>
  go_wp2;go_ret;exact⟨rfl,HS2.out.below⟩
theorem Ol (v:Value) (b:aI) (w:World) (h:RdB w w.heap.size v b) (hok:aP b=true) (hp:kR w):
  Calls Tryz.prog 50 #[v,.string ⟨#[112,114,111,111,102]⟩] w fun e w'=>e= .returned (.string ⟨(jC (dB b)).toArray⟩)∧Below w.heap.size w w':=by
 obtain⟨A,n,c,A',n',c',A2,n2,c2,hv⟩:=h.form;obtain⟨os,hos⟩:∃x,b.order.start=x:=⟨_,rfl⟩;obtain⟨st,hst⟩:∃x,b.state=x:=⟨_,rfl⟩;rw[hos,hst] at hv;subst hv;have aQ:=af ((St.refl w).alloc #[.int .i64 os,.slice A n c,.slice A' n' c',.slice A2 n2 c2,.int .i64 st] 28);obtain⟨hbt,-,hbs,-⟩:=bH hok;have HB:=af h;have Dp:=af h.order;have Rl:=af (h.from_ hst.symm);have bC:=af hbt;have Md:=af (fJ hbt hbs);have HL2:=af h.done.1.len;have L6:=af hbs;have Xa:=af hp;clear hp;clear h hok hbt hbs hos hst;go_enter Tryz.func50,Tryz.ntmps50
 go_wp2_with fail
 refine(rH os st A n c A' n' c' A2 n2 c2 _).mono ?_;rintro e w1 ⟨rfl,hb1⟩;have bG:=af (aQ.out.quiet hb1);clear hb1
 go_wp2_with fail
 refine(DF _ (dB b) _ (Rl.out.up bG.out.below) Md.out (Xa.out.up bG.out.below)).mono ?_;rintro e w2 ⟨rfl,hb2⟩;have HS2:=af (bG.out.quiet hb2);clear hb2;go_wp2;go_ret;exact⟨rfl,HS2.out.below⟩
theorem Om (v:Value) (b:aI) (s:ByteArray) (r:List UInt8) (w:World) (h:RdB w w.heap.size v b) (hok:aP b=true) (h1:s.data.toList≠DI) (h2:s.data.toList≠KP) (h3:s.data.toList≠KQ) (h4:s.data.toList≠U4) (h5:s.data.toList≠KR) (h6:s.data.toList≠DJ) (h7:s.data.toList≠DK) (he:qV w) (hs:s.size<4294967281) (hd:s.data.toList=pI++r) (hr:r≠[]):
  Calls Tryz.prog 50 #[v,.string s] w fun e w'=>e= .returned (.string ⟨(pJ (bT (dB b) r)).toArray⟩)∧Below w.heap.size w w':=by
 obtain⟨A,n,c,A',n',c',A2,n2,c2,hv⟩:=h.form;obtain⟨os,hos⟩:∃x,b.order.start=x:=⟨_,rfl⟩;obtain⟨st,hst⟩:∃x,b.state=x:=⟨_,rfl⟩;rw[hos,hst] at hv;subst hv;have aQ:=af ((St.refl w).alloc #[.int .i64 os,.slice A n c,.slice A' n' c',.slice A2 n2 c2,.int .i64 st] 28);obtain⟨hbt,-,hbs,-⟩:=bH hok;have HB:=af h;have Dp:=af h.order;have Rl:=af (h.from_ hst.symm);have bC:=af hbt;have Md:=af (fJ hbt hbs);have HL2:=af h.done.1.len;have L6:=af hbs;have b1:(s.toList == [115,116,97,116,101])=false:=by rw[cO,Lib.toList_data];intro h;exact h1 (beq_iff_eq.1 h)
 have b2:(s.toList == [116,97,115,107])=false:=by rw[cO,Lib.toList_data];intro h;exact h2 (beq_iff_eq.1 h)
 have b3:(s.toList == [100,111,110,101])=false:=by rw[cO,Lib.toList_data];intro h;exact h3 (beq_iff_eq.1 h)
 have b4:(s.toList == [109,97,121])=false:=by rw[cO,Lib.toList_data];intro h;exact h4 (beq_iff_eq.1 h)
 have b5:(s.toList == [108,101,102,116])=false:=by rw[cO,Lib.toList_data];intro h;exact h5 (beq_iff_eq.1 h)
 have b6:(s.toList == [101,110,100,101,100])=false:=by rw[cO,Lib.toList_data];intro h;exact h6 (beq_iff_eq.1 h)
 have b7:(s.toList == [112,114,111,111,102])=false:=by rw[cO,Lib.toList_data];intro h;exact h7 (beq_iff_eq.1 h)
 clear h1 h2 h3 h4 h5 h6 h7;have hcp:=fun w=>nK s ⟨#[99,104,101,99,107,32]⟩ r w hd
 have hrs:(⟨r.toArray⟩:ByteArray).size<4294967281:=by
  have:s.size=6+r.length:=by rw[Lib.size_eq s,hd];simp[pI];omega
  show r.toArray.size<_
  rw[List.size_toArray];omega
 have hpr:=fun w' (hb:Below w.heap.size w w')=>Bc _ (dB b) ⟨r.toArray⟩ w' ((h.from_ hst.symm).up hb) (fJ hbt hbs) (he.up hb) hrs
 rw[show(⟨r.toArray⟩:ByteArray).data.toList=r from rfl] at hpr;have hre:((⟨r.toArray⟩:ByteArray).toList == [])=false:=by rw[cO,Lib.toList_data];intro h;exact hr (beq_iff_eq.1 h)
 obtain⟨rb,hrb⟩:∃x,(⟨r.toArray⟩:ByteArray)=x:=⟨_,rfl⟩;rw[hrb] at hcp hpr hre;obtain⟨z,hz⟩:∃z,bT (dB b) r=z:=⟨_,rfl⟩;rw[hz] at hpr ⊢
 obtain⟨e1,adJ⟩:∃e,(z == 1)=e:=⟨_,rfl⟩;obtain⟨e0,adK⟩:∃e,(z == 0)=e:=⟨_,rfl⟩;have HZ1:=af adJ;have HZ0:=af adK;have HCP:=af hcp;have HPR:=af hpr;clear hcp hpr hrs hd hs he hr hrb hz;clear h hok hbt hbs hos hst;go_enter Tryz.func50,Tryz.ntmps50
 go_wp2_with fail
 refine(HCP.out _).mono ?_;rintro e w1 ⟨rfl,rfl⟩
 go_wp2_with fail
 refine(rH os st A n c A' n' c' A2 n2 c2 _).mono ?_;rintro e w1 ⟨rfl,hb1⟩;have bG:=af (aQ.out.quiet hb1);clear hb1
 go_wp2_with fail
 refine(HPR.out _ bG.out.below).mono ?_;rintro e w2 ⟨rfl,hb2⟩;have HS2:=af (bG.out.quiet hb2);clear hb2
 cases e1 with
 |true=>
  go_wp2;go_ret;exact⟨by rw[pJ,if_pos (beq_iff_eq.1 HZ1.out)];rfl,HS2.out.below⟩
 |false=>
  cases e0 with
  |true=>
   go_wp2;go_ret;exact⟨by rw[pJ,if_neg (fun h=>by have:=HZ1.out;rw[h] at this;cases this),if_pos (beq_iff_eq.1 HZ0.out)];rfl,HS2.out.below⟩
  |false=>
   go_wp2;go_ret;exact⟨by rw[pJ,if_neg (fun h=>by have:=HZ1.out;rw[h] at this;cases this),if_neg (fun h=>by have:=HZ0.out;rw[h] at this;cases this)];rfl,HS2.out.below⟩
theorem Oo (v:Value) (b:aI) (w:World) (h:RdB w w.heap.size v b) (hok:aP b=true):
  Calls Tryz.prog 50 #[v,.string ⟨#[99,104,101,99,107,32]⟩] w fun e w'=>e= .returned (.string ⟨(Gn).toArray⟩)∧Below w.heap.size w w':=by
 obtain⟨A,n,c,A',n',c',A2,n2,c2,hv⟩:=h.form;obtain⟨os,hos⟩:∃x,b.order.start=x:=⟨_,rfl⟩;obtain⟨st,hst⟩:∃x,b.state=x:=⟨_,rfl⟩;rw[hos,hst] at hv;subst hv;have aQ:=af ((St.refl w).alloc #[.int .i64 os,.slice A n c,.slice A' n' c',.slice A2 n2 c2,.int .i64 st] 28);obtain⟨hbt,-,hbs,-⟩:=bH hok;have HB:=af h;have Dp:=af h.order;have Rl:=af (h.from_ hst.symm);have bC:=af hbt;have Md:=af (fJ hbt hbs);have HL2:=af h.done.1.len;have L6:=af hbs;clear h hok hbt hbs hos hst;go_enter Tryz.func50,Tryz.ntmps50
 go_wp2_with fail
 refine(nK ⟨#[99,104,101,99,107,32]⟩ ⟨#[99,104,101,99,107,32]⟩ [] _ rfl).mono ?_;rintro e w1 ⟨rfl,rfl⟩;have HS2:=aQ;go_wp2;go_ret;exact⟨rfl,HS2.out.below⟩
theorem Oq (v:Value) (b:aI) (s:ByteArray) (w:World) (h:RdB w w.heap.size v b) (hok:aP b=true) (h1:s.data.toList≠DI) (h2:s.data.toList≠KP) (h3:s.data.toList≠KQ) (h4:s.data.toList≠U4) (h5:s.data.toList≠KR) (h6:s.data.toList≠DJ) (h7:s.data.toList≠DK) (hd:pI.isPrefixOf s.data.toList=false):
  Calls Tryz.prog 50 #[v,.string s] w fun e w'=>e= .returned (.string ⟨(Gn).toArray⟩)∧Below w.heap.size w w':=by
 obtain⟨A,n,c,A',n',c',A2,n2,c2,hv⟩:=h.form;obtain⟨os,hos⟩:∃x,b.order.start=x:=⟨_,rfl⟩;obtain⟨st,hst⟩:∃x,b.state=x:=⟨_,rfl⟩;rw[hos,hst] at hv;subst hv;have aQ:=af ((St.refl w).alloc #[.int .i64 os,.slice A n c,.slice A' n' c',.slice A2 n2 c2,.int .i64 st] 28);obtain⟨hbt,-,hbs,-⟩:=bH hok;have HB:=af h;have Dp:=af h.order;have Rl:=af (h.from_ hst.symm);have bC:=af hbt;have Md:=af (fJ hbt hbs);have HL2:=af h.done.1.len;have L6:=af hbs;have b1:(s.toList == [115,116,97,116,101])=false:=by rw[cO,Lib.toList_data];intro h;exact h1 (beq_iff_eq.1 h)
 have b2:(s.toList == [116,97,115,107])=false:=by rw[cO,Lib.toList_data];intro h;exact h2 (beq_iff_eq.1 h)
 have b3:(s.toList == [100,111,110,101])=false:=by rw[cO,Lib.toList_data];intro h;exact h3 (beq_iff_eq.1 h)
 have b4:(s.toList == [109,97,121])=false:=by rw[cO,Lib.toList_data];intro h;exact h4 (beq_iff_eq.1 h)
 have b5:(s.toList == [108,101,102,116])=false:=by rw[cO,Lib.toList_data];intro h;exact h5 (beq_iff_eq.1 h)
 have b6:(s.toList == [101,110,100,101,100])=false:=by rw[cO,Lib.toList_data];intro h;exact h6 (beq_iff_eq.1 h)
 have b7:(s.toList == [112,114,111,111,102])=false:=by rw[cO,Lib.toList_data];intro h;exact h7 (beq_iff_eq.1 h)
 clear h1 h2 h3 h4 h5 h6 h7;have hcp:=fun w=>oC s ⟨#[99,104,101,99,107,32]⟩ w hd
 have HCP:=af hcp;clear hcp hd;clear h hok hbt hbs hos hst;go_enter Tryz.func50,Tryz.ntmps50
 go_wp2_with fail
 refine(HCP.out _).mono ?_;rintro e w1 ⟨rfl,rfl⟩;have HS2:=aQ;go_wp2;go_ret;exact⟨rfl,HS2.out.below⟩
theorem Eu (v:Value) (b:aI) (s:ByteArray) (w:World) (h:RdB w w.heap.size v b) (hok:aP b=true) (he:qV w) (hp:kR w) (hs:s.size<4294967281):
  Calls Tryz.prog 50 #[v,.string s] w fun e w'=>e= .returned (.string ⟨(tC b s.data.toList).toArray⟩)∧Below w.heap.size w w':=by
 by_cases h1:s.data.toList=DI
 ·obtain rfl:=ba_eq h1;exact Oh v b w h hok
 by_cases h2:s.data.toList=KP
 ·obtain rfl:=ba_eq h2;exact Rn v b w h hok
 by_cases h3:s.data.toList=KQ
 ·obtain rfl:=ba_eq h3;exact Ro v b w h hok hp
 by_cases h4:s.data.toList=U4
 ·obtain rfl:=ba_eq h4;exact U3 v b w h hok
 by_cases h5:s.data.toList=KR
 ·obtain rfl:=ba_eq h5;exact Rq v b w h hok hp
 by_cases h6:s.data.toList=DJ
 ·obtain rfl:=ba_eq h6;exact Oj v b w h hok
 by_cases h7:s.data.toList=DK
 ·obtain rfl:=ba_eq h7;exact Ol v b w h hok hp
 have ha:tC b s.data.toList=if pI.isPrefixOf s.data.toList=true∧6<s.data.toList.length then pJ (bT (dB b) (s.data.toList.drop 6)) else Gn:=by
  unfold tC;rw[if_neg h1,if_neg h2,if_neg h3,if_neg h4,if_neg h5,if_neg h6,if_neg h7]
 rw[ha]
 cases hc:pI.isPrefixOf s.data.toList with
 |false=>rw[if_neg (by simp)];exact Oq v b s w h hok h1 h2 h3 h4 h5 h6 h7 hc
 |true=>
  obtain⟨r,hr⟩:=List.isPrefixOf_iff_prefix.1 hc
  by_cases hl:r=[]
  ·rw[if_neg (by rw[←hr,hl];simp[pI])];obtain rfl:=ba_eq (show s.data.toList=pI by rw[←hr,hl,List.append_nil]);exact Oo v b w h hok
  ·rw[if_pos ⟨rfl,by have:=List.length_pos_iff.2 hl;rw[←hr];simp[pI];omega⟩,show s.data.toList.drop 6=r by rw[←hr];rfl];exact Om v b s r w h hok h1 h2 h3 h4 h5 h6 h7 he hs hr.symm hl
theorem Ju {b:aI} {l:List UInt8} (h:aP b=false):nM b l=(sK,[]):=by unfold nM;rw[h];rfl
theorem Jv {b:aI} {l:List UInt8} {k n:Int} (h:aP b=true) (hr:readA l=some (k,n)):nM b l=(jl b ⟨k,n⟩,if fU b ⟨k,n⟩ then okW else noW):=by unfold nM;rw[if_pos h,hr]
theorem Jw {b:aI} (h:aP b=true):nM b nH=((gX b (iD b)).1,if(iD b).length=0 then zM else okW):=by
 unfold nM;rw[if_pos h,show readA nH=none from by decide];rfl
theorem Jy {b:aI} {l:List UInt8} (h:aP b=true) (hr:readA l=none) (hf:l≠nH):nM b l=(b,tC b l):=by
 unfold nM;rw[if_pos h,hr];exact if_neg hf
theorem BJ (b:aI) (hok:aP b=true):∀a∈iD b,(Lit.int .i64 a.number).wf=true:=by
 have hd:=(bH hok).2.1
 unfold iD
 split
 ·intro a ha
  rcases List.mem_append.1 ha with h | h
  ·split at h
   ·rw[List.mem_singleton.1 h];exact dU (by simp only;omega)
   ·cases h
  ·split at h
   ·cases h
   ·rw[List.mem_singleton.1 h];exact dU (by simp)
 ·intro a ha;cases ha
def wE (b:aI) (l:List UInt8) (w:World) (e:Ending) (w':World):Prop:=Gives w (fun v=>.tuple #[v,.string ⟨(nM b l).2.toArray⟩]) (fun v=>[bF v (nM b l).1]) e w'
theorem Qc (v:Value) (b:aI) (s:ByteArray) (w:World) (h:RdB w w.heap.size v b) (hok:aP b=false):
  Calls Tryz.prog 9 #[v,.string s] w (wE b s.data.toList w):=by
 unfold wE
 rw[Ju hok];obtain⟨G,gn,gc,G',n',c',D',dn,dc,hv⟩:=h.form;subst hv;obtain⟨os,hos⟩:∃x,b.order.start=x:=⟨_,rfl⟩;obtain⟨st,hst⟩:∃x,b.state=x:=⟨_,rfl⟩;rw[hos,hst] at h ⊢
 have aQ:Hid (St w ((w.alloc (.cells #[.int .i64 os,.slice G gn gc,.slice G' n' c',.slice D' dn dc,.int .i64 st] 28)).alloc (.cells #[.int .i64 0,.slice none 0 0,.slice none 0 0,.slice none 0 0,.int .i64 0] 28)) [ah w.heap.size 28 #[.int .i64 os,.slice G gn gc,.slice G' n' c',.slice D' dn dc,.int .i64 st],ah (w.heap.size+1) 28 #[.int .i64 0,.slice none 0 0,.slice none 0 0,.slice none 0 0,.int .i64 0]]):=af (by
  have:=((St.refl w).alloc #[.int .i64 os,.slice G gn gc,.slice G' n' c',.slice D' dn dc,.int .i64 st] 28).alloc #[.int .i64 0,.slice none 0 0,.slice none 0 0,.slice none 0 0,.int .i64 0] 28
  simpa using this)
 have HB:=af h;have bC:=Bx.mk hok;have pR:=Bx.mk hos;have jX:=Bx.mk hst;clear h hok hos hst;go_enter Tryz.func9,Tryz.ntmps9
 go_wp2_with fail
 refine(cu _ b _ (HB.out.up aQ.out.below)).mono ?_;rw[bC.out];rintro e w1 ⟨rfl,hb1⟩;have bG:=af (aQ.out.quiet hb1);clear hb1 aQ;have q1:=bG.out.cells 1 rfl;have f1:=bG.out.free 1 rfl;go_wp2;refine bodyPost_ret (v:=.tuple #[.agg #[.int .i64 0,.slice none 0 0,.slice none 0 0,.slice none 0 0,.int .i64 0],.string ⟨#[]⟩]) (by simp[results,Tryz.results9,go_sem,q1]) rfl ⟨.agg #[.int .i64 0,.slice none 0 0,.slice none 0 0,.slice none 0 0,.int .i64 0],rfl,?_⟩;exact St.book0 (bG.out.fH 1 rfl _ _ _ _ _).below
theorem Hf (v:Value) (b:aI) (w:World) (h:RdB w w.heap.size v b) (hok:aP b=true):
  Calls Tryz.prog 9 #[v,.string ⟨#[102,105,110,105,115,104]⟩] w (wE b nH w):=by
 unfold wE
 rw[Jw hok];have hwf:=BJ b hok;have hlen:=tH b;obtain⟨aa,XI⟩:∃x,iD b=x:=⟨_,rfl⟩;rw[XI] at hwf hlen ⊢
 have YQ:=af hwf;have HAA:=Bx.mk XI;have hs:(⟨#[102,105,110,105,115,104]⟩:ByteArray).size≤9223372036854775807:=by decide
 have HS:=Bx.mk hs;have HR:Bx (readA (⟨#[102,105,110,105,115,104]⟩:ByteArray).data.toList=none):=Bx.mk (by decide);obtain⟨fa,hfa⟩:∃x,(⟨(if aa.length=0 then zM else okW).toArray⟩:ByteArray)=x:=⟨_,rfl⟩;have HFA:=Bx.mk hfa
 simp only
 rw[hfa];obtain⟨x,hx⟩:∃x,(gX b aa).1=x:=⟨_,rfl⟩;have HX:=Bx.mk hx;rw[hx];obtain⟨ve,hxs⟩:∃y,x.order.start=y:=⟨_,rfl⟩;obtain⟨xt,hxt⟩:∃y,x.state=y:=⟨_,rfl⟩;have YR:=Bx.mk hxs;have YS:=Bx.mk hxt;obtain⟨G,gn,gc,G',n',c',D',dn,dc,hv⟩:=h.form;subst hv;obtain⟨os,hos⟩:∃x,b.order.start=x:=⟨_,rfl⟩;obtain⟨st,hst⟩:∃x,b.state=x:=⟨_,rfl⟩;rw[hos,hst] at h ⊢
 have aQ:Hid (St w ((w.alloc (.cells #[.int .i64 os,.slice G gn gc,.slice G' n' c',.slice D' dn dc,.int .i64 st] 28)).alloc (.cells #[.int .i64 0,.slice none 0 0,.slice none 0 0,.slice none 0 0,.int .i64 0] 28)) [ah w.heap.size 28 #[.int .i64 os,.slice G gn gc,.slice G' n' c',.slice D' dn dc,.int .i64 st],ah (w.heap.size+1) 28 #[.int .i64 0,.slice none 0 0,.slice none 0 0,.slice none 0 0,.int .i64 0]]):=af (by
  have:=((St.refl w).alloc #[.int .i64 os,.slice G gn gc,.slice G' n' c',.slice D' dn dc,.int .i64 st] 28).alloc #[.int .i64 0,.slice none 0 0,.slice none 0 0,.slice none 0 0,.int .i64 0] 28
  simpa using this)
 have HB:=af h;have bC:=Bx.mk hok;have pR:=Bx.mk hos;have jX:=Bx.mk hst;clear h hok hos hst hwf XI hs hx hxs hxt hfa;go_enter Tryz.func9,Tryz.ntmps9
 go_wp2_with fail
 refine(cu _ b _ (HB.out.up aQ.out.below)).mono ?_;rw[bC.out];rintro e w1 ⟨rfl,hb1⟩;have bG:=af (aQ.out.quiet hb1);clear hb1 aQ;have q0:=bG.out.cells 0 rfl
 go_wp2_with fail
 refine(qW ⟨#[102,105,110,105,115,104]⟩ _ HS.out).mono ?_;rw[HR.out];rintro e w2 ⟨he,hb2⟩;have he':e= .returned (.tuple #[.agg #[.int .i64 0,.int .i64 0],.bool false]):=he;subst he';clear he;obtain⟨g6,yR⟩:∃y,w2.heap.size=y:=⟨_,rfl⟩;have HS2:Hid (St w (w2.alloc (.cells #[.int .i64 0,.int .i64 0] 64)) [ah w.heap.size 28 #[.int .i64 os,.slice G gn gc,.slice G' n' c',.slice D' dn dc,.int .i64 st],ah (w.heap.size+1) 28 #[.int .i64 0,.slice none 0 0,.slice none 0 0,.slice none 0 0,.int .i64 0]]):=af (((bG.out.quiet hb2).alloc _ _).pick [0,1] (by decide) rfl rfl);clear hb2 bG q0;have q0:=HS2.out.cells 0 rfl;clear yR
 go_wp2_with fail
 refine(Hg _ b _ (HB.out.up HS2.out.below)).mono ?_;rw[HAA.out];rintro e w3 ⟨v3,rfl,s3⟩;have S3:=HS2.out.call s3;clear s3 HS2 q0;obtain⟨A,c,rfl,hra⟩:=S3.rdA 2 rfl;have HRA:=af hra;have dV:=af S3;clear S3 hra;simp only[id];obtain⟨al,hal⟩:∃x,aa.length=x:=⟨_,rfl⟩;rw[hal] at hlen;have uY:=af hal;rw[hal];have YT:Hid (XJ w3 w3.heap.size A al c aa):=af (by have:=HRA.out;rw[hal] at this;exact this);clear HRA;have q0:=dV.out.cells 0 rfl;clear hal
 go_wp2_with fail
 refine(Hl _ b A al c aa _ (HB.out.up dV.out.below) YT.out YQ.out).mono ?_;rw[HX.out];rintro e w4 ⟨v4,rfl,s4⟩;obtain⟨X1,i1,j1,X2,i2,j2,X3,i3,j3,hv⟩:=s4.gW 0 rfl;rw[YR.out,YS.out] at hv;subst hv;obtain⟨g8,hg8⟩:∃y,w4.heap.size=y:=⟨_,rfl⟩;have iM:Hid (St w (w4.alloc (.cells #[.int .i64 ve,.slice X1 i1 j1,.slice X2 i2 j2,.slice X3 i3 j3,.int .i64 xt] 28)) [ah (w.heap.size+1) 28 #[.int .i64 0,.slice none 0 0,.slice none 0 0,.slice none 0 0,.int .i64 0],bF (.agg #[.int .i64 ve,.slice X1 i1 j1,.slice X2 i2 j2,.slice X3 i3 j3,.int .i64 xt]) x,ah g8 28 #[.int .i64 ve,.slice X1 i1 j1,.slice X2 i2 j2,.slice X3 i3 j3,.int .i64 xt]]):=af (by rw[←hg8];exact((dV.out.call s4).alloc _ _).pick [1,3,4] (by decide) rfl rfl);clear s4 dV q0;have q1:=iM.out.cells 0 rfl;have q8:=iM.out.cells 2 rfl;have f1:=iM.out.free 0 rfl;have fV:=af ((iM.out.fH 0 rfl (.int .i64 ve) (.slice X1 i1 j1) (.slice X2 i2 j2) (.slice X3 i3 j3) (.int .i64 xt)).pick [1,0] (by decide) rfl rfl)
 by_cases h0:al=0
 ·subst h0;skip;go_wp2;have q2:=fV.out.cells 1 rfl;refine bodyPost_ret (v:=.tuple #[.agg #[.int .i64 ve,.slice X1 i1 j1,.slice X2 i2 j2,.slice X3 i3 j3,.int .i64 xt],.string ⟨#[110,111,110,101]⟩]) (by simp[results,Tryz.results9,go_sem,q2]) rfl ⟨.agg #[.int .i64 ve,.slice X1 i1 j1,.slice X2 i2 j2,.slice X3 i3 j3,.int .i64 xt],by rw[←HFA.out,if_pos uY.out];rfl,fV.out.pick [0] (by decide) rfl rfl⟩
 ·have h0i:((al:Int) == 0)=false:=beq_false_of_ne (by omega);have V4:Hid (¬aa.length=0):=af (by rw[uY.out];exact h0);clear h0;go_wp2;have q2:=fV.out.cells 1 rfl;refine bodyPost_ret (v:=.tuple #[.agg #[.int .i64 ve,.slice X1 i1 j1,.slice X2 i2 j2,.slice X3 i3 j3,.int .i64 xt],.string ⟨#[111,107]⟩]) (by simp[results,Tryz.results9,go_sem,q2]) rfl ⟨.agg #[.int .i64 ve,.slice X1 i1 j1,.slice X2 i2 j2,.slice X3 i3 j3,.int .i64 xt],by rw[←HFA.out,if_neg V4.out];rfl,fV.out.pick [0] (by decide) rfl rfl⟩
theorem Qd (v:Value) (b:aI) (s0:ByteArray) (w:World) (h:RdB w w.heap.size v b) (hok:aP b=true) (he:qV w) (hp:kR w) (hs:s0.size<4294967281) (hr:readA s0.data.toList=none) (hf:s0.data.toList≠nH):
  Calls Tryz.prog 9 #[v,.string s0] w (wE b s0.data.toList w):=by
 unfold wE
 rw[Jy hok hr hf];have hans:=fun w' (hb:Below w.heap.size w w')=>Eu v b s0 w' (h.up hb) hok (he.up hb) (hp.up hb) hs
 obtain⟨ans,hae⟩:∃x,(⟨(tC b s0.data.toList).toArray⟩:ByteArray)=x:=⟨_,rfl⟩
 simp only
 rw[hae] at hans ⊢
 have HS:Bx (s0.size≤9223372036854775807):=Bx.mk (by omega);have HR:=Bx.mk hr;have b1:(s0.toList == [102,105,110,105,115,104])=false:=by rw[cO,Lib.toList_data];intro h;exact hf (beq_iff_eq.1 h)
 obtain⟨G,gn,gc,G',n',c',D',dn,dc,hv⟩:=h.form;subst hv;obtain⟨os,hos⟩:∃x,b.order.start=x:=⟨_,rfl⟩;obtain⟨st,hst⟩:∃x,b.state=x:=⟨_,rfl⟩;rw[hos,hst] at h hans ⊢
 have aQ:Hid (St w ((w.alloc (.cells #[.int .i64 os,.slice G gn gc,.slice G' n' c',.slice D' dn dc,.int .i64 st] 28)).alloc (.cells #[.int .i64 0,.slice none 0 0,.slice none 0 0,.slice none 0 0,.int .i64 0] 28)) [ah w.heap.size 28 #[.int .i64 os,.slice G gn gc,.slice G' n' c',.slice D' dn dc,.int .i64 st],ah (w.heap.size+1) 28 #[.int .i64 0,.slice none 0 0,.slice none 0 0,.slice none 0 0,.int .i64 0]]):=af (by
  have:=((St.refl w).alloc #[.int .i64 os,.slice G gn gc,.slice G' n' c',.slice D' dn dc,.int .i64 st] 28).alloc #[.int .i64 0,.slice none 0 0,.slice none 0 0,.slice none 0 0,.int .i64 0] 28
  simpa using this)
 have HB:=af h;have bC:=Bx.mk hok;have pR:=Bx.mk hos;have jX:=Bx.mk hst;have Tv:=af hans;clear h hok hos hst hans hae he hp hs hr hf;go_enter Tryz.func9,Tryz.ntmps9
 go_wp2_with fail
 refine(cu _ b _ (HB.out.up aQ.out.below)).mono ?_;rw[bC.out];rintro e w1 ⟨rfl,hb1⟩;have bG:=af (aQ.out.quiet hb1);clear hb1 aQ;have q0:=bG.out.cells 0 rfl
 go_wp2_with fail
 refine(qW s0 _ HS.out).mono ?_;rw[HR.out];rintro e w2 ⟨he,hb2⟩;have he':e= .returned (.tuple #[.agg #[.int .i64 0,.int .i64 0],.bool false]):=he;subst he';clear he;obtain⟨g6,yR⟩:∃y,w2.heap.size=y:=⟨_,rfl⟩;have HS2:Hid (St w (w2.alloc (.cells #[.int .i64 0,.int .i64 0] 64)) [ah w.heap.size 28 #[.int .i64 os,.slice G gn gc,.slice G' n' c',.slice D' dn dc,.int .i64 st],ah (w.heap.size+1) 28 #[.int .i64 0,.slice none 0 0,.slice none 0 0,.slice none 0 0,.int .i64 0]]):=af (((bG.out.quiet hb2).alloc _ _).pick [0,1] (by decide) rfl rfl);clear hb2 bG q0;have q0:=HS2.out.cells 0 rfl;clear yR q0
 go_upto_region 15 with(fail)
 clear b1
 refine kS (σ:=((Option Addr×Nat×Nat)×(Option Addr×Nat×Nat)×(Option Addr×Nat×Nat)))
  (fun s i=>match i with
   |0=>.agg #[.int .i64 os,.slice G gn gc,.slice G' n' c',.slice D' dn dc,.int .i64 st]
   |1=>.agg #[.int .i64 os,.slice s.1.1 s.1.2.1 s.1.2.2,.slice s.2.1.1 s.2.1.2.1 s.2.1.2.2,.slice s.2.2.1 s.2.2.2.1 s.2.2.2.2,.int .i64 st]
   |2=>.agg #[.int .i64 os,.slice G gn gc,.slice G' n' c',.slice D' dn dc,.int .i64 st]
   |3=>.string s0
   |4=>.string ans
   |6=>.string ans
   |_=>undef)
  (fun D s wx=>Sn w wx fun i=>match i with
   |0=>some (ah w.heap.size 28 #[.int .i64 os,.slice G gn gc,.slice G' n' c',.slice D' dn dc,.int .i64 st])
   |1=>some (ah (w.heap.size+1) 28 (if D 5=true then #[.int .i64 os,.slice s.1.1 s.1.2.1 s.1.2.2,.slice s.2.1.1 s.2.1.2.1 s.2.1.2.2,.slice s.2.2.1 s.2.2.2.1 s.2.2.2.2,.int .i64 st] else #[.int .i64 0,.slice none 0 0,.slice none 0 0,.slice none 0 0,.int .i64 0]))
   |2=>if D 1=true then some (bF (.agg #[.int .i64 os,.slice s.1.1 s.1.2.1 s.1.2.2,.slice s.2.1.1 s.2.1.2.1 s.2.1.2.2,.slice s.2.2.1 s.2.2.2.1 s.2.2.2.2,.int .i64 st]) b) else none
   |_=>none)
  ((none,0,0),(none,0,0),(none,0,0)) ?_ ?_ ?_
 ·intro D hD;refine((Sn.eY HS2.out).quiet ((ai _ _).drew)).congr fun i=>?_
  match i with
  |0=>rfl
  |1=>simp only[hD 5 (by decide)];rfl
  |2=>simp only[hD 1 (by decide)];rfl
  |q+3=>rfl
 ·refine Cs (fun D s wx hR _ hd _ _ hs K hK=>?_) ?_
  ·have e2:=hs.o 2 (.pointer (some ⟨w.heap.size,0,none⟩));clear hs;have qk:=(hR.blk 0 rfl).cell;go_simp;exact hK s wx sv hR
  refine Cs (fun D s wx hR (hDi:D 1=false) hd hsh _ hs K hK=>?_) ?_
  ·have e47:=hs.v 0 47 hd;have g47:=aZ e47;clear hs;have n5:D 5=false:=hsh.no hDi 5 rfl ⟨1,.data⟩ (by simp) rfl rfl;go_simp;refine(nX _ b _ (HB.out.up hR.below)).mono ?_;rintro e w2 ⟨v2,rfl,s2⟩;obtain⟨A1,n1,c1,A2,n2,c2,A3,n3,c3,hv⟩:=s2.gW 0 rfl;rw[pR.out,jX.out] at hv;subst hv
   refine hK ((A1,n1,c1),(A2,n2,c2),(A3,n3,c3)) w2
    (fun j hj=>by
     match j,hj with
     |0,hj=>rfl
     |1,hj=>rw[hDi] at hj;cases hj
     |2,hj | 3,hj | 4,hj | 5,hj | 6,hj=>rfl
     |_+7,hj=>rfl)
    ((hR.add 2 (if_neg (by rw[hDi];simp)) s2).congr
     (fun i=>by
      match i with
      |0=>rfl
      |1=>(show some (ah _ _ (if D 5=true then _ else _))=some (ah _ _ (if D 5=true then _ else _));rw[n5]<;>rfl)
      |2=>rfl
      |q+3=>exact(if_neg (show¬(q+3=2) by omega)).symm))
  refine Cs (fun D s wx hR _ hd _ _ hs K hK=>?_) ?_
  ·have e2:=hs.o 2 (.pointer (some ⟨w.heap.size,0,none⟩));clear hs;have qk:=(hR.blk 0 rfl).cell;go_simp;exact hK s wx sv hR
  refine Cs (fun D s wx hR _ hd _ _ hs K hK=>?_) ?_
  ·have e1:=hs.o 1 (.string s0);clear hs;go_simp;exact hK s wx sv hR
  refine Cs (fun D s wx hR _ hd _ _ hs K hK=>?_) ?_
  ·have e49:=hs.v 2 49 hd;have e50:=hs.v 3 50 hd;have g49:=aZ e49;have g50:=aZ e50;clear hs;go_simp;refine(Tv.out wx hR.below).mono ?_;rintro e w2 ⟨rfl,hb2⟩;exact hK s w2 sv (hR.quiet hb2)
  refine Cs (fun D s wx hR (hDi:D 5=false) hd _ _ hs K hK=>?_) ?_
  ·have e4:=hs.o 4 (.pointer (some ⟨(w.heap.size+1),0,none⟩));have e48:=hs.v 1 48 hd;clear hs;have kb:iJ wx (w.heap.size+1) 28 #[.int .i64 0,.slice none 0 0,.slice none 0 0,.slice none 0 0,.int .i64 0]:=hR.blk 1 (by simp only[hDi]<;>rfl);have f0:=kb.frozen;have qk:=kb.cell;go_simp
   exact hK s _ sv ((hR.fH 1 (by simp only[hDi];rfl) _ _ _ _ _).congr
    (fun i=>by
     match i with
     |0 | 1 | 2=>rfl
     |q+3=>exact(if_neg (show¬(q+3=1) by omega)).symm))
  refine Cs (fun D s wx hR _ hd _ _ hs K hK=>?_) ?_
  ·have e51:=hs.v 4 51 hd;clear hs;go_simp;exact hK s wx sv hR
  exact au.nil
 ·intro D s wx hR hD;simp only[eG,Act.put,aO,aS,aV];have S3:St w wx [bF (.agg #[.int .i64 os,.slice s.1.1 s.1.2.1 s.1.2.2,.slice s.2.1.1 s.2.1.2.1 s.2.1.2.2,.slice s.2.2.1 s.2.2.2.1 s.2.2.2.2,.int .i64 st]) b,ah (w.heap.size+1) 28 #[.int .i64 os,.slice s.1.1 s.1.2.1 s.1.2.2,.slice s.2.1.1 s.2.1.2.1 s.2.1.2.2,.slice s.2.2.1 s.2.2.2.1 s.2.2.2.2,.int .i64 st]]:=hR.fO [2,1] (by decide) (by simp only[List.map,hD 1 (by decide),hD 5 (by decide)]<;>rfl);clear hR hD;have z0:=S3.cells 1 rfl;have dV:=af S3;clear S3;go_wp2;refine bodyPost_ret (v:=.tuple #[.agg #[.int .i64 os,.slice s.1.1 s.1.2.1 s.1.2.2,.slice s.2.1.1 s.2.1.2.1 s.2.1.2.2,.slice s.2.2.1 s.2.2.2.1 s.2.2.2.2,.int .i64 st],.string ans]) (by simp[results,Tryz.results9,go_sem,z0]) rfl ⟨.agg #[.int .i64 os,.slice s.1.1 s.1.2.1 s.1.2.2,.slice s.2.1.1 s.2.1.2.1 s.2.1.2.2,.slice s.2.2.1 s.2.2.2.1 s.2.2.2.2,.int .i64 st],rfl,dV.out.pick [0] (by decide) rfl rfl⟩
theorem Et (v:Value) (b:aI) (s:ByteArray) (w:World) (h:RdB w w.heap.size v b) (he:qV w) (hp:kR w) (hs:s.size<4294967281):
  Calls Tryz.prog 9 #[v,.string s] w (wE b s.data.toList w):=by
 cases hok:aP b with
 |false=>exact Qc v b s w h hok
 |true=>
  cases hr:readA s.data.toList with
  |some a=>
   obtain⟨k,m⟩:=a
   have:=Ho v b s k m w h hok (by omega) hr
   unfold wE
   rw[Jv hok hr];have e:YU (fU b ⟨k,m⟩)=⟨(if fU b ⟨k,m⟩ then okW else noW).toArray⟩:=by unfold YU;cases fU b ⟨k,m⟩<;>rfl
   rw[e] at this;exact this
  |none=>
   by_cases hf:s.data.toList=nH
   ·obtain rfl:=ba_eq hf;exact Hf v b w h hok
   ·exact Qd v b s w h hok he hp hs hr hf
end Go.Proofs.YtkmcengmglgdeaaGreatDoor
