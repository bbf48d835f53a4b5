/- A part of the proof: RightS. -/
import Derived.Test.YtkmcengmglgdeaaGreatDoorSReachS
import Derived.Test.YtkmcengmglgdeaaGreatDoorSClosI
import Derived.Test.YtkmcengmglgdeaaGreatDoorSSumW
import Derived.Test.YtkmcengmglgdeaaGreatDoorSCondT
import Derived.Test.YtkmcengmglgdeaaGreatDoorSActR
import Derived.Test.YtkmcengmglgdeaaGreatDoorSActT
import Derived.Test.YtkmcengmglgdeaaGreatDoorSDoI
import Derived.Test.YtkmcengmglgdeaaGreatDoorSJourP
import Derived.Deep.Cut
namespace Go.Proofs.YtkmcengmglgdeaaGreatDoor
set_option linter.unusedVariables false
set_option linter.unusedSimpArgs false
set_option maxRecDepth 100000
set_option maxHeartbeats 8000000
open Go.ChangeShapes Go.WideShapes Go.ChangeAt Go.RowKit
theorem Nw (s:ByteArray) (w:World) (hs:s.size≤9223372036854775807):
  Calls Tryz.prog 130 #[.string s] w fun e w'=>e= .returned (.int .i64 (ku s.data.toList))∧w=w':=by
 have hsl:s.data.toList.length=s.size:=(Lib.size_eq s).symm
 by_cases hr:1≤s.size∧s.size≤10
 case neg=>
  have HN:Hid (ku s.data.toList= -1):=af (by unfold ku;rw[if_pos (by rw[hsl];omega)]);have hr':¬((1:Int)≤(s.size:Int)∧(s.size:Int)≤10):=by omega
  clear hsl hr;go_enter Tryz.func130,Tryz.ntmps130
  go_wp2_with fail
  refine(kS (s.size:Int) 1 10 _ hr').mono ?_;rintro e w' ⟨rfl,rfl⟩;go_wp2;go_ret;exact⟨aP HN.out.symm,rfl⟩
 obtain⟨hr1,hr2⟩:=hr;have h1:0<s.size:=by omega
 have hhd:s.data.toList.head? =some s[0]:=by
  have:=drop_at s 0 h1
  rw[List.drop_zero] at this;rw[this];rfl
 by_cases hz:1<s.size∧s[0].toNat=48
 ·obtain⟨h2,hz⟩:=hz;have HN:Hid (ku s.data.toList= -1):=af (by unfold ku;rw[if_pos (.inr (.inr ⟨by omega,by rw[hhd];exact congrArg some (UInt8.toNat_inj.1 (by rw[hz];rfl))⟩))]);have hz1:((s[0].toNat:Int) == 48)=true:=by simp[hz]
  have h2':(1:Int)<(s.size:Int):=by omega
  clear hsl hhd hz;go_enter Tryz.func130,Tryz.ntmps130
  go_wp2_with fail
  refine(fO (s.size:Int) 1 10 _ (by omega) (by omega)).mono ?_;rintro e w' ⟨rfl,rfl⟩;go_wp2;go_ret;exact⟨aP HN.out.symm,rfl⟩
 have HN:Hid (ku s.data.toList=gu 0 s.data.toList):=af (by
  unfold ku
  rw[if_neg];rintro(h | h | ⟨h,h'⟩)
  ·omega
  ·omega
  ·rw[hhd] at h'
   injection h' with h'
   exact hz ⟨by omega,by rw[h'];rfl⟩)
 have HZ:Hid (¬(1<s.size∧s[0].toNat=48)):=af hz;clear hsl hhd hz
 by_cases h48:1<s.size
 ·have hz1:((s[0].toNat:Int) == 48)=false:=by have:=HZ.out;simp;omega
  have h2':(1:Int)<(s.size:Int):=by omega
  clear h48;go_enter Tryz.func130,Tryz.ntmps130
  go_wp2_with fail
  refine(fO (s.size:Int) 1 10 _ (by omega) (by omega)).mono ?_;rintro e w' ⟨rfl,rfl⟩;go_wp2;clear hz1
  go_loop [3,4] (fun n i=>∃(k:Nat) (acc:Int),k≤s.size∧i= .int .i64 k∧n= .int .i64 acc∧Hid (0≤acc∧acc<10^k)∧Hid (gu 0 s.data.toList=gu acc (s.data.toList.drop k))) (fun _ i=>s.size-(intOf i).toNat)
  case atStart=>exact⟨0,0,by omega,rfl,rfl,af (by decide),af (by rw[List.drop_zero])⟩
  case round=>
   obtain⟨k,acc,hk,rfl,rfl,hacc,hrd⟩:=hrel
   by_cases hkl:k<s.size
   ·have hb:s[k].toNat<256:=UInt8.toNat_lt _
    by_cases hbad:(s[k].toNat:Int)<48∨57<(s[k].toNat:Int)
    ·have HB:Hid (ku s.data.toList= -1):=af (by rw[HN.out,hrd.out,tq hkl hbad])
     rcases hbad with h3 | h3
     ·go_wp2;go_ret;exact⟨aP HB.out.symm,rfl⟩
     ·have h4:¬(s[k].toNat:Int)<48:=by omega
      go_wp2;go_ret;exact⟨aP HB.out.symm,rfl⟩
    ·have h3:¬(s[k].toNat:Int)<48:=by omega
     have h4:¬57<(s[k].toNat:Int):=by omega
     have h5:48≤(s[k].toNat:Int):=by omega
     have ha0:0≤acc:=hacc.out.1
     have ha1:acc<100000000000000000:=by
      have h6:=hacc.out.2;have h7:(10:Int)^k≤100000000000000000:=rM k (by omega)
      omega
     have HS:Hid (gu 0 s.data.toList=gu (10*acc+((s[k].toNat:Int)-48)) (s.data.toList.drop (k+1))):=af (by rw[hrd.out];exact qM hkl h5 (by omega))
     have HA:Hid (0≤10*acc+((s[k].toNat:Int)-48)∧10*acc+((s[k].toNat:Int)-48)<10^(k+1)):=af (by
      have h6:=hacc.out.2;rw[Int.pow_succ]
      omega)
     clear hbad;go_wp2
     go_round
     case rel=>exact⟨k+1,_,by omega,by go_num,rfl,HA,HS⟩
     case measure=>simp[intOf];omega
   ·have hke:k=s.size:=by omega
    have HE:Hid (ku s.data.toList=acc):=af (by rw[HN.out,hrd.out,drop_end s k (by omega)];rfl);clear hke;go_wp2;go_ret;exact⟨aP HE.out.symm,rfl⟩
 ·have h2':¬(1:Int)<(s.size:Int):=by omega
  clear h48;go_enter Tryz.func130,Tryz.ntmps130
  go_wp2_with fail
  refine(fO (s.size:Int) 1 10 _ (by omega) (by omega)).mono ?_;rintro e w' ⟨rfl,rfl⟩;go_wp2
  go_loop [3,4] (fun n i=>∃(k:Nat) (acc:Int),k≤s.size∧i= .int .i64 k∧n= .int .i64 acc∧Hid (0≤acc∧acc<10^k)∧Hid (gu 0 s.data.toList=gu acc (s.data.toList.drop k))) (fun _ i=>s.size-(intOf i).toNat)
  case atStart=>exact⟨0,0,by omega,rfl,rfl,af (by decide),af (by rw[List.drop_zero])⟩
  case round=>
   obtain⟨k,acc,hk,rfl,rfl,hacc,hrd⟩:=hrel
   by_cases hkl:k<s.size
   ·have hb:s[k].toNat<256:=UInt8.toNat_lt _
    by_cases hbad:(s[k].toNat:Int)<48∨57<(s[k].toNat:Int)
    ·have HB:Hid (ku s.data.toList= -1):=af (by rw[HN.out,hrd.out,tq hkl hbad])
     rcases hbad with h3 | h3
     ·go_wp2;go_ret;exact⟨aP HB.out.symm,rfl⟩
     ·have h4:¬(s[k].toNat:Int)<48:=by omega
      go_wp2;go_ret;exact⟨aP HB.out.symm,rfl⟩
    ·have h3:¬(s[k].toNat:Int)<48:=by omega
     have h4:¬57<(s[k].toNat:Int):=by omega
     have h5:48≤(s[k].toNat:Int):=by omega
     have ha0:0≤acc:=hacc.out.1
     have ha1:acc<100000000000000000:=by
      have h6:=hacc.out.2;have h7:(10:Int)^k≤100000000000000000:=rM k (by omega)
      omega
     have HS:Hid (gu 0 s.data.toList=gu (10*acc+((s[k].toNat:Int)-48)) (s.data.toList.drop (k+1))):=af (by rw[hrd.out];exact qM hkl h5 (by omega))
     have HA:Hid (0≤10*acc+((s[k].toNat:Int)-48)∧10*acc+((s[k].toNat:Int)-48)<10^(k+1)):=af (by
      have h6:=hacc.out.2;rw[Int.pow_succ]
      omega)
     clear hbad;go_wp2
     go_round
     case rel=>exact⟨k+1,_,by omega,by go_num,rfl,HA,HS⟩
     case measure=>simp[intOf];omega
   ·have hke:k=s.size:=by omega
    have HE:Hid (ku s.data.toList=acc):=af (by rw[HN.out,hrd.out,drop_end s k (by omega)];rfl);clear hke;go_wp2;go_ret;exact⟨aP HE.out.symm,rfl⟩
theorem Gj (v:Value) (t:aB) (w:World) (h:oW w w.heap.size v t) (hok:aK t=true):
  Calls Tryz.prog 131 #[v,.int .i64 (-1)] w fun e w'=>e= .returned (.bool false)∧Below w.heap.size w w':=by
 have h':=h;obtain⟨G,gn,gc,G',n',c',rfl,hg,hgs,hds,hst⟩:=h;have aS:=af ((St.refl w).alloc #[.int .i64 t.start,.slice G gn gc,.slice G' n' c'] 26);have HT:=af h';have bG:=af hok;obtain⟨ob,hob⟩:∃b,iH t=b:=⟨_,rfl⟩;have TJ:=Bx.mk hob;clear h' hok hds hg hgs hst hob;go_enter Tryz.func131,Tryz.ntmps131
 go_wp2_with fail
 refine(vJ _ t _ (HT.out.up aS.out.below) bG.out).mono ?_;rw[TJ.out];rintro e w2 ⟨rfl,hb2⟩;have HS2:=af (aS.out.quiet hb2);clear hb2 aS
 cases ob with
 |false=>
  go_wp2;go_ret;exact⟨rfl,HS2.out.below⟩
 |true=>
  go_wp2_with fail
  refine(kS (-1) 0 31 _ (by omega)).mono ?_;rintro e w3 ⟨rfl,rfl⟩;go_wp2;go_ret;exact⟨rfl,HS2.out.below⟩
def aey (b:Bool):Int:=if b then 1 else -1
def zeroV (b:Bool):Int:=if b then 0 else -1
def Wq (t:aB) (x:List UInt8):Bool:=match uh x with | some f=>kE t f | none=>false
theorem TV (v:Value) (t:aB) (x:List UInt8) (w:World) (h:oW w w.heap.size v t) (hok:aK t=true):
  Calls Tryz.prog 131 #[v,.int .i64 (PL x)] w fun e w'=>e= .returned (.bool (Wq t x))∧Below w.heap.size w w':=by
 unfold PL Wq
 cases h1:uh x with
 |none=>exact Gj v t w h hok
 |some f=>exact EP v t f (rO h1).1 w h hok
theorem PV {w:World} {base g:Nat} {e:TypeId} {size n c:Nat} {cells:List Value} (h:w.ownsRow base e size (.slice (some ⟨g,0,none⟩) n c) n cells) (hn:0<n):g<w.heap.size:=by
 rcases h.2 with⟨hv,hz⟩ | ⟨g,cap,cur,hv,-,hb,-⟩
 ·omega
 ·simp only[Value.slice.injEq,Option.some.injEq,Addr.mk.injEq] at hv;rw[hv.1.1];exact(Array.getElem?_eq_some_iff.1 hb).1
theorem ac6 (W:World):St W (W.alloc (.cells #[] 3)) [ax (.slice (some ⟨W.heap.size,0,none⟩) 0 0) []]:=
 (St.new1 W #[] 3).see fun F h _=>Dn (xs:=[]) h (by simp) (by simp) rfl
theorem Ny (v:Value) (t:aB) (s:ByteArray) (ws:List (List UInt8)) (w:World) (h:oW w w.heap.size v t) (hok:aK t=true) (hs:s.size≤1099511627776) (hw:fQ 32 [] s.data.toList=kM::ws):
  Calls Tryz.prog 63 #[v,.string s] w fun e w'=>e= .returned (.int .i64 (aey (iW t (ws.map kH))))∧Below w.heap.size w w':=by
 have hlc:=fun w=>vC s 32 w hs
 rw[hw] at hlc;have hsz:=vz 32 s.data.toList [];have hwl:=Ey 32 s.data.toList [];have hsl:s.data.toList.length=s.size:=(Lib.size_eq s).symm;rw[hw] at hsz hwl
 have hpc:∀l∈ws,(⟨l.toArray⟩:ByteArray).size≤9223372036854775807:=fun l hl=>by
  have:=hsz l (List.mem_cons_of_mem _ hl)
  simp only[List.length_nil] at this
  show l.toArray.size≤_
  rw[List.size_toArray];omega
 have kQ:ws.length≤1099511627776:=by simp at hwl;omega
 have HPC:=af hpc;obtain⟨n,hn⟩:∃n,ws.length=n:=⟨_,rfl⟩;have HN:=af hn;rw[hn] at kQ;clear hsz hwl hsl hpc hs hw hn;have h':=h;obtain⟨G,gn,gc,G',n',c',rfl,hg,hgs,hds,hst⟩:=h;have aS:=af ((St.refl w).alloc #[.int .i64 t.start,.slice G gn gc,.slice G' n' c'] 26);have HT:=af h';have bG:=af hok;have HLC:=af hlc;clear h' hok hds hg hgs hst hlc;go_enter Tryz.func63,Tryz.ntmps63
 go_wp2_with fail
 refine(HLC.out _).mono ?_;rintro e w2 ⟨v2,rfl,s2⟩;obtain⟨A2,c2,rfl,-⟩:=s2.oD 0 rfl;rw[show(kM::ws).length=n+1 by rw[bM,HN.out]] at s2 ⊢
 obtain⟨bw,rfl⟩:=Ah (s2.row 0 (by rw[bP,show(kM::ws).length=n+1 by rw[bM,HN.out]];rfl)) (by omega);have HS2:=af (aS.out.call s2);clear s2 aS
 have HCW:Hid (∀(W:World) (L:List dh) (j:Nat),St w W L→L[1]? =some (bP (.slice (some ⟨bw,0,none⟩) (n+1) c2) (kM::ws))→∀l,(kM::ws)[j]? =some l→W.cell? ⟨bw,j,none⟩=some (.string ⟨l.toArray⟩)):=af fun W L j S hL l hl=>by
  have hr:=S.row 1 (hL.trans (by rw[bP,show(kM::ws).length=n+1 by rw[bM,HN.out]]))
  have:=hr.cells rfl j (.string ⟨l.toArray⟩) (by unfold strs;rw[List.getElem?_map,hl];rfl)
  rw[show(⟨bw,j,none⟩:Addr)=(⟨bw,0,none⟩:Addr).add j by simp[Addr.add]];exact this
 have c0:w2.cell? ⟨bw,0,none⟩=some (.string ⟨#[112,108,97,110]⟩):=HCW.out w2 _ 0 HS2.out rfl kM rfl;have cu:=af (HS2.out.call (ac6 w2));have hgt:(0:Int)<((n:Int)+1):=by omega
 go_wp2
 go_loopw [7,6] (fun i v wr=>∃(k:Nat) (x:Value) (ys:List Int),k≤n∧i= .int .i64 ((k:Int)+1)∧x=v∧ys.length=k∧Bx ((ws.take k).map kH=ys)∧St w wr [ah w.heap.size 26 #[.int .i64 t.start,.slice G gn gc,.slice G' n' c'],bP (.slice (some ⟨bw,0,none⟩) (n+1) c2) (kM::ws),ax x ys]) (fun i _ _=>n+1-(intOf i).toNat)
 case atStart=>exact⟨0,_,[],by omega,rfl,rfl,rfl,Bx.mk rfl,cu.out⟩
 case round=>
  clear cu HS2 c0;obtain⟨k,x,ys,hk,rfl,rfl,hyl,HM,S⟩:=hrel;have HS:=af S;clear S;have e1:(0:Int)≤(k:Int)+1:=by omega
  have e2:((k:Int)+1).toNat=k+1:=by omega
  by_cases hlt:k<n
  ·have hli:(k:Int)+1<(n:Int)+1:=by omega
   obtain⟨l,hl⟩:∃l,ws[k]? =some l:=⟨ws[k]'(by rw[HN.out];exact hlt),bH _⟩;have r0:wr.cell? ⟨bw,k+1,none⟩=some (.string ⟨l.toArray⟩):=HCW.out wr _ (k+1) HS.out rfl l (by simpa using hl);have ND:=af (HPC.out l (bT hl));have HLK:=af hl;obtain⟨z,hz⟩:∃z,kH l=z:=⟨_,rfl⟩;have HZ:=Bx.mk hz;have HZW:=af (show(Lit.int .i64 z).wf=true by have:=XG l;exact bU (by omega));have iO:Bx ((ws.take (k+1)).map kH=ys++[z]):=Bx.mk (by rw[List.take_add_one,hl,List.map_append,HM.out];simp[hz]);clear hl hz
   go_wp2_with fail
   refine(tu ⟨l.toArray⟩ _ ND.out).mono ?_;rw[show(⟨l.toArray⟩:ByteArray).data.toList=l from rfl,HZ.out];rintro e w3 ⟨rfl,rfl⟩;have nO:=af (HS.out.qA 2 rfl)
   have Lr:Hid (∀v3 w3',w3'.ownsRow 0 3 1 v3 (ys.length+1) (ints ys++[Value.int .i64 z])→(wr.alloc (.cells #[.int .i64 z] 3)).grownBy w3' x.ownBlock→(v3.ownBlock=x.ownBlock∨v3.ownBlock=some (wr.alloc (.cells #[.int .i64 z] 3)).heap.size)→
     St w w3' [ah w.heap.size 26 #[.int .i64 t.start,.slice G gn gc,.slice G' n' c'],bP (.slice (some ⟨bw,0,none⟩) (n+1) c2) (kM::ws),ax v3 (ys++[z])]):=
    af fun v3 w3' h1 h2 h3=>St.rY (v:=x) (xs:=ys) (ys:=[z]) ((HS.out.alloc #[.int .i64 z] 3).pick [0,1,2] (by decide) rfl rfl) 2 rfl rfl h1 (by intro y hy;simp at hy;subst hy;exact HZW.out) h2 h3
   go_wp2_with (at_builtin;refine cZ iR rfl _ _ rfl 0 x ys.length (ints ys) rfl (nO.out.alloc _) _ _ 1 1 [.int .i64 z] rfl (bJ.new wr [.int .i64 z] 3 1 1 rfl (by unfold maxLen;omega)) (by simp[Value.oneCell']) (by omega) (by omega) (Nat.zero_le _) ?_;intro v4 w4 hown4 hg4 yO;have jB:=af (Lr.out v4 w4 hown4 hg4 yO))
   go_wp2
   go_roundw
   case rel=>exact⟨k+1,_,ys++[z],by omega,by go_num,rfl,by simp;omega,iO,jB.out⟩
   case measure=>simp[intOf];omega
  ·obtain rfl:k=n:=by omega
   have hli:¬(k:Int)+1<(k:Int)+1:=by omega
   have hme:ws.map kH=ys:=by rw[←HM.out,gW (by rw[HN.out];omega)]
   obtain⟨A,c,hxe,Ry⟩:=HS.out.uj 2 rfl;rw[hyl] at hxe Ry;subst hxe;have HRI:=af Ry;have q0:=HS.out.cells 0 rfl;obtain⟨b,hb⟩:∃b,iW t ys=b:=⟨_,rfl⟩;have HB:=Bx.mk hb;have HMB:Bx (iW t (ws.map kH)=b):=Bx.mk (by rw[hme,hb]);clear Ry hb hme
   go_wp2_with fail
   refine(MX (.agg #[.int .i64 t.start,.slice G gn gc,.slice G' n' c']) t A k c ys _ (HT.out.up HS.out.below) HRI.out bG.out).mono ?_;rw[HB.out];rintro e w3 ⟨rfl,hb3⟩;have HB3:=af (HS.out.quiet hb3).below;clear hb3
   cases b with
   |false=>
    go_wp2;go_ret;exact⟨aP (by rw[HMB.out];rfl),HB3.out⟩
   |true=>
    go_wp2;go_ret;exact⟨aP (by rw[HMB.out];rfl),HB3.out⟩
theorem Gl (v:Value) (t:aB) (s:ByteArray) (x:List UInt8) (w:World) (h:oW w w.heap.size v t) (hok:aK t=true) (hs:s.size≤1099511627776) (hw:fQ 32 [] s.data.toList=[jk,x]):
  Calls Tryz.prog 63 #[v,.string s] w fun e w'=>e= .returned (.int .i64 (zeroV (eF t (ku x))))∧Below w.heap.size w w':=by
 have hlc:=fun w=>vC s 32 w hs
 rw[hw] at hlc;have hsz:=vz 32 s.data.toList [];have hsl:s.data.toList.length=s.size:=(Lib.size_eq s).symm;rw[hw] at hsz
 have hxs:(⟨x.toArray⟩:ByteArray).size≤9223372036854775807:=by
  have:=hsz x (by simp)
  simp only[List.length_nil] at this
  show x.toArray.size≤_
  rw[List.size_toArray];omega
 have Ws:=fun w=>Nw ⟨x.toArray⟩ w hxs
 have hcl:=fun w' (hb:Below w.heap.size w w')=>Gh v t (ku x) w' (h.up hb) hok
 rw[show(⟨x.toArray⟩:ByteArray).data.toList=x from rfl] at Ws;obtain⟨z,hz⟩:∃z,ku x=z:=⟨_,rfl⟩;rw[hz] at Ws hcl ⊢
 obtain⟨b,hb⟩:∃b,eF t z=b:=⟨_,rfl⟩;rw[hb] at hcl ⊢
 clear hz hb;obtain⟨x1,hx1⟩:∃x1,(⟨x.toArray⟩:ByteArray)=x1:=⟨_,rfl⟩;rw[hx1] at Ws;have HX1:=af hx1;have HL7:=af Ws;clear hsz hsl hxs hw hs Ws hx1;have h':=h;obtain⟨G,gn,gc,G',n',c',rfl,hg,hgs,hds,hst⟩:=h;have aS:=af ((St.refl w).alloc #[.int .i64 t.start,.slice G gn gc,.slice G' n' c'] 26);have HT:=af h';have bG:=af hok;have HLC:=af hlc;have Ud:=af hcl;clear h' hok hds hg hgs hst hlc hcl;go_enter Tryz.func63,Tryz.ntmps63
 go_wp2_with fail
 refine(HLC.out _).mono ?_;rintro e w2 ⟨v2,rfl,s2⟩;obtain⟨A2,c2,rfl,-⟩:=s2.oD 0 rfl;obtain⟨bw,rfl⟩:=Ah (s2.row 0 (n:=2) rfl) (by decide);have HS2:=af (aS.out.call s2);have hr2:=s2.row 0 (v:=.slice (some ⟨bw,0,none⟩) 2 c2) (n:=2) rfl;have c0:w2.cell? ⟨bw,0,none⟩=some (.string ⟨#[99,108,111,115,101,100]⟩):=hr2.cells rfl 0 _ rfl;have CW1:Hid (w2.cell? ⟨bw,1,none⟩=some (.string x1)):=af (hr2.cells rfl 1 _ (by rw[←HX1.out];rfl));have TW:Hid (bw<w2.heap.size):=af (PV hr2 (by decide));have Wu:=af c0;have C0:=af (HS2.out.cells 0 rfl 0);have C1:=af (HS2.out.cells 0 rfl 1);have C2:=af (HS2.out.cells 0 rfl 2);have ZF:Hid (w.heap.size<w2.heap.size):=af (HS2.out.new 0 rfl).2;have NJ:Hid ((0:Int)<2):=af (by decide);clear s2 aS hr2
 go_upto_region 10 with(fail)
 clear c0
 refine kG (σ:=Unit)
  (fun _ i=>match i with
  |0=>.slice (some ⟨bw,0,none⟩) 2 c2
  |1=>.pointer (some ⟨bw,0,none⟩)
  |2=>.string ⟨#[99,108,111,115,101,100]⟩
  |3=>.bool true
  |4=>.bool true
  |5=>.slice (some ⟨bw,0,none⟩) 2 c2
  |6=>.int .i64 2
  |7=>.bool true
  |8=>.bool true
  |9=>.bool true
  |10=>.agg #[.int .i64 t.start,.slice G gn gc,.slice G' n' c']
  |11=>.slice (some ⟨bw,0,none⟩) 2 c2
  |12=>.pointer (some ⟨bw,1,none⟩)
  |13=>.string x1
  |14=>.int .i64 z
  |15=>.bool b
  |16=>.bool b
  |17=>.bool b
  |_=>undef)
  (fun D _ wx=>Below w2.heap.size w2 wx) () (fun D hD=>(ai _ _).drew) ?_ ?_
 ·refine Cs (fun D _ wx hR _ hd _ _ hs K hK=>?_) ?_
  ·have e5:=hs.o 5 (.slice (some ⟨bw,0,none⟩) 2 c2);clear hs;go_simp;exact hK () wx sv hR
  refine Cs (fun D _ wx hR _ hd _ _ hs K hK=>?_) ?_
  ·have e34:=hs.v 0 34 hd;clear hs;have h0:=NJ.out;go_simp;exact hK () wx sv hR
  refine Cs (fun D _ wx hR _ hd _ _ hs K hK=>?_) ?_
  ·have e35:=hs.v 1 35 hd;clear hs;have c0:wx.cell? ⟨bw,0,none⟩=some (.string ⟨#[99,108,111,115,101,100]⟩):=(aF hR _ _ TW.out).trans Wu.out;go_simp;exact hK () wx sv hR
  refine Cs (fun D _ wx hR _ hd _ _ hs K hK=>?_) ?_
  ·have e36:=hs.v 2 36 hd;clear hs;go_simp;exact hK () wx sv hR
  refine Cs (fun D _ wx hR _ hd _ _ hs K hK=>?_) ?_
  ·have e37:=hs.v 3 37 hd;clear hs;go_simp;exact hK () wx sv hR
  refine dJ (fun D _ wx hR _ hd _ _ hs K hK=>?_) ?_
  ·refine hs.yes 4 38 true hd ?_;have e5:=hs.o 5 (.slice (some ⟨bw,0,none⟩) 2 c2);clear hs;go_simp;exact hK () wx sv hR
  refine dJ (fun D _ wx hR _ hd _ _ hs K hK=>?_) ?_
  ·refine hs.yes 4 38 true hd ?_;have e39:=hs.v 5 39 hd;have g39:=aX e39;clear hs;go_simp;exact hK () wx sv hR
  refine dJ (fun D _ wx hR _ hd _ _ hs K hK=>?_) ?_
  ·refine hs.yes 4 38 true hd ?_;have e40:=hs.v 6 40 hd;clear hs;go_simp;exact hK () wx sv hR
  refine Cs (fun D _ wx hR _ hd _ _ hs K hK=>?_) ?_
  ·have e38:=hs.v 4 38 hd;have e41:=hs.v 7 41 hd;clear hs;go_simp;exact hK () wx sv hR
  refine Cs (fun D _ wx hR _ hd _ _ hs K hK=>?_) ?_
  ·have e42:=hs.v 8 42 hd;clear hs;go_simp;exact hK () wx sv hR
  refine dJ (fun D _ wx hR _ hd _ _ hs K hK=>?_) ?_
  ·refine hs.yes 9 43 true hd ?_;have e2:=hs.o 2 (.pointer (some ⟨w.heap.size,0,none⟩));clear hs;have c0:wx.cell? ⟨w.heap.size,0,none⟩=some (.int .i64 t.start):=(aF hR _ _ ZF.out).trans C0.out;have c1:wx.cell? ⟨w.heap.size,1,none⟩=some (.slice G gn gc):=(aF hR _ _ ZF.out).trans C1.out;have c2:wx.cell? ⟨w.heap.size,2,none⟩=some (.slice G' n' c'):=(aF hR _ _ ZF.out).trans C2.out;go_simp;exact hK () wx sv hR
  refine dJ (fun D _ wx hR _ hd _ _ hs K hK=>?_) ?_
  ·refine hs.yes 9 43 true hd ?_;have e5:=hs.o 5 (.slice (some ⟨bw,0,none⟩) 2 c2);clear hs;go_simp;exact hK () wx sv hR
  refine dJ (fun D _ wx hR _ hd _ _ hs K hK=>?_) ?_
  ·refine hs.yes 9 43 true hd ?_;have e45:=hs.v 11 45 hd;clear hs;have h0:=NJ.out;go_simp;exact hK () wx sv hR
  refine dJ (fun D _ wx hR _ hd _ _ hs K hK=>?_) ?_
  ·refine hs.yes 9 43 true hd ?_;have e46:=hs.v 12 46 hd;clear hs;have c0:wx.cell? ⟨bw,1,none⟩=some (.string x1):=(aF hR _ _ TW.out).trans CW1.out;go_simp;exact hK () wx sv hR
  refine dJ (fun D _ wx hR _ hd _ _ hs K hK=>?_) ?_
  ·refine hs.yes 9 43 true hd ?_;have e47:=hs.v 13 47 hd;have g47:=aX e47;clear hs;go_simp;refine(HL7.out wx).mono ?_;rintro e2 w2 ⟨rfl,rfl⟩;exact hK () wx sv hR
  refine dJ (fun D _ wx hR _ hd _ _ hs K hK=>?_) ?_
  ·refine hs.yes 9 43 true hd ?_;have e44:=hs.v 10 44 hd;have e48:=hs.v 14 48 hd;have g44:=aX e44;have g48:=aX e48;clear hs;go_simp;refine(Ud.out wx (HS2.out.below.trans (hR.mono HS2.out.below.size))).mono ?_;rintro e2 w2 ⟨rfl,hb2⟩;exact hK () w2 sv (hR.trans (hb2.mono hR.size))
  refine Cs (fun D _ wx hR _ hd _ _ hs K hK=>?_) ?_
  ·have e43:=hs.v 9 43 hd;have e49:=hs.v 15 49 hd;clear hs;go_simp;exact hK () wx sv hR
  refine Cs (fun D _ wx hR _ hd _ _ hs K hK=>?_) ?_
  ·have e50:=hs.v 16 50 hd;clear hs;go_simp;exact hK () wx sv hR
  exact aj.nil
 intro D _ wx hR hD;simp only[eH,Act.put,aO,aU,aW];have HY:=af hR;clear hR hD
 cases b with
 |true=>
  go_wp2;go_ret;exact⟨aP (by first | rfl | decide),HS2.out.below.trans (HY.out.mono HS2.out.below.size)⟩
 |false=>
  go_upto_region 12 with(fail)
  refine kG (σ:=Unit)
   (fun _ i=>match i with
   |0=>.slice (some ⟨bw,0,none⟩) 2 c2
   |1=>.pointer (some ⟨bw,0,none⟩)
   |2=>.string ⟨#[99,108,111,115,101,100]⟩
   |3=>.bool false
   |4=>.bool false
   |8=>.bool false
   |9=>.bool false
   |16=>.bool false
   |17=>.bool false
   |_=>undef)
   (fun D _ wx=>Below w2.heap.size w2 wx) () (fun D hD=>HY.out.drew) ?_ ?_
  ·refine Cs (fun D _ wx hR _ hd _ _ hs K hK=>?_) ?_
   ·have e5:=hs.o 5 (.slice (some ⟨bw,0,none⟩) 2 c2);clear hs;go_simp;exact hK () wx sv hR
   refine Cs (fun D _ wx hR _ hd _ _ hs K hK=>?_) ?_
   ·have e52:=hs.v 0 52 hd;clear hs;have h0:=NJ.out;go_simp;exact hK () wx sv hR
   refine Cs (fun D _ wx hR _ hd _ _ hs K hK=>?_) ?_
   ·have e53:=hs.v 1 53 hd;clear hs;have c0:wx.cell? ⟨bw,0,none⟩=some (.string ⟨#[99,108,111,115,101,100]⟩):=(aF hR _ _ TW.out).trans Wu.out;go_simp;exact hK () wx sv hR
   refine Cs (fun D _ wx hR _ hd _ _ hs K hK=>?_) ?_
   ·have e54:=hs.v 2 54 hd;clear hs;go_simp;exact hK () wx sv hR
   refine Cs (fun D _ wx hR _ hd _ _ hs K hK=>?_) ?_
   ·have e55:=hs.v 3 55 hd;clear hs;go_simp;exact hK () wx sv hR
   refine aj.skip 4 56 false ?_;refine aj.skip 4 56 false ?_;refine aj.skip 4 56 false ?_;refine Cs (fun D _ wx hR _ hd _ _ hs K hK=>?_) ?_
   ·have e56:=hs.v 4 56 hd;have e59:=hs.v 7 59 hd;clear hs;go_simp;exact hK () wx sv hR
   refine Cs (fun D _ wx hR _ hd _ _ hs K hK=>?_) ?_
   ·have e60:=hs.v 8 60 hd;clear hs;go_simp;exact hK () wx sv hR
   refine aj.skip 9 61 false ?_;refine aj.skip 9 61 false ?_;refine aj.skip 9 61 false ?_;refine aj.skip 9 61 false ?_;refine aj.skip 9 61 false ?_;refine aj.skip 9 61 false ?_;refine Cs (fun D _ wx hR _ hd _ _ hs K hK=>?_) ?_
   ·have e61:=hs.v 9 61 hd;have Qd:=hs.v 15 67 hd;clear hs;go_simp;exact hK () wx sv hR
   refine Cs (fun D _ wx hR _ hd _ _ hs K hK=>?_) ?_
   ·have UC:=hs.v 16 68 hd;clear hs;go_simp;exact hK () wx sv hR
   exact aj.nil
  intro D _ wx hR hD;simp only[eH,Act.put,aO,aU,aW];have HZ:=af hR;clear hR hD;go_wp2;go_ret;exact⟨aP (by first | rfl | decide),HS2.out.below.trans (HZ.out.mono HS2.out.below.size)⟩
theorem PW (v:Value) (t:aB) (s:ByteArray) (x:List UInt8) (w:World) (h:oW w w.heap.size v t) (hok:aK t=true) (hs:s.size≤1099511627776) (hw:fQ 32 [] s.data.toList=[sumW,x]):
  Calls Tryz.prog 63 #[v,.string s] w fun e w'=>e= .returned (.int .i64 (zeroV (Wq t x)))∧Below w.heap.size w w':=by
 have hlc:=fun w=>vC s 32 w hs
 rw[hw] at hlc;have hsz:=vz 32 s.data.toList [];have hsl:s.data.toList.length=s.size:=(Lib.size_eq s).symm;rw[hw] at hsz
 have hxs:(⟨x.toArray⟩:ByteArray).size≤9223372036854775807:=by
  have:=hsz x (by simp)
  simp only[List.length_nil] at this
  show x.toArray.size≤_
  rw[List.size_toArray];omega
 have Ws:=fun w=>TM ⟨x.toArray⟩ w
 have hcl:=fun w' (hb:Below w.heap.size w w')=>TV v t x w' (h.up hb) hok
 rw[show(⟨x.toArray⟩:ByteArray).data.toList=x from rfl] at Ws;obtain⟨z,hz⟩:∃z,PL x=z:=⟨_,rfl⟩;rw[hz] at Ws hcl;obtain⟨b,hb⟩:∃b,Wq t x=b:=⟨_,rfl⟩;rw[hb] at hcl ⊢
 clear hz hb;obtain⟨x1,hx1⟩:∃x1,(⟨x.toArray⟩:ByteArray)=x1:=⟨_,rfl⟩;rw[hx1] at Ws;have HX1:=af hx1;have HL7:=af Ws;clear hsz hsl hxs hw hs Ws hx1;have h':=h;obtain⟨G,gn,gc,G',n',c',rfl,hg,hgs,hds,hst⟩:=h;have aS:=af ((St.refl w).alloc #[.int .i64 t.start,.slice G gn gc,.slice G' n' c'] 26);have HT:=af h';have bG:=af hok;have HLC:=af hlc;have Ud:=af hcl;clear h' hok hds hg hgs hst hlc hcl;go_enter Tryz.func63,Tryz.ntmps63
 go_wp2_with fail
 refine(HLC.out _).mono ?_;rintro e w2 ⟨v2,rfl,s2⟩;obtain⟨A2,c2,rfl,-⟩:=s2.oD 0 rfl;obtain⟨bw,rfl⟩:=Ah (s2.row 0 (n:=2) rfl) (by decide);have HS2:=af (aS.out.call s2);have hr2:=s2.row 0 (v:=.slice (some ⟨bw,0,none⟩) 2 c2) (n:=2) rfl;have c0:w2.cell? ⟨bw,0,none⟩=some (.string ⟨#[115,117,109]⟩):=hr2.cells rfl 0 _ rfl;have CW1:Hid (w2.cell? ⟨bw,1,none⟩=some (.string x1)):=af (hr2.cells rfl 1 _ (by rw[←HX1.out];rfl));have TW:Hid (bw<w2.heap.size):=af (PV hr2 (by decide));have Wu:=af c0;have C0:=af (HS2.out.cells 0 rfl 0);have C1:=af (HS2.out.cells 0 rfl 1);have C2:=af (HS2.out.cells 0 rfl 2);have ZF:Hid (w.heap.size<w2.heap.size):=af (HS2.out.new 0 rfl).2;have NJ:Hid ((0:Int)<2):=af (by decide);clear s2 aS hr2
 go_upto_region 10 with(fail)
 clear c0
 refine kG (σ:=Unit)
  (fun _ i=>match i with
  |0=>.slice (some ⟨bw,0,none⟩) 2 c2
  |1=>.pointer (some ⟨bw,0,none⟩)
  |2=>.string ⟨#[115,117,109]⟩
  |3=>.bool false
  |4=>.bool false
  |8=>.bool false
  |9=>.bool false
  |16=>.bool false
  |17=>.bool false
  |_=>undef)
  (fun D _ wx=>Below w2.heap.size w2 wx) () (fun D hD=>(ai _ _).drew) ?_ ?_
 ·refine Cs (fun D _ wx hR _ hd _ _ hs K hK=>?_) ?_
  ·have e5:=hs.o 5 (.slice (some ⟨bw,0,none⟩) 2 c2);clear hs;go_simp;exact hK () wx sv hR
  refine Cs (fun D _ wx hR _ hd _ _ hs K hK=>?_) ?_
  ·have e34:=hs.v 0 34 hd;clear hs;have h0:=NJ.out;go_simp;exact hK () wx sv hR
  refine Cs (fun D _ wx hR _ hd _ _ hs K hK=>?_) ?_
  ·have e35:=hs.v 1 35 hd;clear hs;have c0:wx.cell? ⟨bw,0,none⟩=some (.string ⟨#[115,117,109]⟩):=(aF hR _ _ TW.out).trans Wu.out;go_simp;exact hK () wx sv hR
  refine Cs (fun D _ wx hR _ hd _ _ hs K hK=>?_) ?_
  ·have e36:=hs.v 2 36 hd;clear hs;go_simp;exact hK () wx sv hR
  refine Cs (fun D _ wx hR _ hd _ _ hs K hK=>?_) ?_
  ·have e37:=hs.v 3 37 hd;clear hs;go_simp;exact hK () wx sv hR
  refine aj.skip 4 38 false ?_;refine aj.skip 4 38 false ?_;refine aj.skip 4 38 false ?_;refine Cs (fun D _ wx hR _ hd _ _ hs K hK=>?_) ?_
  ·have e38:=hs.v 4 38 hd;have e41:=hs.v 7 41 hd;clear hs;go_simp;exact hK () wx sv hR
  refine Cs (fun D _ wx hR _ hd _ _ hs K hK=>?_) ?_
  ·have e42:=hs.v 8 42 hd;clear hs;go_simp;exact hK () wx sv hR
  refine aj.skip 9 43 false ?_;refine aj.skip 9 43 false ?_;refine aj.skip 9 43 false ?_;refine aj.skip 9 43 false ?_;refine aj.skip 9 43 false ?_;refine aj.skip 9 43 false ?_;refine Cs (fun D _ wx hR _ hd _ _ hs K hK=>?_) ?_
  ·have e43:=hs.v 9 43 hd;have e49:=hs.v 15 49 hd;clear hs;go_simp;exact hK () wx sv hR
  refine Cs (fun D _ wx hR _ hd _ _ hs K hK=>?_) ?_
  ·have e50:=hs.v 16 50 hd;clear hs;go_simp;exact hK () wx sv hR
  exact aj.nil
 intro D _ wx hR hD;simp only[eH,Act.put,aO,aU,aW];have HY:=af hR;clear hR hD
 go_upto_region 12 with(fail)
 refine kG (σ:=Unit)
  (fun _ i=>match i with
  |0=>.slice (some ⟨bw,0,none⟩) 2 c2
  |1=>.pointer (some ⟨bw,0,none⟩)
  |2=>.string ⟨#[115,117,109]⟩
  |3=>.bool true
  |4=>.bool true
  |5=>.slice (some ⟨bw,0,none⟩) 2 c2
  |6=>.int .i64 2
  |7=>.bool true
  |8=>.bool true
  |9=>.bool true
  |10=>.agg #[.int .i64 t.start,.slice G gn gc,.slice G' n' c']
  |11=>.slice (some ⟨bw,0,none⟩) 2 c2
  |12=>.pointer (some ⟨bw,1,none⟩)
  |13=>.string x1
  |14=>.int .i64 z
  |15=>.bool b
  |16=>.bool b
  |17=>.bool b
  |_=>undef)
  (fun D _ wx=>Below w2.heap.size w2 wx) () (fun D hD=>HY.out.drew) ?_ ?_
 ·refine Cs (fun D _ wx hR _ hd _ _ hs K hK=>?_) ?_
  ·have e5:=hs.o 5 (.slice (some ⟨bw,0,none⟩) 2 c2);clear hs;go_simp;exact hK () wx sv hR
  refine Cs (fun D _ wx hR _ hd _ _ hs K hK=>?_) ?_
  ·have e52:=hs.v 0 52 hd;clear hs;have h0:=NJ.out;go_simp;exact hK () wx sv hR
  refine Cs (fun D _ wx hR _ hd _ _ hs K hK=>?_) ?_
  ·have e53:=hs.v 1 53 hd;clear hs;have c0:wx.cell? ⟨bw,0,none⟩=some (.string ⟨#[115,117,109]⟩):=(aF hR _ _ TW.out).trans Wu.out;go_simp;exact hK () wx sv hR
  refine Cs (fun D _ wx hR _ hd _ _ hs K hK=>?_) ?_
  ·have e54:=hs.v 2 54 hd;clear hs;go_simp;exact hK () wx sv hR
  refine Cs (fun D _ wx hR _ hd _ _ hs K hK=>?_) ?_
  ·have e55:=hs.v 3 55 hd;clear hs;go_simp;exact hK () wx sv hR
  refine dJ (fun D _ wx hR _ hd _ _ hs K hK=>?_) ?_
  ·refine hs.yes 4 56 true hd ?_;have e5:=hs.o 5 (.slice (some ⟨bw,0,none⟩) 2 c2);clear hs;go_simp;exact hK () wx sv hR
  refine dJ (fun D _ wx hR _ hd _ _ hs K hK=>?_) ?_
  ·refine hs.yes 4 56 true hd ?_;have e57:=hs.v 5 57 hd;have g57:=aX e57;clear hs;go_simp;exact hK () wx sv hR
  refine dJ (fun D _ wx hR _ hd _ _ hs K hK=>?_) ?_
  ·refine hs.yes 4 56 true hd ?_;have e58:=hs.v 6 58 hd;clear hs;go_simp;exact hK () wx sv hR
  refine Cs (fun D _ wx hR _ hd _ _ hs K hK=>?_) ?_
  ·have e56:=hs.v 4 56 hd;have e59:=hs.v 7 59 hd;clear hs;go_simp;exact hK () wx sv hR
  refine Cs (fun D _ wx hR _ hd _ _ hs K hK=>?_) ?_
  ·have e60:=hs.v 8 60 hd;clear hs;go_simp;exact hK () wx sv hR
  refine dJ (fun D _ wx hR _ hd _ _ hs K hK=>?_) ?_
  ·refine hs.yes 9 61 true hd ?_;have e2:=hs.o 2 (.pointer (some ⟨w.heap.size,0,none⟩));clear hs;have c0:wx.cell? ⟨w.heap.size,0,none⟩=some (.int .i64 t.start):=(aF hR _ _ ZF.out).trans C0.out;have c1:wx.cell? ⟨w.heap.size,1,none⟩=some (.slice G gn gc):=(aF hR _ _ ZF.out).trans C1.out;have c2:wx.cell? ⟨w.heap.size,2,none⟩=some (.slice G' n' c'):=(aF hR _ _ ZF.out).trans C2.out;go_simp;exact hK () wx sv hR
  refine dJ (fun D _ wx hR _ hd _ _ hs K hK=>?_) ?_
  ·refine hs.yes 9 61 true hd ?_;have e5:=hs.o 5 (.slice (some ⟨bw,0,none⟩) 2 c2);clear hs;go_simp;exact hK () wx sv hR
  refine dJ (fun D _ wx hR _ hd _ _ hs K hK=>?_) ?_
  ·refine hs.yes 9 61 true hd ?_;have e63:=hs.v 11 63 hd;clear hs;have h0:=NJ.out;go_simp;exact hK () wx sv hR
  refine dJ (fun D _ wx hR _ hd _ _ hs K hK=>?_) ?_
  ·refine hs.yes 9 61 true hd ?_;have e64:=hs.v 12 64 hd;clear hs;have c0:wx.cell? ⟨bw,1,none⟩=some (.string x1):=(aF hR _ _ TW.out).trans CW1.out;go_simp;exact hK () wx sv hR
  refine dJ (fun D _ wx hR _ hd _ _ hs K hK=>?_) ?_
  ·refine hs.yes 9 61 true hd ?_;have e65:=hs.v 13 65 hd;have g65:=aX e65;clear hs;go_simp;refine(HL7.out wx).mono ?_;rintro e2 w2 ⟨rfl,hb2⟩;exact hK () w2 sv (hR.trans (hb2.mono hR.size))
  refine dJ (fun D _ wx hR _ hd _ _ hs K hK=>?_) ?_
  ·refine hs.yes 9 61 true hd ?_;have e62:=hs.v 10 62 hd;have YD:=hs.v 14 66 hd;have g62:=aX e62;have g66:=aX YD;clear hs;go_simp;refine(Ud.out wx (HS2.out.below.trans (hR.mono HS2.out.below.size))).mono ?_;rintro e2 w2 ⟨rfl,hb2⟩;exact hK () w2 sv (hR.trans (hb2.mono hR.size))
  refine Cs (fun D _ wx hR _ hd _ _ hs K hK=>?_) ?_
  ·have e61:=hs.v 9 61 hd;have Qd:=hs.v 15 67 hd;clear hs;go_simp;exact hK () wx sv hR
  refine Cs (fun D _ wx hR _ hd _ _ hs K hK=>?_) ?_
  ·have UC:=hs.v 16 68 hd;clear hs;go_simp;exact hK () wx sv hR
  exact aj.nil
 intro D _ wx hR hD;simp only[eH,Act.put,aO,aU,aW];have HZ:=af hR;clear hR hD
 cases b with
 |true=>
  go_wp2;go_ret;exact⟨aP (by first | rfl | decide),HS2.out.below.trans (HZ.out.mono HS2.out.below.size)⟩
 |false=>
  go_wp2;go_ret;exact⟨aP (by first | rfl | decide),HS2.out.below.trans (HZ.out.mono HS2.out.below.size)⟩
theorem oV (v:Value) (t:aB) (s:ByteArray) (w0:List UInt8) (ws:List (List UInt8)) (w:World) (h:oW w w.heap.size v t) (hok:aK t=true) (hs:s.size≤1099511627776) (hw:fQ 32 [] s.data.toList=w0::ws) (h1:w0≠kM) (h2:w0≠jk∨ws.length≠1) (h3:w0≠sumW∨ws.length≠1):
  Calls Tryz.prog 63 #[v,.string s] w fun e w'=>e= .returned (.int .i64 (-1))∧Below w.heap.size w w':=by
 have hlc:=fun w=>vC s 32 w hs
 rw[hw] at hlc;have hwl:=Ey 32 s.data.toList [];have hsl:s.data.toList.length=s.size:=(Lib.size_eq s).symm;rw[hw] at hwl;have kQ:(w0::ws).length≤1099511627777:=by omega
 have hn1:1≤(w0::ws).length:=by simp
 obtain⟨n,hn⟩:∃n,(w0::ws).length=n:=⟨_,rfl⟩;have HN:=af hn;rw[hn] at kQ hn1;obtain⟨k0,hk0⟩:∃k0,(⟨w0.toArray⟩:ByteArray)=k0:=⟨_,rfl⟩;have hkd:k0.toList=w0:=by rw[Lib.toList_data,←hk0]
 have HK0:=af hk0;have b1:(k0.toList == [112,108,97,110])=false:=by rw[dH,hkd];intro h;exact h1 (beq_iff_eq.1 h)
 obtain⟨d2,hd2⟩:∃d,(k0.toList == [99,108,111,115,101,100])=d:=⟨_,rfl⟩;obtain⟨d3,hd3⟩:∃d,(k0.toList == [115,117,109])=d:=⟨_,rfl⟩;have ZB:=af hd2;have HQ3:=af hd3
 have NK:Hid (d2=true∨d3=true→((n:Int) == 2)=false):=af (fun h=>beq_false_of_ne (by
  have hl:ws.length≠1:=by
   rcases h with h | h
   ·exact h2.resolve_left (fun e=>e (by rw[h,hkd] at hd2;exact beq_iff_eq.1 hd2))
   ·exact h3.resolve_left (fun e=>e (by rw[h,hkd] at hd3;exact beq_iff_eq.1 hd3))
  simp at hn;omega))
 have HD:Hid (d2=true→d3=false):=af (fun h=>by
  rw[h] at hd2
  rw[←hd3,beq_iff_eq.1 hd2];rfl)
 clear hk0 hkd h1 h2 h3 hwl hsl hs hw hn hd2 hd3;have h':=h;obtain⟨G,gn,gc,G',n',c',rfl,hg,hgs,hds,hst⟩:=h;have aS:=af ((St.refl w).alloc #[.int .i64 t.start,.slice G gn gc,.slice G' n' c'] 26);have HT:=af h';have bG:=af hok;have HLC:=af hlc;clear h' hok hds hg hgs hst hlc;go_enter Tryz.func63,Tryz.ntmps63
 go_wp2_with fail
 refine(HLC.out _).mono ?_;rintro e w2 ⟨v2,rfl,s2⟩;obtain⟨A2,c2,rfl,-⟩:=s2.oD 0 rfl;rw[HN.out] at s2 ⊢
 obtain⟨bw,rfl⟩:=Ah (s2.row 0 (by rw[bP,HN.out];rfl)) (by omega);have HS2:=af (aS.out.call s2);have hr2:=s2.row 0 (by rw[bP,HN.out];rfl);have c0:w2.cell? ⟨bw,0,none⟩=some (.string k0):=hr2.cells rfl 0 _ (by rw[←HK0.out];rfl);have TW:Hid (bw<w2.heap.size):=af (PV hr2 (by omega));have Wu:=af c0;have C0:=af (HS2.out.cells 0 rfl 0);have C1:=af (HS2.out.cells 0 rfl 1);have C2:=af (HS2.out.cells 0 rfl 2);have ZF:Hid (w.heap.size<w2.heap.size):=af (HS2.out.new 0 rfl).2;have NJ:Hid (0<n):=af (by omega);have hn0:=NJ.out;clear s2 aS hr2
 go_upto_region 10 with(fail)
 clear c0 hn0
 cases d2 with
 |true=>
  have NI:=af (NK.out (.inl rfl));obtain rfl:d3=false:=HD.out rfl;clear NK HD b1
  refine kG (σ:=Unit)
   (fun _ i=>match i with
   |0=>.slice (some ⟨bw,0,none⟩) n c2
   |1=>.pointer (some ⟨bw,0,none⟩)
   |2=>.string k0
   |3=>.bool true
   |4=>.bool true
   |5=>.slice (some ⟨bw,0,none⟩) n c2
   |6=>.int .i64 (n:Int)
   |7=>.bool false
   |8=>.bool false
   |9=>.bool false
   |16=>.bool false
   |17=>.bool false
   |_=>undef)
   (fun D _ wx=>Below w2.heap.size w2 wx) () (fun D hD=>(ai _ _).drew) ?_ ?_
  ·refine Cs (fun D _ wx hR _ hd _ _ hs K hK=>?_) ?_
   ·have e5:=hs.o 5 (.slice (some ⟨bw,0,none⟩) n c2);clear hs;go_simp;exact hK () wx sv hR
   refine Cs (fun D _ wx hR _ hd _ _ hs K hK=>?_) ?_
   ·have e34:=hs.v 0 34 hd;clear hs;have h0:=NJ.out;go_simp;exact hK () wx sv hR
   refine Cs (fun D _ wx hR _ hd _ _ hs K hK=>?_) ?_
   ·have e35:=hs.v 1 35 hd;clear hs;have c0:wx.cell? ⟨bw,0,none⟩=some (.string k0):=(aF hR _ _ TW.out).trans Wu.out;go_simp;exact hK () wx sv hR
   refine Cs (fun D _ wx hR _ hd _ _ hs K hK=>?_) ?_
   ·have e36:=hs.v 2 36 hd;clear hs;have h0:=ZB.out;go_simp;exact hK () wx sv hR
   refine Cs (fun D _ wx hR _ hd _ _ hs K hK=>?_) ?_
   ·have e37:=hs.v 3 37 hd;clear hs;go_simp;exact hK () wx sv hR
   refine dJ (fun D _ wx hR _ hd _ _ hs K hK=>?_) ?_
   ·refine hs.yes 4 38 true hd ?_;have e5:=hs.o 5 (.slice (some ⟨bw,0,none⟩) n c2);clear hs;go_simp;exact hK () wx sv hR
   refine dJ (fun D _ wx hR _ hd _ _ hs K hK=>?_) ?_
   ·refine hs.yes 4 38 true hd ?_;have e39:=hs.v 5 39 hd;have g39:=aX e39;clear hs;go_simp;exact hK () wx sv hR
   refine dJ (fun D _ wx hR _ hd _ _ hs K hK=>?_) ?_
   ·refine hs.yes 4 38 true hd ?_;have e40:=hs.v 6 40 hd;clear hs;have h0:=NI.out;go_simp;exact hK () wx sv hR
   refine Cs (fun D _ wx hR _ hd _ _ hs K hK=>?_) ?_
   ·have e38:=hs.v 4 38 hd;have e41:=hs.v 7 41 hd;clear hs;go_simp;exact hK () wx sv hR
   refine Cs (fun D _ wx hR _ hd _ _ hs K hK=>?_) ?_
   ·have e42:=hs.v 8 42 hd;clear hs;go_simp;exact hK () wx sv hR
   refine aj.skip 9 43 false ?_;refine aj.skip 9 43 false ?_;refine aj.skip 9 43 false ?_;refine aj.skip 9 43 false ?_;refine aj.skip 9 43 false ?_;refine aj.skip 9 43 false ?_;refine Cs (fun D _ wx hR _ hd _ _ hs K hK=>?_) ?_
   ·have e43:=hs.v 9 43 hd;have e49:=hs.v 15 49 hd;clear hs;go_simp;exact hK () wx sv hR
   refine Cs (fun D _ wx hR _ hd _ _ hs K hK=>?_) ?_
   ·have e50:=hs.v 16 50 hd;clear hs;go_simp;exact hK () wx sv hR
   exact aj.nil
  intro D _ wx hR hD;simp only[eH,Act.put,aO,aU,aW];have HY:=af hR;clear hR hD
  go_upto_region 12 with(fail)
  refine kG (σ:=Unit)
   (fun _ i=>match i with
   |0=>.slice (some ⟨bw,0,none⟩) n c2
   |1=>.pointer (some ⟨bw,0,none⟩)
   |2=>.string k0
   |3=>.bool false
   |4=>.bool false
   |8=>.bool false
   |9=>.bool false
   |16=>.bool false
   |17=>.bool false
   |_=>undef)
   (fun D _ wx=>Below w2.heap.size w2 wx) () (fun D hD=>HY.out.drew) ?_ ?_
  ·refine Cs (fun D _ wx hR _ hd _ _ hs K hK=>?_) ?_
   ·have e5:=hs.o 5 (.slice (some ⟨bw,0,none⟩) n c2);clear hs;go_simp;exact hK () wx sv hR
   refine Cs (fun D _ wx hR _ hd _ _ hs K hK=>?_) ?_
   ·have e52:=hs.v 0 52 hd;clear hs;have h0:=NJ.out;go_simp;exact hK () wx sv hR
   refine Cs (fun D _ wx hR _ hd _ _ hs K hK=>?_) ?_
   ·have e53:=hs.v 1 53 hd;clear hs;have c0:wx.cell? ⟨bw,0,none⟩=some (.string k0):=(aF hR _ _ TW.out).trans Wu.out;go_simp;exact hK () wx sv hR
   refine Cs (fun D _ wx hR _ hd _ _ hs K hK=>?_) ?_
   ·have e54:=hs.v 2 54 hd;clear hs;have h0:=HQ3.out;go_simp;exact hK () wx sv hR
   refine Cs (fun D _ wx hR _ hd _ _ hs K hK=>?_) ?_
   ·have e55:=hs.v 3 55 hd;clear hs;go_simp;exact hK () wx sv hR
   refine aj.skip 4 56 false ?_;refine aj.skip 4 56 false ?_;refine aj.skip 4 56 false ?_;refine Cs (fun D _ wx hR _ hd _ _ hs K hK=>?_) ?_
   ·have e56:=hs.v 4 56 hd;have e59:=hs.v 7 59 hd;clear hs;go_simp;exact hK () wx sv hR
   refine Cs (fun D _ wx hR _ hd _ _ hs K hK=>?_) ?_
   ·have e60:=hs.v 8 60 hd;clear hs;go_simp;exact hK () wx sv hR
   refine aj.skip 9 61 false ?_;refine aj.skip 9 61 false ?_;refine aj.skip 9 61 false ?_;refine aj.skip 9 61 false ?_;refine aj.skip 9 61 false ?_;refine aj.skip 9 61 false ?_;refine Cs (fun D _ wx hR _ hd _ _ hs K hK=>?_) ?_
   ·have e61:=hs.v 9 61 hd;have Qd:=hs.v 15 67 hd;clear hs;go_simp;exact hK () wx sv hR
   refine Cs (fun D _ wx hR _ hd _ _ hs K hK=>?_) ?_
   ·have UC:=hs.v 16 68 hd;clear hs;go_simp;exact hK () wx sv hR
   exact aj.nil
  intro D _ wx hR hD;simp only[eH,Act.put,aO,aU,aW];have HZ:=af hR;clear hR hD;go_wp2;go_ret;exact⟨aP (by first | rfl | decide),HS2.out.below.trans (HZ.out.mono HS2.out.below.size)⟩
 |false=>
  clear HD b1
  refine kG (σ:=Unit)
   (fun _ i=>match i with
   |0=>.slice (some ⟨bw,0,none⟩) n c2
   |1=>.pointer (some ⟨bw,0,none⟩)
   |2=>.string k0
   |3=>.bool false
   |4=>.bool false
   |8=>.bool false
   |9=>.bool false
   |16=>.bool false
   |17=>.bool false
   |_=>undef)
   (fun D _ wx=>Below w2.heap.size w2 wx) () (fun D hD=>(ai _ _).drew) ?_ ?_
  ·refine Cs (fun D _ wx hR _ hd _ _ hs K hK=>?_) ?_
   ·have e5:=hs.o 5 (.slice (some ⟨bw,0,none⟩) n c2);clear hs;go_simp;exact hK () wx sv hR
   refine Cs (fun D _ wx hR _ hd _ _ hs K hK=>?_) ?_
   ·have e34:=hs.v 0 34 hd;clear hs;have h0:=NJ.out;go_simp;exact hK () wx sv hR
   refine Cs (fun D _ wx hR _ hd _ _ hs K hK=>?_) ?_
   ·have e35:=hs.v 1 35 hd;clear hs;have c0:wx.cell? ⟨bw,0,none⟩=some (.string k0):=(aF hR _ _ TW.out).trans Wu.out;go_simp;exact hK () wx sv hR
   refine Cs (fun D _ wx hR _ hd _ _ hs K hK=>?_) ?_
   ·have e36:=hs.v 2 36 hd;clear hs;have h0:=ZB.out;go_simp;exact hK () wx sv hR
   refine Cs (fun D _ wx hR _ hd _ _ hs K hK=>?_) ?_
   ·have e37:=hs.v 3 37 hd;clear hs;go_simp;exact hK () wx sv hR
   refine aj.skip 4 38 false ?_;refine aj.skip 4 38 false ?_;refine aj.skip 4 38 false ?_;refine Cs (fun D _ wx hR _ hd _ _ hs K hK=>?_) ?_
   ·have e38:=hs.v 4 38 hd;have e41:=hs.v 7 41 hd;clear hs;go_simp;exact hK () wx sv hR
   refine Cs (fun D _ wx hR _ hd _ _ hs K hK=>?_) ?_
   ·have e42:=hs.v 8 42 hd;clear hs;go_simp;exact hK () wx sv hR
   refine aj.skip 9 43 false ?_;refine aj.skip 9 43 false ?_;refine aj.skip 9 43 false ?_;refine aj.skip 9 43 false ?_;refine aj.skip 9 43 false ?_;refine aj.skip 9 43 false ?_;refine Cs (fun D _ wx hR _ hd _ _ hs K hK=>?_) ?_
   ·have e43:=hs.v 9 43 hd;have e49:=hs.v 15 49 hd;clear hs;go_simp;exact hK () wx sv hR
   refine Cs (fun D _ wx hR _ hd _ _ hs K hK=>?_) ?_
   ·have e50:=hs.v 16 50 hd;clear hs;go_simp;exact hK () wx sv hR
   exact aj.nil
  intro D _ wx hR hD;simp only[eH,Act.put,aO,aU,aW];have HY:=af hR;clear hR hD
  go_upto_region 12 with(fail)
  cases d3 with
  |true=>
   have NI:=af (NK.out (.inr rfl));clear NK
   refine kG (σ:=Unit)
    (fun _ i=>match i with
    |0=>.slice (some ⟨bw,0,none⟩) n c2
    |1=>.pointer (some ⟨bw,0,none⟩)
    |2=>.string k0
    |3=>.bool true
    |4=>.bool true
    |5=>.slice (some ⟨bw,0,none⟩) n c2
    |6=>.int .i64 (n:Int)
    |7=>.bool false
    |8=>.bool false
    |9=>.bool false
    |16=>.bool false
    |17=>.bool false
    |_=>undef)
    (fun D _ wx=>Below w2.heap.size w2 wx) () (fun D hD=>HY.out.drew) ?_ ?_
   ·refine Cs (fun D _ wx hR _ hd _ _ hs K hK=>?_) ?_
    ·have e5:=hs.o 5 (.slice (some ⟨bw,0,none⟩) n c2);clear hs;go_simp;exact hK () wx sv hR
    refine Cs (fun D _ wx hR _ hd _ _ hs K hK=>?_) ?_
    ·have e52:=hs.v 0 52 hd;clear hs;have h0:=NJ.out;go_simp;exact hK () wx sv hR
    refine Cs (fun D _ wx hR _ hd _ _ hs K hK=>?_) ?_
    ·have e53:=hs.v 1 53 hd;clear hs;have c0:wx.cell? ⟨bw,0,none⟩=some (.string k0):=(aF hR _ _ TW.out).trans Wu.out;go_simp;exact hK () wx sv hR
    refine Cs (fun D _ wx hR _ hd _ _ hs K hK=>?_) ?_
    ·have e54:=hs.v 2 54 hd;clear hs;have h0:=HQ3.out;go_simp;exact hK () wx sv hR
    refine Cs (fun D _ wx hR _ hd _ _ hs K hK=>?_) ?_
    ·have e55:=hs.v 3 55 hd;clear hs;go_simp;exact hK () wx sv hR
    refine dJ (fun D _ wx hR _ hd _ _ hs K hK=>?_) ?_
    ·refine hs.yes 4 56 true hd ?_;have e5:=hs.o 5 (.slice (some ⟨bw,0,none⟩) n c2);clear hs;go_simp;exact hK () wx sv hR
    refine dJ (fun D _ wx hR _ hd _ _ hs K hK=>?_) ?_
    ·refine hs.yes 4 56 true hd ?_;have e57:=hs.v 5 57 hd;have g57:=aX e57;clear hs;go_simp;exact hK () wx sv hR
    refine dJ (fun D _ wx hR _ hd _ _ hs K hK=>?_) ?_
    ·refine hs.yes 4 56 true hd ?_;have e58:=hs.v 6 58 hd;clear hs;have h0:=NI.out;go_simp;exact hK () wx sv hR
    refine Cs (fun D _ wx hR _ hd _ _ hs K hK=>?_) ?_
    ·have e56:=hs.v 4 56 hd;have e59:=hs.v 7 59 hd;clear hs;go_simp;exact hK () wx sv hR
    refine Cs (fun D _ wx hR _ hd _ _ hs K hK=>?_) ?_
    ·have e60:=hs.v 8 60 hd;clear hs;go_simp;exact hK () wx sv hR
    refine aj.skip 9 61 false ?_;refine aj.skip 9 61 false ?_;refine aj.skip 9 61 false ?_;refine aj.skip 9 61 false ?_;refine aj.skip 9 61 false ?_;refine aj.skip 9 61 false ?_;refine Cs (fun D _ wx hR _ hd _ _ hs K hK=>?_) ?_
    ·have e61:=hs.v 9 61 hd;have Qd:=hs.v 15 67 hd;clear hs;go_simp;exact hK () wx sv hR
    refine Cs (fun D _ wx hR _ hd _ _ hs K hK=>?_) ?_
    ·have UC:=hs.v 16 68 hd;clear hs;go_simp;exact hK () wx sv hR
    exact aj.nil
   intro D _ wx hR hD;simp only[eH,Act.put,aO,aU,aW];have HZ:=af hR;clear hR hD;go_wp2;go_ret;exact⟨aP (by first | rfl | decide),HS2.out.below.trans (HZ.out.mono HS2.out.below.size)⟩
  |false=>
   clear NK
   refine kG (σ:=Unit)
    (fun _ i=>match i with
    |0=>.slice (some ⟨bw,0,none⟩) n c2
    |1=>.pointer (some ⟨bw,0,none⟩)
    |2=>.string k0
    |3=>.bool false
    |4=>.bool false
    |8=>.bool false
    |9=>.bool false
    |16=>.bool false
    |17=>.bool false
    |_=>undef)
    (fun D _ wx=>Below w2.heap.size w2 wx) () (fun D hD=>HY.out.drew) ?_ ?_
   ·refine Cs (fun D _ wx hR _ hd _ _ hs K hK=>?_) ?_
    ·have e5:=hs.o 5 (.slice (some ⟨bw,0,none⟩) n c2);clear hs;go_simp;exact hK () wx sv hR
    refine Cs (fun D _ wx hR _ hd _ _ hs K hK=>?_) ?_
    ·have e52:=hs.v 0 52 hd;clear hs;have h0:=NJ.out;go_simp;exact hK () wx sv hR
    refine Cs (fun D _ wx hR _ hd _ _ hs K hK=>?_) ?_
    ·have e53:=hs.v 1 53 hd;clear hs;have c0:wx.cell? ⟨bw,0,none⟩=some (.string k0):=(aF hR _ _ TW.out).trans Wu.out;go_simp;exact hK () wx sv hR
    refine Cs (fun D _ wx hR _ hd _ _ hs K hK=>?_) ?_
    ·have e54:=hs.v 2 54 hd;clear hs;have h0:=HQ3.out;go_simp;exact hK () wx sv hR
    refine Cs (fun D _ wx hR _ hd _ _ hs K hK=>?_) ?_
    ·have e55:=hs.v 3 55 hd;clear hs;go_simp;exact hK () wx sv hR
    refine aj.skip 4 56 false ?_;refine aj.skip 4 56 false ?_;refine aj.skip 4 56 false ?_;refine Cs (fun D _ wx hR _ hd _ _ hs K hK=>?_) ?_
    ·have e56:=hs.v 4 56 hd;have e59:=hs.v 7 59 hd;clear hs;go_simp;exact hK () wx sv hR
    refine Cs (fun D _ wx hR _ hd _ _ hs K hK=>?_) ?_
    ·have e60:=hs.v 8 60 hd;clear hs;go_simp;exact hK () wx sv hR
    refine aj.skip 9 61 false ?_;refine aj.skip 9 61 false ?_;refine aj.skip 9 61 false ?_;refine aj.skip 9 61 false ?_;refine aj.skip 9 61 false ?_;refine aj.skip 9 61 false ?_;refine Cs (fun D _ wx hR _ hd _ _ hs K hK=>?_) ?_
    ·have e61:=hs.v 9 61 hd;have Qd:=hs.v 15 67 hd;clear hs;go_simp;exact hK () wx sv hR
    refine Cs (fun D _ wx hR _ hd _ _ hs K hK=>?_) ?_
    ·have UC:=hs.v 16 68 hd;clear hs;go_simp;exact hK () wx sv hR
    exact aj.nil
   intro D _ wx hR hD;simp only[eH,Act.put,aO,aU,aW];have HZ:=af hR;clear hR hD;go_wp2;go_ret;exact⟨aP (by first | rfl | decide),HS2.out.below.trans (HZ.out.mono HS2.out.below.size)⟩
def Wv (t:aB):List (List UInt8)→Int
 |w::ws=>
  if w=kM then(if iW t (ws.map kH) then 1 else -1)
  else if w=jk then(match ws with | [x]=>if eF t (ku x) then 0 else -1 | _=>-1)
  else if w=sumW then(match ws with | [x]=>(match uh x with | some f=>if kE t f then 0 else -1 | none=>-1) | _=>-1)
  else -1
 | []=>-1
theorem BV (v:Value) (t:aB) (s:ByteArray) (w:World) (h:oW w w.heap.size v t) (hok:aK t=true) (hs:s.size≤1099511627776):
  Calls Tryz.prog 63 #[v,.string s] w fun e w'=>e= .returned (.int .i64 (bY t s.data.toList))∧Below w.heap.size w w':=by
 obtain⟨l,hl⟩:∃l,s.data.toList=l:=⟨_,rfl⟩
 cases hw:fQ 32 [] l with
 |nil=>exact absurd hw (JA 32 [] l)
 |cons w0 ws=>
  rw[hl,show bY t l=Wv t (w0::ws) by rw[←hw];rfl]
  unfold Wv
  simp only
  by_cases h1:w0=kM
  ·rw[if_pos h1];exact Ny v t s ws w h hok hs (by rw[hl,hw,h1])
  rw[if_neg h1]
  by_cases h2:w0=jk
  ·rw[if_pos h2]
   match ws,hw with
   | [x],hw=>exact Gl v t s x w h hok hs (by rw[hl,hw,h2])
   | [],hw=>exact oV v t s w0 [] w h hok hs (by rw[hl,hw]) h1 (.inr (by simp)) (.inr (by simp))
   |a::b::ws,hw=>exact oV v t s w0 (a::b::ws) w h hok hs (by rw[hl,hw]) h1 (.inr (by simp)) (.inr (by simp))
  rw[if_neg h2]
  by_cases h3:w0=sumW
  ·rw[if_pos h3]
   match ws,hw with
   | [x],hw=>
    have:=PW v t s x w h hok hs (by rw[hl,hw,h3])
    unfold Wq at this
    simp only
    cases hx:uh x with
    |none=>rw[hx] at this;exact this
    |some f=>rw[hx] at this;exact this
   | [],hw=>exact oV v t s w0 [] w h hok hs (by rw[hl,hw]) h1 (.inr (by simp)) (.inr (by simp))
   |a::b::ws,hw=>exact oV v t s w0 (a::b::ws) w h hok hs (by rw[hl,hw]) h1 (.inr (by simp)) (.inr (by simp))
  rw[if_neg h3];exact oV v t s w0 ws w h hok hs (by rw[hl,hw]) h1 (.inl h2) (.inl h3)
end Go.Proofs.YtkmcengmglgdeaaGreatDoor
