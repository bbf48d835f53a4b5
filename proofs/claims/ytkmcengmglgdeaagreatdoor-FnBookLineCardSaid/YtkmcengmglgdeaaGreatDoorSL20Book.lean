/- A part of the proof: L20Book. -/
import Derived.Test.YtkmcengmglgdeaaGreatDoorSPush
import Derived.Test.YtkmcengmglgdeaaGreatDoorSL20Act
import Derived.Test.YtkmcengmglgdeaaGreatDoorSTDraw2
import Derived.Test.YtkmcengmglgdeaaGreatDoorSFwd
import Derived.Test.YtkmcengmglgdeaaGreatDoorSDoS
namespace Go.Proofs.YtkmcengmglgdeaaGreatDoor
set_option linter.unusedVariables false
set_option linter.unusedSimpArgs false
set_option maxRecDepth 100000
set_option maxHeartbeats 8000000
open Go.ChangeShapes Go.WideShapes Go.ChangeAt Go.RowKit
theorem NT (r s:Int) (w:World) (hs:(Lit.int .i64 s).wf=true):Calls Tryz.prog 101 #[.int .i64 r,.int .i64 s] w (Gives w id fun v=>[lI v (kR r s)]):=
 (Di r s w hs).mono fun e w' ⟨⟨v,F,he,ho,hn⟩,hb⟩=>⟨v,he,St.P9 ho hn hb⟩
theorem Gm {w W:World} {Rs:List dh} {g hi:Nat} (S:St w W (fG w g hi::Rs)) (hh:hi≤400000000000) (i:Nat) {v:Value} {b:aG} (hi':Rs[i]? =some (aI v b)):
  Calls Tryz.prog 102 #[.pointer (some ⟨g,0,none⟩),v] W fun e w'=>∃k m,e= .returned (.agg #[.int .i64 k,.int .i64 m])∧(0≤k∧k≤7)∧(-10≤m∧m≤130)∧St w w' (fG w g (hi+8)::Rs):=by
 refine(Dh (St.pack (Rs:=[fG w g hi]) (L:=Rs) S) hh v b fun W' F hF=>?_).mono fun e w' ⟨k,m,h1,h2,h3,h4⟩=>⟨k,m,h1,h2,h3,St.unpack (Rs:=[fG w g (hi+8)]) (L:=Rs) h4⟩
 obtain⟨Fs,f1,f2,f3,f4⟩:=hF;have hl:i<Fs.length:=by rw[f1];exact(bI.1 hi').1
 have hb:OwnB W' v b (Fs[i]):=f2 i _ _ hi' (bH hl);exact hb.rd
def BI (b:aG):Prop:=aN b=true∨b=oG
theorem BI.WE {b:aG} (h:BI b) (a:iP):BI (dY b a):=by
 rcases h with h | h
 ·exact .inl (qX a h)
 ·subst h
  cases hb:aN oG with
  |false=>exact .inr (xu hb).1
  |true=>exact .inl (qX a hb)
theorem BI.new (t:aB):BI (o8 t):=by
 cases h:aK t with
 |false=>exact .inr (by unfold o8;rw[if_neg (by rw[h];simp)];rfl)
 |true=>
  refine .inl ?_;rw[AO t h];have hp:=aJ t h;have e:aC t t.start []=t.start:=by unfold aC;rw[if_pos ⟨h,(aV _).2 hp.1,by simp⟩];simp only[jY,opt];omega
  have:=Gn (o:=t) (d:=[]) (by rw[e];exact hp.1.1)
  rwa[e] at this
theorem BI.bd {b:aG} (h:BI b):(0≤b.state∧b.state<32)∧b.done.length≤40∧(0≤b.order.start∧b.order.start<32):=by
 rcases h with h | h
 ·obtain⟨h1,h2,h3,h4⟩:=bF h;exact⟨h3,h2,(aJ _ h1).1⟩
 ·subst h;decide
theorem KF {w W:World} {X:dh} {g hi:Nat} (S:St w W [fG w g hi,X]) (hh:hi≤100000000000) (n:Int):
  Calls Tryz.prog 42 #[.pointer (some ⟨g,0,none⟩),.int .i64 n] W fun e w'=>∃v b,e= .returned v∧St w w' [fG w g (hi+400),X,aI v b]:=by
 obtain⟨r,hr⟩:∃r,W.heap.size=r:=⟨_,rfl⟩;have aS:Hid (St w (W.alloc (.cells #[.int .i64 0,.slice none 0 0,.slice none 0 0,.slice none 0 0,.int .i64 0] 28)) [fG w g hi,X,ah r 28 #[.int .i64 0,.slice none 0 0,.slice none 0 0,.slice none 0 0,.int .i64 0]]):=af (by rw[←hr];exact S.alloc _ _);clear S;go_enter Tryz.func42,Tryz.ntmps42
 go_wp2_with fail
 refine(NU aS.out (by omega) 0).mono ?_;rintro e w1 ⟨v1,t,rfl,-,s1⟩;have bf:=af s1;clear s1 aS
 go_wp2_with fail
 refine(rX _ t _ (bf.out.rdT 1 rfl)).mono ?_;obtain⟨b,hb⟩:∃b,o8 t=b:=⟨_,rfl⟩;have Yv:Bx (BI b):=Bx.mk (hb▸BI.new t);rw[hb];rintro e w2 ⟨v2,rfl,s2⟩;obtain⟨B1,m1,d1,B2,m2,d2,B3,m3,d3,hv⟩:=s2.gU 0 rfl;obtain⟨os,hos⟩:∃x,b.order.start=x:=⟨_,rfl⟩;obtain⟨st,hst⟩:∃x,b.state=x:=⟨_,rfl⟩;have nP:=Bx.mk hos;have HST:=Bx.mk hst;rw[hos,hst] at hv;simp only[id_eq] at hv ⊢
 subst hv;obtain⟨g5,hg5⟩:∃x,w2.heap.size=x:=⟨_,rfl⟩
 have HS2:Hid (St w (w2.alloc (.cells #[.int .i64 os,.slice B1 m1 d1,.slice B2 m2 d2,.slice B3 m3 d3,.int .i64 st] 28)) [fG w g (hi+200),X,ah r 28 #[.int .i64 0,.slice none 0 0,.slice none 0 0,.slice none 0 0,.int .i64 0],ah g5 28 #[.int .i64 os,.slice B1 m1 d1,.slice B2 m2 d2,.slice B3 m3 d3,.int .i64 st],aI (.agg #[.int .i64 os,.slice B1 m1 d1,.slice B2 m2 d2,.slice B3 m3 d3,.int .i64 st]) b]):=af (by
  rw[←hg5]
  exact((bf.out.call s2).alloc _ _).pick [0,2,3,5,4] (by decide) rfl rfl)
 clear s2 bf hb hos hst
 go_wp2_with fail
 refine(dQ HS2.out (by omega) 4).mono ?_;rintro e w3 ⟨x3,rfl,-,s3⟩;have cu:Hid (St w w3 [fG w g (hi+201),X,ah r 28 #[.int .i64 0,.slice none 0 0,.slice none 0 0,.slice none 0 0,.int .i64 0],ah g5 28 #[.int .i64 os,.slice B1 m1 d1,.slice B2 m2 d2,.slice B3 m3 d3,.int .i64 st],aI (.agg #[.int .i64 os,.slice B1 m1 d1,.slice B2 m2 d2,.slice B3 m3 d3,.int .i64 st]) b]):=af s3;clear s3 HS2
 try rw[hr]
 try rw[hg5]
 clear hr hg5
 go_upto_if 14 with(fail)
 go_cut [5] (fun s5 wx=>s5= .pointer (some ⟨g5,0,none⟩)∧∃(b:aG) (os st:Int) (B1:Option Addr) (m1 d1:Nat) (B2:Option Addr) (m2 d2:Nat) (B3:Option Addr) (m3 d3:Nat),Bx (BI b)∧Bx (b.order.start=os)∧Bx (b.state=st)∧St w wx [fG w g (hi+205),X,ah r 28 #[.int .i64 0,.slice none 0 0,.slice none 0 0,.slice none 0 0,.int .i64 0],ah g5 28 #[.int .i64 os,.slice B1 m1 d1,.slice B2 m2 d2,.slice B3 m3 d3,.int .i64 st],aI (.agg #[.int .i64 os,.slice B1 m1 d1,.slice B2 m2 d2,.slice B3 m3 d3,.int .i64 st]) b])
 case first=>
  by_cases h3:x3=0
  ·subst h3
   go_wp2_with fail
   refine(dQ cu.out (by omega) 5).mono ?_;rintro e w4 ⟨y,rfl,⟨y1,y2,-⟩,s4⟩;have y3:=y2 (by omega);have fH:Hid (St w w4 [fG w g (hi+202),X,ah r 28 #[.int .i64 0,.slice none 0 0,.slice none 0 0,.slice none 0 0,.int .i64 0],ah g5 28 #[.int .i64 os,.slice B1 m1 d1,.slice B2 m2 d2,.slice B3 m3 d3,.int .i64 st],aI (.agg #[.int .i64 os,.slice B1 m1 d1,.slice B2 m2 d2,.slice B3 m3 d3,.int .i64 st]) b]):=af s4;have hyw:IntKind.i64.wrap (1+y)=1+y:=by rw[IntKind.wrap_i64];omega
   clear s4 y2 cu
   go_wp2_with fail
   refine(NT (1+y) 0 _ (by decide)).mono ?_;rintro e w5 ⟨v5,rfl,s5⟩;have dX:=af (fH.out.call s5);clear s5 fH
   go_wp2_with fail
   refine(rX _ (kR (1+y) 0) _ (dX.out.rdT 5 rfl)).mono ?_;obtain⟨b',hb'⟩:∃b,o8 (kR (1+y) 0)=b:=⟨_,rfl⟩;have adt:Bx (BI b'):=Bx.mk (hb'▸BI.new _);rw[hb'];rintro e w6 ⟨v6,rfl,s6⟩;obtain⟨N1,e1,u1,N2,e2,u2,N3,e3,u3,hv⟩:=s6.gU 0 rfl;obtain⟨ns,hns⟩:∃x,b'.order.start=x:=⟨_,rfl⟩;obtain⟨nt,hnt⟩:∃x,b'.state=x:=⟨_,rfl⟩;have Q9:=Bx.mk hns;have Rf:=Bx.mk hnt;rw[hns,hnt] at hv;simp only[id_eq] at hv ⊢
   subst hv;have jB:=af (dX.out.call s6);have q6:=jB.out.cells 3 rfl;have f6:=jB.out.free 3 rfl;clear s6 dX hb' hns hnt;go_wp2;have je:Hid (St w (((((w6.setCell ⟨g5,0,none⟩ (.int .i64 ns)).setCell ⟨g5,1,none⟩ (.slice N1 e1 u1)).setCell ⟨g5,2,none⟩ (.slice N2 e2 u2)).setCell ⟨g5,3,none⟩ (.slice N3 e3 u3)).setCell ⟨g5,4,none⟩ (.int .i64 nt)) [fG w g (hi+202),X,ah r 28 #[.int .i64 0,.slice none 0 0,.slice none 0 0,.slice none 0 0,.int .i64 0],ah g5 28 #[.int .i64 ns,.slice N1 e1 u1,.slice N2 e2 u2,.slice N3 e3 u3,.int .i64 nt],aI (.agg #[.int .i64 ns,.slice N1 e1 u1,.slice N2 e2 u2,.slice N3 e3 u3,.int .i64 nt]) b']):=af ((jB.out.fF 3 rfl (.int .i64 ns) (.slice N1 e1 u1) (.slice N2 e2 u2) (.slice N3 e3 u3) (.int .i64 nt)).pick [0,1,2,3,6] (by decide) rfl rfl)
   go_meet
   case rel=>exact⟨rfl,b',ns,nt,_,_,_,_,_,_,_,_,_,adt,Q9,Rf,je.out.more (by omega)⟩
  ·have h3':(x3 == 0)=false:=by simpa using h3
   clear h3;go_wp2
   go_meet
   case rel=>exact⟨rfl,b,os,st,_,_,_,_,_,_,_,_,_,Yv,nP,HST,cu.out.more (by omega)⟩
 case rest=>
  obtain⟨rfl,b,os,st,B1,m1,d1,B2,m2,d2,B3,m3,d3,Yv,nP,HST,S4⟩:=hcut;have fH:=af S4;clear S4 cu
  go_wp2_with fail
  refine(dQ fH.out (by omega) 20).mono ?_;rintro e w5 ⟨x5,rfl,⟨a1,a2,-⟩,s5⟩;have a3:=a2 (by omega);obtain⟨k5,rfl⟩:=bC a1;have hk5:k5≤19:=by omega
  have dX:Hid (St w w5 [fG w g (hi+210+8*(19-k5)),X,ah r 28 #[.int .i64 0,.slice none 0 0,.slice none 0 0,.slice none 0 0,.int .i64 0],ah g5 28 #[.int .i64 os,.slice B1 m1 d1,.slice B2 m2 d2,.slice B3 m3 d3,.int .i64 st],aI (.agg #[.int .i64 os,.slice B1 m1 d1,.slice B2 m2 d2,.slice B3 m3 d3,.int .i64 st]) b]):=af (s5.more (by omega));clear s5 a1 a2 a3 fH;go_wp2
  go_loopw [6] (fun kv wr=>∃(k:Nat) (b:aG) (os st:Int) (B1:Option Addr) (m1 d1:Nat) (B2:Option Addr) (m2 d2:Nat) (B3:Option Addr) (m3 d3:Nat),k≤19∧kv= .int .i64 k∧Bx (BI b)∧Bx (b.order.start=os)∧Bx (b.state=st)∧St w wr [fG w g (hi+210+8*(19-k)),X,ah r 28 #[.int .i64 0,.slice none 0 0,.slice none 0 0,.slice none 0 0,.int .i64 0],ah g5 28 #[.int .i64 os,.slice B1 m1 d1,.slice B2 m2 d2,.slice B3 m3 d3,.int .i64 st],aI (.agg #[.int .i64 os,.slice B1 m1 d1,.slice B2 m2 d2,.slice B3 m3 d3,.int .i64 st]) b]) (fun kv _=>(intOf kv).toNat)
  case atStart=>exact⟨k5,b,os,st,_,_,_,_,_,_,_,_,_,hk5,rfl,Yv,nP,HST,dX.out⟩
  case round=>
   clear dX Yv nP HST;obtain⟨k,b,os,st,B1,m1,d1,B2,m2,d2,B3,m3,d3,hk,rfl,Yv,nP,HST,S⟩:=hrel;have HS:=af S;clear S
   by_cases hk0:0<k
   ·have aeV:(0:Int)<(k:Int):=by omega
    go_upto_region 7 with(fail)
    refine kG (σ:={p:Int×Int//(Lit.int .i64 p.2).wf=true}×((Option Addr×Nat×Nat)×(Option Addr×Nat×Nat)×(Option Addr×Nat×Nat))×Nat)
     (fun s i=>match i with
      |0=>.agg #[.int .i64 os,.slice B1 m1 d1,.slice B2 m2 d2,.slice B3 m3 d3,.int .i64 st]
      |1=>.pointer (some ⟨g,0,none⟩)
      |2=>.agg #[.int .i64 os,.slice B1 m1 d1,.slice B2 m2 d2,.slice B3 m3 d3,.int .i64 st]
      |3=>.agg #[.int .i64 s.1.1.1,.int .i64 s.1.1.2]
      |4=>.tuple #[.agg #[.int .i64 (dY b ⟨s.1.1.1,s.1.1.2⟩).order.start,.slice s.2.1.1.1 s.2.1.1.2.1 s.2.1.1.2.2,.slice s.2.1.2.1.1 s.2.1.2.1.2.1 s.2.1.2.1.2.2,.slice s.2.1.2.2.1 s.2.1.2.2.2.1 s.2.1.2.2.2.2,.int .i64 (dY b ⟨s.1.1.1,s.1.1.2⟩).state],.bool (eY b ⟨s.1.1.1,s.1.1.2⟩)]
      |5=>.tuple #[.agg #[.int .i64 (dY b ⟨s.1.1.1,s.1.1.2⟩).order.start,.slice s.2.1.1.1 s.2.1.1.2.1 s.2.1.1.2.2,.slice s.2.1.2.1.1 s.2.1.2.1.2.1 s.2.1.2.1.2.2,.slice s.2.1.2.2.1 s.2.1.2.2.2.1 s.2.1.2.2.2.2,.int .i64 (dY b ⟨s.1.1.1,s.1.1.2⟩).state],.bool (eY b ⟨s.1.1.1,s.1.1.2⟩)]
      |6=>.agg #[.int .i64 (dY b ⟨s.1.1.1,s.1.1.2⟩).order.start,.slice s.2.1.1.1 s.2.1.1.2.1 s.2.1.1.2.2,.slice s.2.1.2.1.1 s.2.1.2.1.2.1 s.2.1.2.1.2.2,.slice s.2.1.2.2.1 s.2.1.2.2.2.1 s.2.1.2.2.2.2,.int .i64 (dY b ⟨s.1.1.1,s.1.1.2⟩).state]
      |7=>.bool (eY b ⟨s.1.1.1,s.1.1.2⟩)
      |8=>.pointer (some ⟨s.2.2,0,none⟩)
      |10=>.bool (eY b ⟨s.1.1.1,s.1.1.2⟩)
      |_=>undef)
     (fun D s wy=>Sn w wy fun i=>match i with
      |0=>some (fG w g (if D 3=true then hi+210+8*(19-k)+8 else hi+210+8*(19-k)))
      |1=>some (X)
      |2=>some (ah r 28 #[.int .i64 0,.slice none 0 0,.slice none 0 0,.slice none 0 0,.int .i64 0])
      |3=>some (ah g5 28 #[.int .i64 os,.slice B1 m1 d1,.slice B2 m2 d2,.slice B3 m3 d3,.int .i64 st])
      |4=>some (aI (.agg #[.int .i64 os,.slice B1 m1 d1,.slice B2 m2 d2,.slice B3 m3 d3,.int .i64 st]) b)
      |5=>if D 8=true then some (ah s.2.2 28 (if D 9=true then #[.int .i64 (dY b ⟨s.1.1.1,s.1.1.2⟩).order.start,.slice s.2.1.1.1 s.2.1.1.2.1 s.2.1.1.2.2,.slice s.2.1.2.1.1 s.2.1.2.1.2.1 s.2.1.2.1.2.2,.slice s.2.1.2.2.1 s.2.1.2.2.2.1 s.2.1.2.2.2.2,.int .i64 (dY b ⟨s.1.1.1,s.1.1.2⟩).state] else #[.int .i64 0,.slice none 0 0,.slice none 0 0,.slice none 0 0,.int .i64 0])) else none
      |6=>if D 4=true then some (aI (.agg #[.int .i64 (dY b ⟨s.1.1.1,s.1.1.2⟩).order.start,.slice s.2.1.1.1 s.2.1.1.2.1 s.2.1.1.2.2,.slice s.2.1.2.1.1 s.2.1.2.1.2.1 s.2.1.2.1.2.2,.slice s.2.1.2.2.1 s.2.1.2.2.2.1 s.2.1.2.2.2.2,.int .i64 (dY b ⟨s.1.1.1,s.1.1.2⟩).state]) (dY b ⟨s.1.1.1,s.1.1.2⟩)) else none
      |_=>none)
     (⟨(0,0),by decide⟩,((none,0,0),(none,0,0),(none,0,0)),0) ?_ ?_ ?_
    ·intro D hD;refine((Sn.dN HS.out).quiet ((ai _ _).drew)).congr fun i=>?_
     match i with
     |0=>simp only[hD 3 (by decide)];rfl
     |1 | 2 | 3 | 4=>rfl
     |5=>simp only[hD 8 (by decide)];rfl
     |6=>simp only[hD 4 (by decide)];rfl
     |q+7=>rfl
    ·refine Cs (fun D s wy hR _ hd _ _ hs K hK=>?_) ?_
     ·have e5:=hs.o 5 (.pointer (some ⟨g5,0,none⟩));clear hs;have qk:=(hR.blk 3 rfl).cell;go_simp;exact hK s wy sv hR
     refine Cs (fun D s wy hR _ hd _ _ hs K hK=>?_) ?_
     ·have e0:=hs.o 0 (.pointer (some ⟨g,0,none⟩));clear hs;go_simp;exact hK s wy sv hR
     refine Cs (fun D s wy hR _ hd _ _ hs K hK=>?_) ?_
     ·have e5:=hs.o 5 (.pointer (some ⟨g5,0,none⟩));clear hs;have qk:=(hR.blk 3 rfl).cell;go_simp;exact hK s wy sv hR
     refine Cs (fun D s wy hR (hDi:D 3=false) hd hsh _ hs K hK=>?_) ?_
     ·have e28:=hs.v 1 28 hd;have e29:=hs.v 2 29 hd;have g28:=aX e28;have g29:=aX e29;clear hs;have n4:D 4=false:=hsh.no hDi 4 rfl ⟨3,.data⟩ (by simp) rfl rfl;have n5:D 5=false:=hsh.no n4 5 rfl ⟨4,.data⟩ (by simp) rfl rfl;have n6:D 6=false:=hsh.no n5 6 rfl ⟨5,.data⟩ (by simp) rfl rfl;have n7:D 7=false:=hsh.no n5 7 rfl ⟨5,.data⟩ (by simp) rfl rfl;have n9:D 9=false:=hsh.no n6 9 rfl ⟨6,.data⟩ (by simp) rfl rfl;have n10:D 10=false:=hsh.no n7 10 rfl ⟨7,.data⟩ (by simp) rfl rfl;go_simp
      cases h8:D 8 with
      |true=>
       have s1:St w wy (fG w g (hi+210+8*(19-k))::[X,ah r 28 #[.int .i64 0,.slice none 0 0,.slice none 0 0,.slice none 0 0,.int .i64 0],ah g5 28 #[.int .i64 os,.slice B1 m1 d1,.slice B2 m2 d2,.slice B3 m3 d3,.int .i64 st],aI (.agg #[.int .i64 os,.slice B1 m1 d1,.slice B2 m2 d2,.slice B3 m3 d3,.int .i64 st]) b,ah s.2.2 28 #[.int .i64 0,.slice none 0 0,.slice none 0 0,.slice none 0 0,.int .i64 0]]):=hR.eG [0,1,2,3,4,5] (by decide) (by simp only[List.map,hDi,n9,h8]<;>rfl);refine(Gm s1 (by omega) 3 rfl).mono ?_;rintro e2 w2 ⟨ak,am,rfl,hak,ham,s2⟩
       refine hK (⟨(ak,am),bU (by simp only;omega)⟩,s.2) w2
        (fun j hj=>by
         match j,hj with
         |0,hj | 1,hj | 2,hj=>rfl
         |3,hj=>rw[hDi] at hj;cases hj
         |4,hj=>rw[n4] at hj;cases hj
         |5,hj=>rw[n5] at hj;cases hj
         |6,hj=>rw[n6] at hj;cases hj
         |7,hj=>rw[n7] at hj;cases hj
         |8,hj=>rfl
         |9,hj=>rw[n9] at hj;cases hj
         |10,hj=>rw[n10] at hj;cases hj
         |_+11,hj=>rfl)
        ((Sn.dN s2).congr (fun i=>by
         match i with
         |0 | 1 | 2 | 3 | 4=>rfl
         |5=>(show(if D 8=true then some (ah _ _ (if D 9=true then _ else _)) else none)=_;rw[h8,n9]<;>rfl)
         |6=>(show(if D 4=true then _ else none)=none;rw[n4];rfl)
         |q+7=>rfl))
      |false=>
       have s1:St w wy (fG w g (hi+210+8*(19-k))::[X,ah r 28 #[.int .i64 0,.slice none 0 0,.slice none 0 0,.slice none 0 0,.int .i64 0],ah g5 28 #[.int .i64 os,.slice B1 m1 d1,.slice B2 m2 d2,.slice B3 m3 d3,.int .i64 st],aI (.agg #[.int .i64 os,.slice B1 m1 d1,.slice B2 m2 d2,.slice B3 m3 d3,.int .i64 st]) b]):=hR.eG [0,1,2,3,4] (by decide) (by simp only[List.map,hDi,n9,h8]<;>rfl);refine(Gm s1 (by omega) 3 rfl).mono ?_;rintro e2 w2 ⟨ak,am,rfl,hak,ham,s2⟩
       refine hK (⟨(ak,am),bU (by simp only;omega)⟩,s.2) w2
        (fun j hj=>by
         match j,hj with
         |0,hj | 1,hj | 2,hj=>rfl
         |3,hj=>rw[hDi] at hj;cases hj
         |4,hj=>rw[n4] at hj;cases hj
         |5,hj=>rw[n5] at hj;cases hj
         |6,hj=>rw[n6] at hj;cases hj
         |7,hj=>rw[n7] at hj;cases hj
         |8,hj=>rfl
         |9,hj=>rw[n9] at hj;cases hj
         |10,hj=>rw[n10] at hj;cases hj
         |_+11,hj=>rfl)
        ((Sn.dN s2).congr (fun i=>by
         match i with
         |0 | 1 | 2 | 3 | 4=>rfl
         |5=>(show(if D 8=true then some (ah _ _ (if D 9=true then _ else _)) else none)=_;rw[h8,n9]<;>rfl)
         |6=>(show(if D 4=true then _ else none)=none;rw[n4];rfl)
         |q+7=>rfl))
     refine Cs (fun D s wy hR (hDi:D 4=false) hd hsh _ hs K hK=>?_) ?_
     ·have e27:=hs.v 0 27 hd;have e30:=hs.v 3 30 hd;have g27:=aX e27;have g30:=aX e30;clear hs;have n5:D 5=false:=hsh.no hDi 5 rfl ⟨4,.data⟩ (by simp) rfl rfl;have n6:D 6=false:=hsh.no n5 6 rfl ⟨5,.data⟩ (by simp) rfl rfl;have n7:D 7=false:=hsh.no n5 7 rfl ⟨5,.data⟩ (by simp) rfl rfl;have n9:D 9=false:=hsh.no n6 9 rfl ⟨6,.data⟩ (by simp) rfl rfl;have n10:D 10=false:=hsh.no n7 10 rfl ⟨7,.data⟩ (by simp) rfl rfl;go_simp;refine(uy _ b s.1.1.1 s.1.1.2 _ (hR.CX 4 rfl) s.1.2).mono ?_;rintro e2 w2 ⟨v2,rfl,s2⟩;obtain⟨A1,n1,c1,A2,n2,c2,A3,n3,c3,hv⟩:=s2.gU 0 rfl;subst hv
      refine hK (s.1,((A1,n1,c1),(A2,n2,c2),(A3,n3,c3)),s.2.2) w2
       (fun j hj=>by
        match j,hj with
        |0,hj | 1,hj | 2,hj | 3,hj=>rfl
        |4,hj=>rw[hDi] at hj;cases hj
        |5,hj=>rw[n5] at hj;cases hj
        |6,hj=>rw[n6] at hj;cases hj
        |7,hj=>rw[n7] at hj;cases hj
        |8,hj=>rfl
        |9,hj=>rw[n9] at hj;cases hj
        |10,hj=>rw[n10] at hj;cases hj
        |_+11,hj=>rfl)
       ((hR.add 6 (if_neg (by rw[hDi];simp)) s2).congr
        (fun i=>by
         match i with
         |0 | 1 | 2 | 3 | 4=>rfl
         |5=>(show(if D 8=true then some (ah _ _ (if D 9=true then _ else _)) else none)=(if D 8=true then some (ah _ _ (if D 9=true then _ else _)) else none);rw[n9]<;>rfl)
         |6=>rfl
         |q+7=>exact(if_neg (show¬(q+7=6) by omega)).symm))
     refine Cs (fun D s wy hR _ hd _ _ hs K hK=>?_) ?_
     ·have e31:=hs.v 4 31 hd;clear hs;go_simp;exact hK s wy sv hR
     refine Cs (fun D s wy hR _ hd _ _ hs K hK=>?_) ?_
     ·have e26:=hs.v 5 26 hd;clear hs;go_simp;exact hK s wy sv hR
     refine Cs (fun D s wy hR _ hd _ _ hs K hK=>?_) ?_
     ·have e26:=hs.v 5 26 hd;clear hs;go_simp;exact hK s wy sv hR
     refine Cs (fun D s wy hR (hDi:D 8=false) hd hsh _ hs K hK=>?_) ?_
     ·clear hs;have n9:D 9=false:=hsh.no hDi 9 rfl ⟨8,.data⟩ (by simp) rfl rfl;go_simp
      refine hK (s.1,s.2.1,wy.heap.size) _
       (fun j hj=>by
        match j,hj with
        |0,hj | 1,hj | 2,hj | 3,hj | 4,hj | 5,hj | 6,hj | 7,hj=>rfl
        |8,hj=>rw[hDi] at hj;cases hj
        |9,hj | 10,hj=>rfl
        |_+11,hj=>rfl)
       ((hR.add 5 (if_neg (by rw[hDi];simp)) (St.new1 wy #[.int .i64 0,.slice none 0 0,.slice none 0 0,.slice none 0 0,.int .i64 0] 28)).congr
        (fun i=>by
         match i with
         |0 | 1 | 2 | 3 | 4=>rfl
         |5=>(show some (ah _ _ (if D 9=true then _ else _))=some (ah _ _ _);rw[n9]<;>rfl)
         |6=>rfl
         |q+7=>exact(if_neg (show¬(q+7=5) by omega)).symm))
     refine Cs (fun D s wy hR (hDi:D 9=false) hd _ _ hs K hK=>?_) ?_
     ·have e7:=hs.v 8 7 hd;have e32:=hs.v 6 32 hd;clear hs;have dA:D 8=true:=hd ⟨8,.data⟩ (by simp) rfl;have kb:fU wy s.2.2 28 #[.int .i64 0,.slice none 0 0,.slice none 0 0,.slice none 0 0,.int .i64 0]:=hR.blk 5 (by simp only[dA,hDi]<;>rfl);have f0:=kb.frozen;have qk:=kb.cell;go_simp
      exact hK s _ sv ((hR.fF 5 (by simp only[dA,hDi];rfl) _ _ _ _ _).congr
       (fun i=>by
        match i with
        |0 | 1 | 2 | 3 | 4=>rfl
        |5=>(show(if D 8=true then some (ah _ _ _) else none)=some (ah _ _ _);rw[dA];rfl)
        |6=>rfl
        |q+7=>exact(if_neg (show¬(q+7=5) by omega)).symm))
     refine Cs (fun D s wy hR _ hd _ _ hs K hK=>?_) ?_
     ·have e33:=hs.v 7 33 hd;clear hs;go_simp;exact hK s wy sv hR
     exact aj.nil
    ·intro D s wy hR hD;simp only[eH,Act.put,aO,aU,aW];obtain⟨⟨⟨ak,am⟩,haw⟩,⟨⟨N1,e1,u1⟩,⟨N2,e2,u2⟩,⟨N3,e3,u3⟩⟩,g7⟩:=s;obtain⟨nb,hnb⟩:∃x,dY b ⟨ak,am⟩=x:=⟨_,rfl⟩;obtain⟨did,wE⟩:∃x,eY b ⟨ak,am⟩=x:=⟨_,rfl⟩;obtain⟨ns,hns⟩:∃x,nb.order.start=x:=⟨_,rfl⟩;obtain⟨nt,hnt⟩:∃x,nb.state=x:=⟨_,rfl⟩;have Q9:=Bx.mk hns;have Rf:=Bx.mk hnt;have adu:Bx (BI nb):=Bx.mk (hnb▸Yv.out.WE _);have uo:=hR.eG [0,1,2,3,4,6,5] (L:=[fG w g (hi+210+8*(19-k)+8),X,ah r 28 #[.int .i64 0,.slice none 0 0,.slice none 0 0,.slice none 0 0,.int .i64 0],ah g5 28 #[.int .i64 os,.slice B1 m1 d1,.slice B2 m2 d2,.slice B3 m3 d3,.int .i64 st],aI (.agg #[.int .i64 os,.slice B1 m1 d1,.slice B2 m2 d2,.slice B3 m3 d3,.int .i64 st]) b,aI (.agg #[.int .i64 (dY b ⟨ak,am⟩).order.start,.slice N1 e1 u1,.slice N2 e2 u2,.slice N3 e3 u3,.int .i64 (dY b ⟨ak,am⟩).state]) (dY b ⟨ak,am⟩),ah g7 28 #[.int .i64 (dY b ⟨ak,am⟩).order.start,.slice N1 e1 u1,.slice N2 e2 u2,.slice N3 e3 u3,.int .i64 (dY b ⟨ak,am⟩).state]]) (by decide) (by simp only[List.map,hD 3 (by decide),hD 4 (by decide),hD 8 (by decide),hD 9 (by decide)]<;>rfl);simp only[hnb,hns,hnt] at uo;have je:=af uo;simp only[hnb,wE,hns,hnt];clear hR hD HS uo hnb wE hns hnt;have q7:=je.out.cells 3 rfl;have q8:=je.out.cells 6 rfl;have f7:=je.out.free 3 rfl
     cases did with
     |false=>
      have nJ:Hid (St w wy [fG w g (hi+210+8*(19-k)+8),X,ah r 28 #[.int .i64 0,.slice none 0 0,.slice none 0 0,.slice none 0 0,.int .i64 0],ah g5 28 #[.int .i64 os,.slice B1 m1 d1,.slice B2 m2 d2,.slice B3 m3 d3,.int .i64 st],aI (.agg #[.int .i64 os,.slice B1 m1 d1,.slice B2 m2 d2,.slice B3 m3 d3,.int .i64 st]) b]):=af (je.out.pick [0,1,2,3,4] (by decide) rfl rfl);go_wp2
      go_roundw
      case rel=>exact⟨k-1,b,os,st,_,_,_,_,_,_,_,_,_,by omega,by go_num,Yv,nP,HST,nJ.out.more (by omega)⟩
      case measure=>simp[intOf];omega
     |true=>
      have nJ:Hid (St w (((((wy.setCell ⟨g5,0,none⟩ (.int .i64 ns)).setCell ⟨g5,1,none⟩ (.slice N1 e1 u1)).setCell ⟨g5,2,none⟩ (.slice N2 e2 u2)).setCell ⟨g5,3,none⟩ (.slice N3 e3 u3)).setCell ⟨g5,4,none⟩ (.int .i64 nt)) [fG w g (hi+210+8*(19-k)+8),X,ah r 28 #[.int .i64 0,.slice none 0 0,.slice none 0 0,.slice none 0 0,.int .i64 0],ah g5 28 #[.int .i64 ns,.slice N1 e1 u1,.slice N2 e2 u2,.slice N3 e3 u3,.int .i64 nt],aI (.agg #[.int .i64 ns,.slice N1 e1 u1,.slice N2 e2 u2,.slice N3 e3 u3,.int .i64 nt]) nb]):=af ((je.out.fF 3 rfl (.int .i64 ns) (.slice N1 e1 u1) (.slice N2 e2 u2) (.slice N3 e3 u3) (.int .i64 nt)).pick [0,1,2,3,5] (by decide) rfl rfl);go_wp2
      go_roundw
      case rel=>exact⟨k-1,nb,ns,nt,_,_,_,_,_,_,_,_,_,by omega,by go_num,adu,Q9,Rf,nJ.out.more (by omega)⟩
      case measure=>simp[intOf];omega
   ·obtain rfl:k=0:=by omega
    obtain⟨hbs,hbd,yt⟩:=Yv.out.bd;rw[HST.out] at hbs;rw[nP.out] at yt
    go_wp2_with fail
    refine(rW HS.out (by omega) n).mono ?_;rintro e w6 ⟨bo,rfl,s6⟩;have jB:Hid (St w w6 [fG w g (hi+370),X,ah r 28 #[.int .i64 0,.slice none 0 0,.slice none 0 0,.slice none 0 0,.int .i64 0],ah g5 28 #[.int .i64 os,.slice B1 m1 d1,.slice B2 m2 d2,.slice B3 m3 d3,.int .i64 st],aI (.agg #[.int .i64 os,.slice B1 m1 d1,.slice B2 m2 d2,.slice B3 m3 d3,.int .i64 st]) b]):=af (s6.more (by omega));clear s6 HS
    cases bo with
    |false=>
     have qa:=jB.out.cells 3 rfl;have qb:=jB.out.cells 2 rfl;have fb:=jB.out.free 2 rfl;go_wp2;refine bodyPost_ret (v:=.agg #[.int .i64 os,.slice B1 m1 d1,.slice B2 m2 d2,.slice B3 m3 d3,.int .i64 st]) (by simp[results,Tryz.results42,go_sem,qb]) rfl ⟨_,b,rfl,?_⟩;exact((jB.out.fF 2 rfl _ _ _ _ _).pick (L':=[fG w g (hi+370),X,aI (.agg #[.int .i64 os,.slice B1 m1 d1,.slice B2 m2 d2,.slice B3 m3 d3,.int .i64 st]) b]) [0,1,4] (by decide) rfl rfl).more (by omega)
    |true=>
     go_wp2_with fail
     refine(dQ jB.out (by omega) 4).mono ?_;rintro e w7 ⟨y,rfl,⟨y1,y2,-⟩,s7⟩;have y3:=y2 (by omega);have je:Hid (St w w7 [fG w g (hi+371),X,ah r 28 #[.int .i64 0,.slice none 0 0,.slice none 0 0,.slice none 0 0,.int .i64 0],ah g5 28 #[.int .i64 os,.slice B1 m1 d1,.slice B2 m2 d2,.slice B3 m3 d3,.int .i64 st],aI (.agg #[.int .i64 os,.slice B1 m1 d1,.slice B2 m2 d2,.slice B3 m3 d3,.int .i64 st]) b]):=af s7;have q7:=je.out.cells 3 rfl;have f7:=je.out.free 3 rfl;clear s7 jB y2
     by_cases hy0:y=0
     ·subst hy0
      go_wp2_with fail
      refine(AP st 1 hbs.1 (by omega) (by omega) (by omega) _).mono ?_;rintro e w8 ⟨rfl,rfl⟩;obtain⟨z,hz⟩:∃z,(st.toNat^^^(1:Int).toNat)=z:=⟨_,rfl⟩
      have aeW:z<64:=by
       rw[←hz];exact Nat.xor_lt_two_pow (n:=6) (by omega) (by decide)
      rw[hz];have hzw:(Lit.int .i64 (z:Int)).wf=true:=bU (by omega);clear hz
      go_upto_region 19 with(fail)
      have nJ:Hid (St w (w7.setCell ⟨g5,4,none⟩ (.int .i64 (z:Int))) [fG w g (hi+371),X,ah r 28 #[.int .i64 0,.slice none 0 0,.slice none 0 0,.slice none 0 0,.int .i64 0],ah g5 28 #[.int .i64 os,.slice B1 m1 d1,.slice B2 m2 d2,.slice B3 m3 d3,.int .i64 (z:Int)],aI (.agg #[.int .i64 os,.slice B1 m1 d1,.slice B2 m2 d2,.slice B3 m3 d3,.int .i64 st]) b]):=af (je.out.set 3 rfl 4 _);have fP:Hid (St w (w7.setCell ⟨g5,4,none⟩ (.int .i64 (z:Int))) [fG w g (hi+371),X,ah r 28 #[.int .i64 0,.slice none 0 0,.slice none 0 0,.slice none 0 0,.int .i64 0],ah g5 28 #[.int .i64 os,.slice B1 m1 d1,.slice B2 m2 d2,.slice B3 m3 d3,.int .i64 (z:Int)],aI (.agg #[.int .i64 os,.slice B1 m1 d1,.slice B2 m2 d2,.slice B3 m3 d3,.int .i64 (z:Int)]) ⟨b.order,b.done,(z:Int)⟩]):=af (((((nJ.out.bring 4 rfl).Dj).book' nP.out (by omega) hzw).perm (show List.Perm _ [fG w g (hi+371),X,ah r 28 #[.int .i64 0,.slice none 0 0,.slice none 0 0,.slice none 0 0,.int .i64 0],ah g5 28 #[.int .i64 os,.slice B1 m1 d1,.slice B2 m2 d2,.slice B3 m3 d3,.int .i64 (z:Int)],aI (.agg #[.int .i64 os,.slice B1 m1 d1,.slice B2 m2 d2,.slice B3 m3 d3,.int .i64 (z:Int)]) ⟨b.order,b.done,(z:Int)⟩] from List.perm_append_comm (l₁:=[_]) (l₂:=[_,_,_,_]))));clear je nJ q7 f7;obtain⟨w9,hw9⟩:∃x,w7.setCell ⟨g5,4,none⟩ (.int .i64 (z:Int))=x:=⟨_,rfl⟩;rw[hw9] at fP ⊢
      clear hw9;have qa:=fP.out.cells 3 rfl;have qb:=fP.out.cells 2 rfl;have fb:=fP.out.free 2 rfl;go_wp2;refine bodyPost_ret (v:=.agg #[.int .i64 os,.slice B1 m1 d1,.slice B2 m2 d2,.slice B3 m3 d3,.int .i64 (z:Int)]) (by simp[results,Tryz.results42,go_sem,qb]) rfl ⟨_,⟨b.order,b.done,(z:Int)⟩,rfl,?_⟩;exact((fP.out.fF 2 rfl _ _ _ _ _).pick (L':=[fG w g (hi+371),X,aI (.agg #[.int .i64 os,.slice B1 m1 d1,.slice B2 m2 d2,.slice B3 m3 d3,.int .i64 (z:Int)]) ⟨b.order,b.done,(z:Int)⟩]) [0,1,4] (by decide) rfl rfl).more (by omega)
     have hy0':(y == 0)=false:=by simpa using hy0
     by_cases hy1:y=1
     ·subst hy1;clear hy0 hy0';have hm3:m3=b.done.length:=((je.out.CX 4 rfl).done).1.len.symm;have zF:=af hm3;have aeH:m3≤40:=by omega
      clear hm3;have SU:=((je.out.bring 4 rfl).Dj);have ZJ:Hid (St w (w7.alloc (.cells #[.int .i64 6] 3)) [lI (.agg #[.int .i64 os,.slice B1 m1 d1,.slice B2 m2 d2]) b.order,ax (.slice B3 m3 d3) b.done,fG w g (hi+371),X,ah r 28 #[.int .i64 0,.slice none 0 0,.slice none 0 0,.slice none 0 0,.int .i64 0],ah g5 28 #[.int .i64 os,.slice B1 m1 d1,.slice B2 m2 d2,.slice B3 m3 d3,.int .i64 st]]):=af ((SU.alloc #[.int .i64 6] 3).pick [0,1,2,3,4,5] (by decide) rfl rfl);have HO:Hid (w7.ownsRow 0 3 1 (.slice B3 m3 d3) m3 (ints b.done)):=af (by have:=SU.qA 1 rfl;rw[←zF.out] at this;exact this);clear SU
      go_upto_region 16 with(fail)
      go_wp2_with (at_builtin;refine cZ iR rfl _ _ rfl 0 (.slice B3 m3 d3) m3 (ints b.done) rfl (HO.out.alloc _) _ _ 1 1 [.int .i64 6] rfl (bJ.new w7 [.int .i64 6] 3 1 1 rfl (by unfold maxLen;omega)) (by simp[Value.oneCell']) (by omega) (by omega) (Nat.zero_le _) ?_;intro v8 w8 yx NV KG;obtain⟨A8,c8,Ub⟩:=dR yx;subst Ub;have nJ:Hid (St w w8 [lI (.agg #[.int .i64 os,.slice B1 m1 d1,.slice B2 m2 d2]) b.order,ax (.slice A8 (m3+1) c8) (b.done++[6]),fG w g (hi+371),X,ah r 28 #[.int .i64 0,.slice none 0 0,.slice none 0 0,.slice none 0 0,.int .i64 0],ah g5 28 #[.int .i64 os,.slice B1 m1 d1,.slice B2 m2 d2,.slice B3 m3 d3,.int .i64 st]]):=af (ZJ.out.rY (ys:=[6]) 1 rfl (by rw[zF.out];rfl) yx (by decide) NV KG);have q8:w8.cell? ⟨g5,3,none⟩=some (.slice B3 m3 d3):=nJ.out.cells 5 rfl 3;have f8:=nJ.out.free 5 rfl;have fP:Hid (St w (w8.setCell ⟨g5,3,none⟩ (.slice A8 (m3+1) c8)) [fG w g (hi+371),X,ah r 28 #[.int .i64 0,.slice none 0 0,.slice none 0 0,.slice none 0 0,.int .i64 0],ah g5 28 #[.int .i64 os,.slice B1 m1 d1,.slice B2 m2 d2,.slice A8 (m3+1) c8,.int .i64 st],aI (.agg #[.int .i64 os,.slice B1 m1 d1,.slice B2 m2 d2,.slice A8 (m3+1) c8,.int .i64 st]) ⟨b.order,b.done++[6],st⟩]):=af (((nJ.out.set 5 rfl 3 (.slice A8 (m3+1) c8)).book' nP.out (by simp;omega) (bU (by omega))).perm (show List.Perm _ [fG w g (hi+371),X,ah r 28 #[.int .i64 0,.slice none 0 0,.slice none 0 0,.slice none 0 0,.int .i64 0],ah g5 28 #[.int .i64 os,.slice B1 m1 d1,.slice B2 m2 d2,.slice A8 (m3+1) c8,.int .i64 st],aI (.agg #[.int .i64 os,.slice B1 m1 d1,.slice B2 m2 d2,.slice A8 (m3+1) c8,.int .i64 st]) ⟨b.order,b.done++[6],st⟩] from List.perm_append_comm (l₁:=[_]) (l₂:=[_,_,_,_])));have qa:∀j,(w8.setCell ⟨g5,3,none⟩ (.slice A8 (m3+1) c8)).cell? ⟨g5,j,none⟩=_:=fP.out.cells 3 rfl;have qb:∀j,(w8.setCell ⟨g5,3,none⟩ (.slice A8 (m3+1) c8)).cell? ⟨r,j,none⟩=_:=fP.out.cells 2 rfl;have fb:=fP.out.free 2 rfl;clear yx NV KG ZJ HO nJ)
      refine bodyPost_ret (v:=.agg #[.int .i64 os,.slice B1 m1 d1,.slice B2 m2 d2,.slice A8 (m3+1) c8,.int .i64 st]) (by simp[results,Tryz.results42,go_sem,qb]) rfl ⟨_,⟨b.order,b.done++[6],st⟩,rfl,?_⟩;exact((fP.out.fF 2 rfl _ _ _ _ _).pick (L':=[fG w g (hi+371),X,aI (.agg #[.int .i64 os,.slice B1 m1 d1,.slice B2 m2 d2,.slice A8 (m3+1) c8,.int .i64 st]) ⟨b.order,b.done++[6],st⟩]) [0,1,4] (by decide) rfl rfl).more (by omega)
     have hy1':(y == 1)=false:=by simpa using hy1
     by_cases hy2:y=2
     ·subst hy2;clear hy0 hy0' hy1 hy1';have qb:=je.out.cells 2 rfl;have fb:=je.out.free 2 rfl;go_wp2;refine bodyPost_ret (v:=.agg #[.int .i64 0,.slice none 0 0,.slice none 0 0,.slice none 0 0,.int .i64 0]) (by simp[results,Tryz.results42,go_sem,qb]) rfl ⟨_,oG,rfl,?_⟩;exact(((je.out.fF 2 rfl _ _ _ _ _).call (St.book0 (ai _ _))).pick (L':=[fG w g (hi+371),X,aI (.agg #[.int .i64 0,.slice none 0 0,.slice none 0 0,.slice none 0 0,.int .i64 0]) oG]) [0,1,5] (by decide) rfl rfl).more (by omega)
     have aeX:(y == 2)=false:=by simpa using hy2
     clear hy0 hy1 hy2;obtain⟨gg,hgg⟩:∃x,w7.heap.size=x:=⟨_,rfl⟩;have SU:=(((je.out.bring 4 rfl).Dj).ZK);have ZJ:Hid (St w (w7.alloc (.cells #[] 3)) [ax (.slice (some ⟨gg,0,none⟩) 0 0) [],fD (.slice B2 m2 d2) b.order.ay,ax (.slice B3 m3 d3) b.done,fG w g (hi+371),X,ah r 28 #[.int .i64 0,.slice none 0 0,.slice none 0 0,.slice none 0 0,.int .i64 0],ah g5 28 #[.int .i64 os,.slice B1 m1 d1,.slice B2 m2 d2,.slice B3 m3 d3,.int .i64 st]]):=af ((SU.call (St.yA w7 gg hgg.symm)).pick [7,1,2,3,4,5,6] (by decide) rfl rfl);clear SU;have q8:=ZJ.out.cells 6 rfl;have f8:=ZJ.out.free 6 rfl
     go_upto_region 19 with(fail)
     try rw[hgg]
     have T1:St w ((w7.alloc (.cells #[] 3)).setCell ⟨g5,1,none⟩ (.slice (some ⟨gg,0,none⟩) 0 0)) (lI (.agg #[.int .i64 os,.slice (some ⟨gg,0,none⟩) 0 0,.slice B2 m2 d2]) ⟨os,[],b.order.ay⟩::ax (.slice B3 m3 d3) b.done::[fG w g (hi+371),X,ah r 28 #[.int .i64 0,.slice none 0 0,.slice none 0 0,.slice none 0 0,.int .i64 0],ah g5 28 #[.int .i64 os,.slice (some ⟨gg,0,none⟩) 0 0,.slice B2 m2 d2,.slice B3 m3 d3,.int .i64 st]]):=(ZJ.out.set 6 rfl 1 (.slice (some ⟨gg,0,none⟩) 0 0)).task (by simp) (bU (by omega));have T2:=T1.book' (o:=⟨os,[],b.order.ay⟩) (done:=b.done) (st:=st) rfl (by omega) (bU (by omega));have fP:Hid (St w ((w7.alloc (.cells #[] 3)).setCell ⟨g5,1,none⟩ (.slice (some ⟨gg,0,none⟩) 0 0)) [fG w g (hi+371),X,ah r 28 #[.int .i64 0,.slice none 0 0,.slice none 0 0,.slice none 0 0,.int .i64 0],ah g5 28 #[.int .i64 os,.slice (some ⟨gg,0,none⟩) 0 0,.slice B2 m2 d2,.slice B3 m3 d3,.int .i64 st],aI (.agg #[.int .i64 os,.slice (some ⟨gg,0,none⟩) 0 0,.slice B2 m2 d2,.slice B3 m3 d3,.int .i64 st]) ⟨⟨os,[],b.order.ay⟩,b.done,st⟩]):=af (T2.perm (show List.Perm _ [fG w g (hi+371),X,ah r 28 #[.int .i64 0,.slice none 0 0,.slice none 0 0,.slice none 0 0,.int .i64 0],ah g5 28 #[.int .i64 os,.slice (some ⟨gg,0,none⟩) 0 0,.slice B2 m2 d2,.slice B3 m3 d3,.int .i64 st],aI (.agg #[.int .i64 os,.slice (some ⟨gg,0,none⟩) 0 0,.slice B2 m2 d2,.slice B3 m3 d3,.int .i64 st]) ⟨⟨os,[],b.order.ay⟩,b.done,st⟩] from List.perm_append_comm (l₁:=[_]) (l₂:=[_,_,_,_])));clear T1 T2;clear je ZJ q7 f7 q8 f8 hgg;obtain⟨w9,hw9⟩:∃x,(w7.alloc (.cells #[] 3)).setCell ⟨g5,1,none⟩ (.slice (some ⟨gg,0,none⟩) 0 0)=x:=⟨_,rfl⟩;rw[hw9] at fP ⊢
     clear hw9;have qa:=fP.out.cells 3 rfl;have qb:=fP.out.cells 2 rfl;have fb:=fP.out.free 2 rfl;go_wp2;refine bodyPost_ret (v:=.agg #[.int .i64 os,.slice (some ⟨gg,0,none⟩) 0 0,.slice B2 m2 d2,.slice B3 m3 d3,.int .i64 st]) (by simp[results,Tryz.results42,go_sem,qb]) rfl ⟨_,⟨⟨os,[],b.order.ay⟩,b.done,st⟩,rfl,?_⟩;exact((fP.out.fF 2 rfl _ _ _ _ _).pick (L':=[fG w g (hi+371),X,aI (.agg #[.int .i64 os,.slice (some ⟨gg,0,none⟩) 0 0,.slice B2 m2 d2,.slice B3 m3 d3,.int .i64 st]) ⟨⟨os,[],b.order.ay⟩,b.done,st⟩]) [0,1,4] (by decide) rfl rfl).more (by omega)
theorem NR {w W:World} {Rs:List dh} {g hi:Nat} (S:St w W (fG w g hi::Rs)) (hh:hi≤100000000000) (n:Int):
  Calls Tryz.prog 42 #[.pointer (some ⟨g,0,none⟩),.int .i64 n] W fun e w'=>∃v b,e= .returned v∧St w w' (fG w g (hi+400)::aI v b::Rs):=by
 refine(KF (St.pack (Rs:=[fG w g hi]) (L:=Rs) S) hh n).mono fun e w' ⟨v,b,h1,h2⟩=>⟨v,b,h1,?_⟩
 exact St.unpack (Rs:=[fG w g (hi+400),aI v b]) (L:=Rs) (h2.pick [0,2,1] (by decide) rfl rfl)
end Go.Proofs.YtkmcengmglgdeaaGreatDoor
