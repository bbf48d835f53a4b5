/- Joined texts: Copy, BookNew. -/
import Derived.Test.YtkmcengmglgdeaaGreatDoorSPush
import Derived.WalkSpells

namespace Go.Proofs.YtkmcengmglgdeaaGreatDoor
set_option linter.unusedVariables false
set_option linter.unusedSimpArgs false
set_option maxRecDepth 100000
set_option maxHeartbeats 8000000
open Go.ChangeShapes Go.WideShapes Go.ChangeAt Go.RowKit
theorem clone_any (A:Option Addr) (n c:Nat) (xs:List Int) (w:World) (h:jd .i64 w w.heap.size A n c xs) (hn:n≤1048576):
  Calls Tryz.prog 112 #[.slice A n c] w (Gives w id fun v=>[ax v xs]):=by
 have hl:=h.len;have hw:=h.wf
 cases A with
 |none=>
  have h0:n=0:=by
   rcases Nat.eq_zero_or_pos n with e | e
   ·exact e
   ·obtain⟨b,off,e,-⟩:=h.at_ e;cases e
  subst h0;have hx:xs=[]:=List.eq_nil_of_length_eq_zero hl;subst hx;have hnil:∀(w:World),(binOp .eql 23 (.slice none 0 c) (.slice none 0 0)).run Tryz.prog w= .ok (.bool true) w:=fun w=>Lib.run_eql_slice_nil w _ _ _ _ _ _ _ Tryz.underlying23
  go_enter Tryz.func112,Tryz.ntmps112;go_wp2;go_ret;exact⟨_,rfl,iw _ _ (ai _ _)⟩
 |some a=>
  have hol:(w.alloc (.cells #[] 3)).ownsRow w.heap.size 3 1 (.slice (some ⟨w.heap.size,0,none⟩) 0 0) 0 []:=World.ownsRow_lit w #[] 0 (aA _) (by unfold maxLen;omega) rfl;have hnil:∀(w:World),(binOp .eql 23 (.slice (some a) n c) (.slice none 0 0)).run Tryz.prog w= .ok (.bool false) w:=fun w=>Lib.run_eql_slice_nil w _ _ _ _ _ _ _ Tryz.underlying23
  have hr:=(h.below ((ai _ _).alloc (aA _) (.cells #[] 3))).row;have HW:=af hw;have HL:=af hl;clear hw hl;go_enter Tryz.func112,Tryz.ntmps112
  go_wp2_with (at_builtin;refine cZ iR rfl _ _ rfl w.heap.size _ 0 [] rfl hol w.heap.size (some a) n c (ints xs) rfl hr (gG _) (by omega) (by omega) (by simp) ?_;intro v2 w2 hown2 hg2 ug)
  go_ret;refine⟨v2,rfl,St.CG (F:=v2.ownBlock.toList) ⟨?_,HW.out,rfl⟩ (((ai _ _).alloc (aA _) (.cells #[] 3)).grown hg2 (by simp) (fun k hk=>by have:=(hol.lt k hk).1;omega))⟩;rw[HL.out]
  simpa using hown2
theorem St.zU (W:World) (g:Nat) (cs:Array Value) (t:TypeId) (hg:g=W.heap.size):St W (W.alloc (.cells cs t)) [ah g t cs]:=by subst hg;exact St.new1 W cs t
theorem take_succ' {α:Type} {l:List α} {k:Nat} {x:α} (h:l[k]? =some x):l.take (k+1)=l.take k++[x]:=by
 obtain⟨h1,h2⟩:=bI.1 h;rw[List.take_succ_eq_append_getElem h1,h2]
theorem IQ (v:Value) (t:aB) (w:World) (h:oW w w.heap.size v t):
  Calls Tryz.prog 111 #[v] w (Gives w id fun v'=>[lI v' t]):=by
 obtain⟨A,n,c,A',n',c',rfl,hg,hgs,hds,hst⟩:=h
 have S0:St w ((w.alloc (Obj.cells #[.int .i64 t.start,.slice A n c,.slice A' n' c'] 26)).alloc (Obj.cells #[.int .i64 0,.slice none 0 0,.slice none 0 0] 26)) [ah w.heap.size 26 #[.int .i64 t.start,.slice A n c,.slice A' n' c'],ah (w.heap.size+1) 26 #[.int .i64 0,.slice none 0 0,.slice none 0 0]]:=by
  have:=((St.refl w).alloc #[.int .i64 t.start,.slice A n c,.slice A' n' c'] 26).alloc #[.int .i64 0,.slice none 0 0,.slice none 0 0] 26
  simpa using this
 have HG:=af hg;have hgl:=hg.len;have HGL:=af hgl;have aS:=af S0;have hdl:=hds.len;have abp:=hds.small;have gy:=af hdl;clear S0 hg hgl hdl;go_enter Tryz.func111,Tryz.ntmps111
 go_upto_region 1 with(fail)
 go_cut [3] (fun s3 wx=>∃(T:Nat) (A2:Option Addr) (c2:Nat),s3= .pointer (some ⟨T,0,none⟩)∧St w wx [ah w.heap.size 26 #[.int .i64 t.start,.slice A n c,.slice A' n' c'],ah (w.heap.size+1) 26 #[.int .i64 0,.slice none 0 0,.slice none 0 0],ax (.slice A2 t.goal.length c2) t.goal,ah T 26 #[.int .i64 t.start,.slice A2 t.goal.length c2,.slice none 0 0]])
 case first=>
  refine kG (σ:=Option Addr×Nat×Nat×Nat)
   (fun s i=>match i with
    |0=>.pointer (some ⟨w.heap.size,0,none⟩)
    |1=>.int .i64 t.start
    |2=>.pointer (some ⟨w.heap.size,1,none⟩)
    |3=>.slice A n c
    |4=>.slice s.1 (t.goal).length s.2.1
    |5=>.agg #[.int .i64 t.start,.slice s.1 (t.goal).length s.2.1,.slice none 0 0]
    |6=>.pointer (some ⟨s.2.2.1,0,none⟩)
    |_=>undef)
   (fun D s wx=>Sn w wx fun i=>match i with
    |0=>some (ah w.heap.size 26 #[.int .i64 t.start,.slice A n c,.slice A' n' c'])
    |1=>some (ah (w.heap.size+1) 26 #[.int .i64 0,.slice none 0 0,.slice none 0 0])
    |2=>if D 4=true then some (ax (.slice s.1 (t.goal).length s.2.1) (t.goal)) else none
    |3=>if D 6=true then some (ah s.2.2.1 26 (if D 7=true then #[.int .i64 t.start,.slice s.1 (t.goal).length s.2.1,.slice none 0 0] else #[.int .i64 0,.slice none 0 0,.slice none 0 0])) else none
    |_=>none)
   (none,0,0,0) ?_ ?_ ?_
  ·intro D hD;refine((Sn.dN aS.out).quiet ((ai _ _).drew)).congr fun i=>?_
   match i with
   |0 | 1=>rfl
   |2=>simp only[hD 4 (by decide)];rfl
   |3=>simp only[hD 6 (by decide)];rfl
   |q+4=>rfl
  ·refine Cs (fun D s wx hR _ hd _ _ hs K hK=>?_) ?_
   ·have e1:=hs.o 1 (.pointer (some ⟨w.heap.size,0,none⟩));clear hs;go_simp;exact hK s wx sv hR
   refine Cs (fun D s wx hR _ hd _ _ hs K hK=>?_) ?_
   ·have e6:=hs.v 0 6 hd;clear hs;have qk:=(hR.blk 0 rfl).cell;go_simp;exact hK s wx sv hR
   refine Cs (fun D s wx hR _ hd _ _ hs K hK=>?_) ?_
   ·have e1:=hs.o 1 (.pointer (some ⟨w.heap.size,0,none⟩));clear hs;go_simp;exact hK s wx sv hR
   refine Cs (fun D s wx hR _ hd _ _ hs K hK=>?_) ?_
   ·have e8:=hs.v 2 8 hd;clear hs;have qk:=(hR.blk 0 rfl).cell;go_simp;exact hK s wx sv hR
   refine Cs (fun D s wx hR (hDi:D 4=false) hd hsh _ hs K hK=>?_) ?_
   ·have e9:=hs.v 3 9 hd;have g9:=aX e9;clear hs;have n5:D 5=false:=hsh.no hDi 5 rfl ⟨4,.data⟩ (by simp) rfl rfl;have n7:D 7=false:=hsh.no n5 7 rfl ⟨5,.data⟩ (by simp) rfl rfl;go_simp;refine(clone_any A n c t.goal _ (HG.out.up hR.below) hgs).mono ?_;rintro e w2 ⟨v2,rfl,s2⟩;obtain⟨A2,c2,hv,-⟩:=s2.uj 0 rfl;subst hv
    refine hK (A2,c2,s.2.2) w2
     (fun j hj=>by
      match j,hj with
      |0,hj | 1,hj | 2,hj | 3,hj=>rfl
      |4,hj=>rw[hDi] at hj;cases hj
      |5,hj=>rw[n5] at hj;cases hj
      |6,hj | 7,hj=>rfl
      |_+8,hj=>rfl)
     ((hR.add 2 (if_neg (by rw[hDi];simp)) s2).congr
      (fun i=>by
       match i with
       |0 | 1 | 2=>rfl
       |3=>(show(if D 6=true then some (ah _ _ (if D 7=true then _ else _)) else none)=(if D 6=true then some (ah _ _ (if D 7=true then _ else _)) else none);rw[n7];rfl)
       |q+4=>exact(if_neg (show¬(q+4=2) by omega)).symm))
   refine Cs (fun D s wx hR _ hd _ _ hs K hK=>?_) ?_
   ·have e7:=hs.v 1 7 hd;have e10:=hs.v 4 10 hd;have g7:=aX e7;have g10:=aX e10;clear hs;go_simp;exact hK s wx sv hR
   refine Cs (fun D s wx hR (hDi:D 6=false) hd hsh _ hs K hK=>?_) ?_
   ·clear hs;have n7:D 7=false:=hsh.no hDi 7 rfl ⟨6,.data⟩ (by simp) rfl rfl;go_simp
    refine hK (s.1,s.2.1,wx.heap.size,s.2.2.2) _
     (fun j hj=>by
      match j,hj with
      |0,hj | 1,hj | 2,hj | 3,hj | 4,hj | 5,hj=>rfl
      |6,hj=>rw[hDi] at hj;cases hj
      |7,hj=>rfl
      |_+8,hj=>rfl)
     ((hR.add 3 (if_neg (by rw[hDi];simp)) (St.new1 wx #[.int .i64 0,.slice none 0 0,.slice none 0 0] 26)).congr
      (fun i=>by
       match i with
       |0 | 1 | 2=>rfl
       |3=>(show some (ah _ _ (if D 7=true then _ else _))=some (ah _ _ _);rw[n7];rfl)
       |q+4=>exact(if_neg (show¬(q+4=3) by omega)).symm))
   refine Cs (fun D s wx hR (hDi:D 7=false) hd _ _ hs K hK=>?_) ?_
   ·have e3:=hs.v 6 3 hd;have e11:=hs.v 5 11 hd;clear hs;have dA:D 6=true:=hd ⟨6,.data⟩ (by simp) rfl;have kb:=hR.blk 3 (by simp only[dA,hDi];rfl);have f0:=kb.frozen;have c0:wx.cell? ⟨s.2.2.1,0,none⟩=some (.int .i64 0):=kb.cell 0;have c1:wx.cell? ⟨s.2.2.1,1,none⟩=some (.slice none 0 0):=kb.cell 1;have c2:wx.cell? ⟨s.2.2.1,2,none⟩=some (.slice none 0 0):=kb.cell 2;go_simp
    exact hK s _ sv ((hR.Um 3 (by simp only[dA,hDi];rfl) _ _ _).congr
     (fun i=>by
      match i with
      |0 | 1 | 2=>rfl
      |3=>(show(if D 6=true then some (ah _ _ _) else none)=some (ah _ _ _);rw[dA];rfl)
      |q+4=>exact(if_neg (show¬(q+4=3) by omega)).symm))
   exact aj.nil
  ·intro D s wx hR hD;simp only[eH,Act.put,aO,aU,aW]
   go_wp2_with fail
   go_meet
   exact⟨s.2.2.1,s.1,s.2.1,rfl,hR.eG [0,1,2,3] (by decide) (by simp only[List.map,hD 4 (by decide),hD 6 (by decide),hD 7 (by decide)];rfl)⟩
 case rest=>
  obtain⟨T,A2,c2,rfl,S2⟩:=hcut;rw[HGL.out] at S2;have S3:=(S2.call (Dl _ _ (ai _ _))).pick [4,0,1,2,3] (by decide) rfl rfl;have M0:=Sn.dN S3;have t2:wc.cell? ⟨w.heap.size,2,none⟩=some (.slice A' n' c'):=(M0.blk 1 rfl).cell 2;have CQ:=af M0;clear S2 S3 M0;go_wp2
  go_loopw [15] (fun i wr=>∃(k:Nat) (dv:Value),k≤n'∧i= .int .i64 k∧Sn w wr (fun q=>match q with
   |0=>some (fD dv (t.ay.take k))
   |1=>some (ah w.heap.size 26 #[.int .i64 t.start,.slice A n c,.slice A' n' c'])
   |2=>some (ah (w.heap.size+1) 26 #[.int .i64 0,.slice none 0 0,.slice none 0 0])
   |3=>some (ax (.slice A2 n c2) t.goal)
   |4=>some (ah T 26 #[.int .i64 t.start,.slice A2 n c2,dv])
   |_=>none)) (fun i _=>n'-(intOf i).toNat)
  case atStart=>
   refine⟨0,.slice none 0 0,by omega,rfl,CQ.out.congr fun i=>?_⟩
   match i with
   |0 | 1 | 2 | 3 | 4=>rfl
   |q+5=>rfl
  case round=>
   obtain⟨k,dv,hk,rfl,M⟩:=hrel
   by_cases hlt:k<n'
   ·obtain⟨b,off,d,rfl,hb,hd,hda⟩:=hds.get hlt;obtain⟨An,nn,cn,p0,p1,p2,p3,dU,hnn,hw1,hw2,hw3⟩:=hda;have r0:wr.cell? ⟨b,off+k*4,none⟩=some (.slice An nn cn):=(aF M.below b _ hb).trans p0;have r1:wr.cell? ⟨b,off+k*4+1,none⟩=some (.int .i64 d.on):=(aF M.below b _ hb).trans p1;have r2:wr.cell? ⟨b,off+k*4+2,none⟩=some (.int .i64 d.off):=(aF M.below b _ hb).trans p2;have r3:wr.cell? ⟨b,off+k*4+3,none⟩=some (.int .i64 d.flip):=(aF M.below b _ hb).trans p3;have um:=af (take_succ' hd);have OA:Hid ((t.ay.take k).length=k):=af (by rw[List.length_take,gy.out];omega);have hnl:=dU.len;have HNL:=af hnl;have HW:Hid (d.need.length≤1048576∧(Lit.int .i64 d.on).wf=true∧(Lit.int .i64 d.off).wf=true∧(Lit.int .i64 d.flip).wf=true):=af ⟨by omega,hw1,hw2,hw3⟩;have M1:=M.add 5 rfl (St.new1 wr #[.slice An nn cn,.int .i64 d.on,.int .i64 d.off,.int .i64 d.flip] 144);have HN:=af (dU.up M1.below);have WH:=af M1;have gd:=M.below.size;clear p0 p1 p2 p3 dU hd hnl M M1 hw1 hw2 hw3
    go_wp2_with fail
    refine(clone_any An nn cn d.need _ HN.out hnn).mono ?_;rintro e w2 ⟨v2,rfl,s2⟩;obtain⟨A3,c3,hv,-⟩:=s2.uj 0 rfl;rw[HNL.out] at hv;subst hv;have M2:=WH.out.add 6 rfl s2;have M3:=M2.set 5 rfl 0 (.slice A3 nn c3);have M4:=M3.add 7 rfl (St.zU (w2.setCell ⟨wr.heap.size,0,none⟩ (.slice A3 nn c3)) w2.heap.size #[.slice A3 nn c3,.int .i64 d.on,.int .i64 d.off,.int .i64 d.flip] 144 (by simp[World.setCell]));have q5:∀j,w2.cell? ⟨wr.heap.size,j,none⟩=_:=(M2.blk 5 rfl).cell;have f5:=(M2.blk 5 rfl).frozen;have q4:∀j,w2.cell? ⟨T,j,none⟩=_:=(M2.blk 4 rfl).cell;have q4':∀j,((w2.setCell ⟨wr.heap.size,0,none⟩ (.slice A3 nn c3)).cell? ⟨T,j,none⟩)=_:=(M3.blk 4 rfl).cell;obtain⟨F,cells,Fs,ho,-⟩:=M4.ay 0 rfl;have hrow:=ho.row;have kb:fU _ w2.heap.size 144 #[.slice A3 nn c3,.int .i64 d.on,.int .i64 d.off,.int .i64 d.flip]:=M4.blk 7 rfl;rw[OA.out] at hrow;have nO:=af hrow;have HKB:=af kb;have YK:=af M4;clear ho hrow kb M2 M3 M4 s2 WH r0 r1 r2 r3
    go_wp2_with (at_builtin;refine cZ zJ rfl (.tmp 24) (.tmp 26) rfl 0 dv k cells rfl nO.out _ _ 1 1 [.slice A3 nn c3,.int .i64 d.on,.int .i64 d.off,.int .i64 d.flip] rfl (bJ.IB HKB.out 4 1 rfl (by unfold maxLen;omega)) (by simp[Value.oneCell']) (by omega) (by omega) (by omega) ?_;intro v3 w3 hown3 hg3 mJ;obtain⟨A4,c4,hv⟩:=dR hown3;subst hv;have M5:=YK.out.push 0 6 (by decide) (v:=dv) (nv:=.slice A3 nn c3) (ds:=t.ay.take k) (d:=d) rfl rfl HW.out.1 HW.out.2 (by rw[OA.out];omega) rfl (by rw[OA.out];exact nO.out) (by rw[OA.out];exact hown3) hg3 mJ;have q6:∀j,w3.cell? ⟨T,j,none⟩=_:=(M5.blk 4 rfl).cell;have f6:=(M5.blk 4 rfl).frozen)
    have Oi:=af (M5.set 4 rfl 2 (.slice A4 (k+1) c4));clear M5 hown3 hg3 mJ q5 f5 q4 q4' YK nO HKB;go_wp2
    go_roundw
    case rel=>
     refine⟨k+1,.slice A4 (k+1) c4,by omega,by go_num,(((Oi.out.drop 5).drop 7).congr fun i=>?_)⟩
     match i with
     |0=>rw[um.out];rfl
     |1 | 2 | 3 | 4 | 5 | 6 | 7=>rfl
     |q+8=>simp
    case measure=>simp[intOf];omega
   ·have hkn:k=n':=by omega
    subst hkn;have um:Hid (t.ay.take k=t.ay):=af (by rw[←gy.out,List.take_length])
    have S5:=M.eG (L:=[ax (.slice A2 n c2) t.goal,fD dv t.ay,ah T 26 #[.int .i64 t.start,.slice A2 n c2,dv],ah (w.heap.size+1) 26 #[.int .i64 0,.slice none 0 0,.slice none 0 0]]) [3,0,4,2] (by decide) (by
     simp only[List.map];rw[um.out])
    obtain⟨Ad,cd,hdv,-⟩:=S5.WQ 1 rfl;rw[gy.out] at hdv;subst hdv;have S6:=S5.task (s:=t.start) (by rw[HGL.out];exact hgs) hst;have a0:=S6.cells 1 rfl;have z0:=S6.cells 2 rfl;have fz:=S6.free 2 rfl;have jB:=af S6;clear M S5 S6;go_wp2;refine bodyPost_ret (v:=.agg #[.int .i64 t.start,.slice A2 n c2,.slice Ad k cd]) (by simp[results,Tryz.results111,go_sem,z0]) rfl ⟨.agg #[.int .i64 t.start,.slice A2 n c2,.slice Ad k cd],rfl,?_⟩;exact(jB.out.Um 2 rfl _ _ _).pick [0] (by decide) rfl rfl
def o8 (t:aB):aG:=if aK t then⟨t,[],t.start⟩ else⟨⟨0,[],[]⟩,[],0⟩
theorem St.book0 {w W:World} (h:Below w.heap.size w W):St w W [aI (.agg #[.int .i64 0,.slice none 0 0,.slice none 0 0,.slice none 0 0,.int .i64 0]) ⟨⟨0,[],[]⟩,[],0⟩]:=((St.Yx h).call (iw _ _ (ai _ _))).book (by simp) rfl
theorem Sn.rY {w W W':World} {M:Nat→Option dh} (h:Sn w W M) (k:Nat) {v v':Value} {xs ys:List Int} {n:Nat} (hk:M k=some (ax v xs)) (hn:n=xs.length+ys.length) (hown:W'.ownsRow 0 3 1 v' n (ints xs++ints ys)) (hwf:∀y∈ys,(Lit.int .i64 y).wf=true)
  (hg:W.grownBy W' v.ownBlock) (hat:v'.ownBlock=v.ownBlock∨v'.ownBlock=some W.heap.size):Sn w W' (fun i=>if i=k then some (ax v' (xs++ys)) else M i):=
 h.mod k hk fun F h1 _=>⟨v'.ownBlock.toList,⟨by subst hn;rw[bQ,oJ];exact hown,fun x hx=>(List.mem_append.1 hx).elim (h1.wf x) (hwf x),rfl⟩,fun b hb=>by
  rcases hat with e | e
  ·left;rw[h1.foot,←e];exact hb
  ·right;rw[e] at hb;simp at hb;omega,by rw[h1.foot];exact Only.lJ hg⟩
theorem St.yA (W:World) (g:Nat) (hg:g=W.heap.size):St W (W.alloc (.cells #[] 3)) [ax (.slice (some ⟨g,0,none⟩) 0 0) []]:=
 (St.zU W g #[] 3 hg).see fun F h _=>Dn (xs:=[]) h (by simp) (by simp) rfl
theorem St.abJ (W:World) (g:Nat) (hg:g=W.heap.size):St W (W.alloc (.cells #[] 144)) [fD (.slice (some ⟨g,0,none⟩) 0 0) []]:=
 (St.zU W g #[] 144 hg).see fun F h _=>Rh h
theorem rX (v:Value) (t:aB) (w:World) (h:oW w w.heap.size v t):
  Calls Tryz.prog 99 #[v] w (Gives w id fun v'=>[aI v' (o8 t)]):=by
 have h':=h;obtain⟨A,n,c,A',n',c',rfl,hg,hgs,hds,hst⟩:=h
 have S0:St w ((w.alloc (Obj.cells #[.int .i64 t.start,.slice A n c,.slice A' n' c'] 26)).alloc (Obj.cells #[.int .i64 0,.slice none 0 0,.slice none 0 0,.slice none 0 0,.int .i64 0] 28)) [ah w.heap.size 26 #[.int .i64 t.start,.slice A n c,.slice A' n' c'],ah (w.heap.size+1) 28 #[.int .i64 0,.slice none 0 0,.slice none 0 0,.slice none 0 0,.int .i64 0]]:=by
  have:=((St.refl w).alloc #[.int .i64 t.start,.slice A n c,.slice A' n' c'] 26).alloc #[.int .i64 0,.slice none 0 0,.slice none 0 0,.slice none 0 0,.int .i64 0] 28
  simpa using this
 have HT:=af h';have aS:=af S0;clear S0 h';obtain⟨bo,hok⟩:∃b,aK t=b:=⟨_,rfl⟩;have bG:=af hok;clear hok;go_enter Tryz.func99,Tryz.ntmps99
 go_wp2_with fail
 refine(bV _ t _ (HT.out.up aS.out.below)).mono ?_;rw[bG.out];rintro e w1 ⟨rfl,hb1⟩;have S1:=aS.out.quiet hb1;have q0:=S1.cells 0 rfl;have q1:=S1.cells 1 rfl;have f1:=S1.free 1 rfl;have bf:=af S1;clear S1 hb1
 cases bo with
 |false=>
  go_wp2;refine bodyPost_ret (v:=.agg #[.int .i64 0,.slice none 0 0,.slice none 0 0,.slice none 0 0,.int .i64 0]) (by simp[results,Tryz.results99,go_sem,q1]) rfl ⟨.agg #[.int .i64 0,.slice none 0 0,.slice none 0 0,.slice none 0 0,.int .i64 0],rfl,?_⟩;rw[show o8 t=⟨⟨0,[],[]⟩,[],0⟩ from if_neg (by rw[bG.out];simp)];exact St.book0 (bf.out.fF 1 rfl _ _ _ _ _).below
 |true=>
  clear q0 q1 f1;have HG:=af hg;have hgl:=hg.len;have HGL:=af hgl;have hdl:=hds.len;have gy:=af hdl;have hp:=aJ t bG.out;have kQ:1≤n∧n≤40:=by have:=(jg _).1 hp.2.1;rw[hgl] at this;exact⟨this.1,this.2.1⟩
  obtain⟨hn1,hn2⟩:=kQ;have pz:n'≤6:=by rw[←hdl];exact hp.2.2.1
  have gQ:=af hp.2.2.2;clear hg hgl hdl hp
  go_upto_region 3 with(fail)
  go_cut [3] (fun s3 wx=>∃(T:Nat) (gv dv sv ev:Value),s3= .pointer (some ⟨T,0,none⟩)∧(∃A2 c2,gv= .slice A2 n c2)∧(∃D6,dv= .slice (some ⟨D6,0,none⟩) 0 0)∧Sn w wx (fun q=>match q with
   |0=>some (ah w.heap.size 26 #[.int .i64 t.start,.slice A n c,.slice A' n' c'])
   |1=>some (ah (w.heap.size+1) 28 #[.int .i64 0,.slice none 0 0,.slice none 0 0,.slice none 0 0,.int .i64 0])
   |2=>some (ax gv t.goal)
   |3=>some (fD dv [])
   |4=>some (ax ev [])
   |5=>some (ah T 28 #[.int .i64 t.start,gv,dv,ev,.int .i64 t.start])
   |_=>none))
  case first=>
   refine kG (σ:=Option Addr×Nat×Nat×Nat×Nat×Nat)
    (fun s i=>match i with
     |0=>.pointer (some ⟨w.heap.size,0,none⟩)
     |1=>.int .i64 t.start
     |2=>.slice (some ⟨s.2.2.1,0,none⟩) 0 0
     |3=>.pointer (some ⟨w.heap.size,1,none⟩)
     |4=>.slice A n c
     |5=>.slice s.1 n s.2.1
     |6=>.slice (some ⟨s.2.2.2.1,0,none⟩) 0 0
     |7=>.agg #[.int .i64 t.start,.slice s.1 n s.2.1,.slice (some ⟨s.2.2.2.1,0,none⟩) 0 0]
     |8=>.slice (some ⟨s.2.2.2.2.1,0,none⟩) 0 0
     |9=>.pointer (some ⟨w.heap.size,0,none⟩)
     |10=>.int .i64 t.start
     |11=>.agg #[.int .i64 t.start,.slice s.1 n s.2.1,.slice (some ⟨s.2.2.2.1,0,none⟩) 0 0,.slice (some ⟨s.2.2.2.2.1,0,none⟩) 0 0,.int .i64 t.start]
     |12=>.pointer (some ⟨s.2.2.2.2.2,0,none⟩)
     |_=>undef)
    (fun D s wx=>Sn w wx fun i=>match i with
     |0=>some (ah w.heap.size 26 #[.int .i64 t.start,.slice A n c,.slice A' n' c'])
     |1=>some (ah (w.heap.size+1) 28 #[.int .i64 0,.slice none 0 0,.slice none 0 0,.slice none 0 0,.int .i64 0])
     |2=>if D 2=true then some (ax (if D 5=true then .slice s.1 n s.2.1 else .slice (some ⟨s.2.2.1,0,none⟩) 0 0) (if D 5=true then t.goal else [])) else none
     |3=>if D 6=true then some (fD (.slice (some ⟨s.2.2.2.1,0,none⟩) 0 0) []) else none
     |4=>if D 8=true then some (ax (.slice (some ⟨s.2.2.2.2.1,0,none⟩) 0 0) []) else none
     |5=>if D 12=true then some (ah s.2.2.2.2.2 28 (if D 13=true then #[.int .i64 t.start,.slice s.1 n s.2.1,.slice (some ⟨s.2.2.2.1,0,none⟩) 0 0,.slice (some ⟨s.2.2.2.2.1,0,none⟩) 0 0,.int .i64 t.start] else #[.int .i64 0,.slice none 0 0,.slice none 0 0,.slice none 0 0,.int .i64 0])) else none
     |_=>none)
    (none,0,0,0,0,0) ?_ ?_ ?_
   ·intro D hD;refine((Sn.dN bf.out).quiet ((ai _ _).drew)).congr fun i=>?_
    match i with
    |0 | 1=>rfl
    |2=>simp only[hD 2 (by decide)];rfl
    |3=>simp only[hD 6 (by decide)];rfl
    |4=>simp only[hD 8 (by decide)];rfl
    |5=>simp only[hD 12 (by decide)];rfl
    |q+6=>rfl
   ·refine Cs (fun D s wx hR _ hd _ _ hs K hK=>?_) ?_
    ·have e1:=hs.o 1 (.pointer (some ⟨w.heap.size,0,none⟩));clear hs;go_simp;exact hK s wx sv hR
    refine Cs (fun D s wx hR _ hd _ _ hs K hK=>?_) ?_
    ·have e10:=hs.v 0 10 hd;clear hs;have qk:=(hR.blk 0 rfl).cell;go_simp;exact hK s wx sv hR
    refine Cs (fun D s wx hR (hDi:D 2=false) hd hsh _ hs K hK=>?_) ?_
    ·clear hs;have n5:D 5=false:=hsh.no hDi 5 rfl ⟨2,.data⟩ (by simp) rfl rfl;have n7:D 7=false:=hsh.no n5 7 rfl ⟨5,.data⟩ (by simp) rfl rfl;have n11:D 11=false:=hsh.no n7 11 rfl ⟨7,.data⟩ (by simp) rfl rfl;have n13:D 13=false:=hsh.no n11 13 rfl ⟨11,.data⟩ (by simp) rfl rfl;go_simp
     refine hK (s.1,s.2.1,wx.heap.size,s.2.2.2) _
      (fun j hj=>by
       match j,hj with
       |0,hj | 1,hj=>rfl
       |2,hj=>rw[hDi] at hj;cases hj
       |3,hj | 4,hj | 5,hj | 6,hj=>rfl
       |7,hj=>rw[n7] at hj;cases hj
       |8,hj | 9,hj | 10,hj=>rfl
       |11,hj=>rw[n11] at hj;cases hj
       |12,hj | 13,hj=>rfl
       |_+14,hj=>rfl)
      ((hR.add 2 (if_neg (by rw[hDi];simp)) (St.yA wx wx.heap.size rfl)).congr
       (fun i=>by
        match i with
        |0 | 1=>rfl
        |2=>(show some (ax (if D 5=true then _ else _) (if D 5=true then _ else _))=some (ax _ _);rw[n5]<;>rfl)
        |3 | 4=>rfl
        |5=>(show(if D 12=true then some (ah _ _ (if D 13=true then _ else _)) else none)=(if D 12=true then some (ah _ _ (if D 13=true then _ else _)) else none);rw[n13]<;>rfl)
        |q+6=>exact(if_neg (show¬(q+6=2) by omega)).symm))
    refine Cs (fun D s wx hR _ hd _ _ hs K hK=>?_) ?_
    ·have e1:=hs.o 1 (.pointer (some ⟨w.heap.size,0,none⟩));clear hs;go_simp;exact hK s wx sv hR
    refine Cs (fun D s wx hR _ hd _ _ hs K hK=>?_) ?_
    ·have e13:=hs.v 3 13 hd;clear hs;have qk:=(hR.blk 0 rfl).cell;go_simp;exact hK s wx sv hR
    refine Cs (fun D s wx hR (hDi:D 5=false) hd hsh _ hs K hK=>?_) ?_
    ·have e12:=hs.v 2 12 hd;have e14:=hs.v 4 14 hd;have g12:=aX e12;have g14:=aX e14;clear hs;have n7:D 7=false:=hsh.no hDi 7 rfl ⟨5,.data⟩ (by simp) rfl rfl;have n11:D 11=false:=hsh.no n7 11 rfl ⟨7,.data⟩ (by simp) rfl rfl;have n13:D 13=false:=hsh.no n11 13 rfl ⟨11,.data⟩ (by simp) rfl rfl;have d2:D 2=true:=hd ⟨2,.data⟩ (by simp) rfl;obtain⟨F,ho,-⟩:=hR.get 2 (R:=ax (.slice (some ⟨s.2.2.1,0,none⟩) 0 0) []) (by simp only[d2,hDi]<;>rfl);refine IC iR (.tmp 12) (.tmp 14) rfl 0 _ 0 [] e12 ho.row _ _ n c (ints t.goal) e14 (HG.out.up hR.below).row hn1 (gG _) (by omega) (by omega) (by omega) ?_;intro v' w' hown hg hat;obtain⟨A3,c3,hv⟩:=dR hown;rw[Nat.zero_add] at hv;subst hv
     exact hK (A3,c3,s.2.2) w'
      (fun j hj=>by
       match j,hj with
       |0,hj | 1,hj | 2,hj | 3,hj | 4,hj=>rfl
       |5,hj=>rw[hDi] at hj;cases hj
       |6,hj=>rfl
       |7,hj=>rw[n7] at hj;cases hj
       |8,hj | 9,hj | 10,hj=>rfl
       |11,hj=>rw[n11] at hj;cases hj
       |12,hj | 13,hj=>rfl
       |_+14,hj=>rfl)
      ((hR.rY 2 (xs:=[]) (ys:=t.goal) (by simp only[d2,hDi];rfl) (by simp;exact HGL.out.symm) hown HG.out.wf hg hat).congr
       (fun i=>by
        match i with
        |0 | 1=>rfl
        |2=>(show(if D 2=true then some (ax _ _) else none)=some (ax _ _);rw[d2]<;>rfl)
        |3 | 4=>rfl
        |5=>(show(if D 12=true then some (ah _ _ (if D 13=true then _ else _)) else none)=(if D 12=true then some (ah _ _ (if D 13=true then _ else _)) else none);rw[n13]<;>rfl)
        |q+6=>exact(if_neg (show¬(q+6=2) by omega)).symm))
    refine Cs (fun D s wx hR (hDi:D 6=false) hd hsh _ hs K hK=>?_) ?_
    ·clear hs;have n7:D 7=false:=hsh.no hDi 7 rfl ⟨6,.data⟩ (by simp) rfl rfl;have n11:D 11=false:=hsh.no n7 11 rfl ⟨7,.data⟩ (by simp) rfl rfl;have n13:D 13=false:=hsh.no n11 13 rfl ⟨11,.data⟩ (by simp) rfl rfl;go_simp
     refine hK (s.1,s.2.1,s.2.2.1,wx.heap.size,s.2.2.2.2) _
      (fun j hj=>by
       match j,hj with
       |0,hj | 1,hj | 2,hj | 3,hj | 4,hj | 5,hj=>rfl
       |6,hj=>rw[hDi] at hj;cases hj
       |7,hj=>rw[n7] at hj;cases hj
       |8,hj | 9,hj | 10,hj=>rfl
       |11,hj=>rw[n11] at hj;cases hj
       |12,hj | 13,hj=>rfl
       |_+14,hj=>rfl)
      ((hR.add 3 (if_neg (by rw[hDi];simp)) (St.abJ wx wx.heap.size rfl)).congr
       (fun i=>by
        match i with
        |0 | 1 | 2 | 3 | 4=>rfl
        |5=>(show(if D 12=true then some (ah _ _ (if D 13=true then _ else _)) else none)=(if D 12=true then some (ah _ _ (if D 13=true then _ else _)) else none);rw[n13]<;>rfl)
        |q+6=>exact(if_neg (show¬(q+6=3) by omega)).symm))
    refine Cs (fun D s wx hR _ hd _ _ hs K hK=>?_) ?_
    ·have e11:=hs.v 1 11 hd;have e15:=hs.v 5 15 hd;have e16:=hs.v 6 16 hd;have g11:=aX e11;have g15:=aX e15;have g16:=aX e16;clear hs;go_simp;exact hK s wx sv hR
    refine Cs (fun D s wx hR (hDi:D 8=false) hd hsh _ hs K hK=>?_) ?_
    ·clear hs;have n11:D 11=false:=hsh.no hDi 11 rfl ⟨8,.data⟩ (by simp) rfl rfl;have n13:D 13=false:=hsh.no n11 13 rfl ⟨11,.data⟩ (by simp) rfl rfl;go_simp
     refine hK (s.1,s.2.1,s.2.2.1,s.2.2.2.1,wx.heap.size,s.2.2.2.2.2) _
      (fun j hj=>by
       match j,hj with
       |0,hj | 1,hj | 2,hj | 3,hj | 4,hj | 5,hj | 6,hj | 7,hj=>rfl
       |8,hj=>rw[hDi] at hj;cases hj
       |9,hj | 10,hj=>rfl
       |11,hj=>rw[n11] at hj;cases hj
       |12,hj | 13,hj=>rfl
       |_+14,hj=>rfl)
      ((hR.add 4 (if_neg (by rw[hDi];simp)) (St.yA wx wx.heap.size rfl)).congr
       (fun i=>by
        match i with
        |0 | 1 | 2 | 3 | 4=>rfl
        |5=>(show(if D 12=true then some (ah _ _ (if D 13=true then _ else _)) else none)=(if D 12=true then some (ah _ _ (if D 13=true then _ else _)) else none);rw[n13]<;>rfl)
        |q+6=>exact(if_neg (show¬(q+6=4) by omega)).symm))
    refine Cs (fun D s wx hR _ hd _ _ hs K hK=>?_) ?_
    ·have e1:=hs.o 1 (.pointer (some ⟨w.heap.size,0,none⟩));clear hs;go_simp;exact hK s wx sv hR
    refine Cs (fun D s wx hR _ hd _ _ hs K hK=>?_) ?_
    ·have e19:=hs.v 9 19 hd;clear hs;have qk:=(hR.blk 0 rfl).cell;go_simp;exact hK s wx sv hR
    refine Cs (fun D s wx hR _ hd _ _ hs K hK=>?_) ?_
    ·have e17:=hs.v 7 17 hd;have e18:=hs.v 8 18 hd;have e20:=hs.v 10 20 hd;have g17:=aX e17;have g18:=aX e18;have g20:=aX e20;clear hs;go_simp;exact hK s wx sv hR
    refine Cs (fun D s wx hR (hDi:D 12=false) hd hsh _ hs K hK=>?_) ?_
    ·clear hs;have n13:D 13=false:=hsh.no hDi 13 rfl ⟨12,.data⟩ (by simp) rfl rfl;go_simp
     refine hK (s.1,s.2.1,s.2.2.1,s.2.2.2.1,s.2.2.2.2.1,wx.heap.size) _
      (fun j hj=>by
       match j,hj with
       |0,hj | 1,hj | 2,hj | 3,hj | 4,hj | 5,hj | 6,hj | 7,hj | 8,hj | 9,hj | 10,hj | 11,hj=>rfl
       |12,hj=>rw[hDi] at hj;cases hj
       |13,hj=>rfl
       |_+14,hj=>rfl)
      ((hR.add 5 (if_neg (by rw[hDi];simp)) (St.new1 wx #[.int .i64 0,.slice none 0 0,.slice none 0 0,.slice none 0 0,.int .i64 0] 28)).congr
       (fun i=>by
        match i with
        |0 | 1 | 2 | 3 | 4=>rfl
        |5=>(show some (ah _ _ (if D 13=true then _ else _))=some (ah _ _ _);rw[n13]<;>rfl)
        |q+6=>exact(if_neg (show¬(q+6=5) by omega)).symm))
    refine Cs (fun D s wx hR (hDi:D 13=false) hd _ _ hs K hK=>?_) ?_
    ·have e3:=hs.v 12 3 hd;have e21:=hs.v 11 21 hd;clear hs;have dA:D 12=true:=hd ⟨12,.data⟩ (by simp) rfl;have kb:fU wx s.2.2.2.2.2 28 #[.int .i64 0,.slice none 0 0,.slice none 0 0,.slice none 0 0,.int .i64 0]:=hR.blk 5 (by simp only[dA,hDi]<;>rfl);have f0:=kb.frozen;have qk:=kb.cell;go_simp
     exact hK s _ sv ((hR.fF 5 (by simp only[dA,hDi];rfl) _ _ _ _ _).congr
      (fun i=>by
       match i with
       |0 | 1 | 2 | 3 | 4=>rfl
       |5=>(show(if D 12=true then some (ah _ _ _) else none)=some (ah _ _ _);rw[dA]<;>rfl)
       |q+6=>exact(if_neg (show¬(q+6=5) by omega)).symm))
    exact aj.nil
   ·intro D s wx hR hD;simp only[eH,Act.put,aO,aU,aW]
    go_wp2_with fail
    go_meet
    refine⟨s.2.2.2.2.2,.slice s.1 n s.2.1,.slice (some ⟨s.2.2.2.1,0,none⟩) 0 0,.int .i64 t.start,.slice (some ⟨s.2.2.2.2.1,0,none⟩) 0 0,rfl,⟨s.1,s.2.1,rfl⟩,⟨_,rfl⟩,?_⟩
    exact hR.congr fun i=>by
     match i with
     |0 | 1=>rfl
     |2=>simp only[hD 2 (by decide),hD 5 (by decide)];rfl
     |3=>simp only[hD 6 (by decide)];rfl
     |4=>simp only[hD 8 (by decide)];rfl
     |5=>simp only[hD 12 (by decide),hD 13 (by decide)];rfl
     |q+6=>rfl
  case rest=>
   obtain⟨T,gv,dv0,sv,ev,rfl,⟨A2,c2,rfl⟩,⟨D6,rfl⟩,M0⟩:=hcut;obtain⟨E,ec,hev,-⟩:=M0.uj 4 rfl;simp only[List.length_nil] at hev;subst hev;have t2:wc.cell? ⟨w.heap.size,2,none⟩=some (.slice A' n' c'):=(M0.blk 0 rfl).cell 2;have CQ:=af M0;clear M0;go_wp2
   go_loopw [4] (fun i wr=>∃(k:Nat) (dv:Value),k≤n'∧i= .int .i64 k∧Sn w wr (fun q=>match q with
    |0=>some (ah w.heap.size 26 #[.int .i64 t.start,.slice A n c,.slice A' n' c'])
    |1=>some (ah (w.heap.size+1) 28 #[.int .i64 0,.slice none 0 0,.slice none 0 0,.slice none 0 0,.int .i64 0])
    |2=>some (ax (.slice A2 n c2) t.goal)
    |3=>some (fD dv (t.ay.take k))
    |4=>some (ax (.slice E 0 ec) [])
    |5=>some (ah T 28 #[.int .i64 t.start,.slice A2 n c2,dv,.slice E 0 ec,.int .i64 t.start])
    |_=>none)) (fun i _=>n'-(intOf i).toNat)
   case atStart=>exact⟨0,.slice (some ⟨D6,0,none⟩) 0 0,by omega,rfl,CQ.out⟩
   case round=>
    obtain⟨k,dv,hk,rfl,M⟩:=hrel
    by_cases hlt:k<n'
    ·obtain⟨b,off,d,rfl,hb,hd,hda⟩:=hds.get hlt;have iL:=gQ.out d (bT hd);obtain⟨An,nn,cn,p0,p1,p2,p3,dU,hnn,hw1,hw2,hw3⟩:=hda;have hnl:=dU.len;have kQ:1≤nn∧nn≤40:=by have:=(jg _).1 (kW d iL).1;rw[hnl] at this;exact⟨this.1,this.2.1⟩
     obtain⟨ae9,afa⟩:=kQ;have t2:wr.cell? ⟨w.heap.size,2,none⟩=some (.slice (some ⟨b,off,none⟩) n' c'):=(M.blk 0 rfl).cell 2;have r0:wr.cell? ⟨b,off+k*4,none⟩=some (.slice An nn cn):=(aF M.below b _ hb).trans p0;have r1:wr.cell? ⟨b,off+k*4+1,none⟩=some (.int .i64 d.on):=(aF M.below b _ hb).trans p1;have r2:wr.cell? ⟨b,off+k*4+2,none⟩=some (.int .i64 d.off):=(aF M.below b _ hb).trans p2;have r3:wr.cell? ⟨b,off+k*4+3,none⟩=some (.int .i64 d.flip):=(aF M.below b _ hb).trans p3;have um:=af (take_succ' hd);have OA:Hid ((t.ay.take k).length=k):=af (by rw[List.length_take,gy.out];omega);have HNL:=af hnl;have HW:Hid (d.need.length≤1048576∧(Lit.int .i64 d.on).wf=true∧(Lit.int .i64 d.off).wf=true∧(Lit.int .i64 d.flip).wf=true):=af ⟨by omega,hw1,hw2,hw3⟩;have M1:=M.add 6 rfl (St.new1 wr #[.slice An nn cn,.int .i64 d.on,.int .i64 d.off,.int .i64 d.flip] 144);have M2:=M1.add 7 rfl (St.yA _ (wr.heap.size+1) (by simp));have HN:=af (dU.up M2.below);have iO:=af M2;obtain⟨F,ho,-⟩:=M2.get 7 (R:=ax (.slice (some ⟨wr.heap.size+1,0,none⟩) 0 0) []) rfl;have HO:=af ho.row;have hgd:=M.below.size;clear p0 p1 p2 p3 dU hd hnl M M1 M2 ho hw1 hw2 hw3 iL
     go_wp2_with (first
      | (at_builtin;refine cZ iR rfl (.tmp 34) (.tmp 36) rfl 0 (.slice (some ⟨wr.heap.size+1,0,none⟩) 0 0) 0 [] rfl HO.out _ An nn cn (ints d.need) rfl HN.out.row (gG _) (by omega) (by omega) (by omega) ?_;intro v2 w2 hown2 hg2 ug;obtain⟨A3,c3,hv⟩:=dR hown2;rw[Nat.zero_add] at hv;subst hv;have M3:=iO.out.rY 7 (xs:=[]) (ys:=d.need) rfl (by simp;exact HNL.out.symm) hown2 HN.out.wf hg2 ug;rw[List.nil_append] at M3;have M4:=M3.set 6 rfl 0 (.slice A3 nn c3);have M5:=M4.add 8 rfl (St.zU (w2.setCell ⟨wr.heap.size,0,none⟩ (.slice A3 nn c3)) w2.heap.size #[.slice A3 nn c3,.int .i64 d.on,.int .i64 d.off,.int .i64 d.flip] 144 (by simp[World.setCell]));have q5:∀j,w2.cell? ⟨wr.heap.size,j,none⟩=_:=(M3.blk 6 rfl).cell;have f5:=(M3.blk 6 rfl).frozen;have q4':∀j,((w2.setCell ⟨wr.heap.size,0,none⟩ (.slice A3 nn c3)).cell? ⟨T,j,none⟩)=_:=(M4.blk 5 rfl).cell;obtain⟨F',cells,Fs,ho',-⟩:=M5.ay 3 rfl;have hrow:=ho'.row;have kb:fU _ w2.heap.size 144 #[.slice A3 nn c3,.int .i64 d.on,.int .i64 d.off,.int .i64 d.flip]:=M5.blk 8 rfl;rw[OA.out] at hrow;have nO:=af hrow;have HKB:=af kb;have Oi:=af M5;clear ho' hrow kb M3 M4 M5 iO HO HN hown2 hg2 ug r0 r1 r2 r3 t2)
      | (at_builtin;refine cZ zJ rfl (.tmp 41) (.tmp 43) rfl 0 dv k cells rfl nO.out _ _ 1 1 [.slice A3 nn c3,.int .i64 d.on,.int .i64 d.off,.int .i64 d.flip] rfl (bJ.IB HKB.out 4 1 rfl (by unfold maxLen;omega)) (by simp[Value.oneCell']) (by omega) (by omega) (by omega) ?_;intro v3 w3 hown3 hg3 mJ;obtain⟨A4,c4,hv⟩:=dR hown3;subst hv;have M6:=Oi.out.push 3 7 (by decide) (v:=dv) (nv:=.slice A3 nn c3) (ds:=t.ay.take k) (d:=d) rfl rfl HW.out.1 HW.out.2 (by rw[OA.out];omega) rfl (by rw[OA.out];exact nO.out) (by rw[OA.out];exact hown3) hg3 mJ;have q6:∀j,w3.cell? ⟨T,j,none⟩=_:=(M6.blk 5 rfl).cell;have f6:=(M6.blk 5 rfl).frozen))
     have HM6:=af (M6.set 5 rfl 2 (.slice A4 (k+1) c4));clear M6 hown3 hg3 mJ q5 f5 q4' Oi nO HKB;go_wp2
     go_roundw
     case rel=>
      refine⟨k+1,.slice A4 (k+1) c4,by omega,by go_num,(((HM6.out.drop 6).drop 8).congr fun i=>?_)⟩
      match i with
      |0 | 1 | 2=>rfl
      |3=>rw[um.out];rfl
      |4 | 5 | 6 | 7 | 8=>rfl
      |q+9=>simp
     case measure=>simp[intOf];omega
    ·have hkn:k=n':=by omega
     subst hkn;have um:Hid (t.ay.take k=t.ay):=af (by rw[←gy.out,List.take_length]);have t2:wr.cell? ⟨w.heap.size,2,none⟩=some (.slice A' k c'):=(M.blk 0 rfl).cell 2
     have S5:=M.eG (L:=[ax (.slice A2 n c2) t.goal,fD dv t.ay,ax (.slice E 0 ec) [],ah T 28 #[.int .i64 t.start,.slice A2 n c2,dv,.slice E 0 ec,.int .i64 t.start],ah (w.heap.size+1) 28 #[.int .i64 0,.slice none 0 0,.slice none 0 0,.slice none 0 0,.int .i64 0]]) [2,3,4,5,1] (by decide) (by
      simp only[List.map];rw[um.out])
     obtain⟨Ad,cd,hdv,-⟩:=S5.WQ 1 rfl;rw[gy.out] at hdv;subst hdv;have S6:=(S5.task (s:=t.start) (by rw[HGL.out];exact hgs) hst).book (st:=t.start) (by simp) hst;have a0:=S6.cells 1 rfl;have z0:=S6.cells 2 rfl;have fz:=S6.free 2 rfl;have jB:=af S6;clear M S5 S6;go_wp2;refine bodyPost_ret (v:=.agg #[.int .i64 t.start,.slice A2 n c2,.slice Ad k cd,.slice E 0 ec,.int .i64 t.start]) (by simp[results,Tryz.results99,go_sem,z0]) rfl ⟨.agg #[.int .i64 t.start,.slice A2 n c2,.slice Ad k cd,.slice E 0 ec,.int .i64 t.start],rfl,?_⟩;rw[show o8 t=⟨t,[],t.start⟩ from if_pos bG.out];exact(jB.out.fF 2 rfl _ _ _ _ _).pick [0] (by decide) rfl rfl
end Go.Proofs.YtkmcengmglgdeaaGreatDoor
