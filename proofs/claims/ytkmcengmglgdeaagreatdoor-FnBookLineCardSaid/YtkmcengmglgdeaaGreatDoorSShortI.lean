/- A part of the proof: ShortI. -/
import Derived.Test.YtkmcengmglgdeaaGreatDoorSPermD
import Derived.Test.YtkmcengmglgdeaaGreatDoorSPerm
namespace Go.Proofs.YtkmcengmglgdeaaGreatDoor
set_option linter.unusedVariables false
set_option linter.unusedSimpArgs false
set_option maxRecDepth 100000
set_option maxHeartbeats 8000000
open Go.ChangeShapes Go.WideShapes Go.ChangeAt Go.RowKit
theorem ni {P:Program} {t e:TypeId} {z:Value} {size bytes:Nat} (E:qE P t e z size bytes) {w:World} {o:Oper} {a:Act} {K:Act→World→Prop} {Q:Exit→Act→World→Prop} (s x:Operand)
  (ho:o.op= .call { callee:=.builtin .append,args:=#[s,x],argTypes:=#[t,t] })
  (base:Nat) (v:Value) (n:Nat) (xs:List Value) (hs:a.eval s=v) (hown:w.ownsRow base e size v n xs)
  (B:Nat) (A:Option Addr) (m c:Nat) (news:List Value) (hx:a.eval x= .slice A m c) (hr:bJ w B size A m c news) (h1:∀u∈news,u.oneCell'=true)
  (hbytes:(n+m)*bytes≤140737488355328) (h63:n+m≤140737488355328) (hbase:base≤w.heap.size)
  (h:∀v' w',w'.ownsRow base e size v' (n+m) (xs++news)→w.grownBy w' v.ownBlock→(v'.ownBlock=v.ownBlock∨v'.ownBlock=some w.heap.size)→K (a.put o.dst v') w'):
  o.wp P a w K Q:=by
 rcases Nat.eq_zero_or_pos m with hm | hm
 ·subst hm;obtain⟨i,hi,hz,hsize,hby⟩:=E.hi;obtain rfl:news=[]:=List.eq_nil_of_length_eq_zero (by simpa using hr.len)
  have key:(Builtin.append_ #[t,t] o.type #[v,.slice A 0 c]).run P w= .ok v w:=by
   rcases hown.2 with⟨rfl,rfl⟩ | ⟨g,cap,cur,rfl,_,_,hnc,_⟩
   ·cases A<;>simp[Builtin.append_,run_underlying E.ht,sizeOf,typeInfo,hi,Builtin.lenOf,Builtin.firstCells,loadCells,loadCellsFrom]
   ·cases A<;>simp[Builtin.append_,run_underlying E.ht,sizeOf,typeInfo,hi,Builtin.lenOf,Builtin.firstCells,hnc,storeCells,loadCells,loadCellsFrom]
  unfold Oper.wp execOp
  simp only[ho,resolve,invoke,builtin,Sem.run_bind,Sem.run_pure,Result.andThen_ok,List.map_toArray,List.map_cons,List.map_nil,hs,hx,key];exact h v w (by simpa using hown) (World.grownBy.refl w _) (.inl rfl)
 ·exact IC E s x ho base v n xs hs hown B A m c news hx hr hm h1 hbytes h63 hbase h
section
variable {w W W' : World} {M : Nat → Option dh}
theorem Sn.Vg (h:Sn w W M) (k:Nat) {g n c m:Nat} {xs:List Int} (hk:M k=some (ax (.slice (some ⟨g,0,none⟩) n c) xs)) (hn:xs.length=n) (hm:m≤n):W.ownsRow 0 3 1 (.slice (some ⟨g,0,none⟩) m c) m (Go.Proofs.YtkmcengmglgdeaaGreatDoor.ints (xs.take m)):=by
 obtain⟨F,h1,-⟩:=h.get k hk;have h2:=h1.row;rw[hn] at h2;have h3:=Jg h2 hm;have e2:Go.Proofs.YtkmcengmglgdeaaGreatDoor.ints (xs.take m)=(Go.Proofs.YtkmcengmglgdeaaGreatDoor.ints xs).take m:=by simp[Go.Proofs.YtkmcengmglgdeaaGreatDoor.ints,List.map_take]
 rw[e2];exact h3
theorem Sn.OM (h:Sn w W M) (k:Nat) {g n c l:Nat} {xs:List Int} {AL:Option Addr} (hk:M k=some (ax (.slice (some ⟨g,0,none⟩) n c) xs)) (hl:l≤n) {CL:Nat} (hAL:(c=l→AL=some ⟨g,0,none⟩∧CL=0)∧(c≠l→AL=some ⟨g,l,none⟩∧CL=c-l)):bJ W W.heap.size 1 AL (n-l) CL (Go.Proofs.YtkmcengmglgdeaaGreatDoor.ints (xs.drop l)):=by
 have hr:=h.oZ k hk;have hc:=hr.cap
 by_cases e:c=l
 ·obtain⟨rfl,rfl⟩:=hAL.1 e;have hn:n=l:=by omega
  have hx:xs.drop l=[]:=List.drop_of_length_le (by rw[hr.len];omega);rw[hx];exact⟨by simp[Go.Proofs.YtkmcengmglgdeaaGreatDoor.ints];omega,by omega,by unfold maxLen;have:=hr.dw;unfold maxLen at this;omega,fun h0=>absurd h0 (by omega)⟩
 ·obtain⟨rfl,rfl⟩:=hAL.2 e;exact(hr.aar l hl).row
theorem Sn.qA (h:Sn w W M) (k:Nat) {v:Value} {xs:List Int} (hk:M k=some (ax v xs)):W.ownsRow 0 3 1 v xs.length (Go.Proofs.YtkmcengmglgdeaaGreatDoor.ints xs):=by
 obtain⟨F,h1,-⟩:=h.get k hk;exact h1.row
theorem Sn.G8 (h:Sn w W M) (k:Nat) {v v':Value} {xs ys:List Int} {n:Nat} (hk:M k=some (ax v xs)) (hn:n=xs.length+ys.length) (hown:W'.ownsRow 0 3 1 v' n (Go.Proofs.YtkmcengmglgdeaaGreatDoor.ints xs++Go.Proofs.YtkmcengmglgdeaaGreatDoor.ints ys)) (hwf:∀y∈ys,(Lit.int .i64 y).wf=true)
  (hg:W.grownBy W' v.ownBlock) (hat:v'.ownBlock=v.ownBlock∨v'.ownBlock=some W.heap.size):Sn w W' (fun i=>if i=k then some (ax v' (xs++ys)) else M i):=
 h.mod k hk fun F h1 _=>⟨v'.ownBlock.toList,⟨by subst hn;rw[bQ,oJ];exact hown,fun x hx=>(List.mem_append.1 hx).elim (h1.wf x) (hwf x),rfl⟩,fun b hb=>by
  rcases hat with e | e
  ·left;rw[h1.foot,←e];exact hb
  ·right;rw[e] at hb;simp at hb;omega,by rw[h1.foot];exact Only.lJ hg⟩
theorem Sn.Vh (h:Sn w W M) (k:Nat) {g n c f m:Nat} {xs a b:List Int} {v':Value} (hk:M k=some (ax (.slice (some ⟨g,0,none⟩) n c) xs)) (hl:(a++b).length=m) (ha:∀y∈a,y∈xs) (hb:∀y∈b,y∈xs)
  (hown:W'.ownsRow 0 3 1 v' m (Go.Proofs.YtkmcengmglgdeaaGreatDoor.ints a++Go.Proofs.YtkmcengmglgdeaaGreatDoor.ints b)) (hg:W.grownBy W' (Value.slice (some ⟨g,0,none⟩) f c).ownBlock) (hat:v'.ownBlock=(Value.slice (some ⟨g,0,none⟩) f c).ownBlock∨v'.ownBlock=some W.heap.size):
  Sn w W' (fun i=>if i=k then some (ax v' (a++b)) else M i):=
 h.mod k hk fun F h1 _=>⟨v'.ownBlock.toList,⟨by rw[hl,oJ];exact hown,fun y hy=>h1.wf y ((List.mem_append.1 hy).elim (ha y) (hb y)),rfl⟩,fun x hx=>by
  rcases hat with e | e
  ·left;rw[h1.foot];rw[e] at hx;exact hx
  ·right;rw[e] at hx;simp at hx;omega,by rw[h1.foot];exact Only.lJ hg⟩
end
theorem St.ofMake {w w':World} {g n:Nat} (hg0:g=w.heap.size) (hown:w'.ownsRow w.heap.size 3 1 (.slice (some ⟨w.heap.size,0,none⟩) 0 n) 0 []) (hg:w.grownBy w' none):St w w' [ax (.slice (some ⟨g,0,none⟩) 0 n) []]:=by
 subst hg0;exact St.CG (F:=[w.heap.size]) ⟨hown,by simp,rfl⟩ ((ai _ _).grown hg (aA _) (by simp))
def zC (t:aB) (q:List Int):List Int:=(List.range (q.length+1)).map (prun t q)
theorem yM (t:aB) (q:List Int):(zC t q).length=q.length+1:=by simp[zC]
theorem qj (t:aB) (q:List Int) {j:Nat} (h:j≤q.length):(zC t q)[j]? =some (prun t q j):=by
 unfold zC;rw[List.getElem?_map,List.getElem?_range (by omega)];rfl
theorem Xt {t:aB} {q:List Int} (h:0≤aC t t.start q) {f l:Nat} (hfl:f≤l) (hl:l≤q.length) (e:prun t q l=prun t q f):zC t (q.take f++q.drop l)=(zC t q).take f++(zC t q).drop l:=by
 have hlen:(q.take f++q.drop l).length=f+(q.length-l):=by simp;omega
 refine List.ext_getElem? fun j=>?_
 have hp:=DL h hfl hl e j;have htl:((zC t q).take f).length=f:=by rw[List.length_take,yM];omega
 by_cases hj:j≤f+(q.length-l)
 ·rw[qj _ _ (by omega),hp]
  by_cases hjf:j<f
  ·rw[if_pos (by omega),List.getElem?_append_left (by omega),List.getElem?_take_of_lt hjf,qj _ _ (by omega)]
  ·rw[List.getElem?_append_right (by omega),htl,List.getElem?_drop,qj _ _ (by omega)]
   by_cases adK:j=f
   ·subst adK;rw[if_pos (aA _),Nat.sub_self,Nat.add_zero,e]
   ·rw[if_neg (by omega),Nat.add_comm]
 ·rw[List.getElem?_eq_none (by rw[yM];omega),List.getElem?_eq_none (by rw[bQ,htl,List.length_drop,yM];omega)]
theorem RX {t:aB} {p:List Int} (h:0≤aC t t.start p) {i:Nat} {x:Int} (hx:p[i]? =some x):
  ∃(m:Nat) (d:au) (s s':Nat),x=(m:Int)∧t.ay[m]? =some d∧prun t p i=(s:Int)∧s<32∧bD d s=some s'∧s'<32∧prun t p (i+1)=(s':Int):=by
 obtain⟨h1,h2,h3,-⟩:=(fE t t.start p).1 h;have hs:=(aV _).1 h2;obtain⟨hi,hxe⟩:=bI.1 hx
 have e:∀j,prun t p j=opt (jY t t.start.toNat (p.take j)):=fun j=>by
  unfold prun aC
  rw[if_pos ⟨h1,h2,by simp;omega⟩]
 have g:∀j,0≤prun t p j:=fun j=>(mY h j).1
 have g0:=g i;have g1:=g (i+1);rw[e] at g0 g1;obtain⟨s,hs0⟩:=qf.1 g0;obtain⟨s',hs1⟩:=qf.1 g1;have hst:=zK t t.start.toNat p i x hx s hs0;rw[hs1] at hst;have mG:s<32:=CP t _ _ s h1 (by omega) hs0;have acp:s'<32:=CP t _ _ s' h1 (by omega) hs1;have hst':=hst.symm
 unfold mr at hst'
 split at hst'
 ·next hc=>
  obtain⟨m,rfl⟩:=bC hc.1;rw[bW] at hst';obtain⟨d,hd,hdo⟩:=Option.bind_eq_some_iff.1 hst';exact⟨m,d,s,s',rfl,hd,by rw[e,hs0];rfl,mG,hdo,acp,by rw[e,hs1];rfl⟩
 ·cases hst'
def aas (n:Nat) (xs:List Int) (e:Ending):Prop:=∃f l:Nat,∃b:Bool,e= .returned (.tuple #[.int .i64 (f:Int),.int .i64 (l:Int),.bool b])∧
 (b=true→f<l∧l<n∧xs[l]? =xs[f]? ∧(∀i,i<f→∀j,i<j→j<n→xs[j]? ≠xs[i]?)∧∀j,l<j→j<n→xs[j]? ≠xs[f]?)∧(b=false→∀i j,i<j→j<n→xs[j]? ≠xs[i]?)
def lenV:Value→Nat
 | .slice _ n _=>n
 |_=>0
theorem Ee (A:Option Addr) (n c:Nat) (xs:List Int) (w:World) (h:jd .i64 w w.heap.size A n c xs):
  Calls Tryz.prog 190 #[.slice A n c] w fun e w'=>aas n xs e∧w=w':=by
 have hcap:=h.cap;have hcm:=h.dw
 unfold maxLen at hcm
 have H:=af h;clear h;go_enter Tryz.func190,Tryz.ntmps190;go_wp2
 go_loop [10] (fun i=>∃k:Nat,k≤n∧i= .int .i64 k∧Bx (∀i,i<k→∀j,i<j→j<n→xs[j]? ≠xs[i]?)) (fun i=>n-(intOf i).toNat)
 case atStart=>exact⟨0,by omega,rfl,Bx.mk fun i hi=>by omega⟩
 case round=>
  obtain⟨k,hk,rfl,HC⟩:=hrel
  by_cases hlt:k<n
  ·obtain⟨b,off,x,rfl,hb,hx,hw,hc⟩:=H.out.get hlt;have HX:=Bx.mk hx;clear hx;go_wp2
   go_loop [7] (fun j=>∃m:Nat,k≤m∧m<n∧j= .int .i64 m∧Bx (∀j,m<j→j<n→xs[j]? ≠xs[k]?)) (fun j=>(intOf j).toNat)
   case atStart=>exact⟨n-1,by omega,by omega,by go_num,Bx.mk fun j h1 h2=>by omega⟩
   case round=>
    obtain⟨m,hkm,hmn,rfl,HM⟩:=hrel
    by_cases hm:k<m
    ·obtain⟨b',off',y,e',hb',hy,hw',hc'⟩:=H.out.get hmn;simp only[Option.some.injEq,Addr.mk.injEq,and_true] at e';obtain⟨rfl,rfl⟩:=e';have HY:=Bx.mk hy;clear hy
     by_cases hxy:y=x
     ·subst hxy;have HF:Bx (k<m∧m<n∧xs[m]? =xs[k]? ∧(∀i,i<k→∀j,i<j→j<n→xs[j]? ≠xs[i]?)∧∀j,m<j→j<n→xs[j]? ≠xs[k]?):=Bx.mk ⟨hm,hmn,by rw[HY.out,HX.out],HC.out,HM.out⟩;go_wp2;exact bodyPost_ret (v:=.tuple #[.int .i64 (k:Int),.int .i64 (m:Int),.bool true]) (by simp[results,Tryz.results190,go_sem]) rfl ⟨⟨k,m,true,rfl,fun _=>HF.out,fun h=>by cases h⟩,rfl⟩
     ·have hxy':(y == x)=false:=by simpa using hxy
      have iO:Bx (∀j,m-1<j→j<n→xs[j]? ≠xs[k]?):=Bx.mk fun j h1 h2=>by
       by_cases hj:j=m
       ·subst hj;rw[HY.out,HX.out];intro h;injection h with h;exact hxy h
       ·exact HM.out j (by omega) h2
      clear hxy;go_wp2
      go_round
      case rel=>exact⟨m-1,by omega,by omega,by go_num,iO⟩
      case measure=>simp[intOf];omega
    ·obtain rfl:m=k:=by omega
     have HC2:Bx (∀i,i<m+1→∀j,i<j→j<n→xs[j]? ≠xs[i]?):=Bx.mk fun i hi j h1 h2=>by
      by_cases hj:i=m
      ·subst hj;exact HM.out j h1 h2
      ·exact HC.out i (by omega) j h1 h2
     go_wp2
     go_round
     case rel=>exact⟨m+1,by omega,by go_num,HC2⟩
     case measure=>simp[intOf];omega
  ·obtain rfl:k=n:=by omega
   have HF:Bx (∀i j,i<j→j<k→xs[j]? ≠xs[i]?):=Bx.mk fun i j h1 h2=>HC.out i (by omega) j h1 h2
   go_wp2;exact bodyPost_ret (v:=.tuple #[.int .i64 0,.int .i64 0,.bool false]) (by simp[results,Tryz.results190,go_sem]) rfl ⟨⟨0,0,false,rfl,(fun h=>by cases h),fun _=>HF.out⟩,rfl⟩
theorem yN (t:aB) (p:List Int) (h:aC t t.start p<0):fK t p=none:=if_pos h
theorem wW (t:aB) (p:List Int) (h:0≤aC t t.start p):fK t p=some (jh t p 41):=if_neg (by omega)
theorem RY (t:aB) (p:List Int) (h:0≤aC t t.start p):prun t p 0=t.start:=by
 obtain⟨h1,h2,h3,-⟩:=(fE t t.start p).1 h;have hs:=(aV _).1 h2
 unfold prun aC
 rw[if_pos ⟨h1,h2,by simp⟩];simp only[List.take_zero,jY,opt]
 omega
def NG (t:aB) (p:List Int) (i:Nat):List Int:=(List.range i).map (prun t p)
theorem Qw (t:aB) (p:List Int) (i:Nat):(NG t p i).length=i:=by simp[NG]
theorem LM (t:aB) (p:List Int) (i:Nat):NG t p (i+1)=NG t p i++[prun t p i]:=by simp[NG,List.range_succ]
theorem DJ (v:Value) (t:aB) (A:Option Addr) (n c:Nat) (p:List Int) (w:World) (h:oW w w.heap.size v t) (hp:jd .i64 w w.heap.size A n c p):
  Calls Tryz.prog 164 #[v,.slice A n c] w (Gives w (fun v=>.tuple #[v,.bool (fK t p).isSome]) fun v=>[ax v ((fK t p).getD [])]):=by
 have h':=h;obtain⟨G,gn,gc,G',n',c',rfl,hg,hgs,hds,hst⟩:=h;have HT:=af h';have HP:=af hp;have Bf:=af hds;have gy:=af hds.len;have BO:=af hp.len;have hcap:=hp.cap;have hcm:=hp.dw
 unfold maxLen at hcm
 obtain⟨ts,hts⟩:∃x,t.start=x:=⟨_,rfl⟩;have Vj:=Bx.mk hts;rw[hts] at HT ⊢
 have aS:=af ((St.refl w).alloc #[.int .i64 ts,.slice G gn gc,.slice G' n' c'] 26);clear hds h' hg hp hts hst;obtain⟨z0,hz0⟩:∃z,aC t ts p=z:=⟨_,rfl⟩;have HZ:=Bx.mk hz0;clear hz0
 by_cases hneg:z0<0
 ·have HN:Bx (fK t p=none):=Bx.mk (yN t p (by rw[Vj.out,HZ.out];exact hneg));go_enter Tryz.func164,Tryz.ntmps164
  go_wp2_with fail
  refine(mW _ t ts A n c p _ (HT.out.up aS.out.below) (HP.out.up aS.out.below)).mono ?_;rw[HZ.out];rintro e w1 ⟨rfl,hb1⟩;have HB:=af (aS.out.quiet hb1).below;clear hb1;go_wp2;refine bodyPost_ret (v:=.tuple #[.slice none 0 0,.bool false]) (by simp[results,Tryz.results164,go_sem]) rfl ⟨.slice none 0 0,by rw[HN.out];rfl,?_⟩;rw[HN.out];exact iw _ _ HB.out
 ·have hz0:0≤aC t t.start p:=by rw[Vj.out,HZ.out];omega
  have HR:=Bx.mk hz0;obtain⟨hok,hsi,Vk,-⟩:=(fE t t.start p).1 hz0;have bG:=af hok;have gQ:=af (aJ t hok).2.2.2;have pz:n'≤6:=by rw[←gy.out];exact(aJ t hok).2.2.1
  have HY:=Bx.mk (wW t p hz0);have kQ:n≤40:=by rw[←BO.out];exact Vk
  have hsw:(Lit.int .i64 ts).wf=true:=bU (by have:=(aV _).1 hsi;rw[Vj.out] at this;omega);have Xu:Bx (prun t p 0=ts):=Bx.mk (by rw[RY t p hz0,Vj.out]);obtain⟨i0,hi,hq0,hq1,hq2⟩:=iR.hi;clear hz0 hok hsi Vk;go_enter Tryz.func164,Tryz.ntmps164
  go_wp2_with fail
  refine(mW _ t ts A n c p _ (HT.out.up aS.out.below) (HP.out.up aS.out.below)).mono ?_;rw[HZ.out];rintro e w1 ⟨rfl,hb1⟩;have bf:=af (aS.out.quiet hb1);have q1:=bf.out.cells 0 rfl;obtain⟨g1,hg1⟩:∃g,w1.heap.size=g:=⟨_,rfl⟩
  have HS2:Hid (St w (w1.alloc (.cells #[.int .i64 ts] 3)) [ah w.heap.size 26 #[.int .i64 ts,.slice G gn gc,.slice G' n' c'],ax (.slice (some ⟨g1,0,none⟩) 1 1) (NG t p 1)]):=af (by
   have e:NG t p 1=[ts]:=by rw[LM,Xu.out];rfl
   rw[e,←hg1]
   exact bf.out.call (St.lit w1 [ts] 1 rfl (by simp) (fun x hx=>by rw[List.mem_singleton.1 hx];exact hsw)))
  clear hb1 bf aS
  go_wp2_with (at_make;refine wpList_make_own _ rfl _ _ 23 rfl (w1.alloc (.cells #[.int .i64 ts] 3)).heap.size 3 i0 _ 1 Tryz.underlying23 hi hq0 hq1 _ _ _ n rfl rfl rfl (by rw[hq2];omega) (by unfold maxLen;omega) (aA _) ?_;intro w2 hown2 acr;have cu:=af (HS2.out.call (St.ofMake (g:=g1+1) (by simp[hg1]) hown2 acr)))
  clear hown2 acr HS2 q1
  go_loopw [29,6,7,8] (fun i sv x7 x8 wr=>∃(k s:Nat) (y7 y8:Value),k≤n∧i= .int .i64 k∧sv= .int .i64 s∧y7=x7∧y8=x8∧s<32∧Bx (prun t p k=(s:Int))∧Bx ((p.take k).length=k)∧St w wr [ah w.heap.size 26 #[.int .i64 ts,.slice G gn gc,.slice G' n' c'],ax y7 (NG t p (k+1)),ax y8 (p.take k)]) (fun i _ _ _ _=>n-(intOf i).toNat)
  case atStart=>
   obtain⟨s,hs⟩:=bC (show 0≤ts by have:=(aV _).1 ((fE t t.start p).1 HR.out).2.1;rw[Vj.out] at this;omega);have mG:s<32:=by have:=(aV _).1 ((fE t t.start p).1 HR.out).2.1;rw[Vj.out] at this;omega
   exact⟨0,s,_,_,by omega,rfl,by rw[hs],rfl,rfl,mG,Bx.mk (by rw[Xu.out,hs]),Bx.mk (by simp),by rw[List.take_zero];exact cu.out⟩
  case round=>
   clear cu;obtain⟨k,s,y7,y8,hk,rfl,rfl,rfl,rfl,hs,HV,OA,S⟩:=hrel;have HS:=af S;have q0:=S.cells 0 rfl;clear S
   by_cases hlt:k<n
   ·obtain⟨b,off,x,rfl,hb,hx,hwx,hc⟩:=HP.out.get hlt;have hcr:wr.cell? ⟨b,off+k,none⟩=some (.int .i64 x):=(aF HS.out.below b _ hb).trans hc;have HXK:=Bx.mk hx;obtain⟨m,d,s1,s',rfl,hd,hv1,-,hdo,hs',hv2⟩:=RX HR.out hx;obtain rfl:s1=s:=by have:=HV.out;rw[hv1] at this;exact_mod_cast this
    have hm:m<n':=by rw[←gy.out];exact(bI.1 hd).1
    obtain⟨b',off',d',rfl,hb',hd',hda⟩:=Bf.out.get hm
    obtain rfl:d'=d:=by rw[hd] at hd';injection hd' with hd';exact hd'.symm
    obtain⟨An,nn,cn,p0,p1,p2,p3,dU,hnn,-⟩:=hda;have r0:wr.cell? ⟨b',off'+m*4,none⟩=some (.slice An nn cn):=(aF HS.out.below b' _ hb').trans p0;have r1:wr.cell? ⟨b',off'+m*4+1,none⟩=some (.int .i64 d'.on):=(aF HS.out.below b' _ hb').trans p1;have r2:wr.cell? ⟨b',off'+m*4+2,none⟩=some (.int .i64 d'.off):=(aF HS.out.below b' _ hb').trans p2;have r3:wr.cell? ⟨b',off'+m*4+3,none⟩=some (.int .i64 d'.flip):=(aF HS.out.below b' _ hb').trans p3;have NE:=af (gQ.out d' (bT hd));have Ll:=af dU;have UQ:=af hdo;have YJ:=Bx.mk hv2;have HT2:Bx (p.take (k+1)=p.take k++[(m:Int)]):=Bx.mk (take_succ' hx);have adL:Bx ((p.take (k+1)).length=k+1):=Bx.mk (by rw[List.length_take,BO.out];omega);have hmi:(m:Int)<(n':Int):=by omega
    clear p0 p1 p2 p3 dU hd hd' hdo hv1 hv2 hx hc
    go_wp2_with fail
    refine(mZ An nn cn d' s1 _ (Ll.out.up HS.out.below) NE.out hs).mono ?_;rw[UQ.out];rintro e w3 ⟨rfl,hb3⟩;have fH:=af (HS.out.quiet hb3);clear hb3 q0 r0 r1 r2 r3 hcr HS;simp only[opt];have HR7:Hid (w3.ownsRow 0 3 1 y7 (k+1) (ints (NG t p (k+1)))):=af (by have:=fH.out.qA 1 rfl;rw[Qw] at this;exact this)
    have acs:Hid (∀v3 w3',w3'.ownsRow 0 3 1 v3 (k+1+1) (ints (NG t p (k+1))++[Value.int .i64 (s':Int)])→(w3.alloc (.cells #[.int .i64 (s':Int)] 3)).grownBy w3' y7.ownBlock→(v3.ownBlock=y7.ownBlock∨v3.ownBlock=some (w3.alloc (.cells #[.int .i64 (s':Int)] 3)).heap.size)→
      St w w3' [ah w.heap.size 26 #[.int .i64 ts,.slice G gn gc,.slice (some ⟨b',off',none⟩) n' c'],ax v3 (NG t p (k+1+1)),ax y8 (p.take k)]):=
     af fun v3 w3' h1 h2 h3=>by
      have:=St.rY (v:=y7) (xs:=NG t p (k+1)) (ys:=[(s':Int)]) (n:=k+1+1) ((fH.out.alloc #[.int .i64 (s':Int)] 3).pick [0,1,2] (by decide) rfl rfl) 1 rfl (by rw[Qw];rfl) h1 (by intro y hy;simp at hy;subst hy;exact bU (by omega)) h2 h3
      rw[LM t p (k+1),YJ.out];exact this
    clear HV
    go_wp2_with (first
     | (at_builtin;refine cZ iR rfl (.tmp 40) (.tmp 42) rfl 0 y7 (k+1) (ints (NG t p (k+1))) rfl (HR7.out.alloc _) _ _ 1 1 [.int .i64 (s':Int)] rfl (bJ.new w3 [.int .i64 (s':Int)] 3 1 1 rfl (by unfold maxLen;omega)) (by simp[Value.oneCell']) (by omega) (by omega) (Nat.zero_le _) ?_;intro v4 w4 hown4 hg4 yO;have dX:=af (acs.out v4 w4 hown4 hg4 yO);have HR8:=af (dX.out.qA 2 rfl);clear hown4 hg4 yO acs HR7 fH)
     | (at_builtin;refine cZ iR rfl (.tmp 44) (.tmp 46) rfl 0 y8 (p.take k).length (ints (p.take k)) rfl (HR8.out.alloc _) _ _ 1 1 [.int .i64 (m:Int)] rfl (bJ.new w4 [.int .i64 (m:Int)] 3 1 1 rfl (by unfold maxLen;omega)) (by simp[Value.oneCell']) (by rw[OA.out];omega) (by rw[OA.out];omega) (Nat.zero_le _) ?_;intro v5 w5 hown5 hg5 Fp))
    have jB:Hid (St w w5 [ah w.heap.size 26 #[.int .i64 ts,.slice G gn gc,.slice (some ⟨b',off',none⟩) n' c'],ax v4 (NG t p (k+1+1)),ax v5 (p.take (k+1))]):=af (by
     rw[HT2.out]
     exact St.rY (v:=y8) (xs:=p.take k) (ys:=[(m:Int)]) ((dX.out.alloc #[.int .i64 (m:Int)] 3).pick [0,1,2] (by decide) rfl rfl) 2 rfl rfl hown5 (by intro y hy;simp at hy;subst hy;exact bU (by omega)) hg5 Fp)
    clear hown5 hg5 Fp dX HR8;go_wp2
    go_roundw
    case rel=>exact⟨k+1,s',_,_,by omega,by go_num,rfl,rfl,rfl,hs',YJ,adL,jB.out⟩
    case measure=>simp[intOf];omega
   ·obtain rfl:k=n:=by omega
    have fH:Hid (St w wr [ah w.heap.size 26 #[.int .i64 ts,.slice G gn gc,.slice G' n' c'],ax y7 (zC t p),ax y8 p]):=af (by
     have:=HS.out
     rw[gW (by rw[BO.out];exact aA _)] at this;have e:NG t p (k+1)=zC t p:=by unfold NG zC;rw[BO.out]
     rw[e] at this
     exact this)
    clear HS q0 HV OA hlt;go_wp2
    go_loopw [7,8] (fun x7 x8 wr=>∃(a z:Nat) (q:List Int) (y7 y8:Value),y7=x7∧y8=x8∧lenV x8=z∧a≤41∧z≤40∧Bx (q.length=z)∧Bx (jh t p a=q)∧Bx (sN t q a)∧Bx (0≤aC t t.start q)∧St w wr [ah w.heap.size 26 #[.int .i64 ts,.slice G gn gc,.slice G' n' c'],ax y7 (zC t q),ax y8 q]) (fun _ x8 _=>lenV x8)
    case atStart=>
     refine⟨0,k,p,_,_,rfl,rfl,?_,by omega,by omega,Bx.mk BO.out,Bx.mk rfl,Bx.mk (fun i hi=>by omega),HR,fH.out⟩;obtain⟨A8,c8,Ub,-⟩:=fH.out.uj 2 rfl;rw[Ub,BO.out];rfl
    case round=>
     clear fH;obtain⟨a,z,q,y7,y8,rfl,rfl,hlv,ha,hz,BR,zB,Ud,HRQ,S⟩:=hrel;have fH:=af S;have acu:Bx ((zC t q).length=z+1):=Bx.mk (by rw[yM,BR.out]);obtain⟨g,sc,hv7⟩:=S.Lj 1 rfl acu.out (by omega);obtain⟨A8,c8,Ub,-⟩:=S.uj 2 rfl;rw[BR.out] at Ub;subst hv7 Ub;have zY:=af (S.oZ 1 rfl);clear S hlv
     go_wp2_with fail
     refine(Ee _ (z+1) sc (zC t q) _ zY.out).mono ?_;rintro e w2 ⟨⟨f,l,b2,rfl,hyes,hno⟩,rfl⟩
     cases b2 with
     |false=>
      have HE:Bx ((fK t p).getD []=q):=Bx.mk (by
       rw[HY.out,Option.getD_some]
       have hcl:sN t q (q.length+1):=fun i hi j hij hj=>by
        have:=hno rfl i j hij (by rw[←BR.out];omega)
        rw[qj t q hj,qj t q (by omega)] at this;exact fun e=>this (by rw[e])
       have:=Oe zB.out hcl (41-a)
       rwa[show a+(41-a)=41 by omega] at this)
      clear hyes hno;go_wp2;refine bodyPost_ret (v:=.tuple #[.slice A8 z c8,.bool true]) (by simp[results,Tryz.results164,go_sem]) rfl ⟨.slice A8 z c8,by rw[HY.out];rfl,?_⟩;rw[HE.out];exact fH.out.pick [2] (by decide) rfl rfl
     |true=>
      obtain⟨hfl,hln,he,hfirst,hlast⟩:=hyes rfl;have hlz:l≤z:=by omega
      have HE:Bx (prun t q l=prun t q f):=Bx.mk (by
       rw[qj t q (by rw[BR.out];omega),qj t q (by rw[BR.out];omega)] at he
       injection he)
      have HF:Bx (sN t q f):=Bx.mk fun i hi j hij hj=>by
       have:=hfirst i hi j hij (by rw[←BR.out];omega)
       rw[qj t q hj,qj t q (by omega)] at this;exact fun e=>this (by rw[e])
      have HLA:Bx (∀j,l<j→j≤q.length→prun t q j≠prun t q f):=Bx.mk fun j hj hj'=>by
       have:=hlast j hj (by rw[←BR.out];omega)
       rw[qj t q hj',qj t q (by rw[BR.out];omega)] at this;exact fun e=>this (by rw[e])
      have haf:a≤f:=by
       rcases Nat.lt_or_ge f a with h | h
       ·exact absurd HE.out (Ud.out f h l hfl (by rw[BR.out];exact hlz))
       ·exact h
      have HCC:=Bx.mk (RH HRQ.out hfl (by rw[BR.out];exact hlz) HE.out HF.out HLA.out)
      have OO:Bx (jh t p (f+1)=q.take f++q.drop l):=Bx.mk (by
       show cutAt t (jh t p f) f=_
       rw[RG zB.out haf HF.out]
       exact HCC.out.1)
      have aat:Bx (0≤aC t t.start (q.take f++q.drop l)):=Bx.mk (by rw[←OO.out,xB HR.out];exact HR.out);have HTC:=Bx.mk (Xt HRQ.out (Nat.le_of_lt hfl) (by rw[BR.out];exact hlz) HE.out);have Xv:Bx ((q.take f++q.drop l).length=f+(z-l)):=Bx.mk (by rw[bQ,List.length_take,List.length_drop,BR.out];omega);obtain⟨b,c,Ub⟩:=fH.out.Lj 2 rfl BR.out (by omega);simp only[Value.slice.injEq,true_and] at Ub;obtain⟨rfl,rfl⟩:=Ub;have hzc:z≤c8:=(fH.out.oZ 2 rfl).cap;have adM:c8≤maxLen:=(fH.out.oZ 2 rfl).dw;have hzs:z+1≤sc:=zY.out.cap;have adN:sc≤maxLen:=zY.out.dw
      unfold maxLen at adM adN
      have adO:=BR;have adP:=acu;have adQ:=Xv;have adR:Bx (((zC t q).take f++(zC t q).drop l).length=f+(z+1-l)):=Bx.mk (by rw[bQ,List.length_take,List.length_drop,yM,BR.out];omega)
      obtain⟨AL1,CL1,acv⟩:∃(x:Option Addr) (y:Nat),(c8=l→x=some ⟨b,0,none⟩∧y=0)∧(c8≠l→x=some ⟨b,l,none⟩∧y=c8-l):=by
       by_cases h:c8=l
       ·exact⟨_,_,fun _=>⟨rfl,rfl⟩,fun k=>absurd h k⟩
       ·exact⟨_,_,fun k=>absurd k h,fun _=>⟨rfl,rfl⟩⟩
      have aau:=Bx.mk acv
      obtain⟨AL2,CL2,acw⟩:∃(x:Option Addr) (y:Nat),(sc=l→x=some ⟨g,0,none⟩∧y=0)∧(sc≠l→x=some ⟨g,l,none⟩∧y=sc-l):=by
       by_cases h:sc=l
       ·exact⟨_,_,fun _=>⟨rfl,rfl⟩,fun k=>absurd h k⟩
       ·exact⟨_,_,fun k=>absurd k h,fun _=>⟨rfl,rfl⟩⟩
      have Vl:=Bx.mk acw;clear hyes hno he hfirst hlast acv acw Ud zB HLA HF zY HE;obtain⟨c,rfl⟩:∃c,c=c8:=⟨_,rfl⟩;have hfc:f≤c:=by omega
      have hfs:f≤sc:=by omega
      have hlz1:l≤z+1:=by omega
      have afh:(l:Int)≤(z:Int)+1:=by omega
      have afi:(f:Int)≤(sc:Int):=by omega
      have hfi:(f:Int)<(l:Int):=by omega
      have hli:(l:Int)≤(z:Int):=by omega
      have afj:(z:Int)≤(c:Int):=by omega
      have afk:(z:Int)+1≤(sc:Int):=by omega
      go_upto_region 16 with(fail)
      refine kG (σ:=Option Addr×Nat)
       (fun s i=>match i with
        |0=>.slice (some ⟨b,0,none⟩) z c
        |1=>.int .i64 (f:Int)
        |2=>.slice (some ⟨b,0,none⟩) f c
        |3=>.slice (some ⟨b,0,none⟩) z c
        |4=>.int .i64 (l:Int)
        |5=>.slice AL1 (z-l) CL1
        |6=>.slice s.1 (f+(z-l)) s.2
        |7=>.slice s.1 (f+(z-l)) s.2
        |_=>undef)
       (fun D s J4=>Sn w J4 fun i=>match i with
        |0=>some (ah w.heap.size 26 #[.int .i64 ts,.slice G gn gc,.slice G' n' c'])
        |1=>some (ax (.slice (some ⟨g,0,none⟩) (z+1) sc) (zC t q))
        |2=>some (ax (if D 6=true then(.slice s.1 (f+(z-l)) s.2) else .slice (some ⟨b,0,none⟩) z c) (if D 6=true then(q.take f++q.drop l) else q))
        |_=>none)
       (none,0) ?_ ?_ ?_
      ·intro D hD;refine((Sn.dN fH.out).quiet ((ai _ _).drew)).congr fun i=>?_
       match i with
       |0 | 1=>rfl
       |2=>simp only[hD 6 (by decide)];rfl
       |q+3=>rfl
      ·refine Cs (fun D s J4 hR hDi hd hsh _ hs K hK=>?_) ?_
       ·have m7:D 7=false:=hsh.no hDi 7 rfl ⟨0,.phase⟩ (by simp) rfl rfl;have e8:=hs.before 7 8 (u:=.slice (some ⟨b,0,none⟩) z c) rfl m7 (by kernel_rfl) rfl;clear hs;go_simp;exact hK s J4 sv hR
       refine Cs (fun D s J4 hR _ hd _ _ hs K hK=>?_) ?_
       ·have e11:=hs.o 11 (.int .i64 (f:Int));clear hs;go_simp;exact hK s J4 sv hR
       refine Cs (fun D s J4 hR _ hd _ _ hs K hK=>?_) ?_
       ·have e58:=hs.v 0 58 hd;have e59:=hs.v 1 59 hd;clear hs;go_simp;exact hK s J4 sv hR
       refine Cs (fun D s J4 hR hDi hd hsh _ hs K hK=>?_) ?_
       ·have m7:D 7=false:=hsh.no hDi 7 rfl ⟨3,.phase⟩ (by simp) rfl rfl;have e8:=hs.before 7 8 (u:=.slice (some ⟨b,0,none⟩) z c) rfl m7 (by kernel_rfl) rfl;clear hs;go_simp;exact hK s J4 sv hR
       refine Cs (fun D s J4 hR _ hd _ _ hs K hK=>?_) ?_
       ·have e12:=hs.o 12 (.int .i64 (l:Int));clear hs;go_simp;exact hK s J4 sv hR
       refine Cs (fun D s J4 hR _ hd _ _ hs K hK=>?_) ?_
       ·have e61:=hs.v 3 61 hd;have e62:=hs.v 4 62 hd;clear hs
        by_cases hlc:(l:Int)=(c:Nat)
        ·have Ef:c=l:=by omega
         have hlq:(c:Int)≤(z:Int):=by omega
         obtain⟨rfl,rfl⟩:=aau.out.1 Ef;go_simp;exact hK s J4 sv hR
        ·have Ef:c≠l:=by omega
         obtain⟨rfl,rfl⟩:=aau.out.2 Ef;go_simp;exact hK s J4 sv hR
       refine Cs (fun D s J4 hR (hDi:D 6=false) hd hsh _ hs K hK=>?_) ?_
       ·have e60:=hs.v 2 60 hd;have e63:=hs.v 5 63 hd;have g60:=aX e60;have g63:=aX e63;clear hs;have n7:D 7=false:=hsh.no hDi 7 rfl ⟨6,.data⟩ (by simp) rfl rfl;have ho:=hR.Vg 2 (g:=b) (n:=z) (c:=c) (xs:=q) (m:=f) (by simp only[hDi];rfl) adO.out (by omega);have hr:=hR.OM 2 (g:=b) (n:=z) (c:=c) (xs:=q) (l:=l) (AL:=AL1) (by simp only[hDi];rfl) (by omega) aau.out;refine ni iR (.tmp 60) (.tmp 63) rfl 0 _ f _ e60 ho _ AL1 (z-l) CL1 _ e63 hr (gG _) (by omega) (by omega) (by omega) ?_;intro v' w' hown hg hat;obtain⟨A4,c4,hv⟩:=dR hown;subst hv
        exact hK (A4,c4) w'
         (fun j hj=>by
          match j,hj with
          |0,hj | 1,hj | 2,hj | 3,hj | 4,hj | 5,hj=>rfl
          |6,hj=>rw[hDi] at hj;cases hj
          |7,hj=>rw[n7] at hj;cases hj
          |_+8,hj=>rfl)
         ((hR.Vh 2 (g:=b) (n:=z) (c:=c) (xs:=q) (a:=q.take f) (b:=q.drop l) (by simp only[hDi];rfl) adQ.out (fun y hy=>List.mem_of_mem_take hy) (fun y hy=>List.mem_of_mem_drop hy) hown hg hat).congr
          (fun i=>by
           match i with
           |0 | 1 | 2=>rfl
           |q+3=>exact(if_neg (show¬(q+3=2) by omega)).symm))
       refine Cs (fun D s J4 hR _ hd _ _ hs K hK=>?_) ?_
       ·have e64:=hs.v 6 64 hd;clear hs;go_simp;exact hK s J4 sv hR
       exact aj.nil
      ·intro D s J4 hR hD;simp only[eH,Act.put,aO,aU,aW];have acy:=hR.eG [0,1,2] (L:=[ah w.heap.size 26 #[.int .i64 ts,.slice G gn gc,.slice G' n' c'],ax (.slice (some ⟨g,0,none⟩) (z+1) sc) (zC t q),ax (.slice s.1 (f+(z-l)) s.2) (q.take f++q.drop l)]) (by decide) (by simp only[List.map,hD 6 (by decide)];rfl);obtain⟨A5,c5⟩:=s;have dX:=af acy;clear hR hD fH acy
       go_upto_region 17 with(fail)
       refine kG (σ:=Option Addr×Nat)
        (fun s i=>match i with
         |0=>.slice (some ⟨g,0,none⟩) (z+1) sc
         |1=>.int .i64 (f:Int)
         |2=>.slice (some ⟨g,0,none⟩) f sc
         |3=>.slice (some ⟨g,0,none⟩) (z+1) sc
         |4=>.int .i64 (l:Int)
         |5=>.slice AL2 ((z+1)-l) CL2
         |6=>.slice s.1 (f+((z+1)-l)) s.2
         |7=>.slice s.1 (f+((z+1)-l)) s.2
         |_=>undef)
        (fun D s J5=>Sn w J5 fun i=>match i with
         |0=>some (ah w.heap.size 26 #[.int .i64 ts,.slice G gn gc,.slice G' n' c'])
         |1=>some (ax (if D 6=true then(.slice s.1 (f+((z+1)-l)) s.2) else .slice (some ⟨g,0,none⟩) (z+1) sc) (if D 6=true then((zC t q).take f++(zC t q).drop l) else(zC t q)))
         |2=>some (ax (.slice A5 (f+(z-l)) c5) (q.take f++q.drop l))
         |_=>none)
        (none,0) ?_ ?_ ?_
       ·intro D hD;refine((Sn.dN dX.out).quiet ((ai _ _).drew)).congr fun i=>?_
        match i with
        |0=>rfl
        |1=>simp only[hD 6 (by decide)];rfl
        |2=>rfl
        |q+3=>rfl
       ·refine Cs (fun D s J5 hR hDi hd hsh _ hs K hK=>?_) ?_
        ·have m7:D 7=false:=hsh.no hDi 7 rfl ⟨0,.phase⟩ (by simp) rfl rfl;have e7:=hs.before 7 7 (u:=.slice (some ⟨g,0,none⟩) (z+1) sc) rfl m7 (by kernel_rfl) rfl;clear hs;go_simp;exact hK s J5 sv hR
        refine Cs (fun D s J5 hR _ hd _ _ hs K hK=>?_) ?_
        ·have e11:=hs.o 11 (.int .i64 (f:Int));clear hs;go_simp;exact hK s J5 sv hR
        refine Cs (fun D s J5 hR _ hd _ _ hs K hK=>?_) ?_
        ·have e65:=hs.v 0 65 hd;have YD:=hs.v 1 66 hd;clear hs;go_simp;exact hK s J5 sv hR
        refine Cs (fun D s J5 hR hDi hd hsh _ hs K hK=>?_) ?_
        ·have m7:D 7=false:=hsh.no hDi 7 rfl ⟨3,.phase⟩ (by simp) rfl rfl;have e7:=hs.before 7 7 (u:=.slice (some ⟨g,0,none⟩) (z+1) sc) rfl m7 (by kernel_rfl) rfl;clear hs;go_simp;exact hK s J5 sv hR
        refine Cs (fun D s J5 hR _ hd _ _ hs K hK=>?_) ?_
        ·have e12:=hs.o 12 (.int .i64 (l:Int));clear hs;go_simp;exact hK s J5 sv hR
        refine Cs (fun D s J5 hR _ hd _ _ hs K hK=>?_) ?_
        ·have UC:=hs.v 3 68 hd;have e69:=hs.v 4 69 hd;clear hs
         by_cases hlc:(l:Int)=(sc:Nat)
         ·have Ef:sc=l:=by omega
          have hlq:(sc:Int)≤((z:Int)+1:Int):=by omega
          obtain⟨rfl,rfl⟩:=Vl.out.1 Ef;go_simp;exact hK s J5 sv hR
         ·have Ef:sc≠l:=by omega
          obtain⟨rfl,rfl⟩:=Vl.out.2 Ef;go_simp;exact hK s J5 sv hR
        refine Cs (fun D s J5 hR (hDi:D 6=false) hd hsh _ hs K hK=>?_) ?_
        ·have Qd:=hs.v 2 67 hd;have e70:=hs.v 5 70 hd;have g67:=aX Qd;have g70:=aX e70;clear hs;have n7:D 7=false:=hsh.no hDi 7 rfl ⟨6,.data⟩ (by simp) rfl rfl;have ho:=hR.Vg 1 (g:=g) (n:=(z+1)) (c:=sc) (xs:=(zC t q)) (m:=f) (by simp only[hDi];rfl) adP.out (by omega);have hr:=hR.OM 1 (g:=g) (n:=(z+1)) (c:=sc) (xs:=(zC t q)) (l:=l) (AL:=AL2) (by simp only[hDi];rfl) (by omega) Vl.out;refine ni iR (.tmp 67) (.tmp 70) rfl 0 _ f _ Qd ho _ AL2 ((z+1)-l) CL2 _ e70 hr (gG _) (by omega) (by omega) (by omega) ?_;intro v' w' hown hg hat;obtain⟨A4,c4,hv⟩:=dR hown;subst hv
         exact hK (A4,c4) w'
          (fun j hj=>by
           match j,hj with
           |0,hj | 1,hj | 2,hj | 3,hj | 4,hj | 5,hj=>rfl
           |6,hj=>rw[hDi] at hj;cases hj
           |7,hj=>rw[n7] at hj;cases hj
           |_+8,hj=>rfl)
          ((hR.Vh 1 (g:=g) (n:=(z+1)) (c:=sc) (xs:=(zC t q)) (a:=(zC t q).take f) (b:=(zC t q).drop l) (by simp only[hDi];rfl) adR.out (fun y hy=>List.mem_of_mem_take hy) (fun y hy=>List.mem_of_mem_drop hy) hown hg hat).congr
           (fun i=>by
            match i with
            |0 | 1 | 2=>rfl
            |q+3=>exact(if_neg (show¬(q+3=1) by omega)).symm))
        refine Cs (fun D s J5 hR _ hd _ _ hs K hK=>?_) ?_
        ·have e71:=hs.v 6 71 hd;clear hs;go_simp;exact hK s J5 sv hR
        exact aj.nil
       ·intro D s J5 hR hD;simp only[eH,Act.put,aO,aU,aW];have aav:=hR.eG [0,1,2] (L:=[ah w.heap.size 26 #[.int .i64 ts,.slice G gn gc,.slice G' n' c'],ax (.slice s.1 (f+(z+1-l)) s.2) ((zC t q).take f++(zC t q).drop l),ax (.slice A5 (f+(z-l)) c5) (q.take f++q.drop l)]) (by decide) (by simp only[List.map,hD 6 (by decide)];rfl);rw[←HTC.out] at aav;have jB:=af aav;clear hR hD dX aav;go_wp2
        go_roundw
        case rel=>exact⟨f+1,f+(z-l),q.take f++q.drop l,_,_,rfl,rfl,rfl,by omega,by omega,Xv,OO,Bx.mk HCC.out.2,aat,jB.out⟩
        case measure=>simp only[lenV];omega
end Go.Proofs.YtkmcengmglgdeaaGreatDoor
