/- Joined texts: Push, Split, Came, Help. -/
import Derived.Test.YtkmcengmglgdeaaGreatDoorSReg
import Derived.Test.YtkmcengmglgdeaaGreatDoorSEq
import Derived.Test.YtkmcengmglgdeaaGreatDoorSSz
import Derived.Deep.Slices
import Derived.ChangeOld

namespace Go.Proofs.YtkmcengmglgdeaaGreatDoor
set_option linter.unusedVariables false
set_option linter.unusedSimpArgs false
set_option maxRecDepth 100000
set_option maxHeartbeats 8000000
open Go.ChangeShapes Go.WideShapes Go.ChangeAt Go.RowKit
theorem oK {P:Program} {f:FuncId} {args:Array Value} {w:World} {n:Nat} {v:Value}
  (h:Calls P f args (w.drewN n) fun e w'=>e= .returned v∧w.drewN n=w'):Calls P f args (w.drewN n) fun e w''=>e= .returned v∧∃m,w''=w.drewN m:=
 h.mono fun _ _ ⟨he,hm⟩=>⟨he,n,hm.symm⟩
theorem FB {α:Type} {a b:List α} (h1:a.Nodup) (h2:b.Nodup) (h3:∀x∈a,x∉b):(a++b).Nodup:=
 List.nodup_append.2 ⟨h1,h2,fun x hx y hy e=>h3 x hx (e▸hy)⟩
section
variable {w W W' : World} {M : Nat → Option dW}
theorem Sn.merge (h:Sn w W M) (k j:Nat) (hne:k≠j) {R S T:dW} (hk:M k=some R) (hj:M j=some S)
  (q:∀F G,R.at_ W F→S.at_ W G→(∀b∈F,b∉G)→(∀b∈F,w.heap.size≤b)→∃F',T.at_ W' F'∧(∀b∈F',b∈F∨b∈G∨W.heap.size≤b)∧Only F W W'):
  Sn w W' (fun i=>if i=k then some T else if i=j then none else M i):=by
 obtain⟨F,ha,hd⟩:=h.has;obtain⟨h1,h2⟩:=ha k R hk;obtain⟨g1,g2⟩:=ha j S hj;obtain⟨F',k1,k2,k3⟩:=q _ _ h1 g1 (hd k j hne (by rw[hk];simp) (by rw[hj];simp)) h2;have hw:=h.below.size
 have hold:∀i,i≠k→i≠j→M i≠none→∃S,M i=some S∧S.at_ W (F i)∧(∀b∈F i,w.heap.size≤b)∧(∀b∈F i,b<W.heap.size)∧(∀b∈F i,b∉F k)∧∀b∈F i,b∉F j:=fun i hne hne' hi=>by
  obtain⟨S',hS⟩:=Option.ne_none_iff_exists'.1 hi;exact⟨S',hS,(ha i S' hS).1,(ha i S' hS).2,S'.lt W _ (ha i S' hS).1,hd i k hne hi (by rw[hk];simp),hd i j hne' hi (by rw[hj];simp)⟩
 refine⟨h.below.trans (k3.below h2 hw),fun i=>if i=k then F' else F i,fun i S' hS=>?_,fun i l hil hi hl b hb hb'=>?_⟩
 ·by_cases e:i=k
  ·subst e;simp only[if_true] at hS ⊢
   injection hS with hS
   subst hS;exact⟨k1,fun b hb=>(k2 b hb).elim (h2 b) (fun hx=>hx.elim (g2 b) (fun hx=>by omega))⟩
  ·simp only[if_neg e] at hS ⊢
   by_cases e':i=j
   ·rw[if_pos e'] at hS;cases hS
   rw[if_neg e'] at hS;obtain⟨S'',q1,q2,q3,q4,q5,q6⟩:=hold i e e' (by rw[hS];simp);rw[hS] at q1
   injection q1 with q1
   subst q1;exact⟨S'.keep W W' _ q2 fun b hb=>k3.block b (q4 b hb) (q5 b hb),q3⟩
 ·have key:∀i,i≠k→i≠j→M i≠none→∀b∈F i,b∉F':=fun i hne hne' hi b hb hf=>by
   obtain⟨S',q1,q2,q3,q4,q5,q6⟩:=hold i hne hne' hi
   rcases k2 b hf with hx | hx | hx
   ·exact q5 b hb hx
   ·exact q6 b hb hx
   ·have:=q4 b hb;omega
  have hij:∀i,i≠k→(if i=k then some T else if i=j then none else M i)≠none→i≠j∧M i≠none:=fun i hne hh=>by
   rw[if_neg hne] at hh
   by_cases e:i=j
   ·rw[if_pos e] at hh;exact absurd rfl hh
   ·rw[if_neg e] at hh;exact⟨e,hh⟩
  by_cases e:i=k
  ·subst e
   by_cases e':l=i
   ·exact hil e'.symm
   ·simp only[if_true,if_neg e'] at hb hb';obtain⟨a1,a2⟩:=hij l e' hl;exact key l e' a1 a2 b hb' hb
  ·obtain⟨a1,a2⟩:=hij i e hi
   by_cases e':l=k
   ·subst e';simp only[if_true,if_neg e] at hb hb';exact key i e a1 a2 b hb hb'
   ·obtain⟨b1,b2⟩:=hij l e' hl;simp only[if_neg e,if_neg e'] at hb hb';exact hd i l hil a2 b2 b hb hb'
theorem Sn.drop (h:Sn w W M) (k:Nat):Sn w W (fun i=>if i=k then none else M i):=by
 obtain⟨F,ha,hd⟩:=h.has;refine⟨h.below,F,fun i R hR=>?_,fun i j hne hi hj=>?_⟩
 ·by_cases e:i=k
  ·rw[if_pos e] at hR;cases hR
  ·rw[if_neg e] at hR;exact ha i R hR
 ·refine hd i j hne (fun e=>hi ?_) (fun e=>hj ?_)
  ·split
   ·rfl
   ·exact e
  ·split
   ·rfl
   ·exact e
theorem BN {b b':Nat} {e e':TypeId} {size n:Nat} {v:Value} {xs ys:List Value} (h:W.ownsRow b e size v n xs) (k:W.ownsRow b' e' size v n ys):xs=ys:=by
 obtain⟨h1,h2⟩:=h;obtain⟨k1,k2⟩:=k
 rcases h2 with⟨rfl,h2⟩ | ⟨g,cap,cur,rfl,hg,hh,-,-,-,h6⟩
 ·rcases k2 with⟨-,k2⟩ | ⟨g',cap',cur',e,-⟩
  ·subst h2;rw[Nat.zero_mul] at h1 k1;rw[List.eq_nil_of_length_eq_zero h1,List.eq_nil_of_length_eq_zero k1]
  ·cases e
 ·rcases k2 with⟨e,-⟩ | ⟨g',cap',cur',e,-,kh,-,-,-,k6⟩
  ·cases e
  ·simp only[Value.slice.injEq,Option.some.injEq,Addr.mk.injEq,and_true,true_and] at e;obtain⟨rfl,rfl⟩:=e;rw[hh] at kh
   injection kh with kh
   injection kh with kh
   subst kh;rw[←h6,←k6]
theorem iH.push {v v' nv:Value} {ds:List aj} {F G:List Nat} {cells:List Value} {Fs:List (List Nat)} {d:aj} {n:Nat} (h:iH W 0 v ds F cells Fs) (hF:F.Nodup) (ho:jP W 0 nv d.need G) (hdis:∀b∈F,b∉G)
  (hs:d.need.length≤1048576) (hwf:(Lit.int .i64 d.on).wf=true∧(Lit.int .i64 d.off).wf=true∧(Lit.int .i64 d.flip).wf=true) (hsm:ds.length+1≤1048576) (hn:n=ds.length+1)
  (hown:W'.ownsRow 0 144 4 v' n (cells++[nv,.int .i64 d.on,.int .i64 d.off,.int .i64 d.flip])) (hg:W.grownBy W' v.ownBlock) (hat:v'.ownBlock=v.ownBlock∨v'.ownBlock=some W.heap.size):
  ∃F',(∃cells Fs,iH W' 0 v' (ds++[d]) F' cells Fs∧F'.Nodup)∧(∀b∈F',b∈F∨b∈G∨W.heap.size≤b)∧Only F W W':=by
 have hcl:cells.length=ds.length*4:=h.row.1;have hfl:=h.qF;have hlt:=h.lt;have hft:=h.foot;have hnd:(v.ownBlock.toList++Fs.flatten).Nodup:=hft▸hF;have hin:∀b∈Fs.flatten,b∈F:=fun b hb=>by rw[hft];exact List.mem_append_right _ hb
 have hold:∀b∈Fs.flatten,W'.heap[b]? =W.heap[b]? :=fun b hx=>by
  have hne:v.ownBlock≠some b:=fun e=>by
   rw[e,List.nodup_append] at hnd;exact hnd.2.2 b (by simp) b hx rfl
  exact hg.block b (hlt b (hin b hx)).2 (fun e=>hne (by first | exact e | exact e.symm))
 have aaH:∀b∈G,W'.heap[b]? =W.heap[b]? :=fun b hx=>by
  refine hg.block b (ho.lt b hx).2 (fun e=>?_);have hv:v.ownBlock=some b:=by first | exact e | exact e.symm
  exact hdis b (by rw[hft,hv];simp) hx
 have hvl:∀b∈v'.ownBlock.toList,b∉Fs.flatten∧b∉G∧(b∈F∨W.heap.size≤b):=fun b hx=>by
  have hx:v'.ownBlock=some b:=by simpa using hx
  rcases hat with e | e
  ·have hv:v.ownBlock=some b:=by rw[←e];exact hx
   have hbF:b∈F:=by rw[hft,hv];simp
   rw[hv,List.nodup_append] at hnd;exact⟨fun hh=>hnd.2.2 b (by simp) b hh rfl,hdis b hbF,.inl hbF⟩
  ·have hv:b=W.heap.size:=by rw[e] at hx;injection hx with hx;exact hx.symm
   refine⟨fun hh=>?_,fun hh=>?_,.inr (by omega)⟩
   ·have:=(hlt b (hin b hh)).2;omega
   ·have:=(ho.lt b hh).2;omega
 refine⟨v'.ownBlock.toList++(Fs++[G]).flatten,⟨cells++[nv,.int .i64 d.on,.int .i64 d.off,.int .i64 d.flip],Fs++[G],⟨by subst hn;simpa using hown,by simpa using hsm,by simp[hfl],rfl,fun i e Fi he Jm=>?_⟩,?_⟩,?_,?_⟩
 ·rcases Nat.lt_or_ge i ds.length with hi | hi
  ·rw[List.getElem?_append_left (by omega)] at Jm;rw[List.getElem?_append_left hi] at he;obtain⟨nv',q0,q1,q2,q3,q4,r⟩:=h.deed i e Fi he Jm;refine⟨nv',?_,?_,?_,?_,q4.keep fun b hx=>hold b (lV Jm hx),r⟩
   ·rw[List.getElem?_append_left (by omega)];exact q0
   ·rw[List.getElem?_append_left (by omega)];exact q1
   ·rw[List.getElem?_append_left (by omega)];exact q2
   ·rw[List.getElem?_append_left (by omega)];exact q3
  ·have hik:i=ds.length:=by
    have:=(aW.1 he).1
    simp at this;omega
   subst hik;rw[List.getElem?_append_right (ay _),Nat.sub_self] at he;simp only[List.getElem?_cons_zero,Option.some.injEq] at he;subst he;rw[List.getElem?_append_right (by omega),hfl,Nat.sub_self] at Jm;simp only[List.getElem?_cons_zero,Option.some.injEq] at Jm;subst Jm;refine⟨nv,?_,?_,?_,?_,ho.keep aaH,hs,hwf⟩
   ·rw[List.getElem?_append_right (by omega),show ds.length*4-cells.length=0 by omega];rfl
   ·rw[List.getElem?_append_right (by omega),show ds.length*4+1-cells.length=1 by omega];rfl
   ·rw[List.getElem?_append_right (by omega),show ds.length*4+2-cells.length=2 by omega];rfl
   ·rw[List.getElem?_append_right (by omega),show ds.length*4+3-cells.length=3 by omega];rfl
 ·rw[List.flatten_append];refine FB (by cases v'.ownBlock<;>simp) (FB (List.nodup_append.1 hnd).2.1 (by simpa using ho.nodup) fun b hb hb'=>hdis b (hin b hb) (by simpa using hb')) fun b hb hb'=>?_
  rcases List.mem_append.1 hb' with hb' | hb'
  ·exact(hvl b hb).1 hb'
  ·exact(hvl b hb).2.1 (by simpa using hb')
 ·intro b hb;rw[List.flatten_append] at hb
  rcases List.mem_append.1 hb with hb | hb
  ·rcases(hvl b hb).2.2 with h | h
   ·exact .inl h
   ·exact .inr (.inr h)
  ·rcases List.mem_append.1 hb with hb | hb
   ·exact .inl (hin b hb)
   ·exact .inr (.inl (by simpa using hb))
 ·exact(Only.nN hg).sub fun x hx=>by rw[hft];exact List.mem_append_left _ hx
theorem Sn.ax (h:Sn w W M) (k:Nat) {v:Value} {ds:List aj} (hk:M k=some (lW v ds)):∃F cells Fs,iH W 0 v ds F cells Fs∧F.Nodup:=by
 obtain⟨F,⟨c,Fs,h1,h2⟩,-⟩:=h.get k hk;exact⟨F,c,Fs,h1,h2⟩
theorem Sn.push (h:Sn w W M) (k j:Nat) (hne:k≠j) {v v' nv:Value} {ds:List aj} {d:aj} {n:Nat} (hk:M k=some (lW v ds)) (hj:M j=some (aA nv d.need))
  (hs:d.need.length≤1048576) (hwf:(Lit.int .i64 d.on).wf=true∧(Lit.int .i64 d.off).wf=true∧(Lit.int .i64 d.flip).wf=true) (hsm:ds.length+1≤1048576) (hn:n=ds.length+1)
  {cells:List Value} (hrow:W.ownsRow 0 144 4 v ds.length cells) (hown:W'.ownsRow 0 144 4 v' n (cells++[nv,.int .i64 d.on,.int .i64 d.off,.int .i64 d.flip])) (hg:W.grownBy W' v.ownBlock) (hat:v'.ownBlock=v.ownBlock∨v'.ownBlock=some W.heap.size):
  Sn w W' (fun i=>if i=k then some (lW v' (ds++[d])) else if i=j then none else M i):=
 h.merge k j hne hk hj fun F G ⟨c,Fs,h1,h2⟩ g1 hdis hlo=>iH.push h1 h2 g1 hdis hs hwf hsm hn (by rw[BN h1.row hrow];exact hown) hg hat
theorem St.task {L:List dW} {gv dv:Value} {s:Int} {goal:List Int} {ds:List aj} (h:St w W (aA gv goal::lW dv ds::L)) (hg:goal.length≤1048576) (hs:(Lit.int .i64 s).wf=true):St w W (oI (.agg #[.int .i64 s,gv,dv]) ⟨s,goal,ds⟩::L):=
 h.join fun F G h1 ⟨c,Fs,h2,h3⟩ hn hlo=>⟨⟨gv,dv,F,G,c,Fs,rfl,h1,hg,h2,rfl,hs⟩,hn⟩
end
theorem St.store {w W W':World} {L:List dW} (h:St w W L) (k:Nat) {g:Nat} {t:TypeId} {cs cs':Array Value} (hk:L[k]? =some (ah g t cs)) (hb:iJ W' g t cs') (ho:Only [g] W W'):St w W' (L.set k (ah g t cs')):=
 h.mod k hk fun F ⟨h1,h2⟩ _=>⟨F,⟨hb,h2⟩,fun b hb=>.inl hb,by rw[h2];exact ho⟩
theorem St.AQ {w W:World} {L:List dW} (h:St w W L) (k:Nat) {g:Nat} {t:TypeId} {a b c:Value} (hk:L[k]? =some (ah g t #[a,b,c])) (x y z:Value):St w (((W.setCell ⟨g,0,none⟩ x).setCell ⟨g,1,none⟩ y).setCell ⟨g,2,none⟩ z) (L.set k (ah g t #[x,y,z])):=
 h.store k hk ((((h.blk k hk).nT 0 x).nT 1 y).nT 2 z) ((((Only.refl [g] W).set (by simp) x).set (by simp) y).set (by simp) z)
theorem St.fH {w W:World} {L:List dW} (h:St w W L) (k:Nat) {g:Nat} {t:TypeId} {a b c d e:Value} (hk:L[k]? =some (ah g t #[a,b,c,d,e])) (x y z u v:Value):St w (((((W.setCell ⟨g,0,none⟩ x).setCell ⟨g,1,none⟩ y).setCell ⟨g,2,none⟩ z).setCell ⟨g,3,none⟩ u).setCell ⟨g,4,none⟩ v) (L.set k (ah g t #[x,y,z,u,v])):=
 h.store k hk ((((((h.blk k hk).nT 0 x).nT 1 y).nT 2 z).nT 3 u).nT 4 v) ((((((Only.refl [g] W).set (by simp) x).set (by simp) y).set (by simp) z).set (by simp) u).set (by simp) v)
theorem St.aaI {w W:World} (h:Below w.heap.size w W):St w W [oI (.agg #[.int .i64 0,.slice none 0 0,.slice none 0 0]) ⟨0,[],[]⟩]:=St.OY (mY.zero W w.heap.size) List.nodup_nil h
theorem MK (w W:World) (h:Below w.heap.size w W):St w W [lW (.slice none 0 0) []]:=
 ⟨h,[[]],rfl,fun i R F hR hF=>by
  match i with
  |0=>
   injection hR with hR;injection hF with hF;subst hR hF
   exact⟨⟨[],[],⟨World.ownsRow_nil W 0 _ 4,by simp,rfl,rfl,by simp⟩,by simp⟩,by simp⟩
  |i+1=>simp at hR,by simp⟩
theorem iE (w W:World) (h:Below w.heap.size w W):St w W [aA (.slice none 0 0) []]:=St.xB (jP.none W w.heap.size) h
theorem Qg {W:World} {g:Nat} {F:List Nat} (h:(ah g 144 #[]).at_ W F):(lW (.slice (some ⟨g,0,none⟩) 0 0) []).at_ W F:=by
 obtain⟨h1,rfl⟩:=h;exact⟨[],[],⟨⟨by simp,.inr ⟨g,0,#[],rfl,Nat.zero_le _,h1,ay _,by unfold maxLen;omega,rfl,rfl⟩⟩,by simp,rfl,rfl,by simp⟩,by simp⟩
theorem BO {W:World} {g:Nat} {F:List Nat} {xs:List Int} {n:Nat} (h:(ah g 3 (ints xs).toArray).at_ W F) (hn:xs.length≤maxLen) (hwf:∀x∈xs,(Lit.int .i64 x).wf=true) (e:n=xs.length):(aA (.slice (some ⟨g,0,none⟩) n n) xs).at_ W F:=by
 obtain⟨h1,rfl⟩:=h;subst e;exact⟨⟨by simp,.inr ⟨g,xs.length,(ints xs).toArray,rfl,Nat.zero_le _,h1,ay _,hn,by simp,by rw[dJ (by simp)]⟩⟩,hwf,rfl⟩
theorem bQ.ML {w:World} {g:Nat} {t:TypeId} {cs:List Value} (h:iJ w g t cs.toArray) (size n:Nat) (hl:cs.length=n*size) (hn:n≤maxLen):bQ w (g+1) size (some ⟨g,0,none⟩) n n cs:=
 ⟨hl,ay _,hn,fun _=>⟨g,0,rfl,by omega,fun i v hv=>by rw[Nat.zero_add,h.cell i];simpa using hv⟩⟩
theorem OZ {P:Program} {t e:TypeId} {z:Value} {size bytes:Nat} (E:tJ P t e z size bytes) {w:World} {o:Oper} {a:Act} {K:Act→World→Prop} {Q:Exit→Act→World→Prop} (s x:Operand)
  (ho:o.op= .call { callee:=.builtin .append,args:=#[s,x],argTypes:=#[t,t] })
  (base:Nat) (v:Value) (n:Nat) (xs:List Value) (hs:a.eval s=v) (hown:w.ownsRow base e size v n xs)
  (B:Nat) (A:Option Addr) (m c:Nat) (news:List Value) (hx:a.eval x= .slice A m c) (hr:bQ w B size A m c news) (hm:0<m) (h1:∀u∈news,u.oneCell'=true)
  (hbytes:(n+m)*bytes≤140737488355328) (h63:n+m≤140737488355328) (hbase:base≤w.heap.size)
  (h:∀v' w',w'.ownsRow base e size v' (n+m) (xs++news)→w.grownBy w' v.ownBlock→(v'.ownBlock=v.ownBlock∨v'.ownBlock=some w.heap.size)→K (a.put o.dst v') w'):
  o.wp P a w K Q:=by
 obtain⟨i,hi,hz,hsize,hby⟩:=E.hi;obtain⟨b,off,rfl,hb,hc⟩:=hr.at_ hm;obtain⟨v',w',hrun,h2,h3,h4,h5⟩:=run_append_own_at (P:=P) w base t o.type e i z size bytes E.ht hi hz hsize hby E.hzs E.hsz v n xs hown ⟨b,off,none⟩ m c news hr.len (fun j u hu=>by rw[Addr.add_lit];exact hc j u hu) h1 (by unfold maxLen;omega) hbytes hbase
 unfold Oper.wp execOp
 simp only[ho,resolve,invoke,builtin,Sem.run_bind,Sem.run_pure,Result.andThen_ok,List.map_toArray,List.map_cons,List.map_nil,hs,hx,hrun];exact h v' w' h2 h3 h5
section
variable {w W W' : World} {L : List dW}
theorem St.split {R BM Jz:dW} (h:St w W (R::L)) (k:∀F,R.at_ W F→∃F1 F2,F=F1++F2∧BM.at_ W F1∧Jz.at_ W F2):St w W (BM::Jz::L):=by
 obtain⟨Fs,kl,ha,hnd⟩:=h.has
 match Fs,kl,ha,hnd with
 |F::Fs,kl,ha,hnd=>
  obtain⟨a1,a2⟩:=ha 0 _ F rfl rfl;obtain⟨F1,F2,rfl,b1,b2⟩:=k F a1;refine⟨h.below,F1::F2::Fs,by simpa using kl,fun i R' F' hR hF=>?_,by simpa using hnd⟩
  match i with
  |0=>
   injection hR with hR;injection hF with hF;subst hR hF
   exact⟨b1,fun x hx=>a2 x (List.mem_append_left _ hx)⟩
  |1=>
   simp only[List.getElem?_cons_succ,List.getElem?_cons_zero,Option.some.injEq] at hR hF;subst hR hF;exact⟨b2,fun x hx=>a2 x (List.mem_append_right _ hx)⟩
  |i+2=>exact ha (i+1) R' F' (by simpa using hR) (by simpa using hF)
end
open Go.ChangeShapes Go.WideShapes Go.ChangeAt Go.RowKit Go.Deep
def sV (M:Nat) (w:World) (B:Nat) (v:Value) (b:aI):Prop:=
 ∃A n c A' n' c' A2 n2 c2,v= .agg #[.int .i64 b.order.start,.slice A n c,.slice A' n' c',.slice A2 n2 c2,.int .i64 b.state]∧iO .i64 w B A n c b.order.goal∧n≤M∧jY M w B A' n' c' b.order.ax∧(Lit.int .i64 b.order.start).wf=true∧
  iO .i64 w B A2 n2 c2 b.done∧n2≤M∧(Lit.int .i64 b.state).wf=true
abbrev RdB:=sV 1048576
theorem sV.up {M:Nat} {w w':World} {v:Value} {b:aI} (h:sV M w w.heap.size v b) (hb:Below w.heap.size w w'):sV M w' w'.heap.size v b:=by
 obtain⟨A,n,c,A',n',c',A2,n2,c2,e,h1,h2,h3,h4,h5,h6⟩:=h;exact⟨A,n,c,A',n',c',A2,n2,c2,e,h1.up hb,h2,h3.up hb,h4,h5.up hb,h6⟩
theorem jY.less {M M':Nat} {w:World} {B n c:Nat} {A:Option Addr} {ds:List aj} (h:jY M w B A n c ds) (hn:n≤M') (hd:∀d∈ds,d.need.length≤M'):jY M' w B A n c ds:=
 ⟨h.len,h.cap,h.bZ,hn,fun h0=>by
  obtain⟨b,off,e,hb,hc⟩:=h.at_ h0;refine⟨b,off,e,hb,fun i d hi=>?_⟩;obtain⟨A,n,c,q0,q1,q2,q3,q4,q5,q6⟩:=hc i d hi
  exact⟨A,n,c,q0,q1,q2,q3,q4,by have:=hd d (bU hi);rw[q4.len] at this;exact this,q6⟩⟩
theorem QT {ds:List aj} {d:aj} (h:d∈ds):d.need.length≤uD ds:=by
 unfold uD
 have:Pj d≤(ds.map Pj).sum:=by
  induction ds with
  |nil=>cases h
  |cons x ds ih=>
   simp only[List.map_cons,List.sum_cons]
   rcases List.mem_cons.1 h with rfl | h
   ·omega
   ·have:=ih h;omega
 unfold Pj at this ⊢
 omega
theorem pU.less {M M':Nat} {w:World} {B:Nat} {v:Value} {t:aB} (h:pU M w B v t) (hs:NE t≤M'):pU M' w B v t:=by
 obtain⟨A,n,c,A',n',c',e,h1,h2,h3,h4⟩:=h;have hl:=h1.len;have hl':=h3.len
 unfold NE at hs
 have:uD t.ax=n'+(t.ax.map Pj).sum:=by unfold uD;rw[hl']
 exact⟨A,n,c,A',n',c',e,h1,by omega,h3.less (by omega) (fun d hd=>by have:=QT hd;omega),h4⟩
theorem len1 {α:Type} {l:List α} (h:l.length=1):∃a,l=[a]:=List.length_eq_one_iff.1 h
theorem xR {α:Type} {l:List α} {n:Nat} (h:l.length=n+1):∃a r,l=a::r∧r.length=n:=by
 cases l with
 |nil=>simp at h
 |cons a r=>exact⟨a,r,rfl,by simpa using h⟩
theorem ads {α:Type} {l:List α} (h:l.length=2):∃a b,l=[a,b]:=by
 obtain⟨a,r,e',k⟩:=xR h;subst e';obtain⟨b,rfl⟩:=len1 k;exact⟨a,b,rfl⟩
theorem Wy {α:Type} {l:List α} (h:l.length=3):∃a b c,l=[a,b,c]:=by
 obtain⟨a,r,e',k⟩:=xR h;subst e';obtain⟨b,c,rfl⟩:=ads k;exact⟨a,b,c,rfl⟩
theorem Zh {α:Type} {l:List α} (h:l.length=4):∃a b c d,l=[a,b,c,d]:=by
 obtain⟨a,r,e',k⟩:=xR h;subst e';obtain⟨b,c,d,rfl⟩:=Wy k;exact⟨a,b,c,d,rfl⟩
theorem adt {α:Type} {l:List α} (h:l.length=5):∃a b c d e,l=[a,b,c,d,e]:=by
 obtain⟨a,r,e',k⟩:=xR h;subst e';obtain⟨b,c,d,e,rfl⟩:=Zh k;exact⟨a,b,c,d,e,rfl⟩
section
variable {H : Type} {enc : TypeId × Value → H} {W : World} {base : Nat} {spare : Nat → Bool} {held : Bool} {fuel : Nat} {cs : List Value} {x : DataW H × List MemPlace}
theorem zq (h:DataW.trod enc Tryz.prog W base spare held fuel 23 cs=some x):∃A n c xs,cs=[.slice A n c]∧iO .i64 W W.heap.size A n c xs:=by
 rcases open_ints Tryz.underlying23 Tryz.underlying3 (by kernel_rfl) h with⟨hcs,_⟩ | ⟨a,l,cc,zs,hcs,_⟩
 ·subst hcs;obtain⟨xs,hx⟩:=zU (c:=0) (A:=none) (n:=0) Tryz.underlying23 Tryz.underlying3 (by kernel_rfl) h;exact⟨_,_,_,xs,rfl,hx⟩
 ·subst hcs;obtain⟨xs,hx⟩:=zU (c:=cc) (A:=some a) (n:=l) Tryz.underlying23 Tryz.underlying3 (by kernel_rfl) h;exact⟨_,_,_,xs,rfl,hx⟩
theorem QU (h:DataW.trod enc Tryz.prog W base spare held fuel 172 cs=some x):∃A n c,∃d:aj,cs=[.slice A n c,.int .i64 d.on,.int .i64 d.off,.int .i64 d.flip]∧iO .i64 W W.heap.size A n c d.need∧(Lit.int .i64 d.on).wf=true∧(Lit.int .i64 d.off).wf=true∧(Lit.int .i64 d.flip).wf=true:=by
 obtain⟨ys,m,_,_,hl,hyl,hf⟩:=DataW.trod_struct Tryz.underlying172 h;have hc:Tryz.prog.cellsOf 172=4:=by kernel_rfl
 rw[hc] at hl;obtain⟨c0,c1,c2,c3,rfl⟩:=Zh hl;obtain⟨y0,y1,y2,y3,rfl⟩:=Zh hyl
 ·have h0:DataW.trod enc Tryz.prog W base spare held m 23 (([c0,c1,c2,c3].drop 0).take (Tryz.prog.cellsOf 23))=some y0:=hf 0 _ rfl;rw[show Tryz.prog.cellsOf 23=1 by kernel_rfl] at h0;have h1:DataW.trod enc Tryz.prog W base spare held m 3 (([c0,c1,c2,c3].drop 1).take (Tryz.prog.cellsOf 3))=some y1:=hf 1 _ rfl;rw[show Tryz.prog.cellsOf 3=1 by kernel_rfl] at h1;have h2:DataW.trod enc Tryz.prog W base spare held m 3 (([c0,c1,c2,c3].drop 2).take (Tryz.prog.cellsOf 3))=some y2:=hf 2 _ rfl;rw[show Tryz.prog.cellsOf 3=1 by kernel_rfl] at h2;have h3:DataW.trod enc Tryz.prog W base spare held m 3 (([c0,c1,c2,c3].drop 3).take (Tryz.prog.cellsOf 3))=some y3:=hf 3 _ rfl;rw[show Tryz.prog.cellsOf 3=1 by kernel_rfl] at h3;simp only[List.drop,List.take,List.getElem?_cons_zero,List.getElem?_cons_succ] at h0 h1 h2 h3;obtain⟨A,n,c,xs,e0,hr⟩:=zq h0;obtain⟨a1,e1,_,w1⟩:=DataW.trod_int Tryz.underlying3 h1;obtain⟨a2,e2,_,w2⟩:=DataW.trod_int Tryz.underlying3 h2;obtain⟨a3,e3,_,w3⟩:=DataW.trod_int Tryz.underlying3 h3;simp only[List.cons.injEq,and_true] at e0 e1 e2 e3;subst e0 e1 e2 e3;exact⟨A,n,c,⟨xs,a1,a2,a3⟩,rfl,hr,w1,w2,w3⟩
theorem NG (h:DataW.trod enc Tryz.prog W base spare held fuel 38 cs=some x):∃A n c ds,cs=[.slice A n c]∧jY maxLen W W.heap.size A n c ds:=by
 rcases open_slice Tryz.underlying38 h with⟨hcs,_⟩ | ⟨a,len,cap,m,n,D,Pl,hcs,hb,hl,hm,hmm,hx,hi⟩
 ·exact⟨none,0,0,[],hcs,⟨rfl,ay _,by unfold maxLen;omega,by unfold maxLen;omega,fun h0=>by omega⟩⟩
 ·have hc:Tryz.prog.cellsOf 172=4:=by kernel_rfl
  rw[hc] at hi;have hlm:len≤m:=by rw[hmm];split<;>omega
  have hex:∀i,∃d:aj,i<len→∃A n c,W.cell? (a.add (i*4))=some (.slice A n c)∧W.cell? ((a.add (i*4)).add 1)=some (.int .i64 d.on)∧W.cell? ((a.add (i*4)).add 2)=some (.int .i64 d.off)∧W.cell? ((a.add (i*4)).add 3)=some (.int .i64 d.flip)∧
    iO .i64 W W.heap.size A n c d.need∧(Lit.int .i64 d.on).wf=true∧(Lit.int .i64 d.off).wf=true∧(Lit.int .i64 d.flip).wf=true:=fun i=>by
   by_cases hil:i<len
   ·obtain⟨cs',h1,h2⟩:=hi i (by omega);obtain⟨A,n,c,d,e,hr,w1,w2,w3⟩:=QU h2;subst e;obtain⟨_,_,hat⟩:=World.cells?_some h1;have q0:=hat 0 (by omega);have q1:=hat 1 (by omega);have q2:=hat 2 (by omega);have q3:=hat 3 (by omega);have hz:(a.add (i*4)).add 0=a.add (i*4):=by cases a;simp[Addr.add]
    rw[hz] at q0;exact⟨d,fun _=>⟨A,n,c,q0,q1,q2,q3,hr,w1,w2,w3⟩⟩
   ·exact⟨⟨[],0,0,0⟩,fun h=>absurd h hil⟩
  obtain⟨E,hE⟩:=Classical.axiomOfChoice hex;clear hex hi;refine⟨some a,len,cap,(List.range len).map E,hcs,⟨by simp,hl,hm,by omega,fun h0=>?_⟩⟩
  have ha:a.spot=none:=by
   obtain⟨A,n,c,q,-⟩:=hE 0 h0
   cases hs:a.spot with
   |none=>rfl
   |some s=>
    simp only[World.cell?,Addr.add,hs] at q
    split at q<;>simp_all
  obtain⟨b,off,s⟩:=a
  simp only at ha
  subst ha
  have hlt:b<W.heap.size:=by
   obtain⟨A,n,c,q,-⟩:=hE 0 h0;exact World.block_lt_of_cell? W _ q
  refine⟨b,off,rfl,hlt,fun i d hd=>?_⟩;rw[List.getElem?_map] at hd;obtain⟨j,hj,e⟩:=Option.map_eq_some_iff.1 hd;obtain⟨hj1,hj2⟩:=aW.1 hj
  simp at hj1 hj2
  subst hj2;subst e;obtain⟨A,n,c,q0,q1,q2,q3,hr,w1,w2,w3⟩:=hE i hj1;simp only[Addr.add_lit] at q0 q1 q2 q3;exact⟨A,n,c,q0,q1,q2,q3,hr,by have:=hr.cap;have:=hr.bZ;omega,w1,w2,w3⟩
theorem QV (h:DataW.trod enc Tryz.prog W base spare held fuel 40 cs=some x):∃t:aB,∃A n c A' n' c',cs=[.int .i64 t.start,.slice A n c,.slice A' n' c']∧iO .i64 W W.heap.size A n c t.goal∧jY maxLen W W.heap.size A' n' c' t.ax∧(Lit.int .i64 t.start).wf=true:=by
 obtain⟨ys,m,_,_,hl,hyl,hf⟩:=DataW.trod_struct Tryz.underlying40 h;have hc:Tryz.prog.cellsOf 40=3:=by kernel_rfl
 rw[hc] at hl;obtain⟨c0,c1,c2,rfl⟩:=Wy hl;obtain⟨y0,y1,y2,rfl⟩:=Wy hyl
 ·have h0:DataW.trod enc Tryz.prog W base spare held m 3 (([c0,c1,c2].drop 0).take (Tryz.prog.cellsOf 3))=some y0:=hf 0 _ rfl;rw[show Tryz.prog.cellsOf 3=1 by kernel_rfl] at h0;have h1:DataW.trod enc Tryz.prog W base spare held m 23 (([c0,c1,c2].drop 1).take (Tryz.prog.cellsOf 23))=some y1:=hf 1 _ rfl;rw[show Tryz.prog.cellsOf 23=1 by kernel_rfl] at h1;have h2:DataW.trod enc Tryz.prog W base spare held m 38 (([c0,c1,c2].drop 2).take (Tryz.prog.cellsOf 38))=some y2:=hf 2 _ rfl;rw[show Tryz.prog.cellsOf 38=1 by kernel_rfl] at h2;simp only[List.drop,List.take,List.getElem?_cons_zero,List.getElem?_cons_succ] at h0 h1 h2;obtain⟨s,e0,_,w0⟩:=DataW.trod_int Tryz.underlying3 h0;obtain⟨A,n,c,xs,e1,hr⟩:=zq h1;obtain⟨A',n',c',ds,e2,hd⟩:=NG h2;simp only[List.cons.injEq,and_true] at e0 e1 e2;subst e0 e1 e2;exact⟨⟨s,xs,ds⟩,A,n,c,A',n',c',rfl,hr,hd,w0⟩
theorem P7 {v:Value} {d:DataW H} {p:List MemPlace} (hv:Value.okWide Tryz.prog W .any base 42 v) (h:DataW.Trod enc Tryz.prog W 0 (fun _=>true) true 42 v d p):∃t,sV maxLen W W.heap.size v t:=by
 obtain⟨cs,rfl,hs⟩:=okWide_struct Tryz.underlying42 hv;obtain⟨fuel,hf⟩:=h;obtain⟨ys,m,_,_,hl,hyl,hf⟩:=DataW.trod_struct Tryz.underlying42 hf;have hc:Tryz.prog.cellsOf 42=5:=by kernel_rfl
 rw[hc] at hl hs;obtain⟨l⟩:=cs;have hl:l.length=5:=by simpa using hs
 obtain⟨c0,c1,c2,c3,c4,rfl⟩:=adt hl;obtain⟨y0,y1,y2,rfl⟩:=Wy hyl
 ·have h0:DataW.trod enc Tryz.prog W 0 (fun _=>true) true m 40 (([c0,c1,c2,c3,c4].drop 0).take (Tryz.prog.cellsOf 40))=some y0:=hf 0 _ rfl;rw[show Tryz.prog.cellsOf 40=3 by kernel_rfl] at h0;have h1:DataW.trod enc Tryz.prog W 0 (fun _=>true) true m 23 (([c0,c1,c2,c3,c4].drop 3).take (Tryz.prog.cellsOf 23))=some y1:=hf 1 _ rfl;rw[show Tryz.prog.cellsOf 23=1 by kernel_rfl] at h1;have h2:DataW.trod enc Tryz.prog W 0 (fun _=>true) true m 3 (([c0,c1,c2,c3,c4].drop 4).take (Tryz.prog.cellsOf 3))=some y2:=hf 2 _ rfl;rw[show Tryz.prog.cellsOf 3=1 by kernel_rfl] at h2;simp only[List.drop,List.take,List.getElem?_cons_zero,List.getElem?_cons_succ] at h0 h1 h2;obtain⟨t,A,n,c,A',n',c',e0,hr,hd,w0⟩:=QV h0;obtain⟨A2,n2,c2,xs,e1,hr2⟩:=zq h1;obtain⟨s,e2,_,w2⟩:=DataW.trod_int Tryz.underlying3 h2;simp only[List.cons.injEq,and_true] at e0 e1 e2;obtain⟨rfl,rfl,rfl⟩:=e0;subst e1 e2;exact⟨⟨t,xs,s⟩,A,n,c,A',n',c',A2,n2,c2,rfl,hr,by have:=hr.cap;have:=hr.bZ;omega,hd,w0,hr2,by have:=hr2.cap;have:=hr2.bZ;omega,w2⟩
end
def afg (w:World) (v:Value) (L:List dW) (e:Ending) (w':World):Prop:=e= .returned v∧St w w' L
theorem QO (v:Value) (t:aB) (w:World) (h:nI w w.heap.size v t):Calls Tryz.prog 76 #[v] w (Gives w id fun v'=>[oI v' t]):=
 (MX v t w h).mono fun e w' ⟨⟨v',F,he,ho,hn⟩,hb⟩=>⟨v',he,St.OY ho hn hb⟩
theorem QS (A:Option Addr) (n c:Nat) (xs:List Int) (w:World) (h:iO .i64 w w.heap.size A n c xs) (hn:n≤1048576):Calls Tryz.prog 77 #[.slice A n c] w (Gives w id fun v'=>[aA v' xs]):=
 (wG A n c xs w h (by omega)).mono fun e w' ⟨⟨A',c',F,he,ho⟩,hb⟩=>⟨_,he,St.xB ho hb⟩
theorem Kz (v:Value) (t:aB) (v':Value) (w:World) (h:nI w w.heap.size v t) (h':nI w w.heap.size v' t):
  Calls Tryz.prog 78 #[v,v'] w fun e w'=>e= .returned (.bool true)∧Below w.heap.size w w':=
 (Nc v t v' t w h h').mono fun _ _ ⟨he,hb⟩=>⟨by rw[he,decide_eq_true rfl],hb⟩
theorem KA (A:Option Addr) (n c:Nat) (xs:List Int) (A':Option Addr) (n' c':Nat) (w:World) (h:iO .i64 w w.heap.size A n c xs) (h':iO .i64 w w.heap.size A' n' c' xs):
  Calls Tryz.prog 79 #[.slice A n c,.slice A' n' c'] w fun e w'=>e= .returned (.bool true)∧Below w.heap.size w w':=
 (wI A n c xs A' n' c' xs w h h').mono fun _ _ ⟨he,q,hb⟩=>⟨by rw[he,decide_eq_true rfl],by rw[hb];exact below_drewN (ai _ _) q⟩
section
variable {w W : World} {L : List dW}
theorem St.XP (S:St w W L) (i:Nat) {v:Value} {t:aB} (hi:L[i]? =some (oI v t)):∃A n c A' n' c',v= .agg #[.int .i64 t.start,.slice A n c,.slice A' n' c']:=by
 obtain⟨F,⟨⟨gv,dv,Fg,Fd,cells,Fs,e,h1,h2,h3,-,h4⟩,-⟩,-⟩:=S.get i hi;obtain⟨A,c,rfl⟩:=dS h1.row;obtain⟨A',c',rfl⟩:=dS h3.row;exact⟨A,_,c,A',_,c',e⟩
end
theorem Sn.xq {w W:World} {M:Nat→Option dW} (h:Sn w W M) (k:Nat) {v:Value} {xs:List Int} (hk:M k=some (aA v xs)):∃A c,v= .slice A xs.length c∧iO .i64 W W.heap.size A xs.length c xs:=by
 obtain⟨F,h1,-⟩:=h.get k hk;exact h1.rd
theorem Wx (ds:List aj):tZ ds≤4*uD ds:=by
 unfold tZ uD
 induction ds with
 |nil=>simp
 |cons d ds ih=>simp only[List.map_cons,List.sum_cons,bM,SQ,Pj] at ih ⊢;omega
theorem Zg (t:aB):mkT t≤4*NE t:=by
 unfold mkT NE;have:=Wx t.ax;omega
end Go.Proofs.YtkmcengmglgdeaaGreatDoor
