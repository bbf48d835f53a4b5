/- Joined texts: Push, Split, Came, Help, PlanW, Book. -/
import Derived.Test.YtkmcengmglgdeaaGreatDoorSReg
import Derived.Test.YtkmcengmglgdeaaGreatDoorSApp
import Derived.Test.YtkmcengmglgdeaaGreatDoorSDeed
import Derived.Deep.Slices
import Derived.ChangeOld

namespace Go.Proofs.YtkmcengmglgdeaaGreatDoor
set_option linter.unusedVariables false
set_option linter.unusedSimpArgs false
set_option maxRecDepth 100000
set_option maxHeartbeats 8000000
open Go.ChangeShapes Go.WideShapes Go.ChangeAt Go.RowKit
theorem pR {P:Program} {f:FuncId} {args:Array Value} {w:World} {n:Nat} {v:Value}
  (h:Calls P f args (w.drewN n) fun e w'=>e= .returned v∧w.drewN n=w'):Calls P f args (w.drewN n) fun e w''=>e= .returned v∧∃m,w''=w.drewN m:=
 h.mono fun _ _ ⟨he,hm⟩=>⟨he,n,hm.symm⟩
theorem Gp {α:Type} {a b:List α} (h1:a.Nodup) (h2:b.Nodup) (h3:∀x∈a,x∉b):(a++b).Nodup:=
 List.nodup_append.2 ⟨h1,h2,fun x hx y hy e=>h3 x hx (e▸hy)⟩
section
variable {w W W' : World} {M : Nat → Option dh}
theorem Sn.merge (h:Sn w W M) (k j:Nat) (hne:k≠j) {R S T:dh} (hk:M k=some R) (hj:M j=some S)
  (q:∀F G,R.at_ W F→S.at_ W G→(∀b∈F,b∉G)→(∀b∈F,w.heap.size≤b)→∃F',T.at_ W' F'∧(∀b∈F',b∈F∨b∈G∨W.heap.size≤b)∧Only F W W'):
  Sn w W' (fun i=>if i=k then some T else if i=j then none else M i):=by
 obtain⟨F,ha,hd⟩:=h.has;obtain⟨h1,h2⟩:=ha k R hk;obtain⟨g1,g2⟩:=ha j S hj;obtain⟨F',k1,k2,k3⟩:=q _ _ h1 g1 (hd k j hne (by rw[hk];simp) (by rw[hj];simp)) h2;have hw:=h.below.size
 have hold:∀i,i≠k→i≠j→M i≠none→∃S,M i=some S∧S.at_ W (F i)∧(∀b∈F i,w.heap.size≤b)∧(∀b∈F i,b<W.heap.size)∧(∀b∈F i,b∉F k)∧∀b∈F i,b∉F j:=fun i hne hne' hi=>by
  obtain⟨S',hS⟩:=Option.ne_none_iff_exists'.1 hi;exact⟨S',hS,(ha i S' hS).1,(ha i S' hS).2,S'.lt W _ (ha i S' hS).1,hd i k hne hi (by rw[hk];simp),hd i j hne' hi (by rw[hj];simp)⟩
 refine⟨h.below.trans (k3.below h2 hw),fun i=>if i=k then F' else F i,fun i S' hS=>?_,fun i l hil hi hl b hb hb'=>?_⟩
 ·by_cases e:i=k
  ·subst e;simp only[if_true] at hS ⊢
   injection hS with hS
   subst hS;exact⟨k1,fun b hb=>(k2 b hb).elim (h2 b) (fun hx=>hx.elim (g2 b) (fun hx=>by omega))⟩
  ·simp only[if_neg e] at hS ⊢
   by_cases e':i=j
   ·rw[if_pos e'] at hS;cases hS
   rw[if_neg e'] at hS;obtain⟨S'',q1,q2,q3,q4,q5,q6⟩:=hold i e e' (by rw[hS];simp);rw[hS] at q1
   injection q1 with q1
   subst q1;exact⟨S'.keep W W' _ q2 fun b hb=>k3.block b (q4 b hb) (q5 b hb),q3⟩
 ·have key:∀i,i≠k→i≠j→M i≠none→∀b∈F i,b∉F':=fun i hne hne' hi b hb hf=>by
   obtain⟨S',q1,q2,q3,q4,q5,q6⟩:=hold i hne hne' hi
   rcases k2 b hf with hx | hx | hx
   ·exact q5 b hb hx
   ·exact q6 b hb hx
   ·have:=q4 b hb;omega
  have hij:∀i,i≠k→(if i=k then some T else if i=j then none else M i)≠none→i≠j∧M i≠none:=fun i hne hh=>by
   rw[if_neg hne] at hh
   by_cases e:i=j
   ·rw[if_pos e] at hh;exact absurd rfl hh
   ·rw[if_neg e] at hh;exact⟨e,hh⟩
  by_cases e:i=k
  ·subst e
   by_cases e':l=i
   ·exact hil e'.symm
   ·simp only[if_true,if_neg e'] at hb hb';obtain⟨a1,a2⟩:=hij l e' hl;exact key l e' a1 a2 b hb' hb
  ·obtain⟨a1,a2⟩:=hij i e hi
   by_cases e':l=k
   ·subst e';simp only[if_true,if_neg e] at hb hb';exact key i e a1 a2 b hb hb'
   ·obtain⟨b1,b2⟩:=hij l e' hl;simp only[if_neg e,if_neg e'] at hb hb';exact hd i l hil a2 b2 b hb hb'
theorem Sn.drop (h:Sn w W M) (k:Nat):Sn w W (fun i=>if i=k then none else M i):=by
 obtain⟨F,ha,hd⟩:=h.has;refine⟨h.below,F,fun i R hR=>?_,fun i j hne hi hj=>?_⟩
 ·by_cases e:i=k
  ·rw[if_pos e] at hR;cases hR
  ·rw[if_neg e] at hR;exact ha i R hR
 ·refine hd i j hne (fun e=>hi ?_) (fun e=>hj ?_)
  ·split
   ·rfl
   ·exact e
  ·split
   ·rfl
   ·exact e
theorem NW {b b':Nat} {e e':TypeId} {size n:Nat} {v:Value} {xs ys:List Value} (h:W.ownsRow b e size v n xs) (k:W.ownsRow b' e' size v n ys):xs=ys:=by
 obtain⟨h1,h2⟩:=h;obtain⟨k1,k2⟩:=k
 rcases h2 with⟨rfl,h2⟩ | ⟨g,cap,cur,rfl,hg,hh,-,-,-,h6⟩
 ·rcases k2 with⟨-,k2⟩ | ⟨g',cap',cur',e,-⟩
  ·subst h2;rw[Nat.zero_mul] at h1 k1;rw[List.eq_nil_of_length_eq_zero h1,List.eq_nil_of_length_eq_zero k1]
  ·cases e
 ·rcases k2 with⟨e,-⟩ | ⟨g',cap',cur',e,-,kh,-,-,-,k6⟩
  ·cases e
  ·simp only[Value.slice.injEq,Option.some.injEq,Addr.mk.injEq,and_true,true_and] at e;obtain⟨rfl,rfl⟩:=e;rw[hh] at kh
   injection kh with kh
   injection kh with kh
   subst kh;rw[←h6,←k6]
theorem jG.push {v v' nv:Value} {ds:List au} {F G:List Nat} {cells:List Value} {Fs:List (List Nat)} {d:au} {n:Nat} (h:jG W 0 v ds F cells Fs) (hF:F.Nodup) (ho:jH W 0 nv d.need G) (hdis:∀b∈F,b∉G)
  (hs:d.need.length≤1048576) (hwf:(Lit.int .i64 d.on).wf=true∧(Lit.int .i64 d.off).wf=true∧(Lit.int .i64 d.flip).wf=true) (hsm:ds.length+1≤1048576) (hn:n=ds.length+1)
  (hown:W'.ownsRow 0 144 4 v' n (cells++[nv,.int .i64 d.on,.int .i64 d.off,.int .i64 d.flip])) (hg:W.grownBy W' v.ownBlock) (hat:v'.ownBlock=v.ownBlock∨v'.ownBlock=some W.heap.size):
  ∃F',(∃cells Fs,jG W' 0 v' (ds++[d]) F' cells Fs∧F'.Nodup)∧(∀b∈F',b∈F∨b∈G∨W.heap.size≤b)∧Only F W W':=by
 have hcl:cells.length=ds.length*4:=h.row.1;have hfl:=h.IA;have hlt:=h.lt;have hft:=h.foot;have hnd:(v.ownBlock.toList++Fs.flatten).Nodup:=hft▸hF;have hin:∀b∈Fs.flatten,b∈F:=fun b hb=>by rw[hft];exact List.mem_append_right _ hb
 have hold:∀b∈Fs.flatten,W'.heap[b]? =W.heap[b]? :=fun b hx=>by
  have hne:v.ownBlock≠some b:=fun e=>by
   rw[e,List.nodup_append] at hnd;exact hnd.2.2 b (by simp) b hx rfl
  exact hg.block b (hlt b (hin b hx)).2 (fun e=>hne (by first | exact e | exact e.symm))
 have Ul:∀b∈G,W'.heap[b]? =W.heap[b]? :=fun b hx=>by
  refine hg.block b (ho.lt b hx).2 (fun e=>?_);have hv:v.ownBlock=some b:=by first | exact e | exact e.symm
  exact hdis b (by rw[hft,hv];simp) hx
 have hvl:∀b∈v'.ownBlock.toList,b∉Fs.flatten∧b∉G∧(b∈F∨W.heap.size≤b):=fun b hx=>by
  have hx:v'.ownBlock=some b:=by simpa using hx
  rcases hat with e | e
  ·have hv:v.ownBlock=some b:=by rw[←e];exact hx
   have Yw:b∈F:=by rw[hft,hv];simp
   rw[hv,List.nodup_append] at hnd;exact⟨fun hh=>hnd.2.2 b (by simp) b hh rfl,hdis b Yw,.inl Yw⟩
  ·have hv:b=W.heap.size:=by rw[e] at hx;injection hx with hx;exact hx.symm
   refine⟨fun hh=>?_,fun hh=>?_,.inr (by omega)⟩
   ·have:=(hlt b (hin b hh)).2;omega
   ·have:=(ho.lt b hh).2;omega
 refine⟨v'.ownBlock.toList++(Fs++[G]).flatten,⟨cells++[nv,.int .i64 d.on,.int .i64 d.off,.int .i64 d.flip],Fs++[G],⟨by subst hn;simpa using hown,by simpa using hsm,by simp[hfl],rfl,fun i e Fi he hFi=>?_⟩,?_⟩,?_,?_⟩
 ·rcases Nat.lt_or_ge i ds.length with hi | hi
  ·rw[List.getElem?_append_left (by omega)] at hFi;rw[List.getElem?_append_left hi] at he;obtain⟨nv',q0,q1,q2,q3,q4,r⟩:=h.deed i e Fi he hFi;refine⟨nv',?_,?_,?_,?_,q4.keep fun b hx=>hold b (oH hFi hx),r⟩
   ·rw[List.getElem?_append_left (by omega)];exact q0
   ·rw[List.getElem?_append_left (by omega)];exact q1
   ·rw[List.getElem?_append_left (by omega)];exact q2
   ·rw[List.getElem?_append_left (by omega)];exact q3
  ·have hik:i=ds.length:=by
    have:=(bI.1 he).1
    simp at this;omega
   subst hik;rw[List.getElem?_append_right (aA _),Nat.sub_self] at he;simp only[List.getElem?_cons_zero,Option.some.injEq] at he;subst he;rw[List.getElem?_append_right (by omega),hfl,Nat.sub_self] at hFi;simp only[List.getElem?_cons_zero,Option.some.injEq] at hFi;subst hFi;refine⟨nv,?_,?_,?_,?_,ho.keep Ul,hs,hwf⟩
   ·rw[List.getElem?_append_right (by omega),show ds.length*4-cells.length=0 by omega];rfl
   ·rw[List.getElem?_append_right (by omega),show ds.length*4+1-cells.length=1 by omega];rfl
   ·rw[List.getElem?_append_right (by omega),show ds.length*4+2-cells.length=2 by omega];rfl
   ·rw[List.getElem?_append_right (by omega),show ds.length*4+3-cells.length=3 by omega];rfl
 ·rw[List.flatten_append];refine Gp (by cases v'.ownBlock<;>simp) (Gp (List.nodup_append.1 hnd).2.1 (by simpa using ho.nodup) fun b hb hb'=>hdis b (hin b hb) (by simpa using hb')) fun b hb hb'=>?_
  rcases List.mem_append.1 hb' with hb' | hb'
  ·exact(hvl b hb).1 hb'
  ·exact(hvl b hb).2.1 (by simpa using hb')
 ·intro b hb;rw[List.flatten_append] at hb
  rcases List.mem_append.1 hb with hb | hb
  ·rcases(hvl b hb).2.2 with h | h
   ·exact .inl h
   ·exact .inr (.inr h)
  ·rcases List.mem_append.1 hb with hb | hb
   ·exact .inl (hin b hb)
   ·exact .inr (.inl (by simpa using hb))
 ·exact(Only.lJ hg).sub fun x hx=>by rw[hft];exact List.mem_append_left _ hx
theorem jG.ownRow {v:Value} {ds:List au} {F:List Nat} (h:∃cells Fs,jG W 0 v ds F cells Fs∧F.Nodup):∃cells,W.ownsRow 0 144 4 v ds.length cells:=by
 obtain⟨c,Fs,h,-⟩:=h;exact⟨c,h.row⟩
theorem Sn.ay (h:Sn w W M) (k:Nat) {v:Value} {ds:List au} (hk:M k=some (fD v ds)):∃F cells Fs,jG W 0 v ds F cells Fs∧F.Nodup:=by
 obtain⟨F,⟨c,Fs,h1,h2⟩,-⟩:=h.get k hk;exact⟨F,c,Fs,h1,h2⟩
theorem Sn.push (h:Sn w W M) (k j:Nat) (hne:k≠j) {v v' nv:Value} {ds:List au} {d:au} {n:Nat} (hk:M k=some (fD v ds)) (hj:M j=some (ax nv d.need))
  (hs:d.need.length≤1048576) (hwf:(Lit.int .i64 d.on).wf=true∧(Lit.int .i64 d.off).wf=true∧(Lit.int .i64 d.flip).wf=true) (hsm:ds.length+1≤1048576) (hn:n=ds.length+1)
  {cells:List Value} (hrow:W.ownsRow 0 144 4 v ds.length cells) (hown:W'.ownsRow 0 144 4 v' n (cells++[nv,.int .i64 d.on,.int .i64 d.off,.int .i64 d.flip])) (hg:W.grownBy W' v.ownBlock) (hat:v'.ownBlock=v.ownBlock∨v'.ownBlock=some W.heap.size):
  Sn w W' (fun i=>if i=k then some (fD v' (ds++[d])) else if i=j then none else M i):=
 h.merge k j hne hk hj fun F G ⟨c,Fs,h1,h2⟩ g1 hdis hlo=>jG.push h1 h2 g1 hdis hs hwf hsm hn (by rw[NW h1.row hrow];exact hown) hg hat
theorem St.task {L:List dh} {gv dv:Value} {s:Int} {goal:List Int} {ds:List au} (h:St w W (ax gv goal::fD dv ds::L)) (hg:goal.length≤1048576) (hs:(Lit.int .i64 s).wf=true):St w W (lI (.agg #[.int .i64 s,gv,dv]) ⟨s,goal,ds⟩::L):=
 h.join fun F G h1 ⟨c,Fs,h2,h3⟩ hn hlo=>⟨⟨gv,dv,F,G,c,Fs,rfl,h1,hg,h2,rfl,hs⟩,hn⟩
end
theorem St.store {w W W':World} {L:List dh} (h:St w W L) (k:Nat) {g:Nat} {t:TypeId} {cs cs':Array Value} (hk:L[k]? =some (ah g t cs)) (hb:fU W' g t cs') (ho:Only [g] W W'):St w W' (L.set k (ah g t cs')):=
 h.mod k hk fun F ⟨h1,h2⟩ _=>⟨F,⟨hb,h2⟩,fun b hb=>.inl hb,by rw[h2];exact ho⟩
theorem St.Um {w W:World} {L:List dh} (h:St w W L) (k:Nat) {g:Nat} {t:TypeId} {a b c:Value} (hk:L[k]? =some (ah g t #[a,b,c])) (x y z:Value):St w (((W.setCell ⟨g,0,none⟩ x).setCell ⟨g,1,none⟩ y).setCell ⟨g,2,none⟩ z) (L.set k (ah g t #[x,y,z])):=
 h.store k hk ((((h.blk k hk).nM 0 x).nM 1 y).nM 2 z) ((((Only.refl [g] W).set (by simp) x).set (by simp) y).set (by simp) z)
theorem St.fF {w W:World} {L:List dh} (h:St w W L) (k:Nat) {g:Nat} {t:TypeId} {a b c d e:Value} (hk:L[k]? =some (ah g t #[a,b,c,d,e])) (x y z u v:Value):St w (((((W.setCell ⟨g,0,none⟩ x).setCell ⟨g,1,none⟩ y).setCell ⟨g,2,none⟩ z).setCell ⟨g,3,none⟩ u).setCell ⟨g,4,none⟩ v) (L.set k (ah g t #[x,y,z,u,v])):=
 h.store k hk ((((((h.blk k hk).nM 0 x).nM 1 y).nM 2 z).nM 3 u).nM 4 v) ((((((Only.refl [g] W).set (by simp) x).set (by simp) y).set (by simp) z).set (by simp) u).set (by simp) v)
theorem St.Yx {w W:World} (h:Below w.heap.size w W):St w W [lI (.agg #[.int .i64 0,.slice none 0 0,.slice none 0 0]) ⟨0,[],[]⟩]:=St.P9 (pU.zero W w.heap.size) List.nodup_nil h
theorem Dl (w W:World) (h:Below w.heap.size w W):St w W [fD (.slice none 0 0) []]:=
 ⟨h,[[]],rfl,fun i R F hR hF=>by
  match i with
  |0=>
   injection hR with hR;injection hF with hF;subst hR hF
   exact⟨⟨[],[],⟨World.ownsRow_nil W 0 _ 4,by simp,rfl,rfl,by simp⟩,by simp⟩,by simp⟩
  |i+1=>simp at hR,by simp⟩
theorem iw (w W:World) (h:Below w.heap.size w W):St w W [ax (.slice none 0 0) []]:=St.CG (jH.none W w.heap.size) h
theorem Rh {W:World} {g:Nat} {F:List Nat} (h:(ah g 144 #[]).at_ W F):(fD (.slice (some ⟨g,0,none⟩) 0 0) []).at_ W F:=by
 obtain⟨h1,rfl⟩:=h;exact⟨[],[],⟨⟨by simp,.inr ⟨g,0,#[],rfl,Nat.zero_le _,h1,aA _,by unfold maxLen;omega,rfl,rfl⟩⟩,by simp,rfl,rfl,by simp⟩,by simp⟩
theorem Dn {W:World} {g:Nat} {F:List Nat} {xs:List Int} {n:Nat} (h:(ah g 3 (ints xs).toArray).at_ W F) (hn:xs.length≤maxLen) (hwf:∀x∈xs,(Lit.int .i64 x).wf=true) (e:n=xs.length):(ax (.slice (some ⟨g,0,none⟩) n n) xs).at_ W F:=by
 obtain⟨h1,rfl⟩:=h;subst e;exact⟨⟨by simp,.inr ⟨g,xs.length,(ints xs).toArray,rfl,Nat.zero_le _,h1,aA _,hn,by simp,by rw[gW (by simp)]⟩⟩,hwf,rfl⟩
theorem bJ.IB {w:World} {g:Nat} {t:TypeId} {cs:List Value} (h:fU w g t cs.toArray) (size n:Nat) (hl:cs.length=n*size) (hn:n≤maxLen):bJ w (g+1) size (some ⟨g,0,none⟩) n n cs:=
 ⟨hl,aA _,hn,fun _=>⟨g,0,rfl,by omega,fun i v hv=>by rw[Nat.zero_add,h.cell i];simpa using hv⟩⟩
theorem IC {P:Program} {t e:TypeId} {z:Value} {size bytes:Nat} (E:qE P t e z size bytes) {w:World} {o:Oper} {a:Act} {K:Act→World→Prop} {Q:Exit→Act→World→Prop} (s x:Operand)
  (ho:o.op= .call { callee:=.builtin .append,args:=#[s,x],argTypes:=#[t,t] })
  (base:Nat) (v:Value) (n:Nat) (xs:List Value) (hs:a.eval s=v) (hown:w.ownsRow base e size v n xs)
  (B:Nat) (A:Option Addr) (m c:Nat) (news:List Value) (hx:a.eval x= .slice A m c) (hr:bJ w B size A m c news) (hm:0<m) (h1:∀u∈news,u.oneCell'=true)
  (hbytes:(n+m)*bytes≤140737488355328) (h63:n+m≤140737488355328) (hbase:base≤w.heap.size)
  (h:∀v' w',w'.ownsRow base e size v' (n+m) (xs++news)→w.grownBy w' v.ownBlock→(v'.ownBlock=v.ownBlock∨v'.ownBlock=some w.heap.size)→K (a.put o.dst v') w'):
  o.wp P a w K Q:=by
 obtain⟨i,hi,hz,hsize,hby⟩:=E.hi;obtain⟨b,off,rfl,hb,hc⟩:=hr.at_ hm;obtain⟨v',w',hrun,h2,h3,h4,h5⟩:=run_append_own_at (P:=P) w base t o.type e i z size bytes E.ht hi hz hsize hby E.hzs E.hsz v n xs hown ⟨b,off,none⟩ m c news hr.len (fun j u hu=>by rw[Addr.add_lit];exact hc j u hu) h1 (by unfold maxLen;omega) hbytes hbase
 unfold Oper.wp execOp
 simp only[ho,resolve,invoke,builtin,Sem.run_bind,Sem.run_pure,Result.andThen_ok,List.map_toArray,List.map_cons,List.map_nil,hs,hx,hrun];exact h v' w' h2 h3 h5
section
variable {w W W' : World} {L : List dh}
theorem St.split {R Dk KH:dh} (h:St w W (R::L)) (k:∀F,R.at_ W F→∃F1 F2,F=F1++F2∧Dk.at_ W F1∧KH.at_ W F2):St w W (Dk::KH::L):=by
 obtain⟨Fs,kl,ha,hnd⟩:=h.has
 match Fs,kl,ha,hnd with
 |F::Fs,kl,ha,hnd=>
  obtain⟨a1,a2⟩:=ha 0 _ F rfl rfl;obtain⟨F1,F2,rfl,b1,b2⟩:=k F a1;refine⟨h.below,F1::F2::Fs,by simpa using kl,fun i R' F' hR hF=>?_,by simpa using hnd⟩
  match i with
  |0=>
   injection hR with hR;injection hF with hF;subst hR hF
   exact⟨b1,fun x hx=>a2 x (List.mem_append_left _ hx)⟩
  |1=>
   simp only[List.getElem?_cons_succ,List.getElem?_cons_zero,Option.some.injEq] at hR hF;subst hR hF;exact⟨b2,fun x hx=>a2 x (List.mem_append_right _ hx)⟩
  |i+2=>exact ha (i+1) R' F' (by simpa using hR) (by simpa using hF)
theorem St.ZK {w W:World} {L:List dh} {s:Int} {gv dv:Value} {t:aB} (h:St w W (lI (.agg #[.int .i64 s,gv,dv]) t::L)):St w W (ax gv t.goal::fD dv t.ay::L):=
 h.split fun F ⟨⟨gv',dv',Fg,Fd,cells,Fs,e,h1,h2,h3,h4,h5⟩,h6⟩=>by
  simp only[Value.agg.injEq,Array.mk.injEq,List.cons.injEq,and_true,Value.int.injEq,true_and] at e;obtain⟨rfl,rfl,rfl⟩:=e;rw[h4] at h6;exact⟨Fg,Fd,h4,h1,cells,Fs,h3,(List.nodup_append.1 h6).2.1⟩
end
open Go.ChangeShapes Go.WideShapes Go.ChangeAt Go.RowKit Go.Deep
def BN (M:Nat) (w:World) (B:Nat) (v:Value) (b:aG):Prop:=
 ∃A n c A' n' c' A2 n2 c2,v= .agg #[.int .i64 b.order.start,.slice A n c,.slice A' n' c',.slice A2 n2 c2,.int .i64 b.state]∧jd .i64 w B A n c b.order.goal∧n≤M∧oI M w B A' n' c' b.order.ay∧(Lit.int .i64 b.order.start).wf=true∧
  jd .i64 w B A2 n2 c2 b.done∧n2≤M∧(Lit.int .i64 b.state).wf=true
abbrev RdB:=BN 1048576
theorem BN.up {M:Nat} {w w':World} {v:Value} {b:aG} (h:BN M w w.heap.size v b) (hb:Below w.heap.size w w'):BN M w' w'.heap.size v b:=by
 obtain⟨A,n,c,A',n',c',A2,n2,c2,e,h1,h2,h3,h4,h5,h6⟩:=h;exact⟨A,n,c,A',n',c',A2,n2,c2,e,h1.up hb,h2,h3.up hb,h4,h5.up hb,h6⟩
section
variable {H : Type} {enc : TypeId × Value → H} {W : World} {base : Nat} {spare : Nat → Bool} {held : Bool} {fuel : Nat} {cs : List Value} {x : DataW H × List MemPlace}
end
def ae7 (w:World) (v:Value) (L:List dh) (e:Ending) (w':World):Prop:=e= .returned v∧St w w' L
section
variable {w W : World} {L : List dh}
theorem St.abx (S:St w W L) (i:Nat) {v:Value} {t:aB} (hi:L[i]? =some (lI v t)):∃A n c A' n' c',v= .agg #[.int .i64 t.start,.slice A n c,.slice A' n' c']:=by
 obtain⟨F,⟨⟨gv,dv,Fg,Fd,cells,Fs,e,h1,h2,h3,-,h4⟩,-⟩,-⟩:=S.get i hi;obtain⟨A,c,rfl⟩:=dR h1.row;obtain⟨A',c',rfl⟩:=dR h3.row;exact⟨A,_,c,A',_,c',e⟩
end
theorem Sn.uj {w W:World} {M:Nat→Option dh} (h:Sn w W M) (k:Nat) {v:Value} {xs:List Int} (hk:M k=some (ax v xs)):∃A c,v= .slice A xs.length c∧jd .i64 W W.heap.size A xs.length c xs:=by
 obtain⟨F,h1,-⟩:=h.get k hk;exact h1.rd
theorem nV (t:aB) (s:Int) (p:List Int) (h:¬(aK t=true∧iJ s=true∧p.length≤40)):aC t s p= -1:=if_neg h
theorem Bl (t:aB) (s:Int) (p:List Int) (h1:aK t=true) (h2:iJ s=true) (h3:p.length≤40):aC t s p=opt (jY t s.toNat p):=if_pos ⟨h1,h2,h3⟩
theorem zT (t:aB) (s:Nat) (k:Int) (h:¬(0≤k∧k<t.ay.length)):mr t s k=none:=if_neg h
theorem LK (t:aB) (s:Nat) (k:Nat) (d:au) (h:t.ay[k]? =some d):mr t s k=bD d s:=by
 have hl:=(bI.1 h).1
 unfold mr
 rw[if_pos ⟨by omega,by omega⟩,bW,h];rfl
theorem D8 (d:au) (s:Nat) (h:aH d.need s=true):bD d s=some (behind d s):=if_pos h
theorem G5 (d:au) (s:Nat) (h:aH d.need s=false):bD d s=none:=if_neg (by rw[h];simp)
theorem mZ (A:Option Addr) (n c:Nat) (d:au) (s:Nat) (w:World) (h:jd .i64 w w.heap.size A n c d.need) (hok:bK d=true) (hs:s<32):
  Calls Tryz.prog 142 #[.agg #[.slice A n c,.int .i64 d.on,.int .i64 d.off,.int .i64 d.flip],.int .i64 s] w fun e w'=>e= .returned (.int .i64 (opt (bD d s)))∧Below w.heap.size w w':=by
 have hp:=kW d hok;have S0:=(St.refl w).alloc #[.slice A n c,.int .i64 d.on,.int .i64 d.off,.int .i64 d.flip] 144;have HR:=af (uD A n c d.need s _ (h.up S0.below) hp.1 hs);have aS:=af S0;have HB:=af (KU d s hs hok);have hlt:=zL d s hok hs;clear S0 hp;obtain⟨bv,hv⟩:∃b,aH d.need s=b:=⟨_,rfl⟩;have HV:=af hv;clear hv;go_enter Tryz.func142,Tryz.ntmps142
 go_wp2_with fail
 refine HR.out.mono ?_;rw[HV.out];rintro e w1 ⟨rfl,hb1⟩;have S1:=aS.out.quiet hb1;have q0:=S1.cells 0 rfl;have bf:=af S1;clear S1 hb1
 cases bv with
 |false=>
  go_wp2;go_ret;exact⟨aP (by rw[G5 d s HV.out];rfl),bf.out.below⟩
 |true=>
  go_wp2;rw[HB.out];go_ret;exact⟨aP (by rw[D8 d s HV.out];rfl),bf.out.below⟩
theorem uN (A:Option Addr) (n c:Nat) (d:au) (s:Nat) (w:World) (h:jd .i64 w w.heap.size A n c d.need) (hok:bK d=true) (hs:s<32):
  Calls Tryz.prog 136 #[.agg #[.slice A n c,.int .i64 d.on,.int .i64 d.off,.int .i64 d.flip],.int .i64 s] w fun e w'=>e= .returned (.int .i64 (opt (bD d s)))∧Below w.heap.size w w':=by
 have hp:=kW d hok;obtain⟨hp0,hp1,hp2,hp3,-⟩:=hp;have S0:=(St.refl w).alloc #[.slice A n c,.int .i64 d.on,.int .i64 d.off,.int .i64 d.flip] 144;have HR:=af (kU A n c d.need s _ (h.up S0.below) hp0 hs);have aS:=af S0;have HB:=af (KW d s hok);have hlt:=zL d s hok hs;obtain⟨bv,hv⟩:∃b,aH d.need s=b:=⟨_,rfl⟩;have HV:=af hv;clear S0 hv;obtain⟨need,on,of,fl⟩:=d
 simp only at hp1 hp2 hp3
 obtain⟨a,rfl⟩:=bC hp1.1;obtain⟨o,rfl⟩:=bC hp2.1;obtain⟨f,rfl⟩:=bC hp3.1;obtain⟨-,hp1⟩:=hp1;obtain⟨-,hp2⟩:=hp2;obtain⟨-,hp3⟩:=hp3;have ho:s ||| a<32:=IK hs (by omega)
 have hx:s &&& o≤s ||| a:=Nat.le_trans Nat.and_le_left (Nat.left_le_or)
 have C1:=af (fun w=>o9 (s:Int) (a:Int) (by omega) (by omega) (by omega) (by omega) w);have C2:=af (fun w=>jU s o (by omega) w);have C3:=af (fun w=>AP (((s ||| a:Nat):Int)-((s &&& o:Nat):Int)) (f:Int) (by omega) (by omega) (by omega) (by omega) w);simp only[bW] at C1 C3 HB;have HX:Hid ((((s ||| a:Nat):Int)-((s &&& o:Nat):Int)).toNat^^^f=behind ⟨need,a,o,f⟩ s):=af (by rw[HB.out];congr 1;omega);clear HB hok;go_enter Tryz.func136,Tryz.ntmps136
 go_wp2_with fail
 refine HR.out.mono ?_;rw[HV.out];rintro e w1 ⟨rfl,hb1⟩;have S1:=aS.out.quiet hb1;have q0:=S1.cells 0 rfl;have bf:=af S1;clear S1 hb1
 cases bv with
 |false=>
  go_wp2;go_ret;exact⟨aP (by rw[G5 _ s HV.out];rfl),bf.out.below⟩
 |true=>
  go_upto_region 3 with(fail)
  go_quiet ((first
   | (go_at_call 159;with_reducible exact pR (C1.out _))
   | (go_at_call 157;with_reducible exact pR (C2.out _))
   | (go_at_call 103;with_reducible exact pR (C3.out _))))
  go_wp2;go_ret;exact⟨aP (by rw[D8 _ s HV.out,←HX.out];rfl),bf.out.below.trans (below_drewN (ai _ _) _)⟩
theorem mW (v:Value) (t:aB) (s0:Int) (A:Option Addr) (n c:Nat) (p:List Int) (w:World) (h:oW w w.heap.size v t) (hp:jd .i64 w w.heap.size A n c p):
  Calls Tryz.prog 73 #[v,.int .i64 s0,.slice A n c] w fun e w'=>e= .returned (.int .i64 (aC t s0 p))∧Below w.heap.size w w':=by
 have h':=h;obtain⟨G,gn,gc,G',n',c',rfl,hg,hgs,hds,hst⟩:=h;have S0:=(St.refl w).alloc #[.int .i64 t.start,.slice G gn gc,.slice G' n' c'] 26;have HT:=af (h'.up S0.below);have aS:=af S0;have hl:=hp.len;have hcap:=hp.cap;have hcm:=hp.dw
 unfold maxLen at hcm
 have HL:=af hl;have hdl:=hds.len;have gy:=af hdl;clear S0 hl hdl h';obtain⟨bo,hok⟩:∃b,aK t=b:=⟨_,rfl⟩;have bG:=af hok;clear hok
 cases bo with
 |false=>
  go_enter Tryz.func73,Tryz.ntmps73
  go_wp2_with fail
  refine(bZ _ t _ HT.out).mono ?_;rw[bG.out];rintro e w1 ⟨rfl,hb1⟩;go_wp2;go_ret;exact⟨aP (nV t s0 p (by rw[bG.out];simp)).symm,(aS.out.quiet hb1).below⟩
 |true=>
  obtain⟨bi,hsi⟩:∃b,iJ s0=b:=⟨_,rfl⟩;have Fe:=af hsi;clear hsi
  cases bi with
  |false=>
   go_enter Tryz.func73,Tryz.ntmps73
   go_wp2_with fail
   refine(bZ _ t _ HT.out).mono ?_;rw[bG.out];rintro e w1 ⟨rfl,hb1⟩
   go_wp2_with fail
   refine(dS s0 _).mono ?_;rw[Fe.out];rintro e w2 ⟨rfl,rfl⟩;go_wp2;go_ret;exact⟨aP (nV t s0 p (by rw[Fe.out];simp)).symm,(aS.out.quiet hb1).below⟩
  |true=>
   obtain⟨hs0,hs1⟩:=(aV s0).1 Fe.out;obtain⟨s,rfl⟩:=bC hs0;go_enter Tryz.func73,Tryz.ntmps73
   go_wp2_with fail
   refine(bZ _ t _ HT.out).mono ?_;rw[bG.out];rintro e w1 ⟨rfl,hb1⟩;have S1:=aS.out.quiet hb1;have bf:=af S1;clear S1 hb1
   go_wp2_with fail
   refine(dS s _).mono ?_;rw[Fe.out];rintro e w2 ⟨rfl,rfl⟩
   by_cases Rl:n≤40
   case neg=>
    go_wp2;go_ret;exact⟨aP (nV t s p (by rw[HL.out];omega)).symm,bf.out.below⟩
   have HY:=af (Bl t s p bG.out Fe.out (by rw[HL.out];exact Rl));rw[bW] at HY;have gQ:=af (aJ t bG.out).2.2.2;go_wp2
   go_loopw [24,1] (fun i sv wr=>∃(k s':Nat),k≤n∧i= .int .i64 k∧sv= .int .i64 s'∧s'<32∧Hid (jY t s (p.take k)=some s')∧St w wr [ah w.heap.size 26 #[.int .i64 t.start,.slice G gn gc,.slice G' n' c']]) (fun i _ _=>n-(intOf i).toNat)
   case atStart=>exact⟨0,s,by omega,rfl,rfl,by omega,af rfl,bf.out⟩
   case round=>
    obtain⟨k,s',hk,rfl,rfl,hs',hrun,M⟩:=hrel
    by_cases hlt:k<n
    ·obtain⟨b,off,x,rfl,hb,hx,hwx,hc⟩:=hp.get hlt;have hcr:wr.cell? ⟨b,off+k,none⟩=some (.int .i64 x):=(aF M.below b _ hb).trans hc;have q0:=M.cells 0 rfl;have HBAD:=af (fun h=>(HY.out.trans (congrArg opt (KT t s p k x hx s' hrun.out h)):aC t s p= -1));have UO:=af (zK t s p k x hx s' hrun.out);have HM:=af M;clear hx hc M
     by_cases hx0:x<0
     ·have HF:=af (HBAD.out (zT t s' x (by omega)));go_wp2;go_ret;exact⟨aP HF.out.symm,HM.out.below⟩
     obtain⟨m,rfl⟩:=bC (show 0≤x by omega)
     by_cases hm:m<n'
     case neg=>
      have HF:=af (HBAD.out (zT t s' m (by rw[gy.out];omega)));go_wp2;go_ret;exact⟨aP HF.out.symm,HM.out.below⟩
     obtain⟨b',off',d,rfl,hb',hd,hda⟩:=hds.get hm;obtain⟨An,nn,cn,p0,p1,p2,p3,dU,hnn,-⟩:=hda;have r0:wr.cell? ⟨b',off'+m*4,none⟩=some (.slice An nn cn):=(aF HM.out.below b' _ hb').trans p0;have r1:wr.cell? ⟨b',off'+m*4+1,none⟩=some (.int .i64 d.on):=(aF HM.out.below b' _ hb').trans p1;have r2:wr.cell? ⟨b',off'+m*4+2,none⟩=some (.int .i64 d.off):=(aF HM.out.below b' _ hb').trans p2;have r3:wr.cell? ⟨b',off'+m*4+3,none⟩=some (.int .i64 d.flip):=(aF HM.out.below b' _ hb').trans p3;have iL:=gQ.out d (bT hd);have HAT:=af (LK t s' m d hd);have Ll:=af dU;have HDK:=af iL;clear p0 p1 p2 p3 dU hd iL;obtain⟨oo,hoo⟩:∃o,bD d s'=o:=⟨_,rfl⟩;have UQ:=af hoo;clear hoo
     go_wp2_with fail
     refine(mZ An nn cn d s' _ (Ll.out.up HM.out.below) HDK.out hs').mono ?_;rw[UQ.out];rintro e w3 ⟨rfl,hb3⟩;have M3:=HM.out.quiet hb3;have zF:=af M3;clear M3 hb3 q0 r0 r1 r2 r3 hcr
     cases oo with
     |none=>
      have HF:=af (HBAD.out (HAT.out.trans UQ.out));simp only[opt];go_wp2;go_ret;exact⟨aP HF.out.symm,zF.out.below⟩
     |some s2=>
      have hs2:=iy d s' s2 HDK.out hs' UQ.out;simp only[opt];go_wp2
      go_roundw
      case rel=>exact⟨k+1,s2,by omega,by go_num,rfl,hs2,af (UO.out.trans (HAT.out.trans UQ.out)),zF.out⟩
      case measure=>simp[intOf];omega
    ·have hkn:k=n:=by omega
     have HF:Hid (aC t s p=s'):=af (by
      have h1:=hrun.out;rw[hkn,←HL.out,List.take_length] at h1
      rw[HY.out,h1];rfl)
     have HM:=af M;clear M hkn;go_wp2;go_ret;exact⟨aP HF.out.symm,HM.out.below⟩
theorem jy (v:Value) (t:aB) (s0:Int) (A:Option Addr) (n c:Nat) (p:List Int) (w:World) (h:oW w w.heap.size v t) (hp:jd .i64 w w.heap.size A n c p):
  Calls Tryz.prog 67 #[v,.int .i64 s0,.slice A n c] w fun e w'=>e= .returned (.int .i64 (aC t s0 p))∧Below w.heap.size w w':=by
 have h':=h;obtain⟨G,gn,gc,G',n',c',rfl,hg,hgs,hds,hst⟩:=h;have S0:=(St.refl w).alloc #[.int .i64 t.start,.slice G gn gc,.slice G' n' c'] 26;have HT:=af (h'.up S0.below);have aS:=af S0;have hl:=hp.len;have hcap:=hp.cap;have hcm:=hp.dw
 unfold maxLen at hcm
 have HL:=af hl;have hdl:=hds.len;have gy:=af hdl;clear S0 hl hdl h';obtain⟨bo,hok⟩:∃b,aK t=b:=⟨_,rfl⟩;have bG:=af hok;clear hok
 cases bo with
 |false=>
  go_enter Tryz.func67,Tryz.ntmps67
  go_wp2_with fail
  refine(bV _ t _ HT.out).mono ?_;rw[bG.out];rintro e w1 ⟨rfl,hb1⟩;go_wp2;go_ret;exact⟨aP (nV t s0 p (by rw[bG.out];simp)).symm,(aS.out.quiet hb1).below⟩
 |true=>
  obtain⟨bi,hsi⟩:∃b,iJ s0=b:=⟨_,rfl⟩;have Fe:=af hsi;clear hsi
  cases bi with
  |false=>
   go_enter Tryz.func67,Tryz.ntmps67
   go_wp2_with fail
   refine(bV _ t _ HT.out).mono ?_;rw[bG.out];rintro e w1 ⟨rfl,hb1⟩
   go_wp2_with fail
   refine(kS s0 0 31 _ (by have:=(vP s0).1 Fe.out;omega)).mono ?_;rintro e w2 ⟨rfl,rfl⟩;go_wp2;go_ret;exact⟨aP (nV t s0 p (by rw[Fe.out];simp)).symm,(aS.out.quiet hb1).below⟩
  |true=>
   obtain⟨hs0,hs1⟩:=(aV s0).1 Fe.out;obtain⟨s,rfl⟩:=bC hs0;go_enter Tryz.func67,Tryz.ntmps67
   go_wp2_with fail
   refine(bV _ t _ HT.out).mono ?_;rw[bG.out];rintro e w1 ⟨rfl,hb1⟩;have S1:=aS.out.quiet hb1;have bf:=af S1;clear S1 hb1
   go_wp2_with fail
   refine(fO s 0 31 _ (by omega) (by omega)).mono ?_;rintro e w2 ⟨rfl,rfl⟩
   by_cases Rl:n≤40
   case neg=>
    go_wp2;go_ret;exact⟨aP (nV t s p (by rw[HL.out];omega)).symm,bf.out.below⟩
   have HY:=af (Bl t s p bG.out Fe.out (by rw[HL.out];exact Rl));rw[bW] at HY;have gQ:=af (aJ t bG.out).2.2.2;have pz:n'≤6:=by rw[←gy.out];exact(aJ t bG.out).2.2.1
   go_wp2
   go_loopw [7,1] (fun i sv wr=>∃(k s':Nat),k≤n∧i= .int .i64 k∧sv= .int .i64 s'∧s'<32∧Hid (jY t s (p.take k)=some s')∧St w wr [ah w.heap.size 26 #[.int .i64 t.start,.slice G gn gc,.slice G' n' c']]) (fun i _ _=>n-(intOf i).toNat)
   case atStart=>exact⟨0,s,by omega,rfl,rfl,by omega,af rfl,bf.out⟩
   case round=>
    obtain⟨k,s',hk,rfl,rfl,hs',hrun,M⟩:=hrel
    by_cases hlt:k<n
    ·obtain⟨b,off,x,rfl,hb,hx,hwx,hc⟩:=hp.get hlt;have hcr:wr.cell? ⟨b,off+k,none⟩=some (.int .i64 x):=(aF M.below b _ hb).trans hc;have q0:=M.cells 0 rfl;have HBAD:=af (fun h=>(HY.out.trans (congrArg opt (KT t s p k x hx s' hrun.out h)):aC t s p= -1));have UO:=af (zK t s p k x hx s' hrun.out);have HM:=af M;clear hx M
     by_cases hxm:0≤x∧x<n'
     case neg=>
      have HF:=af (HBAD.out (zT t s' x (by rw[gy.out];exact hxm)));have HC:=af (fun w=>kS x 0 ((n':Int)-1) w (by omega));clear hxm
      go_upto_region 6 with(fail)
      go_quiet ((go_at_call 125;with_reducible exact pR (HC.out _)))
      go_wp2;go_ret;exact⟨aP HF.out.symm,HM.out.below.trans (below_drewN (ai _ _) _)⟩
     obtain⟨hx0,hxm⟩:=hxm;obtain⟨m,rfl⟩:=bC hx0;have hm:m<n':=by omega
     have HC:=af (fun w=>fO (m:Int) 0 ((n':Int)-1) w (by omega) (by omega));obtain⟨b',off',d,rfl,hb',hd,hda⟩:=hds.get hm;obtain⟨An,nn,cn,p0,p1,p2,p3,dU,hnn,-⟩:=hda;have iL:=gQ.out d (bT hd);have HAT:=af (LK t s' m d hd);have Ll:=af dU;have HDK:=af iL;clear dU hd iL;obtain⟨oo,hoo⟩:∃o,bD d s'=o:=⟨_,rfl⟩;have UQ:=af hoo;clear hoo
     go_upto_region 6 with(fail)
     go_quiet ((go_at_call 125;with_reducible exact pR (HC.out _)))
     go_upto_region 8 with(fail)
     refine kG (σ:=Nat)
      (fun s i=>match i with
       |0=>.pointer (some ⟨w.heap.size,2,none⟩)
       |1=>.slice (some ⟨b',off',none⟩) n' c'
       |2=>.slice (some ⟨b,off,none⟩) n c
       |3=>.int .i64 k
       |4=>.pointer (some ⟨b,(off+k),none⟩)
       |5=>.int .i64 m
       |6=>.pointer (some ⟨b',(off'+m*4),none⟩)
       |7=>.agg #[.slice An nn cn,.int .i64 d.on,.int .i64 d.off,.int .i64 d.flip]
       |8=>.int .i64 s'
       |9=>.int .i64 (opt (bD d s'))
       |10=>.int .i64 (opt (bD d s'))
       |_=>undef)
      (fun D s wx=>Sn w wx fun i=>match i with
       |0=>some (ah w.heap.size 26 #[.int .i64 t.start,.slice G gn gc,.slice (some ⟨b',off',none⟩) n' c'])
       |_=>none)
      0 ?_ ?_ ?_
     ·intro D hD;refine((Sn.dN HM.out).quiet ((below_drewN (ai _ _) _).drew)).congr fun i=>?_
      match i with
      |0=>rfl
      |q+1=>rfl
     ·refine Cs (fun D s wx hR _ hd _ _ hs K hK=>?_) ?_
      ·have e3:=hs.o 3 (.pointer (some ⟨w.heap.size,0,none⟩));clear hs;go_simp;exact hK s wx sv hR
      refine Cs (fun D s wx hR _ hd _ _ hs K hK=>?_) ?_
      ·have e37:=hs.v 0 37 hd;clear hs;have qk:=(hR.blk 0 rfl).cell;go_simp;exact hK s wx sv hR
      refine Cs (fun D s wx hR _ hd _ _ hs K hK=>?_) ?_
      ·have e2:=hs.o 2 (.slice (some ⟨b,off,none⟩) n c);clear hs;go_simp;exact hK s wx sv hR
      refine Cs (fun D s wx hR _ hd _ _ hs K hK=>?_) ?_
      ·have e7:=hs.o 7 (.int .i64 k);clear hs;go_simp;exact hK s wx sv hR
      refine Cs (fun D s wx hR _ hd _ _ hs K hK=>?_) ?_
      ·have e39:=hs.v 2 39 hd;have e40:=hs.v 3 40 hd;clear hs;go_simp;exact hK s wx sv hR
      refine Cs (fun D s wx hR _ hd _ _ hs K hK=>?_) ?_
      ·have e41:=hs.v 4 41 hd;clear hs;have c0:wx.cell? ⟨b,off+k,none⟩=some (.int .i64 m):=(aF hR.below b _ hb).trans hc;go_simp;exact hK s wx sv hR
      refine Cs (fun D s wx hR _ hd _ _ hs K hK=>?_) ?_
      ·have e38:=hs.v 1 38 hd;have e42:=hs.v 5 42 hd;clear hs;go_simp;exact hK s wx sv hR
      refine Cs (fun D s wx hR _ hd _ _ hs K hK=>?_) ?_
      ·have e43:=hs.v 6 43 hd;clear hs;have r0:wx.cell? ⟨b',off'+m*4,none⟩=some (.slice An nn cn):=(aF hR.below b' _ hb').trans p0;have r1:wx.cell? ⟨b',off'+m*4+1,none⟩=some (.int .i64 d.on):=(aF hR.below b' _ hb').trans p1;have r2:wx.cell? ⟨b',off'+m*4+2,none⟩=some (.int .i64 d.off):=(aF hR.below b' _ hb').trans p2;have r3:wx.cell? ⟨b',off'+m*4+3,none⟩=some (.int .i64 d.flip):=(aF hR.below b' _ hb').trans p3;go_simp;exact hK s wx sv hR
      refine Cs (fun D s wx hR hDi hd hsh _ hs K hK=>?_) ?_
      ·have m10:D 10=false:=hsh.no hDi 10 rfl ⟨8,.phase⟩ (by simp) rfl rfl;have e1:=hs.before 10 1 (u:=.int .i64 s') rfl m10 (by kernel_rfl) rfl;clear hs;go_simp;exact hK s wx sv hR
      refine Cs (fun D s wx hR _ hd _ _ hs K hK=>?_) ?_
      ·have e44:=hs.v 7 44 hd;have e45:=hs.v 8 45 hd;have g44:=aX e44;have g45:=aX e45;clear hs;go_simp;refine(uN An nn cn d s' _ (Ll.out.up hR.below) HDK.out hs').mono ?_;rintro e w3 ⟨rfl,hb3⟩;exact hK s w3 sv (hR.quiet hb3)
      refine Cs (fun D s wx hR _ hd _ _ hs K hK=>?_) ?_
      ·have e46:=hs.v 9 46 hd;clear hs;go_simp;exact hK s wx sv hR
      exact aj.nil
     ·intro D s wx hR hD;simp only[eH,Act.put,aO,aU,aW];have M3:St w wx [ah w.heap.size 26 #[.int .i64 t.start,.slice G gn gc,.slice (some ⟨b',off',none⟩) n' c']]:=hR.eG [0] (by decide) rfl;rw[UQ.out];have zF:=af M3;clear M3 hR hD q0 hcr hc p0 p1 p2 p3
      cases oo with
      |none=>
       have HF:=af (HBAD.out (HAT.out.trans UQ.out));simp only[opt];go_wp2;go_ret;exact⟨aP HF.out.symm,zF.out.below⟩
      |some s2=>
       have hs2:=iy d s' s2 HDK.out hs' UQ.out;simp only[opt];go_wp2
       go_roundw
       case rel=>exact⟨k+1,s2,by omega,by go_num,rfl,hs2,af (UO.out.trans (HAT.out.trans UQ.out)),zF.out⟩
       case measure=>simp[intOf];omega
    ·have hkn:k=n:=by omega
     have HF:Hid (aC t s p=s'):=af (by
      have h1:=hrun.out;rw[hkn,←HL.out,List.take_length] at h1
      rw[HY.out,h1];rfl)
     have HM:=af M;clear M hkn;go_wp2;go_ret;exact⟨aP HF.out.symm,HM.out.below⟩
def OwnB (w:World) (v:Value) (b:aG) (F:List Nat):Prop:=
 ∃gv dv ev Ft Fd,v= .agg #[.int .i64 b.order.start,gv,dv,ev,.int .i64 b.state]∧pU w 0 (.agg #[.int .i64 b.order.start,gv,dv]) b.order Ft∧jH w 0 ev b.done Fd∧b.done.length≤1048576∧(Lit.int .i64 b.state).wf=true∧F=Ft++Fd∧F.Nodup
def aI (v:Value) (b:aG):dh where
 at_ w F:=OwnB w v b F
 keep w w' F h hk:=by
  obtain⟨gv,dv,ev,Ft,Fd,e,h1,h2,h3,h4,rfl,h5⟩:=h;exact⟨gv,dv,ev,Ft,Fd,e,h1.keep fun b hb=>hk b (List.mem_append_left _ hb),h2.keep fun b hb=>hk b (List.mem_append_right _ hb),h3,h4,rfl,h5⟩
 lt w F h b hb:=by
  obtain⟨gv,dv,ev,Ft,Fd,e,h1,h2,h3,h4,rfl,h5⟩:=h
  rcases List.mem_append.1 hb with hb | hb
  ·exact(h1.lt b hb).2
  ·exact(h2.lt b hb).2
 nd w F h:=by obtain⟨gv,dv,ev,Ft,Fd,e,h1,h2,h3,h4,rfl,h5⟩:=h;exact h5
def szB (b:aG):Nat:=szT b.order+b.done.length
section
variable {w W W' : World} {L : List dh}
theorem St.book {s st:Int} {gv dv ev:Value} {goal done:List Int} {ds:List au} (h:St w W (lI (.agg #[.int .i64 s,gv,dv]) ⟨s,goal,ds⟩::ax ev done::L)) (hd:done.length≤1048576) (hs:(Lit.int .i64 st).wf=true):
  St w W (aI (.agg #[.int .i64 s,gv,dv,ev,.int .i64 st]) ⟨⟨s,goal,ds⟩,done,st⟩::L):=
 h.join fun F G h1 h2 hn hlo=>⟨gv,dv,ev,F,G,rfl,h1.1,h2,hd,hs,rfl,hn⟩
theorem OwnB.rd {v:Value} {b:aG} {F:List Nat} (h:OwnB W v b F):RdB W W.heap.size v b:=by
 obtain⟨gv,dv,ev,Ft,Fd,rfl,h1,h2,h3,h4,rfl,h5⟩:=h;obtain⟨A,n,c,A',n',c',e,a1,a2,a3,a4⟩:=h1.rd;obtain⟨A2,c2,rfl,b1⟩:=h2.rd;simp only[Value.agg.injEq,Array.mk.injEq,List.cons.injEq,and_true,true_and] at e;obtain⟨rfl,rfl⟩:=e;exact⟨A,n,c,A',n',c',A2,_,c2,rfl,a1,a2,a3,a4,b1,h3,h4⟩
theorem St.CX (S:St w W L) (i:Nat) {v:Value} {b:aG} (hi:L[i]? =some (aI v b)):RdB W W.heap.size v b:=by
 obtain⟨F,h,-⟩:=S.get i hi;exact h.rd
theorem Sn.CX {M:Nat→Option dh} (h:Sn w W M) (k:Nat) {v:Value} {b:aG} (hk:M k=some (aI v b)):RdB W W.heap.size v b:=by
 obtain⟨F,h1,-⟩:=h.get k hk;exact h1.rd
theorem BN.form {M B:Nat} {v:Value} {b:aG} (h:BN M w B v b):∃A n c A' n' c' A2 n2 c2,v= .agg #[.int .i64 b.order.start,.slice A n c,.slice A' n' c',.slice A2 n2 c2,.int .i64 b.state]:=by
 obtain⟨A,n,c,A',n',c',A2,n2,c2,e,-⟩:=h;exact⟨A,n,c,A',n',c',A2,n2,c2,e⟩
theorem St.gU (S:St w W L) (i:Nat) {v:Value} {b:aG} (hi:L[i]? =some (aI v b)):∃A n c A' n' c' A2 n2 c2,v= .agg #[.int .i64 b.order.start,.slice A n c,.slice A' n' c',.slice A2 n2 c2,.int .i64 b.state]:=(S.CX i hi).form
theorem BN.order {M B:Nat} {s st:Int} {x y z:Value} {b:aG} (h:BN M w B (.agg #[.int .i64 s,x,y,z,.int .i64 st]) b):uz M w B (.agg #[.int .i64 s,x,y]) b.order:=by
 obtain⟨A,n,c,A',n',c',A2,n2,c2,e,h1,h2,h3,h4,h5,h6,h7⟩:=h;simp only[Value.agg.injEq,Array.mk.injEq,List.cons.injEq,Value.int.injEq,true_and,and_true] at e;obtain⟨rfl,rfl,rfl,rfl,rfl⟩:=e;exact⟨A,n,c,A',n',c',rfl,h1,h2,h3,h4⟩
theorem BN.done {M B:Nat} {s st:Int} {x y:Value} {A:Option Addr} {n c:Nat} {b:aG} (h:BN M w B (.agg #[.int .i64 s,x,y,.slice A n c,.int .i64 st]) b):jd .i64 w B A n c b.done∧n≤M∧(Lit.int .i64 b.state).wf=true∧st=b.state∧s=b.order.start:=by
 obtain⟨A,n,c,A',n',c',A2,n2,c2,e,h1,h2,h3,h4,h5,h6,h7⟩:=h;simp only[Value.agg.injEq,Array.mk.injEq,List.cons.injEq,Value.int.injEq,true_and,and_true,Value.slice.injEq] at e;obtain⟨rfl,-,-,⟨rfl,rfl,rfl⟩,rfl⟩:=e;exact⟨h5,h6,h7,rfl,rfl⟩
end
def mkB (b:aG):Nat:=mkT b.order+b.done.length
def aeP (k:Nat) (b:aG):aG:=⟨markT k b.order,marks (k+mkT b.order) b.done.length,b.state⟩
end Go.Proofs.YtkmcengmglgdeaaGreatDoor
