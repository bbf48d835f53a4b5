/- Joined texts: St, Plan, Sets. -/
import Derived.Test.YtkmcengmglgdeaaGreatDoorSDeed
import Derived.Test.YtkmcengmglgdeaaGreatDoorSSz
import Derived.Test.YtkmcengmglgdeaaGreatDoorSNum

namespace Go.Proofs.YtkmcengmglgdeaaGreatDoor
set_option linter.unusedVariables false
set_option linter.unusedSimpArgs false
set_option maxRecDepth 100000
set_option maxHeartbeats 8000000
open Go.ChangeShapes Go.WideShapes Go.ChangeAt Go.RowKit
structure dW where
 at_:World→List Nat→Prop
 keep:∀(w w':World) (F:List Nat),at_ w F→(∀b∈F,w'.heap[b]? =w.heap[b]?)→at_ w' F
 lt:∀(w:World) (F:List Nat),at_ w F→∀b∈F,b<w.heap.size
 nd:∀(w:World) (F:List Nat),at_ w F→F.Nodup
structure St (w W:World) (L:List dW):Prop where
 below:Below w.heap.size w W
 has:∃Fs:List (List Nat),Fs.length=L.length∧(∀(i:Nat) R F,L[i]? =some R→Fs[i]? =some F→R.at_ W F∧∀b∈F,w.heap.size≤b)∧Fs.flatten.Nodup
theorem qX {Fs:List (List Nat)} (h:Fs.flatten.Nodup) {i j:Nat} {F G:List Nat} (hi:Fs[i]? =some F) (hj:Fs[j]? =some G) (hne:i≠j):∀b∈F,b∉G:=by
 intro b hb hg;have hi2:=(aW.1 hi).1;have hj2:=(aW.1 hj).1;have hp:=List.pairwise_iff_getElem.1 (List.pairwise_flatten.1 h).2
 rcases Nat.lt_or_gt_of_ne hne with h1 | h1
 ·exact hp i j hi2 hj2 h1 b (by rw[(aW.1 hi).2];exact hb) b (by rw[(aW.1 hj).2];exact hg) rfl
 ·exact hp j i hj2 hi2 h1 b (by rw[(aW.1 hj).2];exact hg) b (by rw[(aW.1 hi).2];exact hb) rfl
theorem wF {Fs:List (List Nat)} (h1:∀(i:Nat) F,Fs[i]? =some F→F.Nodup) (h2:∀(i j:Nat) F G,i≠j→Fs[i]? =some F→Fs[j]? =some G→∀b∈F,b∉G):Fs.flatten.Nodup:=by
 refine List.pairwise_flatten.2 ⟨fun F hF=>?_,List.pairwise_iff_getElem.2 fun i j hi hj hlt a ha b hb e=>?_⟩
 ·obtain⟨i,hi⟩:=List.mem_iff_getElem?.1 hF;exact h1 i F hi
 ·subst e;exact h2 i j _ _ (by omega) (bD hi) (bD hj) a ha hb
section
variable {w W W' : World} {L L' : List dW}
theorem St.refl (w:World):St w w []:=⟨ai _ _,[],rfl,by simp,by simp⟩
theorem St.size (h:St w W L):w.heap.size≤W.heap.size:=h.below.size
theorem St.get (h:St w W L) (i:Nat) {R:dW} (hi:L[i]? =some R):∃F,R.at_ W F∧∀b∈F,w.heap.size≤b:=by
 obtain⟨Fs,hl,ha,-⟩:=h.has;have h1:=(aW.1 hi).1;exact⟨_,ha i R _ hi (bD (show i<Fs.length by omega))⟩
theorem St.call (h:St w W L) (k:St W W' L'):St w W' (L++L'):=by
 obtain⟨Fs,hl,ha,hn⟩:=h.has;obtain⟨Gs,kl,ka,kn⟩:=k.has
 have hold:∀(i:Nat) F,Fs[i]? =some F→∃R,L[i]? =some R∧R.at_ W F∧∀b∈F,w.heap.size≤b:=fun i F hF=>by
  have hi:i<L.length:=by rw[←hl];exact(aW.1 hF).1
  exact⟨_,bD hi,ha i _ F (bD hi) hF⟩
 have hnew:∀(i:Nat) F,Gs[i]? =some F→∃R,L'[i]? =some R∧R.at_ W' F∧∀b∈F,W.heap.size≤b:=fun i F hF=>by
  have hi:i<L'.length:=by rw[←kl];exact(aW.1 hF).1
  exact⟨_,bD hi,ka i _ F (bD hi) hF⟩
 refine⟨h.below.trans (k.below.mono h.size),Fs++Gs,by simp[hl,kl],fun i R F hR hF=>?_,?_⟩
 ·rcases Nat.lt_or_ge i L.length with hi | hi
  ·rw[List.getElem?_append_left hi] at hR;rw[List.getElem?_append_left (by omega)] at hF;obtain⟨h1,h2⟩:=ha i R F hR hF;exact⟨R.keep W W' F h1 fun b hb=>k.below.block b (R.lt W F h1 b hb),h2⟩
  ·rw[List.getElem?_append_right hi] at hR;rw[List.getElem?_append_right (by omega),hl] at hF;obtain⟨h1,h2⟩:=ka _ R F hR hF;exact⟨h1,fun b hb=>Nat.le_trans h.size (h2 b hb)⟩
 ·rw[List.flatten_append,List.nodup_append];refine⟨hn,kn,fun a hA b hB e=>?_⟩;subst e;obtain⟨F,hF,hA⟩:=List.mem_flatten.1 hA;obtain⟨G,hG,hB⟩:=List.mem_flatten.1 hB;obtain⟨i,hi⟩:=List.mem_iff_getElem?.1 hF;obtain⟨j,hj⟩:=List.mem_iff_getElem?.1 hG;obtain⟨R,-,h1,-⟩:=hold i F hi;obtain⟨R',-,-,h2⟩:=hnew j G hj
  have:=R.lt W F h1 a hA
  have:=h2 a hB
  omega
theorem St.quiet (h:St w W L) (k:Below W.heap.size W W'):St w W' L:=by
 have:=h.call (L':=[]) ⟨k,[],rfl,by simp,by simp⟩
 simpa using this
theorem St.of_below (k:Below w.heap.size w W):St w W []:=(St.refl w).quiet k
theorem St.mod (h:St w W L) (i:Nat) {R R':dW} (hi:L[i]? =some R) (k:∀F,R.at_ W F→(∀b∈F,w.heap.size≤b)→∃F',R'.at_ W' F'∧(∀b∈F',b∈F∨W.heap.size≤b)∧Only F W W'):St w W' (L.set i R'):=by
 obtain⟨Fs,hl,ha,hn⟩:=h.has;have hiL:=(aW.1 hi).1;have hiF:Fs[i]? =some (Fs[i]'(by omega)):=bD _
 generalize Fs[i]'(by omega)=F at hiF
 obtain⟨h1,h2⟩:=ha i R F hi hiF;obtain⟨F',k1,k2,k3⟩:=k F h1 h2;have hw:=h.size
 have hat:∀(j:Nat) G,j≠i→Fs[j]? =some G→∃S,L[j]? =some S∧S.at_ W G∧(∀b∈G,w.heap.size≤b)∧(∀b∈G,b∉F)∧∀b∈G,b<W.heap.size:=fun j G hj hG=>by
  have hjl:j<L.length:=by rw[←hl];exact(aW.1 hG).1
  obtain⟨q1,q2⟩:=ha j _ G (bD hjl) hG;exact⟨_,bD hjl,q1,q2,qX hn hG hiF hj,dW.lt _ W G q1⟩
 refine⟨h.below.trans (k3.below h2 hw),Fs.set i F',by simp[hl],fun j S G hS hG=>?_,wF (fun j G hG=>?_) (fun j l G H hne hG hH=>?_)⟩
 ·by_cases hj:j=i
  ·subst hj;rw[List.getElem?_set_self (by omega)] at hS hG
   injection hS with hS
   injection hG with hG
   subst hS hG;exact⟨k1,fun b hb=>(k2 b hb).elim (h2 b) (fun hx=>by omega)⟩
  ·rw[List.getElem?_set_ne (by omega)] at hS hG;obtain⟨S',e,q1,q2,q3,q4⟩:=hat j G hj hG;rw[hS] at e
   injection e with e
   subst e;exact⟨S.keep W W' G q1 fun b hb=>k3.block b (q4 b hb) (q3 b hb),q2⟩
 ·by_cases hj:j=i
  ·subst hj;rw[List.getElem?_set_self (by omega)] at hG
   injection hG with hG
   subst hG;exact R'.nd W' _ k1
  ·rw[List.getElem?_set_ne (by omega)] at hG;obtain⟨S',e,q1,-⟩:=hat j G hj hG;exact S'.nd W _ q1
 ·have key:∀(j:Nat) G,j≠i→(Fs.set i F')[j]? =some G→∀b∈G,b∉F':=fun j G hj hG b hb hf=>by
   rw[List.getElem?_set_ne (by omega)] at hG;obtain⟨S',e,q1,q2,q3,q4⟩:=hat j G hj hG
   rcases k2 b hf with hx | hx
   ·exact q3 b hb hx
   ·have:=q4 b hb;omega
  have hself:∀G,(Fs.set i F')[i]? =some G→G=F':=fun G hG=>by
   rw[List.getElem?_set_self (by omega)] at hG
   injection hG with hG;exact hG.symm
  by_cases hj:j=i
  ·subst hj
   have:=hself G hG
   subst this;intro b hb hb';exact key l H (by omega) hH b hb' hb
  ·by_cases hl':l=i
   ·subst hl'
    have:=hself H hH
    subst this;exact key j G hj hG
   ·rw[List.getElem?_set_ne (by omega)] at hG hH;exact qX hn hG hH hne
theorem St.pick (h:St w W L) (ix:List Nat) (hn:ix.Nodup) (hl':(ix.all fun i=>decide (i<L.length))=true) {L':List dW} (e:ix.filterMap (fun i=>L[i]?)=L'):St w W L':=by
 have hl:∀i∈ix,i<L.length:=by simpa using hl'
 subst e;obtain⟨Fs,kl,ha,hnd⟩:=h.has
 have hmap:∀(T:Type) (l:List T) (hh:l.length=L.length),ix.filterMap (fun i=>l[i]?)=ix.attach.map (fun i=>l[i.1]'(by have:=hl i.1 i.2;omega)):=fun T l hh=>by
  conv=>lhs;rw[←List.attach_map_subtype_val ix]
  rw[List.filterMap_map];rw[←List.filterMap_eq_map]
  congr 1
  funext i
  simp only[Function.comp];exact bD (by have:=hl i.1 i.2;omega)
 have hL:=hmap _ L rfl;have hF:=hmap _ Fs kl
 have hsrc:∀(T:Type) (l:List T),l.length=L.length→∀(i:Nat) R,(ix.filterMap (fun i=>l[i]?))[i]? =some R→∃j,ix[i]? =some j∧l[j]? =some R:=fun T l hh i R hR=>by
  rw[hmap T l hh,List.getElem?_map] at hR;obtain⟨j,hj,hR⟩:=Option.map_eq_some_iff.1 hR
  have hj':ix[i]? =some j.1:=by
   have:=congrArg (Option.map Subtype.val) hj
   rw[←List.getElem?_map,List.attach_map_subtype_val] at this;exact this
  exact⟨j.1,hj',by rw[←hR];exact bD _⟩
 refine⟨h.below,ix.filterMap (fun i=>Fs[i]?),by rw[hL,hF];simp,fun i R F hR hF=>?_,wF (fun i F hF=>?_) (fun i j F G hne hF hG=>?_)⟩
 ·obtain⟨j,q1,q2⟩:=hsrc _ L rfl i R hR;obtain⟨j',q3,q4⟩:=hsrc _ Fs kl i F hF;rw[q1] at q3
  injection q3 with q3
  subst q3;exact ha j R F q2 q4
 ·obtain⟨j',q3,q4⟩:=hsrc _ Fs kl i F hF;have hj:j'<L.length:=by rw[←kl];exact(aW.1 q4).1
  exact dW.nd _ W F (ha j' _ F (bD hj) q4).1
 ·obtain⟨j1,q3,q4⟩:=hsrc _ Fs kl i F hF;obtain⟨j2,q5,q6⟩:=hsrc _ Fs kl j G hG;refine qX hnd q4 q6 fun e=>hne ?_
  subst e;obtain⟨a1,a2⟩:=aW.1 q3;obtain⟨b1,b2⟩:=aW.1 q5;exact(List.getElem_inj (hn)).1 (a2.trans b2.symm)
theorem St.join {BM Jz:dW} (h:St w W (BM::Jz::L)) {R:dW} (k:∀F G,BM.at_ W F→Jz.at_ W G→(F++G).Nodup→(∀b∈F++G,w.heap.size≤b)→R.at_ W (F++G)):St w W (R::L):=by
 obtain⟨Fs,kl,ha,hnd⟩:=h.has
 match Fs,kl,ha,hnd with
 |F::G::Fs,kl,ha,hnd=>
  obtain⟨a1,a2⟩:=ha 0 _ F rfl rfl;obtain⟨b1,b2⟩:=ha 1 _ G rfl rfl;have hnd':((F++G)++Fs.flatten).Nodup:=by simpa using hnd
  have hlo:∀b∈F++G,w.heap.size≤b:=fun b hb=>(List.mem_append.1 hb).elim (a2 b) (b2 b)
  refine⟨h.below,(F++G)::Fs,by simpa using kl,fun i R' F' hR hF=>?_,by simpa using hnd⟩
  match i with
  |0=>
   injection hR with hR
   injection hF with hF
   subst hR hF;exact⟨k F G a1 b1 (List.nodup_append.1 hnd').1 hlo,hlo⟩
  |i+1=>exact ha (i+2) R' F' hR hF
theorem St.see {BM:dW} (h:St w W (BM::L)) {R:dW} (k:∀F,BM.at_ W F→(∀b∈F,w.heap.size≤b)→R.at_ W F):St w W (R::L):=by
 obtain⟨Fs,kl,ha,hnd⟩:=h.has;refine⟨h.below,Fs,by simpa using kl,fun i R' F' hR hF=>?_,hnd⟩
 match i with
 |0=>
  injection hR with hR
  subst hR;obtain⟨a1,a2⟩:=ha 0 _ F' rfl hF;exact⟨k F' a1 a2,a2⟩
 |i+1=>exact ha (i+1) R' F' hR hF
end
def ah (g:Nat) (t:TypeId) (cs:Array Value):dW where
 at_ w F:=iJ w g t cs∧F=[g]
 keep w w' F h hk:=⟨(hk g (by rw[h.2];simp)).trans h.1,h.2⟩
 lt w F h b hb:=by obtain⟨h1,rfl⟩:=h;simp at hb;subst hb;exact h1.lt
 nd w F h:=by obtain⟨h1,rfl⟩:=h;simp
def rRow (e:TypeId) (size:Nat) (v:Value) (n:Nat) (cells:List Value):dW where
 at_ w F:=w.ownsRow 0 e size v n cells∧F=v.ownBlock.toList
 keep w w' F h hk:=⟨kC h.1 fun b hb=>hk b (by rw[h.2,hb];simp),h.2⟩
 lt w F h b hb:=by obtain⟨h1,rfl⟩:=h;exact(h1.lt b (by simpa using hb)).2
 nd w F h:=by obtain⟨h1,rfl⟩:=h;cases v.ownBlock<;>simp
def aA (v:Value) (xs:List Int):dW where
 at_ w F:=jP w 0 v xs F
 keep w w' F h hk:=h.keep hk
 lt w F h b hb:=(h.lt b hb).2
 nd w F h:=h.nodup
def lW (v:Value) (ds:List aj):dW where
 at_ w F:=∃cells Fs,iH w 0 v ds F cells Fs∧F.Nodup
 keep w w' F h hk:=by obtain⟨c,Fs,h1,h2⟩:=h;exact⟨c,Fs,h1.keep hk,h2⟩
 lt w F h b hb:=by obtain⟨c,Fs,h1,h2⟩:=h;exact(h1.lt b hb).2
 nd w F h:=by obtain⟨c,Fs,h1,h2⟩:=h;exact h2
def oI (v:Value) (t:aB):dW where
 at_ w F:=mY w 0 v t F∧F.Nodup
 keep w w' F h hk:=⟨h.1.keep hk,h.2⟩
 lt w F h b hb:=(h.1.lt b hb).2
 nd w F h:=h.2
def afc (Rs:List dW):dW where
 at_ w F:=∃Fs:List (List Nat),Fs.length=Rs.length∧(∀(i:Nat) R G,Rs[i]? =some R→Fs[i]? =some G→R.at_ w G)∧Fs.flatten.Nodup∧F=Fs.flatten
 keep w w' F h hk:=by
  obtain⟨Fs,h1,h2,h3,rfl⟩:=h;exact⟨Fs,h1,fun i R G hR hG=>R.keep w w' G (h2 i R G hR hG) fun b hb=>hk b (lV hG hb),h3,rfl⟩
 lt w F h b hb:=by
  obtain⟨Fs,h1,h2,h3,rfl⟩:=h;obtain⟨G,hG,hb⟩:=List.mem_flatten.1 hb;obtain⟨i,hi⟩:=List.mem_iff_getElem?.1 hG;have hl:i<Rs.length:=by rw[←h1];exact(aW.1 hi).1
  exact dW.lt _ w G (h2 i _ G (bD hl) hi) b hb
 nd w F h:=by obtain⟨Fs,h1,h2,h3,rfl⟩:=h;exact h3
theorem yV {w:World} {lo base:Nat} {e:TypeId} {size n:Nat} {v:Value} {xs:List Value} (h:w.ownsRow base e size v n xs) (hb:∀b,v.ownBlock=some b→lo≤b):w.ownsRow lo e size v n xs:=by
 refine⟨h.1,?_⟩
 rcases h.2 with h | ⟨g,cap,cur,rfl,hg,r⟩
 ·exact .inl h
 ·exact .inr ⟨g,cap,cur,rfl,hb g rfl,r⟩
section
variable {w W W' : World} {L L' : List dW}
theorem St.alloc (h:St w W L) (cs:Array Value) (t:TypeId):St w (W.alloc (.cells cs t)) (L++[ah W.heap.size t cs]):=
 h.call ⟨(ai _ _).alloc (ay _) _,[[W.heap.size]],rfl,fun i R F hR hF=>by
  match i with
  |0=>
   injection hR with hR;injection hF with hF;subst hR hF
   exact⟨⟨iJ.new W t cs,rfl⟩,by simp⟩
  |i+1=>simp at hR,by simp⟩
theorem St.set (h:St w W L) (i:Nat) {g:Nat} {t:TypeId} {cs:Array Value} (hi:L[i]? =some (ah g t cs)) (j:Nat) (u:Value):St w (W.setCell ⟨g,j,none⟩ u) (L.set i (ah g t (cs.setIfInBounds j u))):=
 h.mod i hi fun F ⟨h1,h2⟩ _=>⟨F,⟨h1.nT j u,h2⟩,fun b hb=>.inl hb,(Only.refl F W).set (by rw[h2];simp) u⟩
theorem St.blk (h:St w W L) (i:Nat) {g:Nat} {t:TypeId} {cs:Array Value} (hi:L[i]? =some (ah g t cs)):iJ W g t cs:=by
 obtain⟨F,h1,-⟩:=h.get i hi;exact h1.1
theorem St.cells (h:St w W L) (i:Nat) {g:Nat} {t:TypeId} {cs:Array Value} (hi:L[i]? =some (ah g t cs)):∀j,W.cell? ⟨g,j,none⟩=cs[j]? :=(h.blk i hi).cell
theorem St.free (h:St w W L) (i:Nat) {g:Nat} {t:TypeId} {cs:Array Value} (hi:L[i]? =some (ah g t cs)):∀j,W.frozen? ⟨g,j,none⟩=false:=(h.blk i hi).frozen
theorem St.row (h:St w W L) (i:Nat) {e:TypeId} {size n:Nat} {v:Value} {cells:List Value} (hi:L[i]? =some (rRow e size v n cells)):W.ownsRow w.heap.size e size v n cells:=by
 obtain⟨F,h1,h2⟩:=h.get i hi;exact yV h1.1 fun b hb=>h2 b (by rw[h1.2,hb];simp)
theorem St.new (h:St w W L) (i:Nat) {g:Nat} {t:TypeId} {cs:Array Value} (hi:L[i]? =some (ah g t cs)):w.heap.size≤g∧g<W.heap.size:=by
 obtain⟨F,h1,h2⟩:=h.get i hi;exact⟨h2 g (by rw[h1.2];simp),h1.1.lt⟩
theorem St.app (h:St w W L) (i:Nat) {e:TypeId} {size n m:Nat} {v v':Value} {cells cells':List Value} (hi:L[i]? =some (rRow e size v n cells))
  (hown:W'.ownsRow w.heap.size e size v' m cells') (hg:W.grownBy W' v.ownBlock) (hat:v'.ownBlock=v.ownBlock∨v'.ownBlock=some W.heap.size):St w W' (L.set i (rRow e size v' m cells')):=
 h.mod i hi fun F ⟨h1,h2⟩ _=>⟨v'.ownBlock.toList,⟨qG hown (Nat.zero_le _),rfl⟩,fun b hb=>by
  rcases hat with e | e
  ·left;rw[h2,←e];exact hb
  ·right;rw[e] at hb;simp at hb;omega,by rw[h2];exact Only.nN hg⟩
theorem St.ints (h:St w W L) (i:Nat) {v:Value} {xs:List Int} (hi:L[i]? =some (aA v xs)):∃F,jP W w.heap.size v xs F:=by
 obtain⟨F,h1,h2⟩:=h.get i hi;exact⟨F,yV h1.row fun b hb=>h2 b (by rw[h1.foot,hb];simp),h1.wf,h1.foot⟩
theorem St.xq (h:St w W L) (i:Nat) {v:Value} {xs:List Int} (hi:L[i]? =some (aA v xs)):∃A c,v= .slice A xs.length c∧iO .i64 W W.heap.size A xs.length c xs:=by
 obtain⟨F,h1⟩:=h.ints i hi;exact h1.rd
theorem St.aaK (h:St w W L) (i:Nat) {v:Value} {ds:List aj} (hi:L[i]? =some (lW v ds)):∃A c,v= .slice A ds.length c∧MQ W W.heap.size A ds.length c ds:=by
 obtain⟨F,⟨cells,Fs,h1,-⟩,-⟩:=h.get i hi;exact h1.rd
end
theorem St.xB {w W:World} {v:Value} {xs:List Int} {F:List Nat} (h:jP W w.heap.size v xs F) (hb:Below w.heap.size w W):St w W [aA v xs]:=
 ⟨hb,[F],rfl,fun i R G hR hG=>by
  match i with
  |0=>
   injection hR with hR;injection hG with hG;subst hR hG
   exact⟨h.mono (Nat.zero_le _),fun b hb=>(h.lt b hb).1⟩
  |i+1=>simp at hR,by simpa using h.nodup⟩
theorem St.OY {w W:World} {v:Value} {t:aB} {F:List Nat} (h:mY W w.heap.size v t F) (hn:F.Nodup) (hb:Below w.heap.size w W):St w W [oI v t]:=
 ⟨hb,[F],rfl,fun i R G hR hG=>by
  match i with
  |0=>
   injection hR with hR;injection hG with hG;subst hR hG
   exact⟨⟨h.mono (Nat.zero_le _),hn⟩,fun b hb=>(h.lt b hb).1⟩
  |i+1=>simp at hR,by simpa using hn⟩
def opt:Option Nat→Int
 |some s=>s
 |none=>-1
theorem oP {o:Option Nat}:0≤opt o↔∃s,o=some s:=by cases o<;>simp[opt]
def behind (d:aj) (s:Nat):Nat:=((s ||| d.on.toNat)-((s ||| d.on.toNat) &&& d.off.toNat))^^^d.flip.toNat
def aX (d:aj) (s:Nat):Option Nat:=if aH d.need s then some (behind d s) else none
def lK (t:aB) (s:Nat) (k:Int):Option Nat:=if 0≤k∧k<t.ax.length then(t.ax[k.toNat]?).bind (aX · s) else none
def kT (t:aB):Nat→List Int→Option Nat
 |s,[]=>some s
 |s,k::ks=>(lK t s k).bind fun s'=>kT t s' ks
def aF (t:aB) (s:Int) (p:List Int):Int:=if aK t=true∧ig s=true∧p.length≤40 then opt (kT t s.toNat p) else -1
theorem qh (t:aB) (s:Nat) (p q:List Int):kT t s (p++q)=(kT t s p).bind fun s'=>kT t s' q:=by
 induction p generalizing s with
 |nil=>rfl
 |cons k p ih=>
  simp only[List.cons_append,kT]
  cases lK t s k with
  |none=>rfl
  |some s'=>simp[ih]
theorem yZ (t:aB) (s:Nat) (p:List Int) (k:Nat) (x:Int) (hx:p[k]? =some x) (s':Nat) (h:kT t s (p.take k)=some s'):kT t s (p.take (k+1))=lK t s' x:=by
 obtain⟨h1,h2⟩:=aW.1 hx;rw[List.take_succ_eq_append_getElem h1,h2,qh,h];simp only[Option.bind_some,kT]
 cases lK t s' x<;>rfl
theorem JM (t:aB) (s:Nat) (p:List Int) (k:Nat) (x:Int) (hx:p[k]? =some x) (s':Nat) (h:kT t s (p.take k)=some s') (hs:lK t s' x=none):kT t s p=none:=by
 obtain⟨h1,h2⟩:=aW.1 hx
 conv=>lhs;rw[←List.take_append_drop k p]
 rw[qh,h,List.drop_eq_getElem_cons h1,h2]
 simp[kT,hs]
theorem Hy {a b:Nat} (h:a<32) (h':b<32):a ||| b<32:=Nat.or_lt_two_pow (n:=5) h h'
theorem kG (d:aj) (h:bJ d=true):codeOk d.need=true∧(0≤d.on∧d.on<32)∧(0≤d.off∧d.off<32)∧(0≤d.flip∧d.flip<32)∧d.on.toNat &&& d.off.toNat=0∧d.on.toNat &&& d.flip.toNat=0∧d.off.toNat &&& d.flip.toNat=0:=by
 unfold bJ Hr at h
 simp only[Bool.and_eq_true,decide_eq_true_eq] at h;obtain⟨⟨⟨⟨h1,h2⟩,h3⟩,h4⟩,⟨h5,h6⟩,h7⟩:=h;exact⟨h1,(aU _).1 h2,(aU _).1 h3,(aU _).1 h4,h5,h6,h7⟩
theorem aJ (t:aB) (h:aK t=true):(0≤t.start∧t.start<32)∧codeOk t.goal=true∧t.ax.length≤6∧∀d∈t.ax,bJ d=true:=by
 unfold aK at h
 simp only[Bool.and_eq_true,decide_eq_true_eq,List.all_eq_true] at h;exact⟨(aU _).1 h.1.1.1,h.1.1.2,h.1.2,h.2⟩
theorem y5 (d:aj) (s:Nat) (h:bJ d=true) (hs:s<32):behind d s<32:=by
 obtain⟨-,h1,h2,h3,-⟩:=kG d h;exact aaO _ _ (Nat.lt_of_le_of_lt (Nat.sub_le _ _) (Hy hs (by omega))) (by omega)
theorem gu (d:aj) (s s':Nat) (h:bJ d=true) (hs:s<32) (e:aX d s=some s'):s'<32:=by
 unfold aX at e
 split at e
 ·injection e with e;subst e;exact y5 d s h hs
 ·cases e
theorem TP (t:aB) (s:Nat) (k:Int) (s':Nat) (h:aK t=true) (hs:s<32) (e:lK t s k=some s'):s'<32:=by
 unfold lK at e
 split at e
 ·obtain⟨d,hd,e⟩:=Option.bind_eq_some_iff.1 e;exact gu d s s' ((aJ t h).2.2.2 d (bU hd)) hs e
 ·cases e
theorem Bv (t:aB) (s:Nat) (p:List Int) (s':Nat) (h:aK t=true) (hs:s<32) (e:kT t s p=some s'):s'<32:=by
 induction p generalizing s with
 |nil=>simp only[kT,Option.some.injEq] at e;omega
 |cons k p ih=>
  simp only[kT] at e;obtain⟨s1,h1,e⟩:=Option.bind_eq_some_iff.1 e;exact ih s1 (TP t s k s1 h hs h1) e
theorem JO (d:aj) (s:Nat) (hs:s<32) (h:bJ d=true):
  bits .xor .i64 (bits .andNot .i64 (bits .or .i64 (s:Int) d.on) d.off) d.flip=(behind d s:Nat):=by
 obtain⟨-,h1,h2,h3,-⟩:=kG d h;have e1:=toNat_cast h1.1;have e2:=toNat_cast h2.1;have e3:=toNat_cast h3.1;have ho:s ||| d.on.toNat<32:=Hy hs (by omega)
 rw[←e1,←e2,←e3,qZ _ _ (by omega) (by omega),tY _ _ (by omega) (by omega),JG _ _ (by omega) (by omega)]
 simp[behind]
theorem JQ (d:aj) (s:Nat) (h:bJ d=true):behind d s=((s ||| d.on.toNat)-(s &&& d.off.toNat))^^^d.flip.toNat:=by
 obtain⟨-,h1,h2,h3,h4,-⟩:=kG d h
 unfold behind
 rw[Nat.and_or_distrib_right,h4,Nat.or_zero]
def aN (p:Nat→Bool):Nat→Nat
 |0=>0
 |n+1=>2^n*(p n).toNat+aN p n
theorem O4 (p:Nat→Bool) (n:Nat):aN p n<2^n:=by
 induction n with
 |zero=>simp[aN]
 |succ n ih=>simp only[aN,Nat.pow_succ];cases p n<;>simp<;>omega
theorem dY (p:Nat→Bool) (n k:Nat):(aN p n).testBit k=(decide (k<n)&&p k):=by
 induction n with
 |zero=>simp[aN]
 |succ n ih=>
  simp only[aN];rw[Nat.testBit_two_pow_mul_add _ (O4 p n)]
  by_cases h:k<n
  ·rw[if_pos h,ih];simp[h,show k<n+1 by omega]
  ·rw[if_neg h]
   by_cases e:k=n
   ·subst e;cases p k<;>simp
   ·rw[show decide (k<n+1)=false from decide_eq_false (by omega)];obtain⟨j,hj⟩:∃j,k-n=j+1:=⟨k-n-1,by omega⟩;rw[hj]
    cases p n<;>simp[Nat.testBit_succ]
theorem zW (a j:Nat):a.testBit j=(bit a j == 1):=by
 unfold bit;rw[Nat.testBit_eq_decide_div_mod_eq];rfl
theorem jg (p:Nat→Bool) {n k:Nat} (h:k<n):(bit (aN p n) k == 1)=p k:=by rw[←zW,dY];simp[h]
theorem bY {p q:Nat→Bool} {n:Nat} (h:∀k,k<n→p k=q k):aN p n=aN q n:=by
 refine Nat.eq_of_testBit_eq fun k=>?_
 rw[dY,dY]
 by_cases hk:k<n
 ·rw[h k hk]
 ·simp[hk]
theorem JL {p q:Nat→Bool} {n:Nat} (h:aN p n=aN q n):∀k,k<n→p k=q k:=fun k hk=>by
 rw[←jg p hk,←jg q hk,h]
theorem Hu {a n k:Nat} (h:a<2^n) (hk:¬k<n):a.testBit k=false:=Nat.testBit_lt_two_pow (Nat.lt_of_lt_of_le h (Nat.pow_le_pow_right (by omega) (by omega)))
theorem FH (a n:Nat) (h:a<2^n):aN (fun k=>bit a k == 1) n=a:=by
 refine Nat.eq_of_testBit_eq fun k=>?_
 rw[dY,←zW]
 by_cases hk:k<n
 ·simp[hk]
 ·rw[Hu h hk];simp
theorem qg (p:Nat→Bool) (n k:Nat) (hk:k<n):aN p n ||| 2^k=aN (fun j=>p j||decide (k=j)) n:=by
 refine Nat.eq_of_testBit_eq fun j=>?_
 rw[Nat.testBit_or,dY,dY,Nat.testBit_two_pow]
 by_cases e:k=j
 ·subst e;simp[hk]
 ·simp[e]
theorem Bq (p q:Nat→Bool) (n:Nat):aN p n ||| aN q n=aN (fun j=>p j||q j) n:=by
 refine Nat.eq_of_testBit_eq fun j=>?_
 rw[Nat.testBit_or,dY,dY,dY,Bool.and_or_distrib_left]
theorem Cc (p q:Nat→Bool) (n:Nat):aN p n &&& aN q n=aN (fun j=>p j&&q j) n:=by
 refine Nat.eq_of_testBit_eq fun j=>?_
 rw[Nat.testBit_and,dY,dY,dY]
 cases decide (j<n)<;>simp
theorem Qq (p q:Nat→Bool) (n:Nat):aN p n-(aN p n &&& aN q n)=aN (fun j=>p j&& !q j) n:=by
 rw[Cc]
 have h1:∀m,aN (fun j=>p j&&q j) m+aN (fun j=>p j&& !q j) m=aN p m:=fun m=>by
  induction m with
  |zero=>rfl
  |succ m ihm=>simp only[aN];rw[←ihm];cases p m<;>cases q m<;>simp<;>omega
 have:=h1 n
 omega
theorem kF {p:Nat→Bool} {n:Nat}:aN p n=0↔∀k,k<n→p k=false:=by
 constructor
 ·intro h k hk
  have:=dY p n k
  rw[h] at this
  simpa[hk] using this.symm
 ·intro h;refine Nat.eq_of_testBit_eq fun j=>?_
  rw[dY]
  by_cases hj:j<n
  ·rw[h j hj];simp
  ·simp[hj]
def upto (p:Nat→Bool) (m:Nat):Nat→Bool:=fun k=>decide (k<m)&&p k
theorem ru (p:Nat→Bool) (n:Nat):aN (upto p 0) n=0:=kF.2 fun k _=>by simp[upto]
theorem wJ (p:Nat→Bool) (n:Nat):aN (upto p n) n=aN p n:=bY fun k hk=>by simp[upto,hk]
theorem ED (p:Nat→Bool) (n m:Nat) (hm:m<n) (h:p m=true):aN (upto p (m+1)) n=aN (upto p m) n ||| 2^m:=by
 rw[qg _ _ _ hm];refine bY fun k hk=>?_
 unfold upto
 by_cases e:m=k
 ·subst e;simp[h]
 ·simp[e,show(k<m+1)↔(k<m) by omega]
theorem Hw (p:Nat→Bool) (n m:Nat) (h:p m=false):aN (upto p (m+1)) n=aN (upto p m) n:=by
 refine bY fun k hk=>?_
 unfold upto
 by_cases e:k=m
 ·subst e;simp[h]
 ·simp[show(k<m+1)↔(k<m) by omega]
theorem EF (p:Nat→Bool) (n m:Nat) (hm:m≤n):aN (upto p m) n<2^m:=by
 refine Nat.lt_pow_two_of_testBit _ fun j hj=>?_
 rw[dY]
 unfold upto
 simp[show¬j<m by omega]
theorem vU (p:Nat→Bool) (n m:Nat) (hm:m<n) (h:p m=true):aN (upto p (m+1)) n=aN (upto p m) n+2^m:=by
 rw[ED p n m hm h]
 have:=Nat.two_pow_add_eq_or_of_lt (EF p n m (by omega)) 1
 rw[Nat.or_comm,Nat.add_comm]
 simpa using this.symm
end Go.Proofs.YtkmcengmglgdeaaGreatDoor
