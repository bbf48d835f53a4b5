/- A part of the proof: Reg. -/
import Derived.Test.YtkmcengmglgdeaaGreatDoorSApp
import Derived.Deep.RegionHeld3
namespace Go.Proofs.YtkmcengmglgdeaaGreatDoor
set_option linter.unusedVariables false
set_option linter.unusedSimpArgs false
set_option maxRecDepth 100000
set_option maxHeartbeats 8000000
open Go.ChangeShapes Go.WideShapes Go.ChangeAt Go.RowKit
def iT (ops:Array Oper) (i:Nat):Option Tmp:=(ops[i]?).bind (·.dst)
def lT (ops:Array Oper) (val:Nat→Value) (D:Nat→Bool) (a:Act):Nat→Act
 |0=>a
 |n+1=>if D n then(lT ops val D a n).put (iT ops n) (val n) else lT ops val D a n
def upd (D:Nat→Bool) (i:Nat):Nat→Bool:=fun j=>if j=i then true else D j
theorem Dp (D:Nat→Bool) (i:Nat):upd D i i=true:=if_pos rfl
theorem upd_ne (D:Nat→Bool) {i j:Nat} (h:j≠i):upd D i j=D j:=if_neg h
def Gq (ops:Array Oper):Bool:=
 (List.range ops.size).all (fun i=>(List.range ops.size).all fun j=>i == j||(match iT ops i with | some d=>iT ops j != some d | none=>true))
theorem ZL (ops:Array Oper) {val val':Nat→Value} {D D':Nat→Bool} (a:Act) (n:Nat) (h:∀j,j<n→D j=D' j∧(D j=true→val j=val' j)):lT ops val D a n=lT ops val' D' a n:=by
 induction n with
 |zero=>rfl
 |succ n ih=>
  have h1:=ih fun j hj=>h j (by omega)
  obtain⟨h2,h3⟩:=h n (by omega);simp only[lT];rw[h1,←h2]
  by_cases hD:D n=true
  ·rw[if_pos hD,if_pos hD,h3 hD]
  ·rw[if_neg hD,if_neg hD]
theorem Un (ops:Array Oper) (hok:∀i j,i<ops.size→j<ops.size→i≠j→∀d,iT ops i=some d→iT ops j≠some d) {val val':Nat→Value} {D:Nat→Bool} (a:Act) (i:Nat) (hi:i<ops.size) (hD:D i=false) (hv:∀j,D j=true→val' j=val j):
  ∀n,n≤ops.size→lT ops val' (upd D i) a n=if i<n then(lT ops val D a n).put (iT ops i) (val' i) else lT ops val D a n:=by
 intro n
 induction n with
 |zero=>intro _;rw[if_neg (by omega)];rfl
 |succ n ih=>
  intro hn;have h1:=ih (by omega);simp only[lT]
  by_cases e:n=i
  ·subst e;rw[Dp,if_pos rfl,if_pos (by omega),h1,if_neg (by omega),hD]
   simp
  ·rw[upd_ne _ e,h1]
   by_cases hin:i<n
   ·rw[if_pos hin,if_pos (show i<n+1 by omega)]
    by_cases hDn:D n=true
    ·rw[if_pos hDn,if_pos hDn,hv n hDn];exact Act.put_comm _ _ _ fun d hd=>hok i n hi (by omega) (by omega) d hd
    ·rw[if_neg hDn,if_neg hDn]
   ·rw[if_neg hin,if_neg (show¬i<n+1 by omega)]
    by_cases hDn:D n=true
    ·rw[if_pos hDn,if_pos hDn,hv n hDn]
    ·rw[if_neg hDn,if_neg hDn]
theorem Uo (a:Act) (d:Option Tmp) (v:Value):(a.put d v).tmps.size=a.tmps.size:=by cases d<;>simp[Act.put]
theorem Gt (ops:Array Oper) (val:Nat→Value) (D:Nat→Bool) (a:Act) (n:Nat):(lT ops val D a n).tmps.size=a.tmps.size:=by
 induction n with
 |zero=>rfl
 |succ n ih=>simp only[lT];split<;>simp[Uo,ih]
theorem CJ (a:Act) (d:Option Tmp) (v:Value) (t:Nat):(a.put d v).tmps.getD t undef=if d=some t∧t<a.tmps.size then v else a.tmps.getD t undef:=by
 cases d with
 |none=>simp[Act.put]
 |some e=>
  simp only[Act.put,Option.some.injEq,Array.getD_eq_getD_getElem?]
  by_cases h:e=t
  ·subst h
   by_cases hs:e<a.tmps.size
   ·rw[if_pos ⟨rfl,hs⟩];simp[hs]
   ·rw[if_neg (by simp[hs])];simp[hs]
  ·rw[if_neg (by simp[h]),Array.getElem?_setIfInBounds_ne h]
theorem NY (ops:Array Oper) (val:Nat→Value) (D:Nat→Bool) (a:Act) (t:Nat) (n:Nat) (h:∀j,j<n→iT ops j≠some t):(lT ops val D a n).tmps.getD t undef=a.tmps.getD t undef:=by
 induction n with
 |zero=>rfl
 |succ n ih=>
  simp only[lT]
  split
  ·rw[CJ,if_neg (by have:=h n (by omega);simp[this]),ih fun j hj=>h j (by omega)]
  ·exact ih fun j hj=>h j (by omega)
theorem WO (ops:Array Oper) (hok:∀i j,i<ops.size→j<ops.size→i≠j→∀d,iT ops i=some d→iT ops j≠some d) (val:Nat→Value) (D:Nat→Bool) (a:Act) (j t:Nat) (hj:iT ops j=some t) (hD:D j=true) (ht:t<a.tmps.size):
  ∀n,n≤ops.size→j<n→(lT ops val D a n).tmps.getD t undef=val j:=by
 intro n
 induction n with
 |zero=>intro _ h;omega
 |succ n ih=>
  intro hn hjn;simp only[lT]
  by_cases e:n=j
  ·subst e;rw[if_pos hD,CJ,if_pos ⟨hj,by rw[Gt];exact ht⟩]
  ·have:=ih (by omega) (by omega)
   split
   ·rw[CJ,if_neg (by have:=hok j n (by omega) (by omega) (by omega) t hj;simp[this]),this]
   ·exact this
theorem Ur (ops:Array Oper) (hok:∀i j,i<ops.size→j<ops.size→i≠j→∀d,iT ops i=some d→iT ops j≠some d) (val:Nat→Value) (D:Nat→Bool) (a:Act) (j t:Nat) (hj:iT ops j=some t) (hD:D j=false) (hjs:j<ops.size):
  ∀n,n≤ops.size→(lT ops val D a n).tmps.getD t undef=a.tmps.getD t undef:=by
 intro n
 induction n with
 |zero=>intro _;rfl
 |succ n ih=>
  intro hn
  have:=ih (by omega)
  simp only[lT]
  by_cases e:n=j
  ·subst e;rw[hD];simpa using this
  ·split
   ·rw[CJ,if_neg (by have:=hok j n hjs (by omega) (by omega) t hj;simp[this]),this]
   ·exact this
theorem NZ {ops:Array Oper} (h:Gq ops=true):∀i j,i<ops.size→j<ops.size→i≠j→∀d,iT ops i=some d→iT ops j≠some d:=by
 unfold Gq at h
 simp only[List.all_eq_true,List.mem_range,Bool.or_eq_true,beq_iff_eq] at h;intro i j hi hj hne d hd
 rcases h i hi j hj with e | e
 ·exact absurd e hne
 ·rw[hd] at e;simpa using e
def Shut (ops:Array Oper) (D:Nat→Bool):Prop:=∀(j:Nat) (o:Oper),ops[j]? =some o→D j=true→∀e∈o.after,Region.binds .any e=true→D e.on=true
theorem Shut.no {ops:Array Oper} {D:Nat→Bool} (h:Shut ops D) {i:Nat} (hi:D i=false) (j:Nat) {o:Oper} (ho:ops[j]? =some o) (e:Edge) (he:e∈o.after) (hb:Region.binds .any e=true) (hon:e.on=i):D j=false:=by
 cases hj:D j with
 |false=>rfl
 |true=>
  have:=h j o ho hj e he hb
  rw[hon,hi] at this
  cases this
def Seen (ops:Array Oper) (val:Nat→Value) (D:Nat→Bool) (a a':Act):Prop:=
 (∀j t,iT ops j=some t→D j=true→t<a.tmps.size→j<ops.size→a'.tmps.getD t undef=val j)∧(∀t,(∀j,j<ops.size→iT ops j≠some t)→a'.tmps.getD t undef=a.tmps.getD t undef)∧a'.tmps.size=a.tmps.size∧∀j t,iT ops j=some t→D j=false→j<ops.size→a'.tmps.getD t undef=a.tmps.getD t undef
theorem Ri {P:Program} {ops:Array Oper} {Q:Exit→Act→World→Prop} {σ:Type} (hok:Gq ops=true) (val:σ→Nat→Value) (R:(Nat→Bool)→σ→World→Prop) (a:Act)
  (step:∀(i:Nat) (o:Oper),ops[i]? =some o→∀(D:Nat→Bool) (s:σ) (w:World),R D s w→D i=false→(∀e∈o.after,Region.binds .any e=true→D e.on=true)→Shut ops D→∀a',Seen ops (val s) D a a'→
   ∀K:Act→World→Prop,(∀s' w',(∀j,D j=true→val s' j=val s j)→R (upd D i) s' w'→K (a'.put o.dst (val s' i)) w')→if Region.wanted o (yielded ops a'.tmps)=true then o.wp P a' w K Q else K (a'.put o.dst undef) w)
  (fin:∀D s w,R D s w→(∀i,i<ops.size→D i=true)→Q .normal (lT ops (val s) D a ops.size) w)
  (abn:∀(i:Nat) (o:Oper),ops[i]? =some o→∀e∈o.after,Region.binds .any e=true→e.on<i):
  ∀(fuel:Nat) (listed:Array Bool) (s:σ) (w:World),listed.size=ops.size→listed.toList.count false≤fuel→Shut ops (fun i=>listed.getD i true)→R (fun i=>listed.getD i true) s w→
   wpAny P .any ops Q fuel listed (lT ops (val s) (fun i=>listed.getD i true) a ops.size) w:=by
 have hap:=NZ hok
 -- if none may come up,all have
 have hall:∀listed:Array Bool,listed.size=ops.size→Region.ready .any ops listed=[]→∀i,i<ops.size→listed.getD i true=true:=by
  intro listed hl hr i
  induction i using Nat.strongRecOn with
  |_ i ih=>
   intro hi
   cases h:listed.getD i true with
   |true=>rfl
   |false=>
    have:i∈Region.ready .any ops listed:=mem_ready.2 ⟨h,_,Array.getElem?_eq_getElem hi,fun e he hb=>by
     have hlt:=abn i _ (Array.getElem?_eq_getElem hi) e he hb
     have:=ih e.on hlt (by omega)
     have h2:e.on<listed.size:=by omega
     simpa[Array.getD_eq_getD_getElem?,h2] using this⟩
    rw[hr] at this;cases this
 intro fuel
 induction fuel with
 |zero=>
  intro listed s w hl hc hsh hR
  have hno:∀i,i<ops.size→listed.getD i true=true:=fun i hi=>by
   have hi':i<listed.size:=by omega
   have:listed[i]≠false:=fun e=>by
    have hm:false∈listed.toList:=by rw[←e];simp
    have:=List.count_pos_iff.2 hm
    omega
   simpa[Array.getD_eq_getD_getElem?,hi'] using this
  refine⟨?_,fin _ s w hR hno⟩;rw[List.eq_nil_iff_forall_not_mem];intro i hi;obtain⟨h1,o,h2,-⟩:=mem_ready.1 hi;rw[hno i (Array.getElem?_eq_some_iff.1 h2).1] at h1
  cases h1
 |succ fuel ih=>
  intro listed s w hl hc hsh hR;refine⟨fun hr=>fin _ s w hR (hall listed hl hr),fun i hi=>?_⟩;obtain⟨h1,o,h2,h3⟩:=mem_ready.1 hi;have hio:=(Array.getElem?_eq_some_iff.1 h2).1;have hil:i<listed.size:=by omega
  have hli:listed[i]=false:=by simpa[Array.getD_eq_getD_getElem?,hil] using h1
  have hD:∀e∈o.after,Region.binds .any e=true→listed.getD e.on true=true:=fun e he hb=>by
   have hlt:=abn i o h2 e he hb;have h4:=h3 e he hb;have h5:e.on<listed.size:=by omega
   simpa[Array.getD_eq_getD_getElem?,h5] using h4
  have key:∀K,(if Region.wanted o (yielded ops (lT ops (val s) (fun i=>listed.getD i true) a ops.size).tmps)=true then o.wp P (lT ops (val s) (fun i=>listed.getD i true) a ops.size) w K Q else K ((lT ops (val s) (fun i=>listed.getD i true) a ops.size).put o.dst undef) w)→wpOp P ops Q i K (lT ops (val s) (fun i=>listed.getD i true) a ops.size) w:=fun K h=>by
   unfold wpOp
   rw[h2]
   simp only
   split
   ·rename_i hw;rw[if_pos hw] at h;exact .inl h
   ·rename_i hw;rw[if_neg hw] at h;exact h
  refine key _ ?_;refine step i o h2 (fun i=>listed.getD i true) s w hR h1 hD hsh _ ⟨fun j t hj hDj ht hjs=>WO ops hap _ _ a j t hj hDj ht ops.size (aA _) hjs,fun t ht=>NY ops _ _ a t ops.size ht,Gt ops _ _ a _,fun j t hj hDj hjs=>Ur ops hap _ _ a j t hj hDj hjs ops.size (aA _)⟩ _ fun s' w' hv hR'=>?_
  have ZM:(fun j=>(listed.setIfInBounds i true).getD j true)=upd (fun j=>listed.getD j true) i:=by
   funext j
   unfold upd
   by_cases e:j=i
   ·subst e;rw[if_pos rfl];simp[hil]
   ·rw[if_neg e,getD_set_ne true (Ne.symm e)]
  have h6:=ih (listed.setIfInBounds i true) s' w' (by simpa using hl) (by
   have h7:(listed.setIfInBounds i true).toList=listed.toList.set i true:=by simp
   have h8:listed.toList=listed.toList.take i++false::listed.toList.drop (i+1):=by
    conv=>lhs;rw[←List.take_append_drop i listed.toList]
    rw[List.drop_eq_getElem_cons (by simpa using hil)]
    simp[hli]
   rw[h7];rw[h8] at hc ⊢
   rw[List.set_append_right _ _ (by simp;omega)];have h9:(listed.toList.take i).length=i:=by simp;omega
   rw[h9,Nat.sub_self,aU];simp only[List.count_append,List.count_cons] at hc ⊢
   simp at hc ⊢
   omega) (by
    rw[ZM];intro j oj hoj hj e he hb
    by_cases hji:j=i
    ·subst hji;rw[h2] at hoj
     injection hoj with hoj
     subst hoj
     have:=hD e he hb
     unfold upd
     split
     ·rfl
     ·exact this
    ·rw[upd_ne _ hji] at hj
     have:=hsh j oj hoj hj e he hb
     unfold upd
     split
     ·rfl
     ·exact this) (by rw[ZM];exact hR')
  rw[ZM,Un ops hap a i hio h1 hv ops.size (aA _),if_pos hio] at h6;have hd:iT ops i=o.dst:=by unfold iT;rw[h2];rfl
  rw[hd] at h6;exact h6
def Dq (ops:Array Oper):Bool:=ops.toList.zipIdx.all fun(o,i)=>o.after.all fun e=> !Region.binds .any e||decide (e.on<i)
theorem KI {ops:Array Oper} (h:Dq ops=true):∀(i:Nat) (o:Oper),ops[i]? =some o→∀e∈o.after,Region.binds .any e=true→e.on<i:=by
 intro i o ho e he hb
 unfold Dq at h
 rw[List.all_eq_true] at h
 have hm:(o,i)∈ops.toList.zipIdx:=by
  rw[List.mem_zipIdx_iff_getElem?]
  simpa using ho
 have:=h _ hm
 simp only[Array.all_eq_true_iff_forall_mem] at this
 have:=this e he
 simpa[hb] using this
theorem Fh {P:Program} {ops:Array Oper} {id:Nat} {Q:Exit→Act→World→Prop} {a:Act} {w:World} {σ:Type} (hm:P.follows .mixedOrders=true) (hok:Gq ops=true) (hac:Dq ops=true) (val:σ→Nat→Value) (R:(Nat→Bool)→σ→World→Prop) (s0:σ)
  (start:R (fun i=>decide (ops.size≤i)) s0 w.drew)
  (step:∀(i:Nat) (o:Oper),ops[i]? =some o→∀(D:Nat→Bool) (s:σ) (w:World),R D s w→D i=false→(∀e∈o.after,Region.binds .any e=true→D e.on=true)→Shut ops D→∀a',Seen ops (val s) D a a'→
   ∀K:Act→World→Prop,(∀s' w',(∀j,D j=true→val s' j=val s j)→R (upd D i) s' w'→K (a'.put o.dst (val s' i)) w')→if Region.wanted o (yielded ops a'.tmps)=true then o.wp P a' w K Q else K (a'.put o.dst undef) w)
  (fin:∀D s w,R D s w→(∀i,i<ops.size→D i=true)→Q .normal (lT ops (val s) D a ops.size) w):(Code.region id ops true).wp P Q a w:=by
 have hD:(fun i=>(Array.replicate ops.size false).getD i true)=fun i=>decide (ops.size≤i):=by
  funext i
  by_cases h:i<ops.size
  ·simp[Array.getD_eq_getD_getElem?,h]
  ·simp[Array.getD_eq_getD_getElem?,h];omega
 refine wp_region_any hm ?_
 have:=Ri (P:=P) (Q:=Q) hok val R a step fin (KI hac) ops.size (Array.replicate ops.size false) s0 w.drew (by simp) (by simp) (by rw[hD];intro j o ho hj;simp at hj;have:=(Array.getElem?_eq_some_iff.1 ho).1;omega) (by rw[hD];exact start)
 have h0:lT ops (val s0) (fun i=>(Array.replicate ops.size false).getD i true) a ops.size=a:=by
  rw[hD]
  have:∀n,n≤ops.size→lT ops (val s0) (fun i=>decide (ops.size≤i)) a n=a:=by
   intro n
   induction n with
   |zero=>intro _;rfl
   |succ n ih=>intro h;simp only[lT];rw[if_neg (by simp;omega),ih (by omega)]
  exact this _ (aA _)
 rw[h0] at this;exact this
structure Sn (w W:World) (M:Nat→Option dh):Prop where
 below:Below w.heap.size w W
 has:∃F:Nat→List Nat,(∀i R,M i=some R→R.at_ W (F i)∧∀b∈F i,w.heap.size≤b)∧∀i j,i≠j→M i≠none→M j≠none→∀b∈F i,b∉F j
section
variable {w W W' : World} {M : Nat → Option dh}
theorem Sn.dN {L:List dh} (h:St w W L):Sn w W (fun i=>L[i]?):=by
 obtain⟨Fs,hl,ha,hn⟩:=h.has;refine⟨h.below,fun i=>(Fs[i]?).getD [],fun i R hR=>?_,fun i j hne hi hj b hb hb'=>?_⟩
 ·have hi:i<Fs.length:=by rw[hl];exact(bI.1 hR).1
  simp only[bH hi,Option.getD_some];exact ha i R _ hR (bH hi)
 ·have hi':i<Fs.length:=by rw[hl];simpa using hi
  have hj':j<Fs.length:=by rw[hl];simpa using hj
  simp only[bH hi',Option.getD_some] at hb;simp only[bH hj',Option.getD_some] at hb';exact pV hn (bH hi') (bH hj') hne b hb hb'
theorem Sn.eG (h:Sn w W M) (ix:List Nat) (hn:ix.Nodup) {L:List dh} (e:ix.map M=L.map some):St w W L:=by
 obtain⟨F,ha,hd⟩:=h.has;have hlen:ix.length=L.length:=by have:=congrArg List.length e;simpa using this
 have hat:∀(i:Nat) R,L[i]? =some R→∃j,ix[i]? =some j∧M j=some R:=fun i R hR=>by
  have:=congrArg (fun l=>l[i]?) e
  simp only[List.getElem?_map,hR,Option.map_some] at this;obtain⟨j,h1,h2⟩:=Option.map_eq_some_iff.1 this;exact⟨j,h1,h2⟩
 have hfs:∀(i:Nat) G,(ix.map F)[i]? =some G→∃j R,ix[i]? =some j∧M j=some R∧G=F j∧L[i]? =some R:=fun i G hG=>by
  rw[List.getElem?_map] at hG;obtain⟨j,h1,h2⟩:=Option.map_eq_some_iff.1 hG;have hi:i<L.length:=by rw[←hlen];exact(bI.1 h1).1
  obtain⟨j',h3,h4⟩:=hat i _ (bH hi);rw[h1] at h3
  injection h3 with h3
  subst h3;exact⟨j,_,h1,h4,h2.symm,bH hi⟩
 refine⟨h.below,ix.map F,by simpa using hlen,fun i R G hR hG=>?_,rZ (fun i G hG=>?_) (fun i j G H hne hG hH=>?_)⟩
 ·obtain⟨j,R',h1,h2,rfl,h3⟩:=hfs i G hG;rw[hR] at h3
  injection h3 with h3
  subst h3;exact ha j R h2
 ·obtain⟨j,R',h1,h2,rfl,h3⟩:=hfs i G hG;exact R'.nd W _ (ha j R' h2).1
 ·obtain⟨j1,R1,h1,h2,rfl,-⟩:=hfs i G hG;obtain⟨j2,R2,h3,h4,rfl,-⟩:=hfs j H hH;refine hd j1 j2 (fun e=>hne ?_) (by rw[h2];simp) (by rw[h4];simp);subst e;obtain⟨a1,a2⟩:=bI.1 h1;obtain⟨b1,b2⟩:=bI.1 h3;exact(List.getElem_inj hn).1 (a2.trans b2.symm)
theorem Sn.congr {M':Nat→Option dh} (h:Sn w W M) (e:∀i,M' i=M i):Sn w W M':=by
 have:M'=M:=funext e;rw[this];exact h
theorem Sn.quiet (h:Sn w W M) (k:Below W.heap.size W W'):Sn w W' M:=by
 obtain⟨F,ha,hd⟩:=h.has;exact⟨h.below.trans (k.mono h.below.size),F,fun i R hR=>⟨R.keep W W' _ (ha i R hR).1 fun b hb=>k.block b (R.lt W _ (ha i R hR).1 b hb),(ha i R hR).2⟩,hd⟩
theorem Sn.add (h:Sn w W M) (k:Nat) (hk:M k=none) {R:dh} (s:St W W' [R]):Sn w W' (fun i=>if i=k then some R else M i):=by
 obtain⟨F,ha,hd⟩:=h.has;obtain⟨G,g1,g2⟩:=s.get 0 rfl
 have hold:∀i,M i≠none→∃R,M i=some R∧R.at_ W (F i)∧∀b∈F i,b<W.heap.size:=fun i hi=>by
  obtain⟨R,hR⟩:=Option.ne_none_iff_exists'.1 hi;exact⟨R,hR,(ha i R hR).1,R.lt W _ (ha i R hR).1⟩
 refine⟨h.below.trans (s.below.mono h.below.size),fun i=>if i=k then G else F i,fun i R' hR=>?_,fun i j hne hi hj b hb hb'=>?_⟩
 ·by_cases e:i=k
  ·subst e;simp only[if_true] at hR ⊢
   injection hR with hR
   subst hR;exact⟨g1,fun b hb=>Nat.le_trans h.below.size (g2 b hb)⟩
  ·simp only[if_neg e] at hR ⊢
   exact⟨R'.keep W W' _ (ha i R' hR).1 fun b hb=>s.below.block b (R'.lt W _ (ha i R' hR).1 b hb),(ha i R' hR).2⟩
 ·by_cases e:i=k
  ·subst e
   by_cases e':j=i
   ·exact hne e'.symm
   ·simp only[if_true,if_neg e'] at hb hb' hj;obtain⟨R',q1,q2,q3⟩:=hold j hj
    have:=q3 b hb'
    have:=g2 b hb
    omega
  ·by_cases e':j=k
   ·subst e';simp only[if_true,if_neg e] at hb hb' hi;obtain⟨R',q1,q2,q3⟩:=hold i hi
    have:=q3 b hb
    have:=g2 b hb'
    omega
   ·simp only[if_neg e,if_neg e'] at hb hb' hi hj;exact hd i j hne hi hj b hb hb'
theorem Sn.mod (h:Sn w W M) (k:Nat) {R R':dh} (hk:M k=some R) (q:∀F,R.at_ W F→(∀b∈F,w.heap.size≤b)→∃F',R'.at_ W' F'∧(∀b∈F',b∈F∨W.heap.size≤b)∧Only F W W'):Sn w W' (fun i=>if i=k then some R' else M i):=by
 obtain⟨F,ha,hd⟩:=h.has;obtain⟨h1,h2⟩:=ha k R hk;obtain⟨F',k1,k2,k3⟩:=q _ h1 h2;have hw:=h.below.size
 have hold:∀i,i≠k→M i≠none→∃S,M i=some S∧S.at_ W (F i)∧(∀b∈F i,w.heap.size≤b)∧(∀b∈F i,b<W.heap.size)∧∀b∈F i,b∉F k:=fun i hne hi=>by
  obtain⟨S,hS⟩:=Option.ne_none_iff_exists'.1 hi;exact⟨S,hS,(ha i S hS).1,(ha i S hS).2,S.lt W _ (ha i S hS).1,hd i k hne hi (by rw[hk];simp)⟩
 refine⟨h.below.trans (k3.below h2 hw),fun i=>if i=k then F' else F i,fun i S hS=>?_,fun i j hne hi hj b hb hb'=>?_⟩
 ·by_cases e:i=k
  ·subst e;simp only[if_true] at hS ⊢
   injection hS with hS
   subst hS;exact⟨k1,fun b hb=>(k2 b hb).elim (h2 b) (fun hx=>by omega)⟩
  ·simp only[if_neg e] at hS ⊢
   obtain⟨S',q1,q2,q3,q4,q5⟩:=hold i e (by rw[hS];simp);rw[hS] at q1
   injection q1 with q1
   subst q1;exact⟨S.keep W W' _ q2 fun b hb=>k3.block b (q4 b hb) (q5 b hb),q3⟩
 ·have key:∀i,i≠k→M i≠none→∀b∈F i,b∉F':=fun i hne hi b hb hf=>by
   obtain⟨S',q1,q2,q3,q4,q5⟩:=hold i hne hi
   rcases k2 b hf with hx | hx
   ·exact q5 b hb hx
   ·have:=q4 b hb;omega
  by_cases e:i=k
  ·subst e
   by_cases e':j=i
   ·exact hne e'.symm
   ·simp only[if_true,if_neg e'] at hb hb' hj;exact key j e' hj b hb' hb
  ·by_cases e':j=k
   ·subst e';simp only[if_true,if_neg e] at hb hb' hi;exact key i e hi b hb hb'
   ·simp only[if_neg e,if_neg e'] at hb hb' hi hj;exact hd i j hne hi hj b hb hb'
theorem Sn.get (h:Sn w W M) (k:Nat) {R:dh} (hk:M k=some R):∃F,R.at_ W F∧∀b∈F,w.heap.size≤b:=by
 obtain⟨F,ha,-⟩:=h.has;exact⟨_,ha k R hk⟩
theorem Sn.blk (h:Sn w W M) (k:Nat) {g:Nat} {t:TypeId} {cs:Array Value} (hk:M k=some (ah g t cs)):fU W g t cs:=by
 obtain⟨F,h1,-⟩:=h.get k hk;exact h1.1
theorem Sn.row (h:Sn w W M) (k:Nat) {e:TypeId} {size n:Nat} {v:Value} {cells:List Value} (hk:M k=some (rRow e size v n cells)):W.ownsRow w.heap.size e size v n cells:=by
 obtain⟨F,h1,h2⟩:=h.get k hk;exact zG h1.1 fun b hb=>h2 b (by rw[h1.2,hb];simp)
theorem Sn.set (h:Sn w W M) (k:Nat) {g:Nat} {t:TypeId} {cs:Array Value} (hk:M k=some (ah g t cs)) (j:Nat) (u:Value):Sn w (W.setCell ⟨g,j,none⟩ u) (fun i=>if i=k then some (ah g t (cs.setIfInBounds j u)) else M i):=
 h.mod k hk fun F ⟨h1,h2⟩ _=>⟨F,⟨h1.nM j u,h2⟩,fun b hb=>.inl hb,(Only.refl F W).set (by rw[h2];simp) u⟩
theorem Sn.store (h:Sn w W M) (k:Nat) {g:Nat} {t:TypeId} {cs cs':Array Value} (hk:M k=some (ah g t cs)) (hb:fU W' g t cs') (ho:Only [g] W W'):Sn w W' (fun i=>if i=k then some (ah g t cs') else M i):=
 h.mod k hk fun F ⟨h1,h2⟩ _=>⟨F,⟨hb,h2⟩,fun b hb=>.inl hb,by rw[h2];exact ho⟩
theorem Sn.Um (h:Sn w W M) (k:Nat) {g:Nat} {t:TypeId} {a b c:Value} (hk:M k=some (ah g t #[a,b,c])) (x y z:Value):Sn w (((W.setCell ⟨g,0,none⟩ x).setCell ⟨g,1,none⟩ y).setCell ⟨g,2,none⟩ z) (fun i=>if i=k then some (ah g t #[x,y,z]) else M i):=
 h.store k hk ((((h.blk k hk).nM 0 x).nM 1 y).nM 2 z) ((((Only.refl [g] W).set (by simp) x).set (by simp) y).set (by simp) z)
theorem Sn.fF (h:Sn w W M) (k:Nat) {g:Nat} {t:TypeId} {a b c d e:Value} (hk:M k=some (ah g t #[a,b,c,d,e])) (x y z u v:Value):Sn w (((((W.setCell ⟨g,0,none⟩ x).setCell ⟨g,1,none⟩ y).setCell ⟨g,2,none⟩ z).setCell ⟨g,3,none⟩ u).setCell ⟨g,4,none⟩ v) (fun i=>if i=k then some (ah g t #[x,y,z,u,v]) else M i):=
 h.store k hk ((((((h.blk k hk).nM 0 x).nM 1 y).nM 2 z).nM 3 u).nM 4 v) ((((((Only.refl [g] W).set (by simp) x).set (by simp) y).set (by simp) z).set (by simp) u).set (by simp) v)
theorem Sn.app (h:Sn w W M) (k:Nat) {e:TypeId} {size n m:Nat} {v v':Value} {cells cells':List Value} (hk:M k=some (rRow e size v n cells))
  (hown:W'.ownsRow w.heap.size e size v' m cells') (hg:W.grownBy W' v.ownBlock) (hat:v'.ownBlock=v.ownBlock∨v'.ownBlock=some W.heap.size):Sn w W' (fun i=>if i=k then some (rRow e size v' m cells') else M i):=
 h.mod k hk fun F ⟨h1,h2⟩ _=>⟨v'.ownBlock.toList,⟨qY hown (Nat.zero_le _),rfl⟩,fun b hb=>by
  rcases hat with e | e
  ·left;rw[h2,←e];exact hb
  ·right;rw[e] at hb;simp at hb;omega,by rw[h2];exact Only.lJ hg⟩
end
theorem St.new1 (W:World) (cs:Array Value) (t:TypeId):St W (W.alloc (.cells cs t)) [ah W.heap.size t cs]:=by simpa using(St.refl W).alloc cs t
def Gives (w:World) (mk:Value→Value) (L:Value→List dh) (e:Ending) (w':World):Prop:=∃v,e= .returned (mk v)∧St w w' (L v)
def eH (val:Nat→Value):List Oper→Nat→Act→Act
 | [],_,a=>a
 |o::l,i,a=>eH val l (i+1) (a.put o.dst (val i))
theorem Rj (val:Nat→Value) (l:List Oper) (o:Oper) (i:Nat) (a:Act):eH val (l++[o]) i a=(eH val l i a).put o.dst (val (i+l.length)):=by
 induction l generalizing i a with
 |nil=>rfl
 |cons x l ih=>simp only[List.cons_append,eH,ih,bM];rw[show i+1+l.length=i+(l.length+1) by omega]
theorem Us (l:List Oper) (val:Nat→Value) (D:Nat→Bool) (a:Act) (n:Nat) (hn:n≤l.length) (hD:∀i,i<n→D i=true):lT l.toArray val D a n=eH val (l.take n) 0 a:=by
 induction n with
 |zero=>rfl
 |succ n ih=>
  have hl:n<l.length:=by omega
  simp only[lT];rw[if_pos (hD n (by omega)),ih (by omega) fun i hi=>hD i (by omega),List.take_succ_eq_append_getElem hl,Rj];have:iT l.toArray n=l[n].dst:=by unfold iT;simp[bH hl]
  rw[this,List.length_take,Nat.min_eq_left (by omega),Nat.zero_add]
def IE (P:Program) (Q:Exit→Act→World→Prop) {σ:Type} (val:σ→Nat→Value) (R:(Nat→Bool)→σ→World→Prop) (a:Act) (ops:Array Oper) (i:Nat) (o:Oper):Prop:=
 ∀(D:Nat→Bool) (s:σ) (w:World),R D s w→D i=false→(∀e∈o.after,Region.binds .any e=true→D e.on=true)→Shut ops D→∀a',Seen ops (val s) D a a'→
  ∀K:Act→World→Prop,(∀s' w',(∀j,D j=true→val s' j=val s j)→R (upd D i) s' w'→K (a'.put o.dst (val s' i)) w')→o.wp P a' w K Q
def yB (P:Program) (Q:Exit→Act→World→Prop) {σ:Type} (val:σ→Nat→Value) (R:(Nat→Bool)→σ→World→Prop) (a:Act) (ops:Array Oper) (i:Nat) (o:Oper):Prop:=
 ∀(D:Nat→Bool) (s:σ) (w:World),R D s w→D i=false→(∀e∈o.after,Region.binds .any e=true→D e.on=true)→Shut ops D→∀a',Seen ops (val s) D a a'→
  ∀K:Act→World→Prop,(∀s' w',(∀j,D j=true→val s' j=val s j)→R (upd D i) s' w'→K (a'.put o.dst (val s' i)) w')→if Region.wanted o (yielded ops a'.tmps)=true then o.wp P a' w K Q else K (a'.put o.dst undef) w
theorem IE.g {P:Program} {Q:Exit→Act→World→Prop} {σ:Type} {val:σ→Nat→Value} {R:(Nat→Bool)→σ→World→Prop} {a:Act} {ops:Array Oper} {i:Nat} {o:Oper} (h:IE P Q val R a ops i o) (hg:o.guard=none):yB P Q val R a ops i o:=
 fun D s w h1 h2 h3 h4 a' h5 K h6=>by
  have:Region.wanted o (yielded ops a'.tmps)=true:=by simp[Region.wanted,hg]
  rw[if_pos this];exact h D s w h1 h2 h3 h4 a' h5 K h6
theorem Rk {ops:Array Oper} {o:Oper} {a':Act} {j t:Nat} {want b:Bool} (hg:o.guard=some (j,want)) (hd:iT ops j=some t) (h:a'.tmps.getD t undef= .bool b) (ht:t<a'.tmps.size):Region.wanted o (yielded ops a'.tmps)=(b == want):=by
 have:yielded ops a'.tmps j=some b:=by
  unfold yielded
  unfold iT at hd
  simp only[hd];simp only[Array.getD_eq_getD_getElem?,Array.getElem?_eq_getElem ht,Option.getD_some] at h
  simp[Array.getElem?_eq_getElem ht,h]
 unfold Region.wanted
 simp only[hg,this]
 cases b<;>cases want<;>rfl
def aj (P:Program) (Q:Exit→Act→World→Prop) {σ:Type} (val:σ→Nat→Value) (R:(Nat→Bool)→σ→World→Prop) (a:Act) (ops:Array Oper):List Oper→Nat→Prop
 | [],_=>True
 |o::l,i=>yB P Q val R a ops i o∧aj P Q val R a ops l (i+1)
section
variable {P : Program} {Q : Exit → Act → World → Prop} {σ : Type} {val : σ → Nat → Value} {R : (Nat → Bool) → σ → World → Prop} {a : Act} {ops : Array Oper}
theorem aj.nil {i:Nat}:aj P Q val R a ops [] i:=trivial
theorem aj.cons {o:Oper} {l:List Oper} {i:Nat} (h:IE P Q val R a ops i o) (k:aj P Q val R a ops l (i+1)) (hg:o.guard=none:=by rfl):aj P Q val R a ops (o::l) i:=⟨h.g hg,k⟩
theorem aj.Yy {o:Oper} {l:List Oper} {i:Nat} (h:yB P Q val R a ops i o) (k:aj P Q val R a ops l (i+1)):aj P Q val R a ops (o::l) i:=⟨h,k⟩
theorem aj.at_ {l:List Oper} {k:Nat} (h:aj P Q val R a ops l k):∀(i:Nat) (o:Oper),l[i]? =some o→yB P Q val R a ops (k+i) o:=by
 induction l generalizing k with
 |nil=>intro i o h;simp at h
 |cons x l ih=>
  intro i o ho
  cases i with
  |zero=>simp only[List.getElem?_cons_zero,Option.some.injEq] at ho;subst ho;exact h.1
  |succ i=>
   simp only[List.getElem?_cons_succ] at ho
   have:=ih h.2 i o ho
   rwa[show k+1+i=k+(i+1) by omega] at this
theorem ZN {l:List Oper} {id:Nat} {w:World} (hm:P.follows .mixedOrders=true) (hok:Gq l.toArray=true) (hac:Dq l.toArray=true) (val:σ→Nat→Value) (R:(Nat→Bool)→σ→World→Prop) (s0:σ)
  (start:∀D:Nat→Bool,(∀i,i<l.length→D i=false)→R D s0 w.drew)
  (step:aj P Q val R a l.toArray l 0)
  (fin:∀D s w,R D s w→(∀i,i<l.length→D i=true)→Q .normal (eH (val s) l 0 a) w):(Code.region id l.toArray true).wp P Q a w:=
 Fh hm hok hac val R s0 (start _ fun i hi=>by simpa using hi) (fun i o ho D s w h1 h2 h3 hsh a' h4 K h5=>by
  have:=step.at_ i o (by simpa using ho)
  rw[Nat.zero_add] at this
  exact this D s w h1 h2 h3 hsh a' h4 K h5) (fun D s w h1 h2=>by
  have h3:∀i,i<l.length→D i=true:=by simpa using h2
  have h4:=Us l (val s) D a l.length (aA _) h3;rw[List.take_length] at h4
  have:=fin D s w h1 h3
  rw[←h4] at this
  simpa using this)
theorem Seen.at_ {D:Nat→Bool} {a a':Act} {v:Nat→Value} (h:Seen ops v D a a') (j t:Nat) {u:Value} (hj:iT ops j=some t) (hD:D j=true) (hs:decide (t<a.tmps.size)=true) (hl:decide (j<ops.size)=true) (e:v j=u):a'.tmps.getD t undef=u:=
 (h.1 j t hj hD (of_decide_eq_true hs) (of_decide_eq_true hl)).trans e
theorem Seen.g {D:Nat→Bool} {a a':Act} {v:Nat→Value} (h:Seen ops v D a a') (j t:Nat) (u:Value) (hD:D j=true) (hj:iT ops j=some t:=by rfl) (hs:decide (t<a.tmps.size)=true:=by kernel_rfl) (hl:decide (j<ops.size)=true:=by kernel_rfl) (e:v j=u:=by rfl):a'.tmps.getD t undef=u:=
 h.at_ j t hj hD hs hl e
theorem aX {a':Act} {t:Nat} {u:Value} (h:a'.tmps.getD t undef=u):a'.tmps[t]?.getD undef=u:=by rw[←h,Array.getD_eq_getD_getElem?]
theorem Seen.before {D:Nat→Bool} {a a':Act} {v:Nat→Value} (h:Seen ops v D a a') (j t:Nat) {u:Value} (hj:iT ops j=some t) (hD:D j=false) (hl:decide (j<ops.size)=true) (e:a.tmps.getD t undef=u):a'.tmps.getD t undef=u:=
 (h.2.2.2 j t hj hD (of_decide_eq_true hl)).trans e
theorem Seen.wants {D:Nat→Bool} {a a':Act} {v:Nat→Value} (h:Seen ops v D a a') {o:Oper} {j t:Nat} {want b:Bool} (hg:o.guard=some (j,want)) (hd:iT ops j=some t) (e:a'.tmps.getD t undef= .bool b) (ht:decide (t<a.tmps.size)=true):Region.wanted o (yielded ops a'.tmps)=(b == want):=
 Rk hg hd e (by rw[h.2.2.1];exact of_decide_eq_true ht)
def N9 (ops:Array Oper) (t:Nat):Bool:=(List.range ops.size).all fun j=>iT ops j != some t
theorem Seen.old {D:Nat→Bool} {a a':Act} {v:Nat→Value} (h:Seen ops v D a a') (t:Nat) {u:Value} (hn:N9 ops t=true) (e:a.tmps.getD t undef=u):a'.tmps.getD t undef=u:=
 (h.2.1 t fun j hj=>by
  unfold N9 at hn
  rw[List.all_eq_true] at hn
  simpa using hn j (List.mem_range.2 hj)).trans e
theorem sv {α:Type} {P:Nat→Prop} {f:Nat→α}:∀j,P j→f j=f j:=fun _ _=>rfl
theorem Seen.v {D:Nat→Bool} {a a':Act} {v:Nat→Value} (h:Seen ops v D a a') (j t:Nat) {E:Array Edge} (hd:∀e∈E,Region.binds .any e=true→D e.on=true) (hm:(⟨j,.data⟩:Edge)∈E:=by simp) (hj:iT ops j=some t:=by rfl) (hs:decide (t<a.tmps.size)=true:=by kernel_rfl) (hl:decide (j<ops.size)=true:=by kernel_rfl):a'.tmps.getD t undef=v j:=
 h.at_ j t hj (hd _ hm rfl) hs hl rfl
theorem Seen.o {D:Nat→Bool} {a a':Act} {v:Nat→Value} (h:Seen ops v D a a') (t:Nat) (u:Value) (hn:N9 ops t=true:=by kernel_rfl) (e:a.tmps.getD t undef=u:=by rfl):a'.tmps.getD t undef=u:=h.old t hn e
theorem Seen.yes {D:Nat→Bool} {a a':Act} {v:Nat→Value} (h:Seen ops v D a a') {o:Oper} (j t:Nat) (b:Bool) {E:Array Edge} {A B:Prop} (hd:∀e∈E,Region.binds .any e=true→D e.on=true) (k:A) (hm:(⟨j,.guard⟩:Edge)∈E:=by simp) (hg:o.guard=some (j,b):=by rfl) (hj:iT ops j=some t:=by rfl) (hs:decide (t<a.tmps.size)=true:=by kernel_rfl) (hl:decide (j<ops.size)=true:=by kernel_rfl) (e:v j= .bool b:=by rfl):if Region.wanted o (yielded ops a'.tmps)=true then A else B:=by
 rw[if_pos]
 ·exact k
 ·rw[h.wants hg hj (h.at_ j t hj (hd _ hm rfl) hs hl e) hs,beq_self_eq_true]
theorem Seen.jb {D:Nat→Bool} {a a':Act} {v:Nat→Value} (h:Seen ops v D a a') {o:Oper} (j t:Nat) (b:Bool) {E:Array Edge} {A B:Prop} (hd:∀e∈E,Region.binds .any e=true→D e.on=true) (k:B) (hm:(⟨j,.guard⟩:Edge)∈E:=by simp) (hg:o.guard=some (j,b):=by rfl) (hj:iT ops j=some t:=by rfl) (hs:decide (t<a.tmps.size)=true:=by kernel_rfl) (hl:decide (j<ops.size)=true:=by kernel_rfl) (e:v j= .bool !b:=by rfl):if Region.wanted o (yielded ops a'.tmps)=true then A else B:=by
 rw[if_neg]
 ·exact k
 ·rw[h.wants hg hj (h.at_ j t hj (hd _ hm rfl) hs hl e) hs];cases b<;>simp
theorem Cs {P:Program} {Q:Exit→Act→World→Prop} {σ:Type} {val:σ→Nat→Value} {R:(Nat→Bool)→σ→World→Prop} {a:Act} {ops:Array Oper} {o:Oper} {l:List Oper} {i:Nat} (h:IE P Q val R a ops i o) (k:aj P Q val R a ops l (i+1)) (hg:o.guard=none:=by rfl):aj P Q val R a ops (o::l) i:=aj.cons h k hg
theorem dJ {P:Program} {Q:Exit→Act→World→Prop} {σ:Type} {val:σ→Nat→Value} {R:(Nat→Bool)→σ→World→Prop} {a:Act} {ops:Array Oper} {o:Oper} {l:List Oper} {i:Nat} (h:yB P Q val R a ops i o) (k:aj P Q val R a ops l (i+1)):aj P Q val R a ops (o::l) i:=aj.Yy h k
theorem kG {P:Program} {Q:Exit→Act→World→Prop} {σ:Type} {a:Act} {l:List Oper} {id:Nat} {w:World} (val:σ→Nat→Value) (R:(Nat→Bool)→σ→World→Prop) (s0:σ)
  (start:∀D:Nat→Bool,(∀i,i<l.length→D i=false)→R D s0 w.drew) (step:aj P Q val R a l.toArray l 0)
  (fin:∀D s w,R D s w→(∀i,i<l.length→D i=true)→Q .normal (eH (val s) l 0 a) w) (hm:P.follows .mixedOrders=true:=by kernel_rfl) (hok:Gq l.toArray=true:=by kernel_rfl) (hac:Dq l.toArray=true:=by kernel_rfl):(Code.region id l.toArray true).wp P Q a w:=
 ZN hm hok hac val R s0 start step fin
end
end Go.Proofs.YtkmcengmglgdeaaGreatDoor
