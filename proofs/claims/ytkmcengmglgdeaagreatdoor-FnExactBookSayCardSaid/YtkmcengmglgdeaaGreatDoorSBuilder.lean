/- Joined texts: Builder, ReadNum. -/
import Derived.Test.YtkmcengmglgdeaaGreatDoorSActsH
import Derived.Lib.Strings
import Derived.Lib.Slices
import Derived.Lib.Walk
import Derived.Lib.Builder
import Derived.Lib.OthersKept
import Derived.Lib.AppendStr
import Derived.Lib.UnsafeStr
import Derived.Lib.MakeNoZero
import Derived.Laws.Externs
import Derived.Laws.IdiomCopy

namespace Go.Proofs.YtkmcengmglgdeaaGreatDoor
set_option linter.unusedVariables false
set_option linter.unusedSimpArgs false
set_option maxRecDepth 100000
set_option maxHeartbeats 8000000
open Go.ChangeShapes Go.WideShapes Go.ChangeAt Go.RowKit
theorem Vs:(Tryz.prog.info? 117).map (·.size)=some 2:=by kernel_rfl
theorem aaj:liesAt Tryz.prog Tryz.prog.depth 117 (2/Tryz.prog.cellsOf 117) 0 117 1=true:=by kernel_rfl
theorem Vt:(Tryz.prog.info? 5).map (fun i=>(i.zero,i.size,i.bytes))=some (some (.int .u8 0),1,1):=by kernel_rfl
theorem Xw:Tryz.prog.cellsOf 5=1:=by kernel_rfl
theorem Ea (b:Nat) (w:World) (h0:w.cell? ⟨b,0,none⟩=some (.pointer (some ⟨b,0,none⟩))):
  Calls Tryz.prog 152 #[.pointer (some ⟨b,0,none⟩)] w fun e w'=>e= .returned (.tuple #[])∧w'=w:=by
 obtain⟨j,hj,_⟩:=Option.map_eq_some_iff.1 Vs;go_enter Tryz.func152,Tryz.ntmps152;go_wp2;rw[Lib.run_neq_ptr_same w _ Tryz.underlying115 hj];go_wp2
 go_end0
 exact⟨rfl,rfl⟩
theorem Bg (b:Nat) (w:World) (h0:w.cell? ⟨b,0,none⟩=some (.pointer none)) (hsh:w.shape? b=some (117,2)) (hfz:w.frozen? ⟨b,0,none⟩=false):
  Calls Tryz.prog 152 #[.pointer (some ⟨b,0,none⟩)] w fun e w'=>e= .returned (.tuple #[])∧w'=w.setCell ⟨b,0,none⟩ (.pointer (some ⟨b,0,none⟩)):=by
 obtain⟨j,hj,hjs⟩:=Option.map_eq_some_iff.1 Vs;go_enter Tryz.func152,Tryz.ntmps152;go_wp2;rw[Lib.run_to_unsafe w ⟨b,0,none⟩ Tryz.underlying115 Tryz.underlying177 hj (by rw[hjs];decide) hsh (Nat.zero_lt_succ 1)];simp only[Result.andThen];rw[Oper.upon_value];go_wp2;rw[run_callFunc_extern Tryz.func184 (by kernel_rfl) (by kernel_rfl) (by kernel_rfl) (e:=Extern.AbiNoEscape.same) (by kernel_rfl)];rw[Lib.run_noEscape];simp only[Result.andThen];rw[Oper.upon_value];go_wp2;rw[Lib.run_from_unsafe w ⟨b,0,none⟩ Tryz.underlying177 Tryz.underlying115 hj hsh aaj];simp only[Result.andThen];rw[Oper.upon_value];go_wp2
 go_end0
 exact⟨rfl,rfl⟩
abbrev PZ (B b:Nat) (l:List UInt8) (w:World):Prop:=Lib.IsBuilder 117 5 B b (Lib.byteCells l) w
abbrev Kept (b:Nat) (w w':World):Prop:=Lib.OthersKept 5 (some b) w w'
theorem LP {w:World} {B:Nat} {e:TypeId} {v:Value} {n:Nat} {xs:List Value} (h:w.ownsRow B e 1 v n xs):∀g,v.ownBlock=some g→∃c fz,w.heap[g]? =some (.cells c e fz):=by
 intro g hg
 rcases h.2 with⟨rfl,_⟩ | ⟨g',cap,cur,rfl,_,hgg,_⟩
 ·simp[Value.ownBlock] at hg
 ·simp[Value.ownBlock] at hg
  subst hg;exact⟨cur,_,hgg⟩
theorem wo (B b:Nat) (bs:List Value) (w:World) (h:Lib.IsBuilder 117 5 B b bs w):
  Calls Tryz.prog 152 #[.pointer (some ⟨b,0,none⟩)] w fun e w'=>e= .returned (.tuple #[])∧(Lib.BuilderAt 117 5 B b (.pointer (some ⟨b,0,none⟩)) bs w'∧Below B w w'∧Kept b w w'):=by
 rcases h with h | h
 ·refine(Bg b w h.cell0 h.shape h.frozen0).mono ?_;rintro e w' ⟨rfl,rfl⟩;exact⟨rfl,h.used _,(ai B w).setCell (p:=⟨b,0,none⟩) h.1 _,(Lib.OthersKept.refl _ _ _).setCell ⟨b,0,none⟩ rfl _⟩
 ·refine(Ea b w h.cell0).mono ?_;rintro e w' ⟨rfl,rfl⟩;exact⟨rfl,h,ai B _,Lib.OthersKept.refl _ _ _⟩
theorem aai {B b:Nat} {l:List UInt8} {w:World} (h:PZ B b l w):b<w.heap.size:=by rcases h with h | h<;>exact h.lt
theorem LM (B b:Nat) (l:List UInt8) (c:UInt8) (w:World) (h:PZ B b l w) (hlen:l.length+1≤140737488355328) (hBw:B≤w.heap.size):
  Calls Tryz.prog 97 #[.pointer (some ⟨b,0,none⟩),.int .u8 c.toNat] w fun e w'=>e= .returned .nilIface∧(PZ B b (l++[c]) w'∧Below B w w'∧Kept b w w'):=by
 obtain⟨i0,hi,hz0,hz1,hz2⟩:=info_parts Vt;have hbl:(Lib.byteCells l).length=l.length:=Lib.byteCells_length l;obtain⟨bs,hbs⟩:∃bs,Lib.byteCells l=bs:=⟨_,rfl⟩;have heq:Lib.byteCells (l++[c])=bs++[.int .u8 c.toNat]:=by rw[←hbs];simp[Lib.byteCells]
 unfold PZ at h ⊢
 rw[heq];rw[hbs] at h hbl;rw[←hbl] at hlen;clear hbl hbs heq;obtain⟨cn,hcn⟩:∃cn:Int,(c.toNat:Int)=cn:=⟨_,rfl⟩;rw[hcn];clear hcn;go_enter Tryz.func97,Tryz.ntmps97
 go_wp2_with (go_at_call 152;refine(wo B b bs _ h).mono ?_)
 rintro e w1 ⟨rfl,h1,hb1,hk1⟩;obtain⟨hB,v,hbk,hown,hne⟩:=h1;have c0:w1.cell? ⟨b,0,none⟩=some (.pointer (some ⟨b,0,none⟩)):=by rw[Lib.cell_of_heap hbk];rfl
 have c1:w1.cell? ⟨b,1,none⟩=some v:=by rw[Lib.cell_of_heap hbk];rfl
 go_wp2_with (at_builtin;refine wpList_append_own _ rfl _ _ 22 rfl B 5 i0 (.int .u8 0) 1 1 Tryz.underlying22 hi hz0 hz1 hz2 rfl (by decide) _ _ _ rfl (hown.alloc _) ⟨w1.heap.size,0,none⟩ 1 1 [.int .u8 cn] rfl rfl ?c1 ?c2 ?c3 ?c4 ?c5 ?_)
 case c1=>
  intro j u hj
  match j,hj with
  |0,hj=>simp at hj;subst hj;simp[Addr.add]
 case c2=>intro u hu;simp at hu;subst hu;rfl
 case c3=>unfold maxLen;omega
 case c4=>omega
 case c5=>have:=hb1.size;simp;omega
 intro v' w2 hown' hgrow _
 have hlt:b<w1.heap.size:=by
  rcases Nat.lt_or_ge b w1.heap.size with h' | h'
  ·exact h'
  ·simp[Array.getElem?_eq_none h'] at hbk
 have hb2:w2.heap[b]? =some (.cells #[.pointer (some ⟨b,0,none⟩),v] 117 (0,0)):=by
  rw[hgrow.block b (by simp;omega) (fun e=>hne e.symm),Lib.alloc_old w1 _ b hlt];exact hbk
 have d0:w2.cell? ⟨b,0,none⟩=some (.pointer (some ⟨b,0,none⟩)):=by rw[Lib.cell_of_heap hb2];rfl
 have d1:w2.cell? ⟨b,1,none⟩=some v:=by rw[Lib.cell_of_heap hb2];rfl
 have f1:w2.frozen? ⟨b,1,none⟩=false:=Lib.frozen_of_heap hb2 1
 obtain⟨g,cap,rfl⟩:∃g cap,v'= .slice (some ⟨g,0,none⟩) (bs.length+1) cap:=by
  rcases hown'.2 with⟨_,h0⟩ | ⟨g,cap,cur,hv,_⟩
  ·omega
  ·exact⟨g,cap,hv⟩
 go_wp2;go_ret;refine⟨rfl,.inr ?_,?_,?_⟩
 ·exact Lib.BuilderAt.put (T:=117) (e:=5) hB hb2 (bs':=bs++[.int .u8 cn]) (by simpa using hown') (by decide)
 ·exact((hb1.alloc (by have:=hb1.size;omega) _).grown hgrow (by have:=hb1.size;simp;omega) (fun k hk=>(hown.lt k hk).1)).setCell (p:=⟨b,1,none⟩) hB _
 ·exact((hk1.alloc _).grown hgrow (LP (hown.alloc _))).setCell ⟨b,1,none⟩ rfl _
theorem Fa (B b:Nat) (l:List UInt8) (s:ByteArray) (w:World) (h:PZ B b l w) (hlen:l.length+s.size≤140737488355328) (hBw:B≤w.heap.size):
  Calls Tryz.prog 96 #[.pointer (some ⟨b,0,none⟩),.string s] w fun e w'=>e= .returned (.tuple #[.int .i64 s.size,.nilIface])∧(PZ B b (l++s.data.toList) w'∧Below B w w'∧Kept b w w'):=by
 obtain⟨i0,hi,hz0,hz1,hz2⟩:=info_parts Vt;have hbl:(Lib.byteCells l).length=l.length:=Lib.byteCells_length l;obtain⟨bs,hbs⟩:∃bs,Lib.byteCells l=bs:=⟨_,rfl⟩;have heq:Lib.byteCells (l++s.data.toList)=bs++Lib.strCells s:=by rw[←hbs];simp[Lib.byteCells,Lib.strCells]
 unfold PZ at h ⊢
 rw[heq];rw[hbs] at h hbl;rw[←hbl] at hlen;clear hbl hbs heq;go_enter Tryz.func96,Tryz.ntmps96
 go_wp2_with (go_at_call 152;refine(wo B b bs _ h).mono ?_)
 rintro e w1 ⟨rfl,h1,hb1,hk1⟩;obtain⟨hB,v,hbk,hown,hne⟩:=h1;have c0:w1.cell? ⟨b,0,none⟩=some (.pointer (some ⟨b,0,none⟩)):=by rw[Lib.cell_of_heap hbk];rfl
 have c1:w1.cell? ⟨b,1,none⟩=some v:=by rw[Lib.cell_of_heap hbk];rfl
 go_wp2_with (at_builtin;refine Lib.wpList_append_own_string _ rfl _ _ 22 9 rfl B 5 i0 Tryz.underlying22 Tryz.underlying9 hi hz0 hz1 hz2 _ _ _ rfl hown s rfl ?c3 ?c4 ?c5 ?_)
 case c3=>unfold maxLen;omega
 case c4=>omega
 case c5=>have:=hb1.size;omega
 intro v' w2 hown' hgrow _
 have hlt:b<w1.heap.size:=by
  rcases Nat.lt_or_ge b w1.heap.size with h' | h'
  ·exact h'
  ·simp[Array.getElem?_eq_none h'] at hbk
 have hb2:w2.heap[b]? =some (.cells #[.pointer (some ⟨b,0,none⟩),v] 117 (0,0)):=by
  rw[hgrow.block b hlt (fun e=>hne e.symm)];exact hbk
 have d0:w2.cell? ⟨b,0,none⟩=some (.pointer (some ⟨b,0,none⟩)):=by rw[Lib.cell_of_heap hb2];rfl
 have d1:w2.cell? ⟨b,1,none⟩=some v:=by rw[Lib.cell_of_heap hb2];rfl
 have f1:w2.frozen? ⟨b,1,none⟩=false:=Lib.frozen_of_heap hb2 1
 obtain⟨ao,n',cap,rfl⟩:∃ao n' cap,v'= .slice ao n' cap:=by
  rcases hown'.2 with⟨hv,_⟩ | ⟨g,cap,cur,hv,_⟩
  ·exact⟨_,_,_,hv⟩
  ·exact⟨_,_,_,hv⟩
 go_wp2;go_ret2;refine⟨rfl,.inr ?_,?_,?_⟩
 ·exact Lib.BuilderAt.put (T:=117) (e:=5) hB hb2 (bs':=bs++Lib.strCells s) (by simpa[Lib.strCells_length] using hown') (by decide)
 ·exact(hb1.grown hgrow (by have:=hb1.size;omega) (fun k hk=>(hown.lt k hk).1)).setCell (p:=⟨b,1,none⟩) hB _
 ·exact(hk1.grown hgrow (LP hown)).setCell ⟨b,1,none⟩ rfl _
theorem xg (B b:Nat) (l:List UInt8) (w:World) (h:PZ B b l w) (h0:l≠[]):
  Calls Tryz.prog 98 #[.pointer (some ⟨b,0,none⟩)] w fun e w'=>e= .returned (.string ⟨l.toArray⟩)∧Below B w w':=by
 obtain⟨p,hB,v,hbk,hown,hne⟩:∃p,Lib.BuilderAt 117 5 B b p (Lib.byteCells l) w:=by
  rcases h with h | h
  ·exact⟨_,h⟩
  ·exact⟨_,h⟩
 have hl0:l.length≠0:=by simpa using h0
 rw[Lib.byteCells_length] at hown
 obtain⟨g,cap,cur,rfl,hbg,hg,hnc,hcm,hcs,htake⟩:∃g cap cur,v= .slice (some ⟨g,0,none⟩) l.length cap∧B≤g∧w.heap[g]? =some (.cells cur 5 (0,0))∧l.length≤cap∧cap≤maxLen∧cur.size=cap*1∧cur.toList.take (l.length*1)=Lib.byteCells l:=by
  rcases hown.2 with⟨_,hz⟩ | ⟨g,cap,cur,hv,r⟩
  ·exact absurd hz hl0
  ·exact⟨g,cap,cur,hv,r⟩
 have c1:w.drew.cell? ⟨b,1,none⟩=some (.slice (some ⟨g,0,none⟩) l.length cap):=by
  have:w.drew.heap[b]? =some (.cells #[p,.slice (some ⟨g,0,none⟩) l.length cap] 117 (0,0)):=hbk;rw[Lib.cell_of_heap this];rfl
 have hSD:(Builtin.unsafeSliceData_ #[22] 159 #[.slice (some ⟨g,0,none⟩) l.length cap]).run Tryz.prog w.drew= .ok (.pointer (some ⟨g,0,none⟩)) w.drew:=
  Lib.run_unsafeSliceData_row _ _ _ _ _ _ (by omega)
 have hUS:(Builtin.unsafeString_ #[159,3] 9 #[.pointer (some ⟨g,0,none⟩),.int .i64 l.length]).run Tryz.prog w.drew= .ok (.string ⟨l.toArray⟩) (w.drew.freeze ⟨g,0,none⟩ l.length):=by
  refine Lib.run_unsafeString_row w.drew 159 3 9 5 Tryz.underlying159 Xw g cur.size (by have hg':w.drew.heap[g]? =some (.cells cur 5 (0,0)):=hg;simp[World.shape?,hg']) l h0 (by omega) (by unfold maxLen at hcm;omega) ?_;intro j x hx
  have:=hown.cells (g:=g) rfl j (.int .u8 x.toNat) (by simp[Lib.byteCells,hx])
  exact this
 go_enter Tryz.func98,Tryz.ntmps98;go_wp2
 go_region
 all_goals (go_wp2;go_ret;exact⟨rfl,Lib.below_freeze (Below.drew (ai B w)) (p:=⟨g,0,none⟩) hbg _⟩)
theorem unsafeString_none (W:World) (q:Option Addr):(Builtin.unsafeString_ #[159,3] 9 #[.pointer q,.int .i64 0]).run Tryz.prog W= .ok (.string .empty) W:=
 Lib.run_unsafeString_none W _ _ _ q
theorem yF (B b:Nat) (p:Value) (w:World) (hbk:w.heap[b]? =some (.cells #[p,.slice none 0 0] 117 (0,0))):
  Calls Tryz.prog 98 #[.pointer (some ⟨b,0,none⟩)] w fun e w'=>e= .returned (.string ⟨#[]⟩)∧Below B w w':=by
 have hUS:=unsafeString_none
 have c1:w.drew.cell? ⟨b,1,none⟩=some (.slice none 0 0):=by
  have:w.drew.heap[b]? =some (.cells #[p,.slice none 0 0] 117 (0,0)):=hbk;rw[Lib.cell_of_heap this];rfl
 have hSD:(Builtin.unsafeSliceData_ #[22] 159 #[.slice none 0 0]).run Tryz.prog w.drew= .ok (.pointer none) w.drew:=rfl;go_enter Tryz.func98,Tryz.ntmps98;go_wp2
 go_region
 all_goals (go_wp2;go_ret;exact⟨rfl,Below.drew (ai B w)⟩)
theorem uU (B b g:Nat) (p:Value) (cur:Array Value) (w:World) (hBw:B≤w.heap.size) (hbk:w.heap[b]? =some (.cells #[p,.slice (some ⟨g,0,none⟩) 0 0] 117 (0,0))) (hg:w.heap[g]? =some (.cells cur 5 (0,0))):
  Calls Tryz.prog 98 #[.pointer (some ⟨b,0,none⟩)] w fun e w'=>e= .returned (.string ⟨#[]⟩)∧Below B w w':=by
 have hUS:=unsafeString_none
 have hlt:b<w.heap.size:=by
  rcases Nat.lt_or_ge b w.heap.size with h' | h'
  ·exact h'
  ·simp[Array.getElem?_eq_none h'] at hbk
 have c1:w.drew.cell? ⟨b,1,none⟩=some (.slice (some ⟨g,0,none⟩) 0 0):=by
  have:w.drew.heap[b]? =some (.cells #[p,.slice (some ⟨g,0,none⟩) 0 0] 117 (0,0)):=hbk;rw[Lib.cell_of_heap this];rfl
 have hSD:(Builtin.unsafeSliceData_ #[22] 159 #[.slice (some ⟨g,0,none⟩) 0 0]).run Tryz.prog w.drew= .ok (.pointer (some ⟨w.drew.heap.size,0,none⟩)) (w.drew.alloc (.view ⟨g,0,none⟩ 5)):=
  Lib.run_unsafeSliceData_zero w.drew _ _ 5 Tryz.underlying159 ⟨g,0,none⟩ 0 (5,cur.size) (by have hg':w.drew.heap[g]? =some (.cells cur 5 (0,0)):=hg;simp[World.shape?,hg'])
 have c2:(w.drew.alloc (.view ⟨g,0,none⟩ 5)).cell? ⟨b,1,none⟩=some (.slice (some ⟨g,0,none⟩) 0 0):=by
  have:(w.drew.alloc (.view ⟨g,0,none⟩ 5)).heap[b]? =_:=(Lib.alloc_old w.drew _ b hlt).trans hbk;rw[Lib.cell_of_heap this];rfl
 have c3:(w.alloc (.view ⟨g,0,none⟩ 5)).drew.cell? ⟨b,1,none⟩=some (.slice (some ⟨g,0,none⟩) 0 0):=c2;have c0:w.cell? ⟨b,1,none⟩=some (.slice (some ⟨g,0,none⟩) 0 0):=c1;go_enter Tryz.func98,Tryz.ntmps98;go_wp2
 go_region
 all_goals (go_wp2;go_ret;exact⟨rfl,(Below.drew (ai B w)).alloc hBw _⟩)
theorem xk (B b g cap:Nat) (p:Value) (w:World) (hc0:cap≠0) (hbk:w.heap[b]? =some (.cells #[p,.slice (some ⟨g,0,none⟩) 0 cap] 117 (0,0))):
  Calls Tryz.prog 98 #[.pointer (some ⟨b,0,none⟩)] w fun e w'=>e= .returned (.string ⟨#[]⟩)∧Below B w w':=by
 have hUS:=unsafeString_none
 have c1:w.drew.cell? ⟨b,1,none⟩=some (.slice (some ⟨g,0,none⟩) 0 cap):=by
  have:w.drew.heap[b]? =some (.cells #[p,.slice (some ⟨g,0,none⟩) 0 cap] 117 (0,0)):=hbk;rw[Lib.cell_of_heap this];rfl
 have hSD:(Builtin.unsafeSliceData_ #[22] 159 #[.slice (some ⟨g,0,none⟩) 0 cap]).run Tryz.prog w.drew= .ok (.pointer (some ⟨g,0,none⟩)) w.drew:=
  Lib.run_unsafeSliceData_row _ _ _ _ _ _ hc0
 clear hc0;go_enter Tryz.func98,Tryz.ntmps98;go_wp2
 go_region
 all_goals (go_wp2;go_ret;exact⟨rfl,Below.drew (ai B w)⟩)
theorem yE (B b:Nat) (l:List UInt8) (w:World) (h:PZ B b l w) (hBw:B≤w.heap.size):
  Calls Tryz.prog 98 #[.pointer (some ⟨b,0,none⟩)] w fun e w'=>e= .returned (.string ⟨l.toArray⟩)∧Below B w w':=by
 cases l with
 |cons x r=>exact xg B b (x::r) w h (by simp)
 |nil=>
  obtain⟨p,hB,v,hbk,hown,hne⟩:∃p,Lib.BuilderAt 117 5 B b p [] w:=by
   rcases h with h | h
   ·exact⟨_,h⟩
   ·exact⟨_,h⟩
  rcases hown.2 with⟨rfl,_⟩ | ⟨g,cap,cur,rfl,hbg,hg,r⟩
  ·exact yF B b p w hbk
  ·by_cases hc0:cap=0
   ·subst hc0;exact uU B b g p cur w hBw hbk hg
   ·exact xk B b g cap p w hc0 hbk
def lF (acc:Int):List UInt8→Option Int
 | []=>some acc
 |c::cs=>if c.toNat<48∨57<c.toNat then none else lF (acc*10+((c.toNat:Int)-48)) cs
def rdNum (d:Int) (t:List UInt8):Option Int:=
 if t=[]∨d<(t.length:Int)∨t.head? =some 48∧1<t.length then none else lF 0 t
theorem Aj (t:List UInt8):rdNum 2 t=(qN t).map fun(n:Nat)=>(n:Int):=by
 match t with
 | []=>rfl
 | [c]=>
  have h1:c.toNat<256:=UInt8.toNat_lt c;simp only[rdNum,qN,lF,Dv]
  by_cases h:c.toNat<48∨57<c.toNat
  ·have h2:¬(48≤c.toNat∧c.toNat≤57):=by omega
   simp[h,h2]
  ·have h2:48≤c.toNat∧c.toNat≤57:=by omega
   simp[h,h2];omega
 | [c,d]=>
  simp only[rdNum,qN,lF,Dv]
  by_cases h0:c=48
  ·simp[h0]
  ·by_cases h:c.toNat<48∨57<c.toNat
   ·have h2:¬(48≤c.toNat∧c.toNat≤57):=by omega
    simp[h,h2,h0]
   ·have h2:48≤c.toNat∧c.toNat≤57:=by omega
    by_cases h':d.toNat<48∨57<d.toNat
    ·have h3:¬(48≤d.toNat∧d.toNat≤57):=by omega
     simp[h,h2,h0,h',h3]
    ·have h3:48≤d.toNat∧d.toNat≤57:=by omega
     simp[h,h2,h0,h',h3];omega
 |a::b::c::r=>
  simp[rdNum,qN];omega
theorem drop_at (s:ByteArray) (k:Nat) (h:k<s.size):s.data.toList.drop k=s[k]::s.data.toList.drop (k+1):=by
 rw[List.drop_eq_getElem_cons (by rw[←Lib.size_eq];exact h)]
 rfl
theorem drop_end (s:ByteArray) (k:Nat) (h:s.size≤k):s.data.toList.drop k=[]:=List.drop_eq_nil_of_le (by rw[←Lib.size_eq];exact h)
theorem Gi {acc:Int} {s:ByteArray} {k:Nat} (h:k<s.size) (h1:48≤(s[k].toNat:Int)) (h2:(s[k].toNat:Int)≤57):lF acc (s.data.toList.drop k)=lF (acc*10+((s[k].toNat:Int)-48)) (s.data.toList.drop (k+1)):=by
 rw[drop_at s k h];simp only[lF];rw[if_neg (by omega)]
theorem KJ {acc:Int} {s:ByteArray} {k:Nat} (h:k<s.size) (h1:(s[k].toNat:Int)<48∨57<(s[k].toNat:Int)):lF acc (s.data.toList.drop k)=none:=by
 rw[drop_at s k h];simp only[lF];rw[if_pos (by omega)]
theorem qO (k:Nat) (h:k≤17):(10:Int)^k≤100000000000000000:=by
 have h1:=Nat.pow_le_pow_right (n:=10) (by omega) h;have e:(10:Nat)^17=100000000000000000:=by decide+kernel
 rw[e] at h1;have h2:=Int.ofNat_le.2 h1;rw[Int.natCast_pow] at h2;exact h2
def UW (o:Option Int) (e:Ending):Prop:=e= .returned (.tuple #[.int .i64 (o.getD 0),.bool o.isSome])
theorem mO (s:ByteArray) (d:Int) (w:World) (hd:d≤18) (hs:s.size≤9223372036854775807):
  Calls Tryz.prog 109 #[.string s,.int .i64 d] w fun e w'=>UW (rdNum d s.data.toList) e∧w=w':=by
 have hsl:s.data.toList.length=s.size:=(Lib.size_eq s).symm;have htl:s.toList=s.data.toList:=Lib.toList_data s
 by_cases h0:s.size=0
 ·have he:s.data.toList=[]:=List.eq_nil_of_length_eq_zero (by omega);have ht:s.toList.isEmpty=true:=by rw[htl,he];rfl
  have HN:Hid (rdNum d s.data.toList=none):=af (by unfold rdNum;rw[if_pos (.inl he)]);clear hsl htl he h0;go_enter Tryz.func109,Tryz.ntmps109;go_wp2;go_ret2;exact⟨by rw[HN.out];rfl,rfl⟩
 have hne:s.data.toList≠[]:=fun e=>by rw[e] at hsl;simp at hsl;omega
 have ht:s.toList.isEmpty=false:=by rw[htl];cases h:s.data.toList with | nil=>exact absurd h hne | cons a b=>rfl
 have h1:0<s.size:=by omega
 by_cases hlt:d<(s.size:Int)
 ·have HN:Hid (rdNum d s.data.toList=none):=af (by unfold rdNum;rw[if_pos (.inr (.inl (by rw[hsl];exact hlt)))]);clear hsl htl hne h0;go_enter Tryz.func109,Tryz.ntmps109;go_wp2;go_ret2;exact⟨by rw[HN.out];rfl,rfl⟩
 have hsz:s.size≤18:=by omega
 have hhd:s.data.toList.head? =some s[0]:=by
  have:=drop_at s 0 h1
  rw[List.drop_zero] at this;rw[this];rfl
 by_cases hz:s[0].toNat=48∧1<s.size
 ·obtain⟨hz,h2⟩:=hz;have HN:Hid (rdNum d s.data.toList=none):=af (by unfold rdNum;rw[if_pos (.inr (.inr ⟨by rw[hhd];exact congrArg some (UInt8.toNat_inj.1 (by rw[hz];rfl)),by omega⟩))]);have hz1:((s[0].toNat:Int) == 48)=true:=by simp[hz]
  have h2':(1:Int)<(s.size:Int):=by omega
  clear hsl htl hne h0 hhd hz;go_enter Tryz.func109,Tryz.ntmps109;go_wp2;go_ret2;exact⟨by rw[HN.out];rfl,rfl⟩
 have HN:Hid (rdNum d s.data.toList=lF 0 s.data.toList):=af (by
  unfold rdNum
  rw[if_neg];rintro(h | h | ⟨h,h'⟩)
  ·exact hne h
  ·rw[hsl] at h;exact hlt h
  ·rw[hhd] at h
   injection h with h
   exact hz ⟨by rw[h];rfl,by omega⟩)
 have HZ:Hid (¬(s[0].toNat=48∧1<s.size)):=af hz;clear hsl htl hne h0 hhd hz;have tail:∀a:Act,True:=fun _=>trivial
 by_cases h48:s[0].toNat=48
 ·have hz1:((s[0].toNat:Int) == 48)=true:=by simp[h48]
  have h2':¬(1:Int)<(s.size:Int):=by have:=HZ.out;omega
  clear h48 tail;go_enter Tryz.func109,Tryz.ntmps109;go_wp2;clear hz1
  go_loop [6,28] (fun n i=>∃(k:Nat) (acc:Int),k≤s.size∧i= .int .i64 k∧n= .int .i64 acc∧Hid (0≤acc∧acc<10^k)∧Hid (lF 0 s.data.toList=lF acc (s.data.toList.drop k))) (fun _ i=>s.size-(intOf i).toNat)
  case atStart=>exact⟨0,0,by omega,rfl,rfl,af (by decide),af (by rw[List.drop_zero])⟩
  case round=>
   obtain⟨k,acc,hk,rfl,rfl,hacc,hrd⟩:=hrel
   by_cases hkl:k<s.size
   ·have hb:s[k].toNat<256:=UInt8.toNat_lt _
    by_cases hbad:(s[k].toNat:Int)<48∨57<(s[k].toNat:Int)
    ·have HB:Hid (rdNum d s.data.toList=none):=af (by rw[HN.out,hrd.out,KJ hkl hbad])
     rcases hbad with h3 | h3
     ·go_wp2;go_ret2;exact⟨by rw[HB.out];rfl,rfl⟩
     ·have h4:¬(s[k].toNat:Int)<48:=by omega
      go_wp2;go_ret2;exact⟨by rw[HB.out];rfl,rfl⟩
    ·have h3:¬(s[k].toNat:Int)<48:=by omega
     have h4:¬57<(s[k].toNat:Int):=by omega
     have h5:48≤(s[k].toNat:Int):=by omega
     have ha0:0≤acc:=hacc.out.1
     have ha1:acc<100000000000000000:=by
      have h6:=hacc.out.2;have h7:(10:Int)^k≤100000000000000000:=qO k (by omega)
      omega
     have HS:Hid (lF 0 s.data.toList=lF (acc*10+((s[k].toNat:Int)-48)) (s.data.toList.drop (k+1))):=af (by rw[hrd.out];exact Gi hkl h5 (by omega))
     have HA:Hid (0≤acc*10+((s[k].toNat:Int)-48)∧acc*10+((s[k].toNat:Int)-48)<10^(k+1)):=af (by
      have h6:=hacc.out.2;rw[Int.pow_succ]
      omega)
     clear hbad;go_wp2
     go_round
     case rel=>exact⟨k+1,_,by omega,by go_num,rfl,HA,HS⟩
     case measure=>simp[intOf];omega
   ·have hke:k=s.size:=by omega
    have HE:Hid (rdNum d s.data.toList=some acc):=af (by rw[HN.out,hrd.out,drop_end s k (by omega)];rfl);clear hke;go_wp2;go_ret2;exact⟨by rw[HE.out];rfl,rfl⟩
 ·have hz1:((s[0].toNat:Int) == 48)=false:=by simp;omega
  clear h48 tail;go_enter Tryz.func109,Tryz.ntmps109;go_wp2;clear hz1
  go_loop [6,28] (fun n i=>∃(k:Nat) (acc:Int),k≤s.size∧i= .int .i64 k∧n= .int .i64 acc∧Hid (0≤acc∧acc<10^k)∧Hid (lF 0 s.data.toList=lF acc (s.data.toList.drop k))) (fun _ i=>s.size-(intOf i).toNat)
  case atStart=>exact⟨0,0,by omega,rfl,rfl,af (by decide),af (by rw[List.drop_zero])⟩
  case round=>
   obtain⟨k,acc,hk,rfl,rfl,hacc,hrd⟩:=hrel
   by_cases hkl:k<s.size
   ·have hb:s[k].toNat<256:=UInt8.toNat_lt _
    by_cases hbad:(s[k].toNat:Int)<48∨57<(s[k].toNat:Int)
    ·have HB:Hid (rdNum d s.data.toList=none):=af (by rw[HN.out,hrd.out,KJ hkl hbad])
     rcases hbad with h3 | h3
     ·go_wp2;go_ret2;exact⟨by rw[HB.out];rfl,rfl⟩
     ·have h4:¬(s[k].toNat:Int)<48:=by omega
      go_wp2;go_ret2;exact⟨by rw[HB.out];rfl,rfl⟩
    ·have h3:¬(s[k].toNat:Int)<48:=by omega
     have h4:¬57<(s[k].toNat:Int):=by omega
     have h5:48≤(s[k].toNat:Int):=by omega
     have ha0:0≤acc:=hacc.out.1
     have ha1:acc<100000000000000000:=by
      have h6:=hacc.out.2;have h7:(10:Int)^k≤100000000000000000:=qO k (by omega)
      omega
     have HS:Hid (lF 0 s.data.toList=lF (acc*10+((s[k].toNat:Int)-48)) (s.data.toList.drop (k+1))):=af (by rw[hrd.out];exact Gi hkl h5 (by omega))
     have HA:Hid (0≤acc*10+((s[k].toNat:Int)-48)∧acc*10+((s[k].toNat:Int)-48)<10^(k+1)):=af (by
      have h6:=hacc.out.2;rw[Int.pow_succ]
      omega)
     clear hbad;go_wp2
     go_round
     case rel=>exact⟨k+1,_,by omega,by go_num,rfl,HA,HS⟩
     case measure=>simp[intOf];omega
   ·have hke:k=s.size:=by omega
    have HE:Hid (rdNum d s.data.toList=some acc):=af (by rw[HN.out,hrd.out,drop_end s k (by omega)];rfl);clear hke;go_wp2;go_ret2;exact⟨by rw[HE.out];rfl,rfl⟩
end Go.Proofs.YtkmcengmglgdeaaGreatDoor
