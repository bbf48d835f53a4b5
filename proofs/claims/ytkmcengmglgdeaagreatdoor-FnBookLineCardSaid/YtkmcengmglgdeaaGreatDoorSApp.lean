/- Joined texts: App, Told, Turn, TTask, St, Plan, Sets. -/
import Derived.Test.YtkmcengmglgdeaaGreatDoorSDeed
import Derived.Deep.RegionLaw
import Derived.Deep.RegionHeld3
import Derived.Deep.DeepCutAuto
import Derived.Test.YtkmcengmglgdeaaGreatDoorSNum

namespace Go.Proofs.YtkmcengmglgdeaaGreatDoor
set_option linter.unusedVariables false
set_option linter.unusedSimpArgs false
set_option maxRecDepth 100000
set_option maxHeartbeats 8000000
open Go.ChangeShapes Go.WideShapes Go.ChangeAt Go.RowKit
theorem KX {P:Program} {t e:TypeId} {z:Value} {size bytes:Nat} (E:qE P t e z size bytes) {w:World} {ops:Array Oper} {o:Oper} {a:Act} {K:Act→World→Prop} {Q:Exit→Act→World→Prop} {G:Prop} (hgd:o.guard=none) (s x:Operand)
  (ho:o.op= .call { callee:=.builtin .append,args:=#[s,x],argTypes:=#[t,t] })
  (base:Nat) (v:Value) (n:Nat) (xs:List Value) (hs:a.eval s=v) (hown:w.ownsRow base e size v n xs)
  (B:Nat) (A:Option Addr) (m c:Nat) (news:List Value) (hx:a.eval x= .slice A m c) (hr:bJ w B size A m c news) (hm:0<m) (h1:∀u∈news,u.oneCell'=true)
  (hbytes:(n+m)*bytes≤140737488355328) (h63:n+m≤140737488355328) (hbase:base≤w.heap.size)
  (h:∀v' w',w'.ownsRow base e size v' (n+m) (xs++news)→w.grownBy w' v.ownBlock→(v'.ownBlock=v.ownBlock∨v'.ownBlock=some w.heap.size)→K (a.put o.dst v') w'):
  if Region.wanted o (yielded ops a.tmps)=true then Oper.wp P o a w K Q else G:=by
 obtain⟨i,hi,hz,hsize,hby⟩:=E.hi;obtain⟨b,off,rfl,hb,hc⟩:=hr.at_ hm;have hw:Region.wanted o (yielded ops a.tmps)=true:=by simp[Region.wanted,hgd]
 rw[if_pos hw];obtain⟨v',w',hrun,h2,h3,h4,h5⟩:=run_append_own_at (P:=P) w base t o.type e i z size bytes E.ht hi hz hsize hby E.hzs E.hsz v n xs hown ⟨b,off,none⟩ m c news hr.len (fun j u hu=>by rw[Addr.add_lit];exact hc j u hu) h1 (by unfold maxLen;omega) hbytes hbase
 unfold Oper.wp execOp
 simp only[ho,resolve,invoke,builtin,Sem.run_bind,Sem.run_pure,Result.andThen_ok,List.map_toArray,List.map_cons,List.map_nil,hs,hx,hrun];exact h v' w' h2 h3 h5
theorem bJ.newAt (w:World) (cs:List Value) (t:TypeId) (size n g:Nat) (hg:g=w.heap.size) (hl:cs.length=n*size) (hn:n≤maxLen):bJ (w.alloc (.cells cs.toArray t)) (g+1) size (some ⟨g,0,none⟩) n n cs:=by
 subst hg;exact bJ.new w cs t size n hl hn
section
variable {w w2 w3 : World} {lo : Nat} {v v' : Value}
theorem jH.lit (w:World) (lo:Nat) (xs:List Int) (hlo:lo≤w.heap.size) (hn:xs.length≤maxLen) (hwf:∀x∈xs,(Lit.int .i64 x).wf=true):
  jH (w.alloc (.cells (ints xs).toArray 3)) lo (.slice (some ⟨w.heap.size,0,none⟩) xs.length xs.length) xs [w.heap.size]:=
 ⟨World.ownsRow_lit w (ints xs).toArray xs.length hlo hn (by simp[ints]),hwf,rfl⟩
theorem jH.none (w:World) (lo:Nat):jH w lo (.slice .none 0 0) [] []:=⟨World.ownsRow_nil w lo _ 1,by simp,rfl⟩
structure sF (w:World) (lo:Nat) (v:Value) (xss:List (List Int)) (vs:List Value):Prop where
 row:w.ownsRow lo 23 1 v xss.length vs
 at_:∀(i:Nat) xs,xss[i]? =some xs→∃nv F,vs[i]? =some nv∧jH w lo nv xs F∧∀b∈F,v.ownBlock≠some b
theorem sF.none (w:World) (lo:Nat):sF w lo (.slice .none 0 0) [] []:=⟨World.ownsRow_nil w lo _ 1,by simp⟩
theorem sF.lit (w:World) (lo:Nat) (hlo:lo≤w.heap.size):sF (w.alloc (.cells #[] 23)) lo (.slice (some ⟨w.heap.size,0,.none⟩) 0 0) [] []:=
 ⟨World.ownsRow_lit w #[] 0 hlo (by unfold maxLen;omega) rfl,by simp⟩
theorem sF.abu {xss:List (List Int)} {vs:List Value} (h:sF w lo v xss vs):vs.length=xss.length:=by have:=h.row.1;omega
theorem sF.app {xss:List (List Int)} {vs:List Value} {n:Nat} {nv:Value} {xs:List Int} {F:List Nat} (h:sF w lo v xss vs) (hlo:lo≤w.heap.size) (hb:Below w.heap.size w w2) (ho:jH w2 w.heap.size nv xs F) (hn:n=xss.length+1)
  (hown:w3.ownsRow lo 23 1 v' n (vs++[nv])) (hg:w2.grownBy w3 v.ownBlock) (hat:v'.ownBlock=v.ownBlock∨v'.ownBlock=some w2.heap.size):sF w3 lo v' (xss++[xs]) (vs++[nv]):=by
 have hl:=h.abu;have hs:=hb.size;refine⟨by subst hn;simpa using hown,fun i ys hi=>?_⟩
 rcases Nat.lt_or_ge i xss.length with hlt | hge
 ·rw[List.getElem?_append_left hlt] at hi;obtain⟨nv0,F0,h1,h2,h3⟩:=h.at_ i ys hi;refine⟨nv0,F0,by rw[List.getElem?_append_left (by omega)];exact h1,h2.keep fun b hx=>?_,fun b hx=>?_⟩
  ·have hbl:=h2.lt b hx;exact(hg.block b (by omega) (fun e=>h3 b hx (by first | exact e | exact e.symm))).trans (hb.block b hbl.2)
  ·have hbl:=h2.lt b hx
   rcases hat with e | e
   ·rw[e];exact h3 b hx
   ·rw[e];intro hh;injection hh with hh;omega
 ·have hi0:i=xss.length:=by
   have:=(bI.1 hi).1
   simp at this;omega
  subst hi0;rw[List.getElem?_append_right (aA _),Nat.sub_self] at hi;simp only[List.getElem?_cons_zero,Option.some.injEq] at hi;subst hi;have hvb:∀b∈F,v.ownBlock≠some b:=fun b hx hv=>by have:=h.row.lt b hv;have:=ho.lt b hx;omega
  refine⟨nv,F,by rw[List.getElem?_append_right (by omega),hl,Nat.sub_self];rfl,(ho.keep fun b hx=>?_).mono hlo,fun b hx=>?_⟩
  ·exact hg.block b (ho.lt b hx).2 (fun e=>hvb b hx (by first | exact e | exact e.symm))
  ·rcases hat with e | e
   ·rw[e];exact hvb b hx
   ·rw[e];intro hh;injection hh with hh;have:=(ho.lt b hx).2;omega
structure WW (w:World) (B:Nat) (A:Option Addr) (n c:Nat) (xss:List (List Int)):Prop where
 len:xss.length=n
 cap:n≤c
 dw:c≤maxLen
 at_:0<n→∃b off,A=some ⟨b,off,.none⟩∧b<B∧∀(i:Nat) xs,xss[i]? =some xs→∃Ai ci,w.cell? ⟨b,off+i,.none⟩=some (.slice Ai xs.length ci)∧jd .i64 w B Ai xs.length ci xs
theorem WW.below {A:Option Addr} {n c B:Nat} {xss:List (List Int)} (h:WW w B A n c xss) (hb:Below B w w2):WW w2 B A n c xss:=
 ⟨h.len,h.cap,h.dw,fun hn=>by
  obtain⟨b,off,e,hbl,hc⟩:=h.at_ hn;refine⟨b,off,e,hbl,fun i xs hi=>?_⟩;obtain⟨Ai,ci,h1,h2⟩:=hc i xs hi
  exact⟨Ai,ci,(aF hb b _ hbl).trans h1,h2.below hb⟩⟩
theorem WW.get {A:Option Addr} {n c B k:Nat} {xss:List (List Int)} (h:WW w B A n c xss) (hk:k<n):∃b off xs Ai ci,A=some ⟨b,off,.none⟩∧b<B∧xss[k]? =some xs∧w.cell? ⟨b,off+k,.none⟩=some (.slice Ai xs.length ci)∧jd .i64 w B Ai xs.length ci xs:=by
 obtain⟨b,off,e,hbl,hc⟩:=h.at_ (by omega);have hl:k<xss.length:=by rw[h.len];exact hk
 obtain⟨Ai,ci,h1,h2⟩:=hc k _ (bH hl);exact⟨b,off,_,Ai,ci,e,hbl,bH hl,h1,h2⟩
theorem sF.rd {xss:List (List Int)} {vs:List Value} (h:sF w lo v xss vs):∃A c,v= .slice A xss.length c∧WW w w.heap.size A xss.length c xss:=by
 rcases h.row.2 with⟨rfl,h0⟩ | ⟨g,cap,cur,rfl,hg,hh,h3,h4,h5,h6⟩
 ·exact⟨.none,0,by rw[h0],rfl,by omega,by unfold maxLen;omega,fun hn=>by omega⟩
 ·refine⟨_,_,rfl,rfl,h3,h4,fun _=>⟨g,0,rfl,(Array.getElem?_eq_some_iff.1 hh).1,fun i xs hi=>?_⟩⟩;have hl:i<xss.length:=(bI.1 hi).1;obtain⟨nv,F,q1,q2,-⟩:=h.at_ i xs hi;obtain⟨A,c,rfl,hr⟩:=q2.rd;refine⟨A,c,?_,hr⟩
  have:=h.row.cellAt i (by have:=h.abu;omega)
  rw[Nat.zero_add];exact this.trans q1
structure jZ (w:World) (lo T:Nat) (v:Value) (ds:List au) (cells:List Value) (Fs:List (List Nat)):Prop where
 own:jG w lo v ds (v.ownBlock.toList++Fs.flatten) cells Fs
 nodup:(v.ownBlock.toList++Fs.flatten).Nodup
 apart:T∉v.ownBlock.toList++Fs.flatten
theorem jZ.none (w:World) (lo T:Nat):jZ w lo T (.slice .none 0 0) [] [] []:=
 ⟨⟨World.ownsRow_nil w lo _ 4,by simp,rfl,rfl,by simp⟩,by simp[Value.ownBlock],by simp[Value.ownBlock]⟩
theorem jZ.lit (w:World) (lo T:Nat) (hlo:lo≤w.heap.size) (hT:T≠w.heap.size):jZ (w.alloc (.cells #[] 144)) lo T (.slice (some ⟨w.heap.size,0,.none⟩) 0 0) [] [] []:=
 ⟨⟨World.ownsRow_lit w #[] 0 hlo (by unfold maxLen;omega) rfl,by simp,rfl,rfl,by simp⟩,by simp[Value.ownBlock],by simp[Value.ownBlock,hT]⟩
section
variable {T : Nat} {ds : List au} {cells : List Value} {Fs : List (List Nat)}
theorem jZ.below (h:jZ w lo T v ds cells Fs) (hb:Below w.heap.size w w2):jZ w2 lo T v ds cells Fs:=⟨h.own.below hb,h.nodup,h.apart⟩
theorem jZ.only (h:jZ w lo T v ds cells Fs) (hb:Only [T] w w2):jZ w2 lo T v ds cells Fs:=
 ⟨h.own.keep fun b hx=>hb.block b (h.own.lt b hx).2 (by simp only[List.mem_singleton];rintro rfl;exact h.apart hx),h.nodup,h.apart⟩
theorem jZ.ne (h:jZ w lo T v ds cells Fs):v.ownBlock≠some T:=fun e=>h.apart (by rw[e];simp)
theorem jZ.app {n:Nat} {nv:Value} {d:au} {F:List Nat} (h:jZ w lo T v ds cells Fs) (hlo:lo≤w.heap.size) (hT:T<w.heap.size) (hb:Below w.heap.size w w2) (ho:jH w2 w.heap.size nv d.need F) (hs:d.need.length≤1048576)
  (hwf:(Lit.int .i64 d.on).wf=true∧(Lit.int .i64 d.off).wf=true∧(Lit.int .i64 d.flip).wf=true) (hsm:ds.length+1≤1048576) (hn:n=ds.length+1)
  (hown:w3.ownsRow lo 144 4 v' n (cells++[nv,.int .i64 d.on,.int .i64 d.off,.int .i64 d.flip])) (hg:w2.grownBy w3 v.ownBlock) (hat:v'.ownBlock=v.ownBlock∨v'.ownBlock=some w2.heap.size):
  jZ w3 lo T v' (ds++[d]) (cells++[nv,.int .i64 d.on,.int .i64 d.off,.int .i64 d.flip]) (Fs++[F]):=by
 have hsz:=hb.size;have hcl:cells.length=ds.length*4:=h.own.row.1;have hfl:=h.own.IA;have hlt:=h.own.lt;have hnd:=h.nodup;have hap:=h.apart
 have hold:∀b∈Fs.flatten,w3.heap[b]? =w.heap[b]? :=fun b hx=>by
  have hbl:=hlt b (List.mem_append_right _ hx)
  have hne:v.ownBlock≠some b:=fun e=>by
   rw[e,List.nodup_append] at hnd;exact hnd.2.2 b (by simp) b hx rfl
  exact(hg.block b (by omega) (fun e=>hne (by first | exact e | exact e.symm))).trans (hb.block b hbl.2)
 have Ul:∀b∈F,w3.heap[b]? =w2.heap[b]? :=fun b hx=>by
  have hbl:=ho.lt b hx;refine hg.block b hbl.2 (fun e=>?_);have hv:v.ownBlock=some b:=by first | exact e | exact e.symm
  have:=(hlt b (by rw[hv];simp)).2
  omega
 have hvl:∀b∈v'.ownBlock.toList,b∉Fs.flatten∧b∉F∧b≠T:=fun b hx=>by
  have hx:v'.ownBlock=some b:=by simpa using hx
  rcases hat with e | e
  ·have hv:v.ownBlock=some b:=by rw[←e];exact hx
   rw[hv] at hap;rw[hv,List.nodup_append] at hnd;refine⟨fun hh=>hnd.2.2 b (by simp) b hh rfl,fun hh=>?_,fun hh=>?_⟩
   ·have:=(hlt b (by rw[hv];simp)).2;have:=(ho.lt b hh).1;omega
   ·exact hap (by simp[hh])
  ·have hv:b=w2.heap.size:=by rw[e] at hx;injection hx with hx;exact hx.symm
   refine⟨fun hh=>?_,fun hh=>?_,by omega⟩
   ·have:=(hlt b (List.mem_append_right _ hh)).2;omega
   ·have:=(ho.lt b hh).2;omega
 refine⟨⟨by subst hn;simpa using hown,by simpa using hsm,by simp[hfl],rfl,fun i e Fi he hF=>?_⟩,?_,?_⟩
 ·rcases Nat.lt_or_ge i ds.length with hi | hi
  ·rw[List.getElem?_append_left (by omega)] at hF;rw[List.getElem?_append_left hi] at he;obtain⟨nv',q0,q1,q2,q3,q4,r⟩:=h.own.deed i e Fi he hF;refine⟨nv',?_,?_,?_,?_,q4.keep fun b hx=>hold b (oH hF hx),r⟩
   ·rw[List.getElem?_append_left (by omega)];exact q0
   ·rw[List.getElem?_append_left (by omega)];exact q1
   ·rw[List.getElem?_append_left (by omega)];exact q2
   ·rw[List.getElem?_append_left (by omega)];exact q3
  ·have hik:i=ds.length:=by
    have:=(bI.1 he).1
    simp at this;omega
   subst hik;rw[List.getElem?_append_right (aA _),Nat.sub_self] at he;simp only[List.getElem?_cons_zero,Option.some.injEq] at he;subst he;rw[List.getElem?_append_right (by omega),hfl,Nat.sub_self] at hF;simp only[List.getElem?_cons_zero,Option.some.injEq] at hF;subst hF;refine⟨nv,?_,?_,?_,?_,(ho.keep Ul).mono hlo,hs,hwf⟩
   ·rw[List.getElem?_append_right (by omega),show ds.length*4-cells.length=0 by omega];rfl
   ·rw[List.getElem?_append_right (by omega),show ds.length*4+1-cells.length=1 by omega];rfl
   ·rw[List.getElem?_append_right (by omega),show ds.length*4+2-cells.length=2 by omega];rfl
   ·rw[List.getElem?_append_right (by omega),show ds.length*4+3-cells.length=3 by omega];rfl
 ·rw[List.flatten_append,List.nodup_append];refine⟨by cases v'.ownBlock<;>simp,?_,fun a ha b hb'=>?_⟩
  ·rw[List.nodup_append];refine⟨(List.nodup_append.1 hnd).2.1,by simpa using ho.nodup,fun a ha b hb'=>?_⟩;have h1:=(hlt a (List.mem_append_right _ ha)).2;have h3:=(ho.lt b (by simpa using hb')).1
   omega
  ·rcases List.mem_append.1 hb' with hb' | hb'
   ·rintro rfl;exact(hvl a ha).1 hb'
   ·rintro rfl;exact(hvl a ha).2.1 (by simpa using hb')
 ·rw[List.flatten_append,List.mem_append,List.mem_append];rintro(hx | hx | hx)
  ·exact(hvl T hx).2.2 rfl
  ·exact hap (List.mem_append_right _ hx)
  ·have:=(ho.lt T (by simpa using hx)).1;omega
end
end
def fM:List (List Int)→List Int
 | []=>[5]
 |x::r=>r.foldl (fun a y=>a++y++[8]) x
theorem Jj (xss:List (List Int)) (h:xss≠[]) (y:List Int):fM (xss++[y])=fM xss++y++[8]:=by
 cases xss with
 |nil=>exact absurd rfl h
 |cons x r=>simp[fM,List.foldl_append]
theorem Jk (xss:List (List Int)) (k:Nat) (h:1≤k) (y:List Int) (hy:xss[k]? =some y):fM (xss.take (k+1))=fM (xss.take k)++y++[8]:=by
 obtain⟨h1,h2⟩:=bI.1 hy;rw[List.take_succ_eq_append_getElem h1,h2];refine Jj _ ?_ _;intro e
 have:=congrArg List.length e
 rw[List.length_take,List.length_nil] at this
 omega
def kL (k:Nat):List Int:=[(k:Int),7]
def fC (m:Nat):List (List Int):=(List.range m).map kL
theorem ve (m:Nat):fC (m+1)=fC m++[kL m]:=by simp[fC,List.range_succ]
theorem lN (m:Nat):(fC m).length=m:=by simp[fC]
def acC:Nat→List Int
 |0=>[]
 |m+1=>if m=0 then [0,7] else acC m++[(m:Int),7]++[8]
theorem Aa (A:Option Addr) (n c:Nat) (xss:List (List Int)) (w:World) (h:WW w w.heap.size A n c xss) (hs:∀xs∈xss,xs.length≤64) (hn:n≤1024):
  Calls Tryz.prog 156 #[.slice A n c] w fun e w'=>(∃v F,e= .returned v∧jH w' w.heap.size v (fM xss) F∧(fM xss).length≤65*n+1)∧Below w.heap.size w w':=by
 have hl:=h.len;have hcp:=h.cap;have hcm:=h.dw
 unfold maxLen at hcm
 have HL:=af hl;clear hl
 by_cases h0:n=0
 ·subst h0;have hx:xss=[]:=List.eq_nil_of_length_eq_zero HL.out;subst hx;have HO:=af (jH.lit w w.heap.size [5] (aA _) (by unfold maxLen;simp) (by simp;rfl));go_enter Tryz.func156,Tryz.ntmps156;go_wp2;go_ret;exact⟨⟨_,_,rfl,HO.out,by simp[fM]⟩,(ai _ _).alloc (aA _) _⟩
 ·have hz:((n:Int) == 0)=false:=by simp;omega
  obtain⟨b,off,x0,A0,c0,rfl,hb,hx0,hc0,hr0⟩:=h.get (show 0<n by omega);have hc0':w.cell? ⟨b,off,none⟩=some (.slice A0 x0.length c0):=by simpa using hc0
  have Z5:jd .i64 (w.alloc (.cells #[] 3)) w.heap.size A0 x0.length c0 x0:=hr0.below ((ai _ _).alloc (aA _) _);have hsx:=hs x0 (bT hx0);have hol:(w.alloc (.cells #[] 3)).ownsRow w.heap.size 3 1 (.slice (some ⟨w.heap.size,0,none⟩) 0 0) 0 []:=World.ownsRow_lit w #[] 0 (aA _) (by unfold maxLen;omega) rfl
  have HX0:Hid (xss.take 1=[x0]):=af (by cases xss with
   |nil=>simp at hx0
   |cons y r=>simp at hx0;subst hx0;simp)
  clear hc0 hx0;go_enter Tryz.func156,Tryz.ntmps156
  go_wp2_with (at_builtin;refine cZ iR rfl _ _ rfl w.heap.size _ 0 [] rfl hol w.heap.size A0 x0.length c0 (ints x0) rfl Z5.row (gG _) (by omega) (by omega) (by simp) ?_;intro v2 w2 hown2 hg2 ug)
  have hb2:Below w.heap.size w w2:=((ai _ _).alloc (aA _) (.cells #[] 3)).grown hg2 (by simp) (fun k hk=>by have:=(hol.lt k hk).1;omega)
  have ho2:jH w2 w.heap.size v2 (fM (xss.take 1)) v2.ownBlock.toList:=by
   rw[HX0.out];exact⟨by simpa[fM] using hown2,hr0.wf,rfl⟩
  have hl2:(fM (xss.take 1)).length≤65*1+1:=by rw[HX0.out];simp[fM];omega
  have HO2:=af ho2;have HL2:=af hl2;have HB2:=af hb2;clear hown2 hg2 ug hol Z5 hr0 ho2 hl2 hb2;go_wp2
  go_loopw [4,3] (fun i v wr=>∃(k:Nat) (F:List Nat),1≤k∧k≤n∧i= .int .i64 k∧jH wr w.heap.size v (fM (xss.take k)) F∧(fM (xss.take k)).length≤65*k+1∧Below w.heap.size w wr) (fun i _ _=>n-(intOf i).toNat)
  case atStart=>exact⟨1,_,by omega,by omega,rfl,HO2.out,HL2.out,HB2.out⟩
  case round=>
   obtain⟨k,F,hk1,hk,rfl,ho,hlen,hbel⟩:=hrel
   by_cases hlt:k<n
   ·obtain⟨b',off',x,Ai,ci,e,hb',hx,hcx,hrx⟩:=h.get hlt;simp only[Option.some.injEq,Addr.mk.injEq] at e;obtain⟨rfl,rfl,-⟩:=e;have hcr:wr.cell? ⟨b,off+k,none⟩=some (.slice Ai x.length ci):=(aF hbel b _ hb').trans hcx;have hrr:=hrx.below hbel;have afn:=hs x (bT hx);have HC:=af (Jk xss k hk1 x hx);have hsz:=hbel.size;clear hcx hx
    go_wp2_with (first
     | (at_builtin;refine cZ iR rfl (.tmp 20) (.tmp 24) rfl w.heap.size _ _ _ rfl ho.row w.heap.size Ai x.length ci (ints x) rfl hrr.row (gG _) (by omega) (by omega) (by omega) ?_;intro v3 w3 hown3 hg3 mJ)
     | (at_builtin;refine cZ iR rfl (.tmp 25) (.tmp 26) rfl w.heap.size v3 _ _ rfl (hown3.alloc _) _ _ 1 1 [.int .i64 8] rfl (bJ.new w3 [.int .i64 8] 3 1 1 rfl (by unfold maxLen;omega)) (by simp[Value.oneCell']) (by omega) (by omega) (by have:=hg3.size;simp;omega) ?_;intro v4 w4 hown4 hg4 yO))
    have hs3:=hg3.size;have hb3:Below w.heap.size w w3:=hbel.grown hg3 hsz (fun j hj=>by have:=(ho.row.lt j hj).1;omega);have hb4:Below w.heap.size w w4:=(hb3.alloc (by omega) _).grown hg4 (by simp;omega) (fun j hj=>by have:=(hown3.lt j hj).1;omega)
    have ho4:jH w4 w.heap.size v4 (fM (xss.take (k+1))) v4.ownBlock.toList:=by
     rw[HC.out];refine⟨?_,?_,rfl⟩
     ·simp only[bQ,bM,List.length_nil,oJ] at hown4 ⊢
      exact hown4
     ·intro z hz
      rcases List.mem_append.1 hz with hz | hz
      ·rcases List.mem_append.1 hz with hz | hz
       ·exact ho.wf z hz
       ·exact hrx.wf z hz
      ·simp at hz;subst hz;rfl
    go_wp2
    go_roundw
    case rel=>
     refine⟨k+1,_,by omega,by omega,by go_num,ho4,?_,hb4⟩;rw[HC.out];simp;omega
    case measure=>simp[intOf];omega
   ·have hkn:k=n:=by omega
    subst hkn;have HT:Hid (xss.take k=xss):=af (by rw[←HL.out,List.take_length]);go_wp2;go_ret;rw[HT.out] at ho hlen;exact⟨⟨_,_,rfl,ho,hlen⟩,hbel⟩
theorem Vu:qE Tryz.prog 163 23 (.slice none 0 0) 1 24:=⟨Tryz.underlying163,info_parts (by kernel_rfl),rfl,by omega⟩
theorem OX (m:Nat) (w:World) (hm:m≤32):
  Calls Tryz.prog 155 #[.int .i64 m] w fun e w'=>(∃v F,e= .returned v∧jH w' w.heap.size v (fM (fC m)) F∧(fM (fC m)).length≤65*m+1)∧Below w.heap.size w w':=by
 have HP:=af (sF.lit w w.heap.size (aA _));go_enter Tryz.func155,Tryz.ntmps155;go_wp2
 go_loopw [4,3] (fun i v wr=>∃(k:Nat) (vs:List Value),k≤m∧i= .int .i64 k∧sF wr w.heap.size v (fC k) vs∧Below w.heap.size w wr) (fun i _ _=>m-(intOf i).toNat)
 case atStart=>exact⟨0,_,by omega,rfl,HP.out,(ai _ _).alloc (aA _) _⟩
 case round=>
  obtain⟨k,vs,hk,rfl,hp,hbel⟩:=hrel;have hsz:=hbel.size
  by_cases hlt:k<m
  ·have hrow:=hp.row;rw[lN] at hrow
   have ho:=jH.lit wr wr.heap.size (kL k) (aA _) (by simp[kL];unfold maxLen;omega) (by
    intro x hx
    simp[kL] at hx
    rcases hx with rfl | rfl
    ·exact bU (by omega)
    ·rfl)
   have HO:=af ho;have HK:=af (ve k);clear ho
   go_wp2_with (at_builtin;refine cZ Vu rfl _ _ rfl w.heap.size _ k vs rfl (hrow.alloc _ |>.alloc _) _ _ 1 1 [.slice (some ⟨wr.heap.size,0,none⟩) 2 2] rfl (bJ.newAt (wr.alloc (.cells #[.int .i64 k,.int .i64 7] 3)) [.slice (some ⟨wr.heap.size,0,none⟩) 2 2] 23 1 1 (wr.heap.size+1) (by simp) rfl (by unfold maxLen;omega)) (by simp[Value.oneCell']) (by omega) (by omega) (by simp;omega) ?_;intro v3 w3 hown3 hg3 mJ)
   have hp3:=hp.app hsz (((ai _ _).alloc (aA _) _).alloc (by simp) _) (HO.out.below ((ai _ _).alloc (aA _) (.cells #[.slice (some ⟨wr.heap.size,0,none⟩) 2 2] 23))) (by rw[lN]) hown3 hg3 mJ;rw[←HK.out] at hp3;have hb3:Below w.heap.size w w3:=((hbel.alloc hsz _).alloc (by simp;omega) _).grown hg3 (by simp;omega) (fun j hj=>by have:=(hrow.lt j hj).1;omega);clear hown3 hg3 mJ hrow;go_wp2
   go_roundw
   case rel=>exact⟨k+1,_,by omega,by go_num,hp3,hb3⟩
   case measure=>simp[intOf];omega
  ·have hkm:k=m:=by omega
   subst hkm;obtain⟨A,c,hv,hr⟩:=hp.rd;subst hv;rw[lN] at hr
   have HS:Hid (∀xs∈fC k,xs.length≤64):=af (by
    intro xs hx
    unfold fC at hx
    obtain⟨j,-,rfl⟩:=List.mem_map.1 hx
    simp[kL])
   simp only[lN];clear hp
   go_wp2_with fail
   refine(Aa A k c _ _ hr HS.out (by omega)).mono ?_;rintro e w2 ⟨⟨v2,F,rfl,ho,hl⟩,hb⟩;go_wp2;go_ret;exact⟨⟨_,_,rfl,ho.mono hsz,hl⟩,hbel.trans (hb.mono hsz)⟩
def WV (f:Nat) (x:Int):List Int:=if x<5∧bit f x.toNat=1 then [x,7] else [x]
def Yz (f:Nat) (xs:List Int):List Int:=xs.flatMap (WV f)
def Uz (f a b:Nat):Nat:=a-(a &&& f)+(b &&& f)
def abt (f:Nat) (d:au):au:=⟨Yz f d.need,(Uz f d.on.toNat d.off.toNat:Nat),(Uz f d.off.toNat d.on.toNat:Nat),d.flip⟩
def YB (f:Nat) (t:aB):aB:=⟨((t.start.toNat^^^f:Nat):Int),Yz f t.goal,t.ay.map (abt f)⟩
def ZQ (t:aB) (f:Int):Bool:=aK t&&iJ f&&aK (YB f.toNat t)
def ZR (t:aB) (f:Int):aB:=if ZQ t f=true then YB f.toNat t else⟨0,[],[]⟩
theorem pU.zero (w:World) (lo:Nat):pU w lo (.agg #[.int .i64 0,.slice none 0 0,.slice none 0 0]) ⟨0,[],[]⟩ []:=
 ⟨_,_,[],[],[],[],rfl,jH.none w lo,by simp,⟨World.ownsRow_nil w lo _ 4,by simp,rfl,by simp[Value.ownBlock],by simp⟩,rfl,rfl⟩
theorem pU.WU {w:World} {lo lo1 lo2 T:Nat} {gv dv:Value} {t:aB} {Fg:List Nat} {cells:List Value} {Fs:List (List Nat)} (hg:jH w lo1 gv t.goal Fg) (hgs:t.goal.length≤1048576) (hd:jZ w lo2 T dv t.ay cells Fs) (hst:(Lit.int .i64 t.start).wf=true)
  (h1:lo≤lo1) (h2:lo≤lo2) (h3:∀b∈Fg,b<lo2):pU w lo (.agg #[.int .i64 t.start,gv,dv]) t (Fg++(dv.ownBlock.toList++Fs.flatten))∧(Fg++(dv.ownBlock.toList++Fs.flatten)).Nodup:=by
 refine⟨⟨gv,dv,Fg,_,cells,Fs,rfl,hg.mono h1,hgs,hd.own.mono h2,rfl,hst⟩,?_⟩;rw[List.nodup_append];refine⟨hg.nodup,hd.nodup,fun a ha b hb=>?_⟩
 have:=h3 a ha
 have:=(hd.own.lt b hb).1
 omega
structure dh where
 at_:World→List Nat→Prop
 keep:∀(w w':World) (F:List Nat),at_ w F→(∀b∈F,w'.heap[b]? =w.heap[b]?)→at_ w' F
 lt:∀(w:World) (F:List Nat),at_ w F→∀b∈F,b<w.heap.size
 nd:∀(w:World) (F:List Nat),at_ w F→F.Nodup
structure St (w W:World) (L:List dh):Prop where
 below:Below w.heap.size w W
 has:∃Fs:List (List Nat),Fs.length=L.length∧(∀(i:Nat) R F,L[i]? =some R→Fs[i]? =some F→R.at_ W F∧∀b∈F,w.heap.size≤b)∧Fs.flatten.Nodup
theorem pV {Fs:List (List Nat)} (h:Fs.flatten.Nodup) {i j:Nat} {F G:List Nat} (hi:Fs[i]? =some F) (hj:Fs[j]? =some G) (hne:i≠j):∀b∈F,b∉G:=by
 intro b hb hg;have hi2:=(bI.1 hi).1;have hj2:=(bI.1 hj).1;have hp:=List.pairwise_iff_getElem.1 (List.pairwise_flatten.1 h).2
 rcases Nat.lt_or_gt_of_ne hne with h1 | h1
 ·exact hp i j hi2 hj2 h1 b (by rw[(bI.1 hi).2];exact hb) b (by rw[(bI.1 hj).2];exact hg) rfl
 ·exact hp j i hj2 hi2 h1 b (by rw[(bI.1 hj).2];exact hg) b (by rw[(bI.1 hi).2];exact hb) rfl
theorem rZ {Fs:List (List Nat)} (h1:∀(i:Nat) F,Fs[i]? =some F→F.Nodup) (h2:∀(i j:Nat) F G,i≠j→Fs[i]? =some F→Fs[j]? =some G→∀b∈F,b∉G):Fs.flatten.Nodup:=by
 refine List.pairwise_flatten.2 ⟨fun F hF=>?_,List.pairwise_iff_getElem.2 fun i j hi hj hlt a ha b hb e=>?_⟩
 ·obtain⟨i,hi⟩:=List.mem_iff_getElem?.1 hF;exact h1 i F hi
 ·subst e;exact h2 i j _ _ (by omega) (bH hi) (bH hj) a ha hb
section
variable {w W W' : World} {L L' : List dh}
theorem St.refl (w:World):St w w []:=⟨ai _ _,[],rfl,by simp,by simp⟩
theorem St.size (h:St w W L):w.heap.size≤W.heap.size:=h.below.size
theorem St.get (h:St w W L) (i:Nat) {R:dh} (hi:L[i]? =some R):∃F,R.at_ W F∧∀b∈F,w.heap.size≤b:=by
 obtain⟨Fs,hl,ha,-⟩:=h.has;have h1:=(bI.1 hi).1;exact⟨_,ha i R _ hi (bH (show i<Fs.length by omega))⟩
theorem St.call (h:St w W L) (k:St W W' L'):St w W' (L++L'):=by
 obtain⟨Fs,hl,ha,hn⟩:=h.has;obtain⟨Gs,kl,ka,kn⟩:=k.has
 have hold:∀(i:Nat) F,Fs[i]? =some F→∃R,L[i]? =some R∧R.at_ W F∧∀b∈F,w.heap.size≤b:=fun i F hF=>by
  have hi:i<L.length:=by rw[←hl];exact(bI.1 hF).1
  exact⟨_,bH hi,ha i _ F (bH hi) hF⟩
 have hnew:∀(i:Nat) F,Gs[i]? =some F→∃R,L'[i]? =some R∧R.at_ W' F∧∀b∈F,W.heap.size≤b:=fun i F hF=>by
  have hi:i<L'.length:=by rw[←kl];exact(bI.1 hF).1
  exact⟨_,bH hi,ka i _ F (bH hi) hF⟩
 refine⟨h.below.trans (k.below.mono h.size),Fs++Gs,by simp[hl,kl],fun i R F hR hF=>?_,?_⟩
 ·rcases Nat.lt_or_ge i L.length with hi | hi
  ·rw[List.getElem?_append_left hi] at hR;rw[List.getElem?_append_left (by omega)] at hF;obtain⟨h1,h2⟩:=ha i R F hR hF;exact⟨R.keep W W' F h1 fun b hb=>k.below.block b (R.lt W F h1 b hb),h2⟩
  ·rw[List.getElem?_append_right hi] at hR;rw[List.getElem?_append_right (by omega),hl] at hF;obtain⟨h1,h2⟩:=ka _ R F hR hF;exact⟨h1,fun b hb=>Nat.le_trans h.size (h2 b hb)⟩
 ·rw[List.flatten_append,List.nodup_append];refine⟨hn,kn,fun a hA b hB e=>?_⟩;subst e;obtain⟨F,hF,hA⟩:=List.mem_flatten.1 hA;obtain⟨G,hG,hB⟩:=List.mem_flatten.1 hB;obtain⟨i,hi⟩:=List.mem_iff_getElem?.1 hF;obtain⟨j,hj⟩:=List.mem_iff_getElem?.1 hG;obtain⟨R,-,h1,-⟩:=hold i F hi;obtain⟨R',-,-,h2⟩:=hnew j G hj
  have:=R.lt W F h1 a hA
  have:=h2 a hB
  omega
theorem St.quiet (h:St w W L) (k:Below W.heap.size W W'):St w W' L:=by
 have:=h.call (L':=[]) ⟨k,[],rfl,by simp,by simp⟩
 simpa using this
theorem St.of_below (k:Below w.heap.size w W):St w W []:=(St.refl w).quiet k
theorem St.drew (h:St w W L):St w W.drew L:=h.quiet ((ai _ _).drew)
theorem St.drewN (h:St w W L) (n:Nat):St w (W.drewN n) L:=h.quiet (below_drewN (ai _ _) n)
theorem St.mod (h:St w W L) (i:Nat) {R R':dh} (hi:L[i]? =some R) (k:∀F,R.at_ W F→(∀b∈F,w.heap.size≤b)→∃F',R'.at_ W' F'∧(∀b∈F',b∈F∨W.heap.size≤b)∧Only F W W'):St w W' (L.set i R'):=by
 obtain⟨Fs,hl,ha,hn⟩:=h.has;have hiL:=(bI.1 hi).1;have hiF:Fs[i]? =some (Fs[i]'(by omega)):=bH _
 generalize Fs[i]'(by omega)=F at hiF
 obtain⟨h1,h2⟩:=ha i R F hi hiF;obtain⟨F',k1,k2,k3⟩:=k F h1 h2;have hw:=h.size
 have hat:∀(j:Nat) G,j≠i→Fs[j]? =some G→∃S,L[j]? =some S∧S.at_ W G∧(∀b∈G,w.heap.size≤b)∧(∀b∈G,b∉F)∧∀b∈G,b<W.heap.size:=fun j G hj hG=>by
  have hjl:j<L.length:=by rw[←hl];exact(bI.1 hG).1
  obtain⟨q1,q2⟩:=ha j _ G (bH hjl) hG;exact⟨_,bH hjl,q1,q2,pV hn hG hiF hj,dh.lt _ W G q1⟩
 refine⟨h.below.trans (k3.below h2 hw),Fs.set i F',by simp[hl],fun j S G hS hG=>?_,rZ (fun j G hG=>?_) (fun j l G H hne hG hH=>?_)⟩
 ·by_cases hj:j=i
  ·subst hj;rw[List.getElem?_set_self (by omega)] at hS hG
   injection hS with hS
   injection hG with hG
   subst hS hG;exact⟨k1,fun b hb=>(k2 b hb).elim (h2 b) (fun hx=>by omega)⟩
  ·rw[List.getElem?_set_ne (by omega)] at hS hG;obtain⟨S',e,q1,q2,q3,q4⟩:=hat j G hj hG;rw[hS] at e
   injection e with e
   subst e;exact⟨S.keep W W' G q1 fun b hb=>k3.block b (q4 b hb) (q3 b hb),q2⟩
 ·by_cases hj:j=i
  ·subst hj;rw[List.getElem?_set_self (by omega)] at hG
   injection hG with hG
   subst hG;exact R'.nd W' _ k1
  ·rw[List.getElem?_set_ne (by omega)] at hG;obtain⟨S',e,q1,-⟩:=hat j G hj hG;exact S'.nd W _ q1
 ·have key:∀(j:Nat) G,j≠i→(Fs.set i F')[j]? =some G→∀b∈G,b∉F':=fun j G hj hG b hb hf=>by
   rw[List.getElem?_set_ne (by omega)] at hG;obtain⟨S',e,q1,q2,q3,q4⟩:=hat j G hj hG
   rcases k2 b hf with hx | hx
   ·exact q3 b hb hx
   ·have:=q4 b hb;omega
  have hself:∀G,(Fs.set i F')[i]? =some G→G=F':=fun G hG=>by
   rw[List.getElem?_set_self (by omega)] at hG
   injection hG with hG;exact hG.symm
  by_cases hj:j=i
  ·subst hj
   have:=hself G hG
   subst this;intro b hb hb';exact key l H (by omega) hH b hb' hb
  ·by_cases hl':l=i
   ·subst hl'
    have:=hself H hH
    subst this;exact key j G hj hG
   ·rw[List.getElem?_set_ne (by omega)] at hG hH;exact pV hn hG hH hne
theorem St.pick (h:St w W L) (ix:List Nat) (hn:ix.Nodup) (hl':(ix.all fun i=>decide (i<L.length))=true) {L':List dh} (e:ix.filterMap (fun i=>L[i]?)=L'):St w W L':=by
 have hl:∀i∈ix,i<L.length:=by simpa using hl'
 subst e;obtain⟨Fs,kl,ha,hnd⟩:=h.has
 have hmap:∀(T:Type) (l:List T) (hh:l.length=L.length),ix.filterMap (fun i=>l[i]?)=ix.attach.map (fun i=>l[i.1]'(by have:=hl i.1 i.2;omega)):=fun T l hh=>by
  conv=>lhs;rw[←List.attach_map_subtype_val ix]
  rw[List.filterMap_map];rw[←List.filterMap_eq_map]
  congr 1
  funext i
  simp only[Function.comp];exact bH (by have:=hl i.1 i.2;omega)
 have hL:=hmap _ L rfl;have hF:=hmap _ Fs kl
 have hsrc:∀(T:Type) (l:List T),l.length=L.length→∀(i:Nat) R,(ix.filterMap (fun i=>l[i]?))[i]? =some R→∃j,ix[i]? =some j∧l[j]? =some R:=fun T l hh i R hR=>by
  rw[hmap T l hh,List.getElem?_map] at hR;obtain⟨j,hj,hR⟩:=Option.map_eq_some_iff.1 hR
  have hj':ix[i]? =some j.1:=by
   have:=congrArg (Option.map Subtype.val) hj
   rw[←List.getElem?_map,List.attach_map_subtype_val] at this;exact this
  exact⟨j.1,hj',by rw[←hR];exact bH _⟩
 refine⟨h.below,ix.filterMap (fun i=>Fs[i]?),by rw[hL,hF];simp,fun i R F hR hF=>?_,rZ (fun i F hF=>?_) (fun i j F G hne hF hG=>?_)⟩
 ·obtain⟨j,q1,q2⟩:=hsrc _ L rfl i R hR;obtain⟨j',q3,q4⟩:=hsrc _ Fs kl i F hF;rw[q1] at q3
  injection q3 with q3
  subst q3;exact ha j R F q2 q4
 ·obtain⟨j',q3,q4⟩:=hsrc _ Fs kl i F hF;have hj:j'<L.length:=by rw[←kl];exact(bI.1 q4).1
  exact dh.nd _ W F (ha j' _ F (bH hj) q4).1
 ·obtain⟨j1,q3,q4⟩:=hsrc _ Fs kl i F hF;obtain⟨j2,q5,q6⟩:=hsrc _ Fs kl j G hG;refine pV hnd q4 q6 fun e=>hne ?_
  subst e;obtain⟨a1,a2⟩:=bI.1 q3;obtain⟨b1,b2⟩:=bI.1 q5;exact(List.getElem_inj (hn)).1 (a2.trans b2.symm)
theorem St.join {Dk KH:dh} (h:St w W (Dk::KH::L)) {R:dh} (k:∀F G,Dk.at_ W F→KH.at_ W G→(F++G).Nodup→(∀b∈F++G,w.heap.size≤b)→R.at_ W (F++G)):St w W (R::L):=by
 obtain⟨Fs,kl,ha,hnd⟩:=h.has
 match Fs,kl,ha,hnd with
 |F::G::Fs,kl,ha,hnd=>
  obtain⟨a1,a2⟩:=ha 0 _ F rfl rfl;obtain⟨b1,b2⟩:=ha 1 _ G rfl rfl;have hnd':((F++G)++Fs.flatten).Nodup:=by simpa using hnd
  have hlo:∀b∈F++G,w.heap.size≤b:=fun b hb=>(List.mem_append.1 hb).elim (a2 b) (b2 b)
  refine⟨h.below,(F++G)::Fs,by simpa using kl,fun i R' F' hR hF=>?_,by simpa using hnd⟩
  match i with
  |0=>
   injection hR with hR
   injection hF with hF
   subst hR hF;exact⟨k F G a1 b1 (List.nodup_append.1 hnd').1 hlo,hlo⟩
  |i+1=>exact ha (i+2) R' F' hR hF
theorem St.see {Dk:dh} (h:St w W (Dk::L)) {R:dh} (k:∀F,Dk.at_ W F→(∀b∈F,w.heap.size≤b)→R.at_ W F):St w W (R::L):=by
 obtain⟨Fs,kl,ha,hnd⟩:=h.has;refine⟨h.below,Fs,by simpa using kl,fun i R' F' hR hF=>?_,hnd⟩
 match i with
 |0=>
  injection hR with hR
  subst hR;obtain⟨a1,a2⟩:=ha 0 _ F' rfl hF;exact⟨k F' a1 a2,a2⟩
 |i+1=>exact ha (i+1) R' F' hR hF
end
def ah (g:Nat) (t:TypeId) (cs:Array Value):dh where
 at_ w F:=fU w g t cs∧F=[g]
 keep w w' F h hk:=⟨(hk g (by rw[h.2];simp)).trans h.1,h.2⟩
 lt w F h b hb:=by obtain⟨h1,rfl⟩:=h;simp at hb;subst hb;exact h1.lt
 nd w F h:=by obtain⟨h1,rfl⟩:=h;simp
def rRow (e:TypeId) (size:Nat) (v:Value) (n:Nat) (cells:List Value):dh where
 at_ w F:=w.ownsRow 0 e size v n cells∧F=v.ownBlock.toList
 keep w w' F h hk:=⟨mM h.1 fun b hb=>hk b (by rw[h.2,hb];simp),h.2⟩
 lt w F h b hb:=by obtain⟨h1,rfl⟩:=h;exact(h1.lt b (by simpa using hb)).2
 nd w F h:=by obtain⟨h1,rfl⟩:=h;cases v.ownBlock<;>simp
def ax (v:Value) (xs:List Int):dh where
 at_ w F:=jH w 0 v xs F
 keep w w' F h hk:=h.keep hk
 lt w F h b hb:=(h.lt b hb).2
 nd w F h:=h.nodup
def fD (v:Value) (ds:List au):dh where
 at_ w F:=∃cells Fs,jG w 0 v ds F cells Fs∧F.Nodup
 keep w w' F h hk:=by obtain⟨c,Fs,h1,h2⟩:=h;exact⟨c,Fs,h1.keep hk,h2⟩
 lt w F h b hb:=by obtain⟨c,Fs,h1,h2⟩:=h;exact(h1.lt b hb).2
 nd w F h:=by obtain⟨c,Fs,h1,h2⟩:=h;exact h2
def lI (v:Value) (t:aB):dh where
 at_ w F:=pU w 0 v t F∧F.Nodup
 keep w w' F h hk:=⟨h.1.keep hk,h.2⟩
 lt w F h b hb:=(h.1.lt b hb).2
 nd w F h:=h.2
def NM (Rs:List dh):dh where
 at_ w F:=∃Fs:List (List Nat),Fs.length=Rs.length∧(∀(i:Nat) R G,Rs[i]? =some R→Fs[i]? =some G→R.at_ w G)∧Fs.flatten.Nodup∧F=Fs.flatten
 keep w w' F h hk:=by
  obtain⟨Fs,h1,h2,h3,rfl⟩:=h;exact⟨Fs,h1,fun i R G hR hG=>R.keep w w' G (h2 i R G hR hG) fun b hb=>hk b (oH hG hb),h3,rfl⟩
 lt w F h b hb:=by
  obtain⟨Fs,h1,h2,h3,rfl⟩:=h;obtain⟨G,hG,hb⟩:=List.mem_flatten.1 hb;obtain⟨i,hi⟩:=List.mem_iff_getElem?.1 hG;have hl:i<Rs.length:=by rw[←h1];exact(bI.1 hi).1
  exact dh.lt _ w G (h2 i _ G (bH hl) hi) b hb
 nd w F h:=by obtain⟨Fs,h1,h2,h3,rfl⟩:=h;exact h3
theorem zG {w:World} {lo base:Nat} {e:TypeId} {size n:Nat} {v:Value} {xs:List Value} (h:w.ownsRow base e size v n xs) (hb:∀b,v.ownBlock=some b→lo≤b):w.ownsRow lo e size v n xs:=by
 refine⟨h.1,?_⟩
 rcases h.2 with h | ⟨g,cap,cur,rfl,hg,r⟩
 ·exact .inl h
 ·exact .inr ⟨g,cap,cur,rfl,hb g rfl,r⟩
section
variable {w W W' : World} {L L' : List dh}
theorem St.alloc (h:St w W L) (cs:Array Value) (t:TypeId):St w (W.alloc (.cells cs t)) (L++[ah W.heap.size t cs]):=
 h.call ⟨(ai _ _).alloc (aA _) _,[[W.heap.size]],rfl,fun i R F hR hF=>by
  match i with
  |0=>
   injection hR with hR;injection hF with hF;subst hR hF
   exact⟨⟨fU.new W t cs,rfl⟩,by simp⟩
  |i+1=>simp at hR,by simp⟩
theorem St.set (h:St w W L) (i:Nat) {g:Nat} {t:TypeId} {cs:Array Value} (hi:L[i]? =some (ah g t cs)) (j:Nat) (u:Value):St w (W.setCell ⟨g,j,none⟩ u) (L.set i (ah g t (cs.setIfInBounds j u))):=
 h.mod i hi fun F ⟨h1,h2⟩ _=>⟨F,⟨h1.nM j u,h2⟩,fun b hb=>.inl hb,(Only.refl F W).set (by rw[h2];simp) u⟩
theorem St.blk (h:St w W L) (i:Nat) {g:Nat} {t:TypeId} {cs:Array Value} (hi:L[i]? =some (ah g t cs)):fU W g t cs:=by
 obtain⟨F,h1,-⟩:=h.get i hi;exact h1.1
theorem St.cells (h:St w W L) (i:Nat) {g:Nat} {t:TypeId} {cs:Array Value} (hi:L[i]? =some (ah g t cs)):∀j,W.cell? ⟨g,j,none⟩=cs[j]? :=(h.blk i hi).cell
theorem St.free (h:St w W L) (i:Nat) {g:Nat} {t:TypeId} {cs:Array Value} (hi:L[i]? =some (ah g t cs)):∀j,W.frozen? ⟨g,j,none⟩=false:=(h.blk i hi).frozen
theorem St.row (h:St w W L) (i:Nat) {e:TypeId} {size n:Nat} {v:Value} {cells:List Value} (hi:L[i]? =some (rRow e size v n cells)):W.ownsRow w.heap.size e size v n cells:=by
 obtain⟨F,h1,h2⟩:=h.get i hi;exact zG h1.1 fun b hb=>h2 b (by rw[h1.2,hb];simp)
theorem St.new (h:St w W L) (i:Nat) {g:Nat} {t:TypeId} {cs:Array Value} (hi:L[i]? =some (ah g t cs)):w.heap.size≤g∧g<W.heap.size:=by
 obtain⟨F,h1,h2⟩:=h.get i hi;exact⟨h2 g (by rw[h1.2];simp),h1.1.lt⟩
theorem St.app (h:St w W L) (i:Nat) {e:TypeId} {size n m:Nat} {v v':Value} {cells cells':List Value} (hi:L[i]? =some (rRow e size v n cells))
  (hown:W'.ownsRow w.heap.size e size v' m cells') (hg:W.grownBy W' v.ownBlock) (hat:v'.ownBlock=v.ownBlock∨v'.ownBlock=some W.heap.size):St w W' (L.set i (rRow e size v' m cells')):=
 h.mod i hi fun F ⟨h1,h2⟩ _=>⟨v'.ownBlock.toList,⟨qY hown (Nat.zero_le _),rfl⟩,fun b hb=>by
  rcases hat with e | e
  ·left;rw[h2,←e];exact hb
  ·right;rw[e] at hb;simp at hb;omega,by rw[h2];exact Only.lJ hg⟩
theorem St.ints (h:St w W L) (i:Nat) {v:Value} {xs:List Int} (hi:L[i]? =some (ax v xs)):∃F,jH W w.heap.size v xs F:=by
 obtain⟨F,h1,h2⟩:=h.get i hi;exact⟨F,zG h1.row fun b hb=>h2 b (by rw[h1.foot,hb];simp),h1.wf,h1.foot⟩
theorem St.uj (h:St w W L) (i:Nat) {v:Value} {xs:List Int} (hi:L[i]? =some (ax v xs)):∃A c,v= .slice A xs.length c∧jd .i64 W W.heap.size A xs.length c xs:=by
 obtain⟨F,h1⟩:=h.ints i hi;exact h1.rd
theorem St.rdT (h:St w W L) (i:Nat) {v:Value} {t:aB} (hi:L[i]? =some (lI v t)):oW W W.heap.size v t:=by
 obtain⟨F,h1,-⟩:=h.get i hi;exact h1.1.rd
theorem St.WQ (h:St w W L) (i:Nat) {v:Value} {ds:List au} (hi:L[i]? =some (fD v ds)):∃A c,v= .slice A ds.length c∧abo W W.heap.size A ds.length c ds:=by
 obtain⟨F,⟨cells,Fs,h1,-⟩,-⟩:=h.get i hi;exact h1.rd
end
theorem St.CG {w W:World} {v:Value} {xs:List Int} {F:List Nat} (h:jH W w.heap.size v xs F) (hb:Below w.heap.size w W):St w W [ax v xs]:=
 ⟨hb,[F],rfl,fun i R G hR hG=>by
  match i with
  |0=>
   injection hR with hR;injection hG with hG;subst hR hG
   exact⟨h.mono (Nat.zero_le _),fun b hb=>(h.lt b hb).1⟩
  |i+1=>simp at hR,by simpa using h.nodup⟩
theorem St.P9 {w W:World} {v:Value} {t:aB} {F:List Nat} (h:pU W w.heap.size v t F) (hn:F.Nodup) (hb:Below w.heap.size w W):St w W [lI v t]:=
 ⟨hb,[F],rfl,fun i R G hR hG=>by
  match i with
  |0=>
   injection hR with hR;injection hG with hG;subst hR hG
   exact⟨⟨h.mono (Nat.zero_le _),hn⟩,fun b hb=>(h.lt b hb).1⟩
  |i+1=>simp at hR,by simpa using hn⟩
def opt:Option Nat→Int
 |some s=>s
 |none=>-1
theorem qf {o:Option Nat}:0≤opt o↔∃s,o=some s:=by cases o<;>simp[opt]
def behind (d:au) (s:Nat):Nat:=((s ||| d.on.toNat)-((s ||| d.on.toNat) &&& d.off.toNat))^^^d.flip.toNat
def bD (d:au) (s:Nat):Option Nat:=if aH d.need s then some (behind d s) else none
def mr (t:aB) (s:Nat) (k:Int):Option Nat:=if 0≤k∧k<t.ay.length then(t.ay[k.toNat]?).bind (bD · s) else none
def jY (t:aB):Nat→List Int→Option Nat
 |s,[]=>some s
 |s,k::ks=>(mr t s k).bind fun s'=>jY t s' ks
def aC (t:aB) (s:Int) (p:List Int):Int:=if aK t=true∧iJ s=true∧p.length≤40 then opt (jY t s.toNat p) else -1
theorem qH (t:aB) (s:Nat) (p q:List Int):jY t s (p++q)=(jY t s p).bind fun s'=>jY t s' q:=by
 induction p generalizing s with
 |nil=>rfl
 |cons k p ih=>
  simp only[List.cons_append,jY]
  cases mr t s k with
  |none=>rfl
  |some s'=>simp[ih]
theorem zK (t:aB) (s:Nat) (p:List Int) (k:Nat) (x:Int) (hx:p[k]? =some x) (s':Nat) (h:jY t s (p.take k)=some s'):jY t s (p.take (k+1))=mr t s' x:=by
 obtain⟨h1,h2⟩:=bI.1 hx;rw[List.take_succ_eq_append_getElem h1,h2,qH,h];simp only[Option.bind_some,jY]
 cases mr t s' x<;>rfl
theorem KT (t:aB) (s:Nat) (p:List Int) (k:Nat) (x:Int) (hx:p[k]? =some x) (s':Nat) (h:jY t s (p.take k)=some s') (hs:mr t s' x=none):jY t s p=none:=by
 obtain⟨h1,h2⟩:=bI.1 hx
 conv=>lhs;rw[←List.take_append_drop k p]
 rw[qH,h,List.drop_eq_getElem_cons h1,h2]
 simp[jY,hs]
theorem IK {a b:Nat} (h:a<32) (h':b<32):a ||| b<32:=Nat.or_lt_two_pow (n:=5) h h'
theorem kW (d:au) (h:bK d=true):codeOk d.need=true∧(0≤d.on∧d.on<32)∧(0≤d.off∧d.off<32)∧(0≤d.flip∧d.flip<32)∧d.on.toNat &&& d.off.toNat=0∧d.on.toNat &&& d.flip.toNat=0∧d.off.toNat &&& d.flip.toNat=0:=by
 unfold bK IG at h
 simp only[Bool.and_eq_true,decide_eq_true_eq] at h;obtain⟨⟨⟨⟨h1,h2⟩,h3⟩,h4⟩,⟨h5,h6⟩,h7⟩:=h;exact⟨h1,(aV _).1 h2,(aV _).1 h3,(aV _).1 h4,h5,h6,h7⟩
theorem aJ (t:aB) (h:aK t=true):(0≤t.start∧t.start<32)∧codeOk t.goal=true∧t.ay.length≤6∧∀d∈t.ay,bK d=true:=by
 unfold aK at h
 simp only[Bool.and_eq_true,decide_eq_true_eq,List.all_eq_true] at h;exact⟨(aV _).1 h.1.1.1,h.1.1.2,h.1.2,h.2⟩
theorem zL (d:au) (s:Nat) (h:bK d=true) (hs:s<32):behind d s<32:=by
 obtain⟨-,h1,h2,h3,-⟩:=kW d h;exact abr _ _ (Nat.lt_of_le_of_lt (Nat.sub_le _ _) (IK hs (by omega))) (by omega)
theorem iy (d:au) (s s':Nat) (h:bK d=true) (hs:s<32) (e:bD d s=some s'):s'<32:=by
 unfold bD at e
 split at e
 ·injection e with e;subst e;exact zL d s h hs
 ·cases e
theorem Uy (t:aB) (s:Nat) (k:Int) (s':Nat) (h:aK t=true) (hs:s<32) (e:mr t s k=some s'):s'<32:=by
 unfold mr at e
 split at e
 ·obtain⟨d,hd,e⟩:=Option.bind_eq_some_iff.1 e;exact iy d s s' ((aJ t h).2.2.2 d (bT hd)) hs e
 ·cases e
theorem CP (t:aB) (s:Nat) (p:List Int) (s':Nat) (h:aK t=true) (hs:s<32) (e:jY t s p=some s'):s'<32:=by
 induction p generalizing s with
 |nil=>simp only[jY,Option.some.injEq] at e;omega
 |cons k p ih=>
  simp only[jY] at e;obtain⟨s1,h1,e⟩:=Option.bind_eq_some_iff.1 e;exact ih s1 (Uy t s k s1 h hs h1) e
theorem KU (d:au) (s:Nat) (hs:s<32) (h:bK d=true):
  bits .xor .i64 (bits .andNot .i64 (bits .or .i64 (s:Int) d.on) d.off) d.flip=(behind d s:Nat):=by
 obtain⟨-,h1,h2,h3,-⟩:=kW d h;have e1:=toNat_cast h1.1;have e2:=toNat_cast h2.1;have e3:=toNat_cast h3.1;have ho:s ||| d.on.toNat<32:=IK hs (by omega)
 rw[←e1,←e2,←e3,nT _ _ (by omega) (by omega),uI _ _ (by omega) (by omega),AX _ _ (by omega) (by omega)]
 simp[behind]
theorem KW (d:au) (s:Nat) (h:bK d=true):behind d s=((s ||| d.on.toNat)-(s &&& d.off.toNat))^^^d.flip.toNat:=by
 obtain⟨-,h1,h2,h3,h4,-⟩:=kW d h
 unfold behind
 rw[Nat.and_or_distrib_right,h4,Nat.or_zero]
def aQ (p:Nat→Bool):Nat→Nat
 |0=>0
 |n+1=>2^n*(p n).toNat+aQ p n
theorem Qc (p:Nat→Bool) (n:Nat):aQ p n<2^n:=by
 induction n with
 |zero=>simp[aQ]
 |succ n ih=>simp only[aQ,Nat.pow_succ];cases p n<;>simp<;>omega
theorem eU (p:Nat→Bool) (n k:Nat):(aQ p n).testBit k=(decide (k<n)&&p k):=by
 induction n with
 |zero=>simp[aQ]
 |succ n ih=>
  simp only[aQ];rw[Nat.testBit_two_pow_mul_add _ (Qc p n)]
  by_cases h:k<n
  ·rw[if_pos h,ih];simp[h,show k<n+1 by omega]
  ·rw[if_neg h]
   by_cases e:k=n
   ·subst e;cases p k<;>simp
   ·rw[show decide (k<n+1)=false from decide_eq_false (by omega)];obtain⟨j,hj⟩:∃j,k-n=j+1:=⟨k-n-1,by omega⟩;rw[hj]
    cases p n<;>simp[Nat.testBit_succ]
theorem AZ (a j:Nat):a.testBit j=(bit a j == 1):=by
 unfold bit;rw[Nat.testBit_eq_decide_div_mod_eq];rfl
theorem jw (p:Nat→Bool) {n k:Nat} (h:k<n):(bit (aQ p n) k == 1)=p k:=by rw[←AZ,eU];simp[h]
theorem cO {p q:Nat→Bool} {n:Nat} (h:∀k,k<n→p k=q k):aQ p n=aQ q n:=by
 refine Nat.eq_of_testBit_eq fun k=>?_
 rw[eU,eU]
 by_cases hk:k<n
 ·rw[h k hk]
 ·simp[hk]
theorem KR {p q:Nat→Bool} {n:Nat} (h:aQ p n=aQ q n):∀k,k<n→p k=q k:=fun k hk=>by
 rw[←jw p hk,←jw q hk,h]
theorem II {a n k:Nat} (h:a<2^n) (hk:¬k<n):a.testBit k=false:=Nat.testBit_lt_two_pow (Nat.lt_of_lt_of_le h (Nat.pow_le_pow_right (by omega) (by omega)))
theorem Gu (a n:Nat) (h:a<2^n):aQ (fun k=>bit a k == 1) n=a:=by
 refine Nat.eq_of_testBit_eq fun k=>?_
 rw[eU,←AZ]
 by_cases hk:k<n
 ·simp[hk]
 ·rw[II h hk];simp
theorem qG (p:Nat→Bool) (n k:Nat) (hk:k<n):aQ p n ||| 2^k=aQ (fun j=>p j||decide (k=j)) n:=by
 refine Nat.eq_of_testBit_eq fun j=>?_
 rw[Nat.testBit_or,eU,eU,Nat.testBit_two_pow]
 by_cases e:k=j
 ·subst e;simp[hk]
 ·simp[e]
theorem CO (p q:Nat→Bool) (n:Nat):aQ p n ||| aQ q n=aQ (fun j=>p j||q j) n:=by
 refine Nat.eq_of_testBit_eq fun j=>?_
 rw[Nat.testBit_or,eU,eU,eU,Bool.and_or_distrib_left]
theorem Dz (p q:Nat→Bool) (n:Nat):aQ p n &&& aQ q n=aQ (fun j=>p j&&q j) n:=by
 refine Nat.eq_of_testBit_eq fun j=>?_
 rw[Nat.testBit_and,eU,eU,eU]
 cases decide (j<n)<;>simp
theorem Rw (p q:Nat→Bool) (n:Nat):aQ p n-(aQ p n &&& aQ q n)=aQ (fun j=>p j&& !q j) n:=by
 rw[Dz]
 have h1:∀m,aQ (fun j=>p j&&q j) m+aQ (fun j=>p j&& !q j) m=aQ p m:=fun m=>by
  induction m with
  |zero=>rfl
  |succ m ihm=>simp only[aQ];rw[←ihm];cases p m<;>cases q m<;>simp<;>omega
 have:=h1 n
 omega
theorem kV {p:Nat→Bool} {n:Nat}:aQ p n=0↔∀k,k<n→p k=false:=by
 constructor
 ·intro h k hk
  have:=eU p n k
  rw[h] at this
  simpa[hk] using this.symm
 ·intro h;refine Nat.eq_of_testBit_eq fun j=>?_
  rw[eU]
  by_cases hj:j<n
  ·rw[h j hj];simp
  ·simp[hj]
def upto (p:Nat→Bool) (m:Nat):Nat→Bool:=fun k=>decide (k<m)&&p k
theorem sD (p:Nat→Bool) (n:Nat):aQ (upto p 0) n=0:=kV.2 fun k _=>by simp[upto]
theorem xw (p:Nat→Bool) (n:Nat):aQ (upto p n) n=aQ p n:=cO fun k hk=>by simp[upto,hk]
theorem Fq (p:Nat→Bool) (n m:Nat) (hm:m<n) (h:p m=true):aQ (upto p (m+1)) n=aQ (upto p m) n ||| 2^m:=by
 rw[qG _ _ _ hm];refine cO fun k hk=>?_
 unfold upto
 by_cases e:m=k
 ·subst e;simp[h]
 ·simp[e,show(k<m+1)↔(k<m) by omega]
theorem IJ (p:Nat→Bool) (n m:Nat) (h:p m=false):aQ (upto p (m+1)) n=aQ (upto p m) n:=by
 refine cO fun k hk=>?_
 unfold upto
 by_cases e:k=m
 ·subst e;simp[h]
 ·simp[show(k<m+1)↔(k<m) by omega]
theorem Fv (p:Nat→Bool) (n m:Nat) (hm:m≤n):aQ (upto p m) n<2^m:=by
 refine Nat.lt_pow_two_of_testBit _ fun j hj=>?_
 rw[eU]
 unfold upto
 simp[show¬j<m by omega]
theorem wR (p:Nat→Bool) (n m:Nat) (hm:m<n) (h:p m=true):aQ (upto p (m+1)) n=aQ (upto p m) n+2^m:=by
 rw[Fq p n m hm h]
 have:=Nat.two_pow_add_eq_or_of_lt (Fv p n m (by omega)) 1
 rw[Nat.or_comm,Nat.add_comm]
 simpa using this.symm
end Go.Proofs.YtkmcengmglgdeaaGreatDoor
