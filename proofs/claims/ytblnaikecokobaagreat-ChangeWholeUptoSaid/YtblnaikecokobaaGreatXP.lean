/- Parts of the proof: an abstract machine for Go functions, and what functions of the program give back (In1, In2, In3, In4, In5). No condition. -/
import Derived.Test.YtblnaikecokobaaGreatXO
import Derived.Shelf.Spec.SlicesInsert
import Derived.Laws.CopyRow
import Derived.Shelf.Spec.SlicesInsertGrow
import Derived.Lib.SliceRun
import Derived.Deep.RegionLaw
namespace Go.Am
set_option linter.all false
open Go Go.RowKit Go.Proofs
set_option maxRecDepth 100000
set_option linter.all false
def putL(l:List Value)(o:Nat)(cs:List Value):List Value:=l.take o++cs++l.drop (o+cs.length)
theorem putL_len{l:List Value}{o:Nat}{cs:List Value}(h:o+cs.length≤l.length):(putL l o cs).length=l.length:=by
 unfold putL
 simp only[List.length_append,List.length_take,List.length_drop]
 omega
theorem run_copy_row{P:Program}(w:World)(dT sT ty elem:TypeId)(b o n dLen dCap sLen sCap size:Nat)(a:Addr)(cs:List Value)(cur:Array Value)(el:TypeId)(hu:P.underlying dT=some (.slice elem))(hu2:P.underlying sT=some (.slice elem))(hs:(P.info? elem).map (·.size)=some size)
  (hn:Nat.min sLen dLen=n) (hcs:cs.length=n*size) (hsrc:∀j v,cs[j]?=some v→w.cell? (a.add j)=some v) (hg:w.heap[b]?=some (.cells cur el (0,0))) (hfit:o+cs.length≤cur.size) (h1:∀v∈cs,v.oneCell'=true) :
  (Builtin.copy_ #[dT,sT] ty #[.slice (some ⟨b,o,none⟩) dLen dCap,.slice (some a) sLen sCap]).run P w = .ok (goInt n) (w.setRow b (putL cur.toList o cs).toArray):=by
 have hl:=run_firstCells_some (P:=P) w size n a sLen sCap cs hcs hsrc
 have hst:=run_storeCells_at P b o el cs 0 cur w hg (by simpa using hfit) h1
 obtain⟨i,hi1,hi2⟩:=Option.map_eq_some_iff.1 hs
 simp only[Nat.add_zero] at hst
 simp[Builtin.copy_,run_underlying hu,Builtin.lenOf,sizeOf,typeInfo,hi1,hi2,hn,hl,hst,putL]
set_option maxHeartbeats 4000000 in
theorem insShift_int(b n c i vb vc:Nat)(cur:Array Value)(el:TypeId)(vs:List Value)(w:World)(hi:i<n)(hroom:n+1≤c)(hc63:c≤9223372036854775807)(hvb:vb≠b)(hvl:vs.length=1)
  (hg:w.heap[b]?=some (.cells cur el (0,0))) (hcz:cur.size=c) (h1c:∀v∈cur.toList.take (n),v.oneCell'=true) (hvs:∀j v,vs[j]?=some v→w.cell? ⟨vb,j,none⟩=some v) (h1v:∀v∈vs,v.oneCell'=true)
  (tA tB:TypeId) (kA kB:Nat) (hsa:w.shape? vb=some (tA,kA)) (hsb:w.shape? b=some (tB,kB)) (hkB:kB≠0) (hfa:w.frozen? ⟨vb,0,none⟩=false) (hfe:w.frozen? ⟨vb,kA,none⟩=false) :
  Calls Tryz.prog 127 #[.slice (some ⟨b,0,none⟩) n c,.int .i64 i,.slice (some ⟨vb,0,none⟩) 1 vc] w fun e w' =>
   e = .returned (.slice (some ⟨b,0,none⟩) (n+1) c)∧∃q,w'=((w.drewN q).setRow b (putL cur.toList (i+1) ((cur.toList.take (n)).drop (i))).toArray).setRow b (putL (putL cur.toList (i+1) ((cur.toList.take (n)).drop (i))) (i) vs).toArray:=by
 have hz2:¬((i:Int)=(n:Int)):=by omega
 have hsz:(Tryz.prog.info? 3).map (·.size)=some 1:=by kernel_rfl
 have hw1:IntKind.i64.wrap ((i:Int)+1)=(i:Int)+1:=by rw[IntKind.wrap_i64]; omega
 have hb1:(0:Int)≤(i:Int)+1:=by omega
 have htn:((i:Int)+1).toNat=i+1:=by omega
 have hb2:¬(c=i+1):=by omega
 have hb3:(i:Int)≤(n:Int)+1:=by omega
 have hb4:¬(c=i):=by omega
 have hin:i≤n:=by omega
 have mixed:Tryz.prog.follows .mixedOrders=true:=by kernel_rfl
 have hmn1:Nat.min (n+1 - i) (n - i)=n - i:=by simp only[Nat.min_def]; split<;>omega
 have hmn2:Nat.min 1 (n+1 - i)=1:=by simp only[Nat.min_def]; split<;>omega
 have hov:∀lb cb,(callFunc 131 #[.slice (some ⟨vb,0,none⟩) 1 vc,.slice (some ⟨b,i+1,none⟩) lb cb]).run Tryz.prog w = .ok (.value (.bool false)) w:=fun lb cb=>by
  rw[run_callFunc_extern Tryz.func131 (by kernel_rfl) (by kernel_rfl) (by kernel_rfl) (e:=Extern.SlicesOverlaps.overlaps #[57,57] #[4]) (by kernel_rfl),
   Lib.run_overlaps_apart w 57 4 3 Tryz.underlying57 1 (fun w=>by kernel_rfl) ⟨vb,0,none⟩ ⟨b,i+1,none⟩ 1 vc lb cb hvb tA tB kA kB hsa hsb hkB hfa hfe]
  rfl
 obtain⟨cs1,hcs1⟩:∃cs1,cs1=(cur.toList.take (n)).drop (i):=⟨_,rfl⟩
 have hl1:cs1.length=(n - i)*1:=by rw[hcs1,List.length_drop,List.length_take,Array.length_toList]; omega
 have hget1:∀j v,cs1[j]?=some v→cur[i+j]?=some v:=fun j v hj=>by
  rw[hcs1,List.getElem?_drop,List.getElem?_take] at hj
  split at hj
  ·simpa using hj
  ·cases hj
 have hcp1:∀ty dc sc,(Builtin.copy_ #[57,57] ty #[.slice (some ⟨b,i+1,none⟩) (n - i) dc,.slice (some ⟨b,i,none⟩) (n+1 - i) sc]).run Tryz.prog w.drew = .ok (goInt ((n - i:Nat):Int)) (w.drew.setRow b (putL cur.toList (i+1) cs1).toArray):=fun ty dc sc =>
  run_copy_row w.drew _ _ ty 3 b (i+1) (n - i) (n - i) dc (n+1 - i) sc 1 ⟨b,i,none⟩ cs1 cur el Tryz.underlying57 Tryz.underlying57 hsz hmn1 hl1
   (fun j v hj=>by rw[Addr.add_lit]; exact (cell_of_heap (w:=w.drew) hg).trans (hget1 j v hj)) hg (by omega) (fun v hv=>h1c v (by rw[hcs1] at hv; exact List.mem_of_mem_drop hv))
 obtain⟨L1,hL1⟩:∃L1,L1=putL cur.toList (i+1) cs1:=⟨_,rfl⟩
 rw[←hL1] at hcp1
 obtain⟨W1,hW1⟩:∃W1,W1=w.drew.setRow b L1.toArray:=⟨_,rfl⟩
 have hg1:W1.heap[b]?=some (.cells L1.toArray el (0,0)):=by rw[hW1]; exact setRow_heap w.drew b cur _ el (0,0) hg
 have hsz1:L1.length=c:=by rw[hL1,putL_len (by simp; omega)]; simpa using hcz
 have hcp2:∀ty dc,(Builtin.copy_ #[57,57] ty #[.slice (some ⟨b,i,none⟩) (n+1 - i) dc,.slice (some ⟨vb,0,none⟩) 1 vc]).run Tryz.prog W1 = .ok (goInt 1) (W1.setRow b (putL L1 (i) vs).toArray):=fun ty dc =>
  run_copy_row W1 _ _ ty 3 b (i) 1 (n+1 - i) dc 1 vc 1 ⟨vb,0,none⟩ vs _ el Tryz.underlying57 Tryz.underlying57 hsz hmn2 (by omega)
   (fun j v hj=>by
    have:=hvs j v hj
    rw[Addr.add_lit,Nat.zero_add]
    rw[←this,hW1]
    exact World.cell?_of_block (w:=w) (setRow_other w.drew b vb _ hvb)) hg1 (by simp only[List.size_toArray]; omega) h1v
 rw[←hW1] at hcp1
 rw[←hcs1,←hL1]
 have hW:Hid (W1=w.drew.setRow b L1.toArray):=hW1
 clear hW1 hL1 hcs1
 go_enter Tryz.func127,Tryz.ntmps127
 go_wp2_with (simp only[hov])
 go_region_law_o (refine step_copy_runI rfl _ _ 57 57 rfl _ _ (by simp[Act.eval,Act.put]) (by simp[Act.eval,Act.put]) (hcp1 _ _ _) ?_)
 go_wp2_with (at_builtin; refine wpList_copy_runI _ rfl _ _ 57 57 rfl _ _ rfl rfl (hcp2 _ _) ?_)
 go_ret
 exact⟨rfl,1,by rw[hW.out]; rfl⟩
set_option maxHeartbeats 4000000 in
theorem insShift_thing(b n c i vb vc:Nat)(cur:Array Value)(el:TypeId)(vs:List Value)(w:World)(hi:i<n)(hroom:n+1≤c)(hc63:c≤9223372036854775807)(hvb:vb≠b)(hvl:vs.length=3)
  (hg:w.heap[b]?=some (.cells cur el (0,0))) (hcz:cur.size=c*3) (h1c:∀v∈cur.toList.take (n*3),v.oneCell'=true) (hvs:∀j v,vs[j]?=some v→w.cell? ⟨vb,j,none⟩=some v) (h1v:∀v∈vs,v.oneCell'=true)
  (tA tB:TypeId) (kA kB:Nat) (hsa:w.shape? vb=some (tA,kA)) (hsb:w.shape? b=some (tB,kB)) (hkB:kB≠0) (hfa:w.frozen? ⟨vb,0,none⟩=false) (hfe:w.frozen? ⟨vb,kA,none⟩=false) :
  Calls Tryz.prog 110 #[.slice (some ⟨b,0,none⟩) n c,.int .i64 i,.slice (some ⟨vb,0,none⟩) 1 vc] w fun e w' =>
   e = .returned (.slice (some ⟨b,0,none⟩) (n+1) c)∧∃q,w'=((w.drewN q).setRow b (putL cur.toList ((i+1)*3) ((cur.toList.take (n*3)).drop (i*3))).toArray).setRow b (putL (putL cur.toList ((i+1)*3) ((cur.toList.take (n*3)).drop (i*3))) (i*3) vs).toArray:=by
 have hz2:¬((i:Int)=(n:Int)):=by omega
 have hsz:(Tryz.prog.info? 52).map (·.size)=some 3:=by kernel_rfl
 have hw1:IntKind.i64.wrap ((i:Int)+1)=(i:Int)+1:=by rw[IntKind.wrap_i64]; omega
 have hb1:(0:Int)≤(i:Int)+1:=by omega
 have htn:((i:Int)+1).toNat=i+1:=by omega
 have hb2:¬(c=i+1):=by omega
 have hb3:(i:Int)≤(n:Int)+1:=by omega
 have hb4:¬(c=i):=by omega
 have hin:i≤n:=by omega
 have mixed:Tryz.prog.follows .mixedOrders=true:=by kernel_rfl
 have hmn1:Nat.min (n+1 - i) (n - i)=n - i:=by simp only[Nat.min_def]; split<;>omega
 have hmn2:Nat.min 1 (n+1 - i)=1:=by simp only[Nat.min_def]; split<;>omega
 have hov:∀lb cb,(callFunc 116 #[.slice (some ⟨vb,0,none⟩) 1 vc,.slice (some ⟨b,(i+1)*3,none⟩) lb cb]).run Tryz.prog w = .ok (.value (.bool false)) w:=fun lb cb=>by
  rw[run_callFunc_extern Tryz.func116 (by kernel_rfl) (by kernel_rfl) (by kernel_rfl) (e:=Extern.SlicesOverlaps.overlaps #[23,23] #[4]) (by kernel_rfl),
   Lib.run_overlaps_apart w 23 4 52 Tryz.underlying23 3 (fun w=>by kernel_rfl) ⟨vb,0,none⟩ ⟨b,(i+1)*3,none⟩ 1 vc lb cb hvb tA tB kA kB hsa hsb hkB hfa hfe]
  rfl
 obtain⟨cs1,hcs1⟩:∃cs1,cs1=(cur.toList.take (n*3)).drop (i*3):=⟨_,rfl⟩
 have hl1:cs1.length=(n - i)*3:=by rw[hcs1,List.length_drop,List.length_take,Array.length_toList]; omega
 have hget1:∀j v,cs1[j]?=some v→cur[i*3+j]?=some v:=fun j v hj=>by
  rw[hcs1,List.getElem?_drop,List.getElem?_take] at hj
  split at hj
  ·simpa using hj
  ·cases hj
 have hcp1:∀ty dc sc,(Builtin.copy_ #[23,23] ty #[.slice (some ⟨b,(i+1)*3,none⟩) (n - i) dc,.slice (some ⟨b,i*3,none⟩) (n+1 - i) sc]).run Tryz.prog w.drew = .ok (goInt ((n - i:Nat):Int)) (w.drew.setRow b (putL cur.toList ((i+1)*3) cs1).toArray):=fun ty dc sc =>
  run_copy_row w.drew _ _ ty 52 b ((i+1)*3) (n - i) (n - i) dc (n+1 - i) sc 3 ⟨b,i*3,none⟩ cs1 cur el Tryz.underlying23 Tryz.underlying23 hsz hmn1 hl1
   (fun j v hj=>by rw[Addr.add_lit]; exact (cell_of_heap (w:=w.drew) hg).trans (hget1 j v hj)) hg (by omega) (fun v hv=>h1c v (by rw[hcs1] at hv; exact List.mem_of_mem_drop hv))
 obtain⟨L1,hL1⟩:∃L1,L1=putL cur.toList ((i+1)*3) cs1:=⟨_,rfl⟩
 rw[←hL1] at hcp1
 obtain⟨W1,hW1⟩:∃W1,W1=w.drew.setRow b L1.toArray:=⟨_,rfl⟩
 have hg1:W1.heap[b]?=some (.cells L1.toArray el (0,0)):=by rw[hW1]; exact setRow_heap w.drew b cur _ el (0,0) hg
 have hsz1:L1.length=c*3:=by rw[hL1,putL_len (by simp; omega)]; simpa using hcz
 have hcp2:∀ty dc,(Builtin.copy_ #[23,23] ty #[.slice (some ⟨b,i*3,none⟩) (n+1 - i) dc,.slice (some ⟨vb,0,none⟩) 1 vc]).run Tryz.prog W1 = .ok (goInt 1) (W1.setRow b (putL L1 (i*3) vs).toArray):=fun ty dc =>
  run_copy_row W1 _ _ ty 52 b (i*3) 1 (n+1 - i) dc 1 vc 3 ⟨vb,0,none⟩ vs _ el Tryz.underlying23 Tryz.underlying23 hsz hmn2 (by omega)
   (fun j v hj=>by
    have:=hvs j v hj
    rw[Addr.add_lit,Nat.zero_add]
    rw[←this,hW1]
    exact World.cell?_of_block (w:=w) (setRow_other w.drew b vb _ hvb)) hg1 (by simp only[List.size_toArray]; omega) h1v
 rw[←hW1] at hcp1
 rw[←hcs1,←hL1]
 have hW:Hid (W1=w.drew.setRow b L1.toArray):=hW1
 clear hW1 hL1 hcs1
 go_enter Tryz.func110,Tryz.ntmps110
 go_wp2_with (simp only[hov])
 go_region_law_o (refine step_copy_runI rfl _ _ 23 23 rfl _ _ (by simp[Act.eval,Act.put]) (by simp[Act.eval,Act.put]) (hcp1 _ _ _) ?_)
 go_wp2_with (at_builtin; refine wpList_copy_runI _ rfl _ _ 23 23 rfl _ _ rfl rfl (hcp2 _ _) ?_)
 go_ret
 exact⟨rfl,1,by rw[hW.out]; rfl⟩
end Go.Am
namespace Go.Am
set_option linter.all false
open Go Go.RowKit Go.Proofs
set_option maxRecDepth 100000
set_option linter.all false
set_option maxHeartbeats 4000000 in
theorem insGrow_int(b n c i vb vc:Nat)(cur:Array Value)(el:TypeId)(vs:List Value)(w:World)(hi:i<n)(hnc:n≤c)(hroom:c<n+1)(hbig:(n+1)*8≤140737488355328)(hvl:vs.length=1)
  (hg:w.heap[b]?=some (.cells cur el (0,0))) (hcz:n≤cur.size) (h1c:∀v∈cur.toList.take (n),v.oneCell'=true) (hvs:∀j v,vs[j]?=some v→w.cell? ⟨vb,j,none⟩=some v) (h1v:∀v∈vs,v.oneCell'=true) :
  Calls Tryz.prog 127 #[.slice (some ⟨b,0,none⟩) n c,.int .i64 i,.slice (some ⟨vb,0,none⟩) 1 vc] w fun e w' =>
   e = .returned (.slice (some ⟨w.heap.size,0,none⟩) (n+1) (grownCap w (n+1) c 3))∧∃q ROW,ROW.length=grownCap w (n+1) c 3*1∧ROW.take (i)=cur.toList.take (i) ∧
    w'=(((w.drewN q).alloc (.cells ROW.toArray 3)).setRow w.heap.size (putL ROW (i) vs).toArray).setRow w.heap.size (putL (putL ROW (i) vs) (i+1) ((cur.toList.take (n)).drop (i))).toArray:=by
 have u3:=run_underlying (P:=Tryz.prog) Tryz.underlying3
 have uT:=run_underlying (P:=Tryz.prog) Tryz.underlying57
 have mixed:Tryz.prog.follows .mixedOrders=true:=by kernel_rfl
 obtain⟨i0,hi0,hz0,hzs,hzb⟩:=info_parts (P:=Tryz.prog) (e:=3) (z:=.int .i64 0) (size:=1) (bytes:=8) (by kernel_rfl)
 have hz2:¬((i:Int)=(n:Int)):=by omega
 have hz3:(c:Int)<(n:Int)+1:=by omega
 have hsz:(Tryz.prog.info? 3).map (·.size)=some 1:=by rw[hi0]; simp[hzs]
 have hbw:b<w.heap.size:=(Array.getElem?_eq_some_iff.1 hg).1
 have hvw:vb<w.heap.size:=block_lt_of_cell (hvs 0 _ (List.getElem?_eq_getElem (by omega)))
 have hkk:(n:Int)+1 - (i:Int)=((n+1 - i:Nat):Int):=by omega
 have hik:i+(n+1 - i)=n+1:=by omega
 obtain⟨cs,hcs⟩:∃cs,cs=cur.toList.take (n):=⟨_,rfl⟩
 have hcl:cs.length=n:=by rw[hcs,List.length_take,Array.length_toList]; omega
 have hget:∀j v,cs[j]?=some v→w.cell? ⟨b,j,none⟩=some v:=fun j v hj=>by
  rw[hcs,List.getElem?_take] at hj
  split at hj
  ·exact (cell_of_heap (w:=w) hg).trans (by simpa using hj)
  ·cases hj
 have hold:(Builtin.firstCells i0.size i (.slice (some ⟨b,0,none⟩) i c)).run Tryz.prog w.drew = .ok (cs.take (i)).toArray w.drew:=by
  rw[hzs]
  exact run_firstCells_some w.drew 1 i ⟨b,0,none⟩ i c (cs.take (i)) (by rw[List.length_take]; omega) (fun j v hj=>by
   rw[Addr.add_lit,Nat.zero_add]
   rw[List.getElem?_take] at hj
   split at hj
   ·exact hget j v hj
   ·cases hj)
 obtain⟨G,hG⟩:∃G,G=grownCap w (n+1) c 3:=⟨_,rfl⟩
 obtain⟨ROW,hROW⟩:∃ROW:List Value,ROW=((cs.take (i)).toArray++Builtin.zeroCells (Value.cells (.int .i64 0)) (n+1 - i)++Builtin.zeroCells (Value.cells (.int .i64 0)) (G - (n+1))).toList:=⟨_,rfl⟩
 have hrz:∀ty,(Builtin.append_ #[57,3] ty #[.slice (some ⟨b,0,none⟩) i c,.int .i64 ((n:Int)+1 - (i:Int))]).run Tryz.prog w =
   .ok (.slice (some ⟨w.heap.size,0,none⟩) (n+1) G) (w.drew.alloc (.cells ROW.toArray 3)):=fun ty=>by
  have h:=Lib.run_append_grow_zeros w 57 3 ty 3 i0 _ .i64 .i64 Tryz.underlying57 Tryz.underlying3 hi0 hz0 (some ⟨b,0,none⟩) i c (cs.take (i)) hold (n+1 - i) (by omega) (by omega) (by omega) (by omega) (by rw[hzb]; omega) (by rw[hzb,hik]; exact growslice_fits hroom hbig)
  rw[hik,←hG] at h
  rw[hkk,hROW,Array.toArray_toList]
  exact h
 have hGn:n+1≤G:=by rw[hG]; exact grownCap_ge w _ _ _
 have hG63:G≤9223372036854775807:=by
  have:=grownCap_le_maxLen w (n+1) c 3 (by unfold maxLen; omega)
  rw[←hG] at this
  unfold maxLen at this
  omega
 have hRl:ROW.length=G*1:=by
  rw[hROW,Array.length_toList,Array.size_append,Array.size_append,size_zeroCells,size_zeroCells,List.size_toArray,List.length_take,hcl]
  simp only[Value.cells,Array.size,List.length]
  omega
 have hRt:ROW.take (i)=cur.toList.take (i):=by
  rw[hROW,Array.toList_append,Array.toList_append,List.append_assoc,List.take_append_of_le_length (by simp[hcl]; omega),List.take_of_length_le (by simp; omega),hcs,List.take_take,Nat.min_eq_left (by omega)]
 obtain⟨W1,hW1⟩:∃W1,W1=w.drew.alloc (.cells ROW.toArray 3):=⟨_,rfl⟩
 rw[←hW1] at hrz
 have hgN:W1.heap[w.heap.size]?=some (.cells ROW.toArray 3 (0,0)):=by rw[hW1]; exact heap_alloc_new w.drew _
 have hgb:W1.heap[b]?=w.heap[b]?:=by rw[hW1]; exact Below.heap_alloc w.drew _ b hbw
 have hgv:W1.heap[vb]?=w.heap[vb]?:=by rw[hW1]; exact Below.heap_alloc w.drew _ vb hvw
 have hcpA:∀(W:World),W.heap=W1.heap→∀ty dc,(Builtin.copy_ #[57,57] ty #[.slice (some ⟨w.heap.size,i,none⟩) (n+1 - i) dc,.slice (some ⟨vb,0,none⟩) 1 vc]).run Tryz.prog W = .ok (goInt 1) (W.setRow w.heap.size (putL ROW (i) vs).toArray):=fun W hWh ty dc =>
  run_copy_row W _ _ ty 3 w.heap.size (i) 1 (n+1 - i) dc 1 vc 1 ⟨vb,0,none⟩ vs ROW.toArray 3 Tryz.underlying57 Tryz.underlying57 hsz (by simp only[Nat.min_def]; split<;>omega) (by omega)
   (fun j v hj=>by
    rw[Addr.add_lit,Nat.zero_add,←hvs j v hj]
    exact World.cell?_of_block (w:=w) (by rw[hWh]; exact hgv)) (by rw[hWh]; exact hgN) (by simp only[List.size_toArray]; omega) h1v
 obtain⟨R1,hR1⟩:∃R1,R1=putL ROW (i) vs:=⟨_,rfl⟩
 rw[←hR1] at hcpA
 have hR1l:R1.length=G*1:=by rw[hR1,putL_len (by omega)]; exact hRl
 obtain⟨W2,hW2⟩:∃W2,W2=W1.setRow w.heap.size R1.toArray:=⟨_,rfl⟩
 have hgN2:W2.heap[w.heap.size]?=some (.cells R1.toArray 3 (0,0)):=by rw[hW2]; exact setRow_heap W1 _ _ _ _ (0,0) hgN
 have hgb2:W2.heap[b]?=w.heap[b]?:=by rw[hW2]; exact (setRow_other W1 _ b _ (by omega)).trans hgb
 obtain⟨cs2,hcs2⟩:∃cs2,cs2=cs.drop (i):=⟨_,rfl⟩
 have hl2:cs2.length=(n - i)*1:=by rw[hcs2,List.length_drop,hcl]; omega
 have hcpB:∀(W:World),W.heap=W2.heap→∀ty dc sc,(Builtin.copy_ #[57,57] ty #[.slice (some ⟨w.heap.size,i+1,none⟩) (n - i) dc,.slice (some ⟨b,i,none⟩) (n - i) sc]).run Tryz.prog W = .ok (goInt ((n - i:Nat):Int)) (W.setRow w.heap.size (putL R1 (i+1) cs2).toArray):=fun W hWh ty dc sc =>
  run_copy_row W _ _ ty 3 w.heap.size (i+1) (n - i) (n - i) dc (n - i) sc 1 ⟨b,i,none⟩ cs2 R1.toArray 3 Tryz.underlying57 Tryz.underlying57 hsz (Nat.min_self _) hl2
   (fun j v hj=>by
    rw[Addr.add_lit,←hget (i+j) v (by rw[hcs2,List.getElem?_drop] at hj; exact hj)]
    exact World.cell?_of_block (w:=w) (by rw[hWh]; exact hgb2)) (by rw[hWh]; exact hgN2) (by simp only[List.size_toArray]; omega)
   (fun v hv=>h1c v (by rw[←hcs]; rw[hcs2] at hv; exact List.mem_of_mem_drop hv))
 have hGi:¬(G=i):=by omega
 have hGim:¬(G=i+1):=by omega
 have hci:¬(c=i):=by omega
 have hw1:IntKind.i64.wrap ((i:Int)+1)=(i:Int)+1:=by rw[IntKind.wrap_i64]; omega
 have hb1:(0:Int)≤(i:Int)+1:=by omega
 have hin:i≤n:=by omega
 have htn:((i:Int)+1).toNat=i+1:=by omega
 have hb3:(i:Int)≤(n:Int):=by omega
 rw[←hG,←hcs,←hcs2]
 have hE1:((w.alloc (.cells ROW.toArray 3)).drew).heap=W1.heap:=by rw[hW1]; rfl
 have hF1:((((w.alloc (.cells ROW.toArray 3)).drew).setRow w.heap.size R1.toArray).drew).heap=W2.heap:=by rw[hW2,hW1]; rfl
 have hfinal:∃q ROW',ROW'.length=G*1∧ROW'.take (i)=cur.toList.take (i)∧((((w.alloc (.cells ROW.toArray 3)).drew.setRow w.heap.size R1.toArray).drew).setRow w.heap.size (putL R1 (i+1) cs2).toArray)=(((w.drewN q).alloc (.cells ROW'.toArray 3)).setRow w.heap.size (putL ROW' (i) vs).toArray).setRow w.heap.size (putL (putL ROW' (i) vs) (i+1) cs2).toArray:=⟨2,ROW,hRl,hRt,by rw[←hR1]; rfl⟩
 subst hW1
 clear hkk hik hold hROW hG hRl hRt hR1 hW2 hcs hcs2 hgN hgb hgv hgN2 hgb2
 go_enter Tryz.func127,Tryz.ntmps127
 go_wp2_with (first
  | (at_builtin; refine Lib.wpList_append_run _ rfl _ _ _ _ rfl _ _ rfl rfl _ _ (hrz _) ?_)
  | (at_builtin; refine wpList_copy_runI _ rfl _ _ 57 57 rfl _ _ rfl rfl (hcpA _ hE1 _ _) ?_))
 go_region_law_o (refine step_copy_runI rfl _ _ 57 57 rfl _ _ (by simp[Act.eval,Act.put]) (by simp[Act.eval,Act.put]) (hcpB _ hF1 _ _ _) ?_)
 go_wp2
 go_ret
 exact⟨rfl,hfinal⟩
set_option maxHeartbeats 4000000 in
theorem insGrow_thing(b n c i vb vc:Nat)(cur:Array Value)(el:TypeId)(vs:List Value)(w:World)(hi:i<n)(hnc:n≤c)(hroom:c<n+1)(hbig:(n+1)*40≤140737488355328)(hvl:vs.length=3)
  (hg:w.heap[b]?=some (.cells cur el (0,0))) (hcz:n*3≤cur.size) (h1c:∀v∈cur.toList.take (n*3),v.oneCell'=true) (hvs:∀j v,vs[j]?=some v→w.cell? ⟨vb,j,none⟩=some v) (h1v:∀v∈vs,v.oneCell'=true) :
  Calls Tryz.prog 110 #[.slice (some ⟨b,0,none⟩) n c,.int .i64 i,.slice (some ⟨vb,0,none⟩) 1 vc] w fun e w' =>
   e = .returned (.slice (some ⟨w.heap.size,0,none⟩) (n+1) (grownCap w (n+1) c 52))∧∃q ROW,ROW.length=grownCap w (n+1) c 52*3∧ROW.take (i*3)=cur.toList.take (i*3) ∧
    w'=(((w.drewN q).alloc (.cells ROW.toArray 52)).setRow w.heap.size (putL ROW (i*3) vs).toArray).setRow w.heap.size (putL (putL ROW (i*3) vs) ((i+1)*3) ((cur.toList.take (n*3)).drop (i*3))).toArray:=by
 have u3:=run_underlying (P:=Tryz.prog) Tryz.underlying3
 have uT:=run_underlying (P:=Tryz.prog) Tryz.underlying23
 have mixed:Tryz.prog.follows .mixedOrders=true:=by kernel_rfl
 obtain⟨i0,hi0,hz0,hzs,hzb⟩:=info_parts (P:=Tryz.prog) (e:=52) (z:=.agg #[.int .i64 0,.int .i64 0,.slice none 0 0]) (size:=3) (bytes:=40) (by kernel_rfl)
 have hz2:¬((i:Int)=(n:Int)):=by omega
 have hz3:(c:Int)<(n:Int)+1:=by omega
 have hsz:(Tryz.prog.info? 52).map (·.size)=some 3:=by rw[hi0]; simp[hzs]
 have hbw:b<w.heap.size:=(Array.getElem?_eq_some_iff.1 hg).1
 have hvw:vb<w.heap.size:=block_lt_of_cell (hvs 0 _ (List.getElem?_eq_getElem (by omega)))
 have hkk:(n:Int)+1 - (i:Int)=((n+1 - i:Nat):Int):=by omega
 have hik:i+(n+1 - i)=n+1:=by omega
 obtain⟨cs,hcs⟩:∃cs,cs=cur.toList.take (n*3):=⟨_,rfl⟩
 have hcl:cs.length=n*3:=by rw[hcs,List.length_take,Array.length_toList]; omega
 have hget:∀j v,cs[j]?=some v→w.cell? ⟨b,j,none⟩=some v:=fun j v hj=>by
  rw[hcs,List.getElem?_take] at hj
  split at hj
  ·exact (cell_of_heap (w:=w) hg).trans (by simpa using hj)
  ·cases hj
 have hold:(Builtin.firstCells i0.size i (.slice (some ⟨b,0,none⟩) i c)).run Tryz.prog w.drew = .ok (cs.take (i*3)).toArray w.drew:=by
  rw[hzs]
  exact run_firstCells_some w.drew 3 i ⟨b,0,none⟩ i c (cs.take (i*3)) (by rw[List.length_take]; omega) (fun j v hj=>by
   rw[Addr.add_lit,Nat.zero_add]
   rw[List.getElem?_take] at hj
   split at hj
   ·exact hget j v hj
   ·cases hj)
 obtain⟨G,hG⟩:∃G,G=grownCap w (n+1) c 52:=⟨_,rfl⟩
 obtain⟨ROW,hROW⟩:∃ROW:List Value,ROW=((cs.take (i*3)).toArray++Builtin.zeroCells (Value.cells (.agg #[.int .i64 0,.int .i64 0,.slice none 0 0])) (n+1 - i)++Builtin.zeroCells (Value.cells (.agg #[.int .i64 0,.int .i64 0,.slice none 0 0])) (G - (n+1))).toList:=⟨_,rfl⟩
 have hrz:∀ty,(Builtin.append_ #[23,3] ty #[.slice (some ⟨b,0,none⟩) i c,.int .i64 ((n:Int)+1 - (i:Int))]).run Tryz.prog w =
   .ok (.slice (some ⟨w.heap.size,0,none⟩) (n+1) G) (w.drew.alloc (.cells ROW.toArray 52)):=fun ty=>by
  have h:=Lib.run_append_grow_zeros w 23 3 ty 52 i0 _ .i64 .i64 Tryz.underlying23 Tryz.underlying3 hi0 hz0 (some ⟨b,0,none⟩) i c (cs.take (i*3)) hold (n+1 - i) (by omega) (by omega) (by omega) (by omega) (by rw[hzb]; omega) (by rw[hzb,hik]; exact growslice_fits hroom hbig)
  rw[hik,←hG] at h
  rw[hkk,hROW,Array.toArray_toList]
  exact h
 have hGn:n+1≤G:=by rw[hG]; exact grownCap_ge w _ _ _
 have hG63:G≤9223372036854775807:=by
  have:=grownCap_le_maxLen w (n+1) c 52 (by unfold maxLen; omega)
  rw[←hG] at this
  unfold maxLen at this
  omega
 have hRl:ROW.length=G*3:=by
  rw[hROW,Array.length_toList,Array.size_append,Array.size_append,size_zeroCells,size_zeroCells,List.size_toArray,List.length_take,hcl]
  simp only[Value.cells,Array.size,List.length]
  omega
 have hRt:ROW.take (i*3)=cur.toList.take (i*3):=by
  rw[hROW,Array.toList_append,Array.toList_append,List.append_assoc,List.take_append_of_le_length (by simp[hcl]; omega),List.take_of_length_le (by simp; omega),hcs,List.take_take,Nat.min_eq_left (by omega)]
 obtain⟨W1,hW1⟩:∃W1,W1=w.drew.alloc (.cells ROW.toArray 52):=⟨_,rfl⟩
 rw[←hW1] at hrz
 have hgN:W1.heap[w.heap.size]?=some (.cells ROW.toArray 52 (0,0)):=by rw[hW1]; exact heap_alloc_new w.drew _
 have hgb:W1.heap[b]?=w.heap[b]?:=by rw[hW1]; exact Below.heap_alloc w.drew _ b hbw
 have hgv:W1.heap[vb]?=w.heap[vb]?:=by rw[hW1]; exact Below.heap_alloc w.drew _ vb hvw
 have hcpA:∀(W:World),W.heap=W1.heap→∀ty dc,(Builtin.copy_ #[23,23] ty #[.slice (some ⟨w.heap.size,i*3,none⟩) (n+1 - i) dc,.slice (some ⟨vb,0,none⟩) 1 vc]).run Tryz.prog W = .ok (goInt 1) (W.setRow w.heap.size (putL ROW (i*3) vs).toArray):=fun W hWh ty dc =>
  run_copy_row W _ _ ty 52 w.heap.size (i*3) 1 (n+1 - i) dc 1 vc 3 ⟨vb,0,none⟩ vs ROW.toArray 52 Tryz.underlying23 Tryz.underlying23 hsz (by simp only[Nat.min_def]; split<;>omega) (by omega)
   (fun j v hj=>by
    rw[Addr.add_lit,Nat.zero_add,←hvs j v hj]
    exact World.cell?_of_block (w:=w) (by rw[hWh]; exact hgv)) (by rw[hWh]; exact hgN) (by simp only[List.size_toArray]; omega) h1v
 obtain⟨R1,hR1⟩:∃R1,R1=putL ROW (i*3) vs:=⟨_,rfl⟩
 rw[←hR1] at hcpA
 have hR1l:R1.length=G*3:=by rw[hR1,putL_len (by omega)]; exact hRl
 obtain⟨W2,hW2⟩:∃W2,W2=W1.setRow w.heap.size R1.toArray:=⟨_,rfl⟩
 have hgN2:W2.heap[w.heap.size]?=some (.cells R1.toArray 52 (0,0)):=by rw[hW2]; exact setRow_heap W1 _ _ _ _ (0,0) hgN
 have hgb2:W2.heap[b]?=w.heap[b]?:=by rw[hW2]; exact (setRow_other W1 _ b _ (by omega)).trans hgb
 obtain⟨cs2,hcs2⟩:∃cs2,cs2=cs.drop (i*3):=⟨_,rfl⟩
 have hl2:cs2.length=(n - i)*3:=by rw[hcs2,List.length_drop,hcl]; omega
 have hcpB:∀(W:World),W.heap=W2.heap→∀ty dc sc,(Builtin.copy_ #[23,23] ty #[.slice (some ⟨w.heap.size,(i+1)*3,none⟩) (n - i) dc,.slice (some ⟨b,i*3,none⟩) (n - i) sc]).run Tryz.prog W = .ok (goInt ((n - i:Nat):Int)) (W.setRow w.heap.size (putL R1 ((i+1)*3) cs2).toArray):=fun W hWh ty dc sc =>
  run_copy_row W _ _ ty 52 w.heap.size ((i+1)*3) (n - i) (n - i) dc (n - i) sc 3 ⟨b,i*3,none⟩ cs2 R1.toArray 52 Tryz.underlying23 Tryz.underlying23 hsz (Nat.min_self _) hl2
   (fun j v hj=>by
    rw[Addr.add_lit,←hget (i*3+j) v (by rw[hcs2,List.getElem?_drop] at hj; exact hj)]
    exact World.cell?_of_block (w:=w) (by rw[hWh]; exact hgb2)) (by rw[hWh]; exact hgN2) (by simp only[List.size_toArray]; omega)
   (fun v hv=>h1c v (by rw[←hcs]; rw[hcs2] at hv; exact List.mem_of_mem_drop hv))
 have hGi:¬(G=i):=by omega
 have hGim:¬(G=i+1):=by omega
 have hci:¬(c=i):=by omega
 have hw1:IntKind.i64.wrap ((i:Int)+1)=(i:Int)+1:=by rw[IntKind.wrap_i64]; omega
 have hb1:(0:Int)≤(i:Int)+1:=by omega
 have hin:i≤n:=by omega
 have htn:((i:Int)+1).toNat=i+1:=by omega
 have hb3:(i:Int)≤(n:Int):=by omega
 rw[←hG,←hcs,←hcs2]
 have hE1:((w.alloc (.cells ROW.toArray 52)).drew).heap=W1.heap:=by rw[hW1]; rfl
 have hF1:((((w.alloc (.cells ROW.toArray 52)).drew).setRow w.heap.size R1.toArray).drew).heap=W2.heap:=by rw[hW2,hW1]; rfl
 have hfinal:∃q ROW',ROW'.length=G*3∧ROW'.take (i*3)=cur.toList.take (i*3)∧((((w.alloc (.cells ROW.toArray 52)).drew.setRow w.heap.size R1.toArray).drew).setRow w.heap.size (putL R1 ((i+1)*3) cs2).toArray)=(((w.drewN q).alloc (.cells ROW'.toArray 52)).setRow w.heap.size (putL ROW' (i*3) vs).toArray).setRow w.heap.size (putL (putL ROW' (i*3) vs) ((i+1)*3) cs2).toArray:=⟨2,ROW,hRl,hRt,by rw[←hR1]; rfl⟩
 subst hW1
 clear hkk hik hold hROW hG hRl hRt hR1 hW2 hcs hcs2 hgN hgb hgv hgN2 hgb2
 go_enter Tryz.func110,Tryz.ntmps110
 go_wp2_with (first
  | (at_builtin; refine Lib.wpList_append_run _ rfl _ _ _ _ rfl _ _ rfl rfl _ _ (hrz _) ?_)
  | (at_builtin; refine wpList_copy_runI _ rfl _ _ 23 23 rfl _ _ rfl rfl (hcpA _ hE1 _ _) ?_))
 go_region_law_o (refine step_copy_runI rfl _ _ 23 23 rfl _ _ (by simp[Act.eval,Act.put]) (by simp[Act.eval,Act.put]) (hcpB _ hF1 _ _ _) ?_)
 go_wp2
 go_ret
 exact⟨rfl,hfinal⟩
end Go.Am
namespace Go.Am
set_option linter.all false
open Go Go.RowKit Go.Proofs
set_option maxRecDepth 100000
set_option linter.all false
theorem step_append_runI{P:Program}{ops:Array Oper}{o:Oper}{a:Act}{w:World}{K:Act→World→Prop}{Q:Exit→Act→World→Prop}{E:Prop}
  (hg:o.guard=none) (d x:Operand) (dT sT:TypeId) (hop:o.op=Op.call { callee:=Callee.builtin Builtin.append,args:=#[d,x],argTypes:=#[dT,sT] })
  (v u:Value) (hd:a.eval d=v) (hx:a.eval x=u) {v':Value} {w':World} (hr:(Builtin.append_ #[dT,sT] o.type #[v,u]).run P w = .ok v' w') (hK:K (a.put o.dst v') w') :
  if Region.wanted o (yielded ops a.tmps)=true then Oper.wp P o a w K Q else E:=by
 have hw:Region.wanted o (yielded ops a.tmps)=true:=by simp[Region.wanted,hg]
 rw[if_pos hw]
 unfold Oper.wp
 simp[execOp,hop,resolve,invoke,builtin,hd,hx,hr,Result.andThen]
 exact hK
set_option maxHeartbeats 4000000 in
theorem insEnd_int(A:Option Addr)(n c vb vc:Nat)(w w1:World)(v:Value)(hnc:n≤c)(hc63:c≤9223372036854775807)(hA:A=none→c=0)
  (hrun:∀ty,(Builtin.append_ #[57,57] ty #[.slice A n c,.slice (some ⟨vb,0,none⟩) 1 vc]).run Tryz.prog w = .ok v w1) :
  Calls Tryz.prog 127 #[.slice A n c,.int .i64 n,.slice (some ⟨vb,0,none⟩) 1 vc] w fun e w'=>e = .returned v∧w'=w1:=by
 have uT:=run_underlying (P:=Tryz.prog) Tryz.underlying57
 have mixed:Tryz.prog.follows .mixedOrders=true:=by kernel_rfl
 have hnn:(0:Int)≤(n:Int):=by omega
 cases A with
 | none =>
  obtain rfl:c=0:=hA rfl
  obtain rfl:n=0:=by omega
  go_enter Tryz.func127,Tryz.ntmps127
  go_wp2_with (at_builtin; refine Lib.wpList_append_run _ rfl _ _ _ _ rfl _ _ rfl rfl _ _ (hrun _) ?_)
  go_ret
  exact⟨rfl,rfl⟩
 | some a =>
  clear hA
  go_enter Tryz.func127,Tryz.ntmps127
  go_wp2_with (at_builtin; refine Lib.wpList_append_run _ rfl _ _ _ _ rfl _ _ rfl rfl _ _ (hrun _) ?_)
  all_goals (go_ret; exact⟨rfl,rfl⟩)
set_option maxHeartbeats 4000000 in
theorem insEnd_thing(A:Option Addr)(n c vb vc:Nat)(w w1:World)(v:Value)(hnc:n≤c)(hc63:c≤9223372036854775807)(hA:A=none→c=0)
  (hrun:∀ty,(Builtin.append_ #[23,23] ty #[.slice A n c,.slice (some ⟨vb,0,none⟩) 1 vc]).run Tryz.prog w = .ok v w1) :
  Calls Tryz.prog 110 #[.slice A n c,.int .i64 n,.slice (some ⟨vb,0,none⟩) 1 vc] w fun e w'=>e = .returned v∧w'=w1:=by
 have uT:=run_underlying (P:=Tryz.prog) Tryz.underlying23
 have mixed:Tryz.prog.follows .mixedOrders=true:=by kernel_rfl
 have hnn:(0:Int)≤(n:Int):=by omega
 cases A with
 | none =>
  obtain rfl:c=0:=hA rfl
  obtain rfl:n=0:=by omega
  go_enter Tryz.func110,Tryz.ntmps110
  go_wp2_with (at_builtin; refine Lib.wpList_append_run _ rfl _ _ _ _ rfl _ _ rfl rfl _ _ (hrun _) ?_)
  go_ret
  exact⟨rfl,rfl⟩
 | some a =>
  clear hA
  go_enter Tryz.func110,Tryz.ntmps110
  go_wp2_with (at_builtin; refine Lib.wpList_append_run _ rfl _ _ _ _ rfl _ _ rfl rfl _ _ (hrun _) ?_)
  all_goals (go_ret; exact⟨rfl,rfl⟩)
set_option maxHeartbeats 4000000 in
theorem del_int(b n c i:Nat)(cur:Array Value)(el:TypeId)(w:World)(hi:i<n)(hnc:n≤c)(hc63:c≤9223372036854775807)
  (hg:w.heap[b]?=some (.cells cur el (0,0))) (hcz:cur.size=c) (h1c:∀v∈cur.toList.take (n),v.oneCell'=true) :
  Calls Tryz.prog 123 #[.slice (some ⟨b,0,none⟩) n c,.int .i64 i,.int .i64 ((i:Int)+1)] w fun e w' =>
   e = .returned (.slice (some ⟨b,0,none⟩) (i+(n - (i+1))) c)∧∃q,w'=((w.drewN q).setRow b (putL cur.toList (i) ((cur.toList.take (n)).drop (i+1))).toArray).setRow b (putL (putL cur.toList (i) ((cur.toList.take (n)).drop (i+1))) (i+(n - (i+1))) (Builtin.zeroCells (Value.cells (.int .i64 0)) 1).toList).toArray:=by
 have uT:=run_underlying (P:=Tryz.prog) Tryz.underlying57
 have u3:=run_underlying (P:=Tryz.prog) Tryz.underlying3
 have mixed:Tryz.prog.follows .mixedOrders=true:=by kernel_rfl
 obtain⟨i0,hi0,hz0,hzs,hzb⟩:=info_parts (P:=Tryz.prog) (e:=3) (z:=.int .i64 0) (size:=1) (bytes:=8) (by kernel_rfl)
 have hne:¬((i:Int)=(i:Int)+1):=by omega
 have hcj:i+1≤c:=by omega
 have htn:((i:Int)+1).toNat=i+1:=by omega
 have hb1:(0:Int)≤(i:Int)+1:=by omega
 have hin:i≤n:=by omega
 have hin1:(i:Int)+1≤(n:Int):=by omega
 have hic:i≤c:=by omega
 obtain⟨cs,hcs⟩:∃cs,cs=(cur.toList.take (n)).drop (i+1):=⟨_,rfl⟩
 have hl:cs.length=(n - (i+1))*1:=by rw[hcs,List.length_drop,List.length_take,Array.length_toList]; omega
 have hget:∀j v,cs[j]?=some v→cur[i+1+j]?=some v:=fun j v hj=>by
  rw[hcs,List.getElem?_drop,List.getElem?_take] at hj
  split at hj
  ·simpa using hj
  ·cases hj
 have h1s:∀v∈cs,v.oneCell'=true:=fun v hv=>h1c v (by rw[hcs] at hv; exact List.mem_of_mem_drop hv)
 obtain⟨A,hA,hsrcA⟩:∃A:Addr,(if c=i+1 then some (⟨b,0,none⟩:Addr) else some ⟨b,i+1,none⟩)=some A∧∀j v,cs[j]?=some v→w.drew.cell? (A.add j)=some v:=by
  by_cases h:c=i+1
  ·refine⟨⟨b,0,none⟩,by simp[h],fun j v hj=>?_⟩
   have h0:cs.length=0:=by rw[hl,show n - (i+1)=0 by omega]<;>simp
   rw[List.length_eq_zero_iff.1 h0] at hj
   simp at hj
  ·refine⟨⟨b,i+1,none⟩,by simp[h],fun j v hj=>?_⟩
   rw[Addr.add_lit]
   exact (cell_of_heap (w:=w.drew) hg).trans (hget j v hj)
 have hsrc:∀cc,Src Tryz.prog 1 57 (.slice (some A) (n - (i+1)) cc) (n - (i+1)) cs w.drew:=fun cc=>Src.ofSlice w.drew Tryz.underlying57 A (n - (i+1)) cc cs hl hsrcA h1s
 have hap:∀ty cc,(Builtin.append_ #[57,57] ty #[.slice (some ⟨b,0,none⟩) i c,.slice (some A) (n - (i+1)) cc]).run Tryz.prog w.drew = .ok (.slice (some ⟨b,0,none⟩) (i+(n - (i+1))) c) (w.drew.setRow b (putL cur.toList (i) cs).toArray):=fun ty cc=>by
  have h:=run_append_src_room (P:=Tryz.prog) (w:=w.drew) 57 57 ty 3 i0 Tryz.underlying57 hi0 b i c cur el hg (.slice (some A) (n - (i+1)) cc) (n - (i+1)) cs (by rw[hzs]; exact hsrc cc) (by omega) (by rw[hzs]; omega)
  rw[hzs] at h
  simpa [putL] using h
 obtain⟨L1,hL1⟩:∃L1,L1=putL cur.toList (i) cs:=⟨_,rfl⟩
 rw[←hL1] at hap
 obtain⟨W1,hW1⟩:∃W1,W1=w.drew.setRow b L1.toArray:=⟨_,rfl⟩
 have hg1:W1.heap[b]?=some (.cells L1.toArray el (0,0)):=by rw[hW1]; exact setRow_heap w.drew b cur _ el (0,0) hg
 have hsz1:L1.length=c:=by rw[hL1,putL_len (by simp; omega)]; simpa using hcz
 have hzl:(Builtin.zeroCells (Value.cells (.int .i64 0)) 1).toList.length=1:=by rw[Array.length_toList,size_zeroCells]<;>rfl
 have hcl:∀ty cc,(Builtin.clear_ #[57] ty #[.slice (some ⟨b,i+(n - (i+1)),none⟩) (n - (i+(n - (i+1)))) cc]).run Tryz.prog W1 = .ok (.tuple #[]) (W1.setRow b (putL L1 (i+(n - (i+1))) (Builtin.zeroCells (Value.cells (.int .i64 0)) 1).toList).toArray):=fun ty cc=>by
  have hst:=run_storeCells_at Tryz.prog b (i+(n - (i+1))) el (Builtin.zeroCells (Value.cells (.int .i64 0)) 1).toList 0 L1.toArray W1 hg1 (by rw[hzl,List.size_toArray]; omega) (fun v hv=>by simp[Builtin.zeroCells,Value.cells] at hv; rcases hv with⟨a,ha,rfl⟩; first|rfl|(match a,ha with|0,_=>rfl|1,_=>rfl|2,_=>rfl))
  simp only[Nat.add_zero] at hst
  rw[show n - (i+(n - (i+1)))=1 by omega]
  simp[Builtin.clear_,uT,run_zero (show (Tryz.prog.info? 3).map (·.zero)=some (some (.int .i64 0)) by kernel_rfl),hst,putL]
 rw[←hW1] at hap
 rw[←hcs,←hL1]
 have hW:Hid (W1=w.drew.setRow b L1.toArray):=hW1
 clear hW1 hL1 hcs hsrc hsrcA hi0 hz0 hzs hzb hget hl h1s h1c hg hg1
 go_enter Tryz.func123,Tryz.ntmps123
 go_wp2_with fail
 go_region_law_o (refine step_append_runI rfl (.tmp 22) (.tmp 25) 57 57 rfl (.slice (some ⟨b,0,none⟩) i c) (.slice (some A) (n - (i+1)) (c - (i+1))) (by first|rfl|(simp[Act.eval,Act.put]; done)|(simp[Act.eval,Act.put,hA]; done)) (by first|rfl|(simp[Act.eval,Act.put]; done)|(simp[Act.eval,Act.put,hA]; done)) (hap _ _) ?_)
 go_wp2
 go_ret
 exact⟨rfl,1,by rw[hW.out]; rfl⟩
set_option maxHeartbeats 4000000 in
theorem del_thing(b n c i:Nat)(cur:Array Value)(el:TypeId)(w:World)(hi:i<n)(hnc:n≤c)(hc63:c≤9223372036854775807)
  (hg:w.heap[b]?=some (.cells cur el (0,0))) (hcz:cur.size=c*3) (h1c:∀v∈cur.toList.take (n*3),v.oneCell'=true) :
  Calls Tryz.prog 112 #[.slice (some ⟨b,0,none⟩) n c,.int .i64 i,.int .i64 ((i:Int)+1)] w fun e w' =>
   e = .returned (.slice (some ⟨b,0,none⟩) (i+(n - (i+1))) c)∧∃q,w'=((w.drewN q).setRow b (putL cur.toList (i*3) ((cur.toList.take (n*3)).drop ((i+1)*3))).toArray).setRow b (putL (putL cur.toList (i*3) ((cur.toList.take (n*3)).drop ((i+1)*3))) ((i+(n - (i+1)))*3) (Builtin.zeroCells (Value.cells (.agg #[.int .i64 0,.int .i64 0,.slice none 0 0])) 1).toList).toArray:=by
 have uT:=run_underlying (P:=Tryz.prog) Tryz.underlying23
 have u3:=run_underlying (P:=Tryz.prog) Tryz.underlying3
 have mixed:Tryz.prog.follows .mixedOrders=true:=by kernel_rfl
 obtain⟨i0,hi0,hz0,hzs,hzb⟩:=info_parts (P:=Tryz.prog) (e:=52) (z:=.agg #[.int .i64 0,.int .i64 0,.slice none 0 0]) (size:=3) (bytes:=40) (by kernel_rfl)
 have hne:¬((i:Int)=(i:Int)+1):=by omega
 have hcj:i+1≤c:=by omega
 have htn:((i:Int)+1).toNat=i+1:=by omega
 have hb1:(0:Int)≤(i:Int)+1:=by omega
 have hin:i≤n:=by omega
 have hin1:(i:Int)+1≤(n:Int):=by omega
 have hic:i≤c:=by omega
 obtain⟨cs,hcs⟩:∃cs,cs=(cur.toList.take (n*3)).drop ((i+1)*3):=⟨_,rfl⟩
 have hl:cs.length=(n - (i+1))*3:=by rw[hcs,List.length_drop,List.length_take,Array.length_toList]; omega
 have hget:∀j v,cs[j]?=some v→cur[(i+1)*3+j]?=some v:=fun j v hj=>by
  rw[hcs,List.getElem?_drop,List.getElem?_take] at hj
  split at hj
  ·simpa using hj
  ·cases hj
 have h1s:∀v∈cs,v.oneCell'=true:=fun v hv=>h1c v (by rw[hcs] at hv; exact List.mem_of_mem_drop hv)
 obtain⟨A,hA,hsrcA⟩:∃A:Addr,(if c=i+1 then some (⟨b,0,none⟩:Addr) else some ⟨b,(i+1)*3,none⟩)=some A∧∀j v,cs[j]?=some v→w.drew.cell? (A.add j)=some v:=by
  by_cases h:c=i+1
  ·refine⟨⟨b,0,none⟩,by simp[h],fun j v hj=>?_⟩
   have h0:cs.length=0:=by rw[hl,show n - (i+1)=0 by omega]<;>simp
   rw[List.length_eq_zero_iff.1 h0] at hj
   simp at hj
  ·refine⟨⟨b,(i+1)*3,none⟩,by simp[h],fun j v hj=>?_⟩
   rw[Addr.add_lit]
   exact (cell_of_heap (w:=w.drew) hg).trans (hget j v hj)
 have hsrc:∀cc,Src Tryz.prog 3 23 (.slice (some A) (n - (i+1)) cc) (n - (i+1)) cs w.drew:=fun cc=>Src.ofSlice w.drew Tryz.underlying23 A (n - (i+1)) cc cs hl hsrcA h1s
 have hap:∀ty cc,(Builtin.append_ #[23,23] ty #[.slice (some ⟨b,0,none⟩) i c,.slice (some A) (n - (i+1)) cc]).run Tryz.prog w.drew = .ok (.slice (some ⟨b,0,none⟩) (i+(n - (i+1))) c) (w.drew.setRow b (putL cur.toList (i*3) cs).toArray):=fun ty cc=>by
  have h:=run_append_src_room (P:=Tryz.prog) (w:=w.drew) 23 23 ty 52 i0 Tryz.underlying23 hi0 b i c cur el hg (.slice (some A) (n - (i+1)) cc) (n - (i+1)) cs (by rw[hzs]; exact hsrc cc) (by omega) (by rw[hzs]; omega)
  rw[hzs] at h
  simpa [putL] using h
 obtain⟨L1,hL1⟩:∃L1,L1=putL cur.toList (i*3) cs:=⟨_,rfl⟩
 rw[←hL1] at hap
 obtain⟨W1,hW1⟩:∃W1,W1=w.drew.setRow b L1.toArray:=⟨_,rfl⟩
 have hg1:W1.heap[b]?=some (.cells L1.toArray el (0,0)):=by rw[hW1]; exact setRow_heap w.drew b cur _ el (0,0) hg
 have hsz1:L1.length=c*3:=by rw[hL1,putL_len (by simp; omega)]; simpa using hcz
 have hzl:(Builtin.zeroCells (Value.cells (.agg #[.int .i64 0,.int .i64 0,.slice none 0 0])) 1).toList.length=3:=by rw[Array.length_toList,size_zeroCells]<;>rfl
 have hcl:∀ty cc,(Builtin.clear_ #[23] ty #[.slice (some ⟨b,(i+(n - (i+1)))*3,none⟩) (n - (i+(n - (i+1)))) cc]).run Tryz.prog W1 = .ok (.tuple #[]) (W1.setRow b (putL L1 ((i+(n - (i+1)))*3) (Builtin.zeroCells (Value.cells (.agg #[.int .i64 0,.int .i64 0,.slice none 0 0])) 1).toList).toArray):=fun ty cc=>by
  have hst:=run_storeCells_at Tryz.prog b ((i+(n - (i+1)))*3) el (Builtin.zeroCells (Value.cells (.agg #[.int .i64 0,.int .i64 0,.slice none 0 0])) 1).toList 0 L1.toArray W1 hg1 (by rw[hzl,List.size_toArray]; omega) (fun v hv=>by simp[Builtin.zeroCells,Value.cells] at hv; rcases hv with⟨a,ha,rfl⟩; first|rfl|(match a,ha with|0,_=>rfl|1,_=>rfl|2,_=>rfl))
  simp only[Nat.add_zero] at hst
  rw[show n - (i+(n - (i+1)))=1 by omega]
  simp[Builtin.clear_,uT,run_zero (show (Tryz.prog.info? 52).map (·.zero)=some (some (.agg #[.int .i64 0,.int .i64 0,.slice none 0 0])) by kernel_rfl),hst,putL]
 rw[←hW1] at hap
 rw[←hcs,←hL1]
 have hW:Hid (W1=w.drew.setRow b L1.toArray):=hW1
 clear hW1 hL1 hcs hsrc hsrcA hi0 hz0 hzs hzb hget hl h1s h1c hg hg1
 go_enter Tryz.func112,Tryz.ntmps112
 go_wp2_with fail
 go_region_law_o (refine step_append_runI rfl (.tmp 22) (.tmp 25) 23 23 rfl (.slice (some ⟨b,0,none⟩) i c) (.slice (some A) (n - (i+1)) (c - (i+1))) (by first|rfl|(simp[Act.eval,Act.put]; done)|(simp[Act.eval,Act.put,hA]; done)) (by first|rfl|(simp[Act.eval,Act.put]; done)|(simp[Act.eval,Act.put,hA]; done)) (hap _ _) ?_)
 go_wp2
 go_ret
 exact⟨rfl,1,by rw[hW.out]; rfl⟩
end Go.Am
namespace Go.Am
set_option linter.all false
open Go Go.RowKit Go.Proofs
set_option maxRecDepth 100000
set_option linter.all false
theorem putL_get{l cs:List Value}{o:Nat}(h:o+cs.length≤l.length)(k:Nat):(putL l o cs)[k]?=if k<o then l[k]? else if k<o+cs.length then cs[k - o]? else l[k]?:=by
 unfold putL
 have h1:(l.take o).length=o:=by rw[List.length_take]; omega
 split
 ·rw[List.append_assoc,List.getElem?_append_left (by omega),List.getElem?_take,if_pos (by assumption)]
 ·split
  ·rw[List.append_assoc,List.getElem?_append_right (by omega),h1,List.getElem?_append_left (by omega)]
  ·rw[List.getElem?_append_right (by simp[h1]; omega),List.getElem?_drop]
   congr 1
   simp[h1]
   omega
section
variable {G:Gh} {w:World}
theorem cont_insert{s i:Nat}{xs:List AV}{y:AV}{cur:Array Value}{vs R:List Value}(hc:Cont G w s xs cur)(hi:i≤xs.length)(hy:y.cells.length=s)(hv:∀(j:Nat) z,y.cells[j]?=some z→∃u,vs[j]?=some u∧RV G w z u)
  (h1:∀k,k<i*s→R[k]?=cur[k]?) (h2:∀j,j<s→R[i*s+j]?=vs[j]?) (h3:∀k,i*s≤k→k<xs.length*s→R[k+s]?=cur[k]?):Cont G w s (xs.take i++y::xs.drop i) R.toArray:=by
 intro k x hx
 have ht:(xs.take i).length=i:=by rw[List.length_take]; omega
 rcases Nat.lt_trichotomy k i with hk|hk|hk
 ·rw[List.getElem?_append_left (by omega),List.getElem?_take,if_pos hk] at hx
  obtain⟨q1,q2⟩:=hc k x hx
  refine⟨q1,fun j z hz=>?_⟩
  obtain⟨u,hu,hr⟩:=q2 j z hz
  have hj:j<s:=by rw[←q1]; exact (List.getElem?_eq_some_iff.1 hz).1
  refine⟨u,?_,hr⟩
  rw[List.getElem?_toArray,h1 _ (by have:(k+1)*s≤i*s:=Nat.mul_le_mul_right _ hk; rw[Nat.add_mul] at this; omega)]
  exact hu
 ·subst hk
  rw[List.getElem?_append_right (by omega),ht,Nat.sub_self] at hx
  simp at hx
  subst hx
  refine⟨hy,fun j z hz=>?_⟩
  obtain⟨u,hu,hr⟩:=hv j z hz
  have hj:j<s:=by rw[←hy]; exact (List.getElem?_eq_some_iff.1 hz).1
  exact⟨u,by rw[List.getElem?_toArray,h2 j hj]; exact hu,hr⟩
 ·rw[List.getElem?_append_right (by omega),ht] at hx
  obtain⟨m,rfl⟩:∃m,k=i+1+m:=⟨k - i - 1,by omega⟩
  rw[show i+1+m - i=m+1 by omega,List.getElem?_cons_succ,List.getElem?_drop] at hx
  obtain⟨q1,q2⟩:=hc (i+m) x hx
  refine⟨q1,fun j z hz=>?_⟩
  obtain⟨u,hu,hr⟩:=q2 j z hz
  have hj:j<s:=by rw[←q1]; exact (List.getElem?_eq_some_iff.1 hz).1
  have hlt:=(List.getElem?_eq_some_iff.1 hx).1
  have e1:i*s≤(i+m)*s:=Nat.mul_le_mul_right _ (by omega)
  have e2:(i+m+1)*s≤xs.length*s:=Nat.mul_le_mul_right _ hlt
  have e3:(i+m+1)*s=(i+m)*s+s:=by rw[Nat.add_mul,Nat.one_mul]
  have e4:(i+1+m)*s=(i+m)*s+s:=by rw[show i+1+m=i+m+1 by omega]; exact e3
  refine⟨u,?_,hr⟩
  rw[List.getElem?_toArray,show (i+1+m)*s+j=((i+m)*s+j)+s by omega,h3 _ (by omega) (by omega)]
  exact hu
theorem cont_erase{s i:Nat}{xs:List AV}{cur:Array Value}{R:List Value}(hc:Cont G w s xs cur)(hi:i<xs.length)(h1:∀k,k<i*s→R[k]?=cur[k]?)(h3:∀k,i*s≤k→k+s<xs.length*s→R[k]?=cur[k+s]?):Cont G w s (xs.take i++xs.drop (i+1)) R.toArray:=by
 intro k x hx
 have ht:(xs.take i).length=i:=by rw[List.length_take]; omega
 by_cases hk:k<i
 ·rw[List.getElem?_append_left (by omega),List.getElem?_take,if_pos hk] at hx
  obtain⟨q1,q2⟩:=hc k x hx
  refine⟨q1,fun j z hz=>?_⟩
  obtain⟨u,hu,hr⟩:=q2 j z hz
  have hj:j<s:=by rw[←q1]; exact (List.getElem?_eq_some_iff.1 hz).1
  refine⟨u,?_,hr⟩
  rw[List.getElem?_toArray,h1 _ (by have:(k+1)*s≤i*s:=Nat.mul_le_mul_right _ hk; rw[Nat.add_mul] at this; omega)]
  exact hu
 ·rw[List.getElem?_append_right (by omega),ht,List.getElem?_drop] at hx
  obtain⟨m,rfl⟩:∃m,k=i+m:=⟨k - i,by omega⟩
  rw[show i+1+(i+m - i)=i+m+1 by omega] at hx
  obtain⟨q1,q2⟩:=hc (i+m+1) x hx
  refine⟨q1,fun j z hz=>?_⟩
  obtain⟨u,hu,hr⟩:=q2 j z hz
  have hj:j<s:=by rw[←q1]; exact (List.getElem?_eq_some_iff.1 hz).1
  have hlt:=(List.getElem?_eq_some_iff.1 hx).1
  have e1:i*s≤(i+m)*s:=Nat.mul_le_mul_right _ (by omega)
  have e2:(i+m+1+1)*s≤xs.length*s:=Nat.mul_le_mul_right _ hlt
  have e3:(i+m+1)*s=(i+m)*s+s:=by rw[Nat.add_mul,Nat.one_mul]
  have e4:(i+m+1+1)*s=(i+m)*s+s+s:=by rw[Nat.add_mul,Nat.one_mul,e3]
  refine⟨u,?_,hr⟩
  rw[List.getElem?_toArray,h3 _ (by omega) (by omega),←hu]
  congr 1
  omega
theorem one_of_cont{s:Nat}{xs:List AV}{cur:Array Value}(hc:Cont G w s xs cur)(h1:∀x∈xs,x.cells.all AV.one=true):∀v∈cur.toList.take (xs.length*s),v.oneCell'=true:=fun v hv=>by
 obtain⟨k,hk⟩:=List.mem_iff_getElem?.1 hv
 rw[List.getElem?_take] at hk
 split at hk
 ·rename_i hlt
  have hs:0<s:=by
   rcases Nat.eq_zero_or_pos s with h|h
   ·subst h; omega
   ·exact h
  have hi:k / s<xs.length:=Nat.div_lt_of_lt_mul (by rw[Nat.mul_comm]; exact hlt)
  have hj:k % s<s:=Nat.mod_lt _ hs
  obtain⟨x,hx⟩:∃x,xs[k / s]?=some x:=⟨_,List.getElem?_eq_getElem hi⟩
  obtain⟨q1,q2⟩:=hc _ x hx
  obtain⟨z,hz⟩:∃z,x.cells[k % s]?=some z:=⟨_,List.getElem?_eq_getElem (by omega)⟩
  obtain⟨u,hu,hr⟩:=q2 _ z hz
  have e:k / s*s+k % s=k:=Nat.div_add_mod' k s
  rw[e] at hu
  have:v=u:=by
   rw[Array.getElem?_toList,hu] at hk
   injection hk with hk
   exact hk.symm
  subst this
  exact hr.oneCell (List.all_eq_true.1 (h1 x (List.mem_of_getElem? hx)) z (List.mem_of_getElem? hz))
 ·cases hk
end
end Go.Am
namespace Go.Am
set_option linter.all false
open Go Go.RowKit Go.Proofs
set_option maxRecDepth 100000
set_option linter.all false
theorem RS.rowed{C:Cx}{G:Gh}{bx:Nat→Option Bx}{w w':World}(hs:RS C G bx w){T id:Nat}{x:Bx}(hx:bx T=some x)(hro:x.ro=false)(hfr:x.frz=false)(hn:¬G.nl T){b s:Nat}{cur:Array Value}{el:TypeId}(hb:G.bm T=some (b,s))(hg:w.heap[b]?=some (.cells cur el (0,0)))
  (hu:¬G.used id) (R:Array Value) (xs':List AV) (hlen:xs'.length*s≤R.size) (hh:w'.heap[b]?=some (.cells R el (0,0))) (ho:∀k,k≠b→w'.heap[k]?=w.heap[k]?) (h1:w'.os=w.os) (h2:w'.tape=w.tape) (h3:w'.output=w.output) (h4:w.heap.size≤w'.heap.size) (hc:Cont G w s xs' R) :
  RS C (G.rename T id b s) (upd (upd bx T none) id (some ⟨xs',x.d,false,false⟩)) w'∧Evo G w (G.rename T id b s) w':=by
 obtain⟨b1,s1,cur1,e1,k1,k2,k3,k4,k5,k6,k7⟩:=hs.box T x hx hn
 rw[hb] at k1
 injection k1 with k1
 injection k1 with kb ks
 subst kb ks
 have hfz:∀b2 o,G.fz b2 o→b2≠b:=fun b2 o hf e=>k6 hfr o (e▸hf)
 exact hs.moved (id0:=T) (id:=id) (b':=b) (s:=s) (x':=⟨xs',x.d,false,false⟩) (cur':=R) (e':=el) hu ⟨h1,h2,h3,h4,fun k hk=>ho k (by have:=k3 hro; omega)⟩
  (fun j b2 s2 hj hji=>ho b2 fun hbb=>hji (hs.inj j T b2 s2 s hj (hbb▸hb))) (fun b2 o hf=>World.cell?_of_block (w:=w) (ho b2 (hfz b2 o hf))) hh (k3 hro) (fun j s2 hj hjb=>hj (hs.inj j T b s2 s hjb hb)) hlen k4.1 hc (fun _ o hf=>hfz b o hf rfl) (fun o hf=>(hfz b o hf rfl).elim)
theorem RS.rehomed{C:Cx}{G:Gh}{bx:Nat→Option Bx}{w w':World}(hs:RS C G bx w){T id:Nat}{x:Bx}(hx:bx T=some x)(hn:¬G.nl T){b s:Nat}(hb:G.bm T=some (b,s))
  (hu:¬G.used id) (R:Array Value) (el:TypeId) (xs':List AV) (hlen:xs'.length*s≤R.size) (hh:w'.heap[w.heap.size]?=some (.cells R el (0,0))) (ho:∀k,k<w.heap.size→w'.heap[k]?=w.heap[k]?) (h1:w'.os=w.os) (h2:w'.tape=w.tape) (h3:w'.output=w.output) (h4:w.heap.size≤w'.heap.size) (hc:Cont G w s xs' R) :
  RS C (G.rename T id w.heap.size s) (upd (upd bx T none) id (some ⟨xs',x.d,false,false⟩)) w'∧Evo G w (G.rename T id w.heap.size s) w':=by
 obtain⟨b1,s1,cur1,e1,k1,k2,k3,k4,k5,k6,k7⟩:=hs.box T x hx hn
 rw[hb] at k1
 injection k1 with k1
 injection k1 with kb ks
 subst kb ks
 have hfl:∀b2 o,G.fz b2 o→b2<w.heap.size:=fun b2 o hf=>let ⟨u,hu⟩:=hs.fzok b2 o hf; lt_of_cellAt hu
 exact hs.moved (id0:=T) (id:=id) (b':=w.heap.size) (s:=s) (x':=⟨xs',x.d,false,false⟩) (cur':=R) (e':=el) hu ⟨h1,h2,h3,h4,fun k hk=>ho k (by have:=hs.size; omega)⟩
  (fun j b2 s2 hj hji=>ho b2 (hs.rows j b2 s2 hj)) (fun b2 o hf=>World.cell?_of_block (w:=w) (ho b2 (hfl b2 o hf))) hh hs.size (fun j s2 hj hjb=>by have:=hs.rows j _ s2 hjb; omega) hlen k4.1 hc (fun _ o hf=>by have:=hfl _ o hf; omega) (fun o hf=>by have:=hfl _ o hf; omega)
theorem rv_int{G:Gh}{w:World}{k:IntKind}{n:Int}{v:Value}(h:RV G w (.int k n) v):v = .int k n:=by cases h; rfl
set_option maxHeartbeats 1000000 in
theorem Insert_int(xs:List AV)(y:AV)(T Y i:Nat)(id:Nat)(hi:i≤xs.length)(hTY:T≠Y)(hTid:T<id∨id+1024≤T)(hbig:xs.length≤1000000)(h1:∀x∈xs,x.cells.all AV.one=true)(hy:y.cells.length=1)(hy1:y.cells.all AV.one=true):
  FnOk Tryz.prog 127 [.bsl T 0 xs.length,.int .i64 i,.bsl Y 0 1] [(T,⟨xs,.int .i64 0,false,false⟩),(Y,⟨[y],.int .i64 0,false,false⟩)] id (.bsl id 0 (xs.length+1)) [(T,none),(id,some ⟨xs.take i++y::xs.drop i,.int .i64 0,false,false⟩)]:=by
 refine⟨⟨_,Tryz.func127,by kernel_rfl,by kernel_rfl⟩,fun C G bx w vs nb hs hv hh hnb hid=>?_⟩
 have hxT:=hh (T,⟨xs,.int .i64 0,false,false⟩) (by simp)
 have hxY:=hh (Y,⟨[y],.int .i64 0,false,false⟩) (by simp)
 simp only at hxT hxY
 have hu:¬G.used id:=hid id (Nat.le_refl _) (by omega)
 obtain⟨hl,hvv⟩:=hv
 obtain⟨v0,v1,v2,rfl⟩:∃v0 v1 v2,vs = #[v0,v1,v2]:=by
  match vs,hl with
  | ⟨[a,b,c]⟩,_=>exact⟨a,b,c,rfl⟩
 have hv0:RV G w (.bsl T 0 xs.length) v0:=hvv 0 _ rfl
 have hv1:RV G w (.int .i64 i) v1:=hvv 1 _ rfl
 have hv2:RV G w (.bsl Y 0 1) v2:=hvv 2 _ rfl
 obtain rfl:=rv_int hv1
 have hnY:¬G.nl Y:=hs.lies hxY (i:=0) (y:=y) rfl
 obtain⟨vb,sY,curY,eY,y1,y2,y3,⟨y4,y5⟩,y6,y7,y8⟩:=hs.box Y _ hxY hnY
 have hsY:sY=1:=by
  have:=(y6 0 y rfl).1
  omega
 subst hsY
 obtain⟨vc,curY',eY',hv2',hvc1,hvc2,hvc3,hvc4⟩:∃c cur e,v2 = .slice (some ⟨vb,0,none⟩) 1 c∧1≤c∧c≤maxLen∧w.heap[vb]?=some (.cells cur e (0,0))∧cur.size=(0+c)*1:=by
  cases hv2 with|bsl _ _ _ _ _ _ hb _ =>
  obtain⟨c,cur,e,q1,q2,q3,q4,q5⟩:=hb vb 1 y1
  exact⟨c,cur,e,by simpa using q1,q2,q3,q4,q5⟩
 have hv2o:=hv2
 subst hv2'
 obtain⟨vl,hvl⟩:∃vl,vl=curY.toList.take 1:=⟨_,rfl⟩
 have hszY:1≤curY.size:=by simpa using y5
 have hvll:vl.length=1:=by rw[hvl,List.length_take,Array.length_toList]; omega
 have hvs:∀j v,vl[j]?=some v→w.cell? ⟨vb,j,none⟩=some v:=fun j v hj=>by
  rw[hvl,List.getElem?_take] at hj
  split at hj
  ·exact (cell_of_heap y2).trans (by simpa using hj)
  ·cases hj
 have h1v:∀v∈vl,v.oneCell'=true:=by
  have:=one_of_cont y6 (h1:=fun x hx=>by simp at hx; subst hx; exact hy1)
  rw[hvl]
  simpa using this
 have hyv:∀(j:Nat) z,y.cells[j]?=some z→∃u,vl[j]?=some u∧RV G w z u:=fun j z hz=>by
  obtain⟨u,q1,q2⟩:=(y6 0 y rfl).2 j z hz
  refine⟨u,?_,q2⟩
  have hj:j<1:=by rw[←hy]; exact (List.getElem?_eq_some_iff.1 hz).1
  rw[hvl,List.getElem?_take,if_pos hj]
  simpa using q1
 by_cases hin:i=xs.length
 ·-- at the end: an append
  subst hin
  obtain⟨i0,hi0,hz0,hzs,hzb⟩:=info_parts (P:=Tryz.prog) (e:=3) (z:=.int .i64 0) (size:=1) (bytes:=8) (by kernel_rfl)
  have hap:=append_ok (P:=Tryz.prog) hs hu hv0 hv2o (ys:=[y]) (by simp[elems,hxY]) (d:=.int .i64 0) (s:=1) (bytes:=8) (by simpa using hy) (fun z hz c hc=>by simp at hz; subst hz; exact List.all_eq_true.1 hy1 c hc) (r:=.bsl id 0 (xs.length+1)) (rd:=[(T,⟨xs,.int .i64 0,false,false⟩)]) (wr:=[(T,none),(id,some ⟨xs++[y],.int .i64 0,false,false⟩)])
   (by simp[appAV,hxT,Bx.sz]) (by simp[zT]) (t:=57) (tx:=57) (ty:=57) (e:=3) (i:=i0) (z:=.int .i64 0) (.inr ⟨fun t h=>(by cases h),3,Tryz.underlying57⟩) Tryz.underlying57 hi0 hz0 (by rfl) hzs hzb
   (fun n hn=>by simp[lenAV,hxT] at hn; subst hn; constructor<;>(simp; omega))
  obtain⟨v,w1,G',hrun,r1,r2,r3,r4⟩:=hap
  have hform:∃A c,v0 = .slice A xs.length c∧xs.length≤c∧c≤maxLen∧(A=none→c=0):=by
   by_cases hn:G.nl T
   ·have hx0:=(hs.nil T _ hxT hn).1
    simp only at hx0
    cases hv0 with|bsl _ _ _ _ _ _ _ hnl =>
    obtain⟨q1,_,q3⟩:=hnl hn
    exact⟨none,0,by rw[q1,q3],by omega,by simp[maxLen],fun _=>rfl⟩
   ·obtain⟨b,s,cur,e,k1,_⟩:=hs.box T _ hxT hn
    cases hv0 with|bsl _ _ _ _ _ _ hb _ =>
    obtain⟨c,_,_,q1,q2,q3,_⟩:=hb b s k1
    exact⟨_,c,q1,q2,q3,fun h=>by cases h⟩
  obtain⟨A,c,rfl,q2,q3,q4⟩:=hform
  refine (insEnd_int A xs.length c vb vc w w1 v q2 (by unfold maxLen at q3; omega) q4 (fun ty=>hrun)).mono fun e w' ⟨he,hw⟩=>?_
  subst he hw
  refine⟨v,G',rfl,?_,r2,r3,fun x hx=>(r4 x hx).imp _root_.id fun h=>by omega⟩
  simpa using r1
 ·have hin':i<xs.length:=by omega
  have hnT:¬G.nl T:=fun hn=>by have:=(hs.nil T _ hxT hn).1; simp only at this; rw[this] at hin'; simp at hin'
  obtain⟨b,sT,cur,e,k1,k2,k3,⟨k4,k5⟩,k6,k7,k8⟩:=hs.box T _ hxT hnT
  have hsT:sT=1:=by rw[←k4]; rfl
  subst hsT
  obtain⟨c,hv0',hc1,hc2,hc3⟩:∃c,v0 = .slice (some ⟨b,0,none⟩) xs.length c∧xs.length≤c∧c≤maxLen∧cur.size=c*1:=by
   cases hv0 with|bsl _ _ _ _ _ _ hb _ =>
   obtain⟨c,cur',e',q1,q2,q3,q4,q5⟩:=hb b 1 k1
   rw[k2] at q4
   injection q4 with q4
   injection q4 with q4 _
   subst q4
   exact⟨c,by simpa using q1,q2,q3,by simpa using q5⟩
  subst hv0'
  simp only at k5 k6
  unfold maxLen at hc2
  have h1c:=one_of_cont k6 h1
  have hct:cur.toList.length=cur.size:=by simp
  have hvb:vb≠b:=fun e=>hTY (hs.inj T Y b 1 1 k1 (e▸y1))
  have hfin:∀(W:World) (b':Nat) (cc:Nat) (R:List Value) (el':TypeId),(∀k,k<i*1→R[k]?=cur[k]?)→(∀j,j<1→R[i*1+j]?=vl[j]?)→(∀k,i*1≤k→k<xs.length*1→R[k+1]?=cur[k]?)→Cont G w 1 (xs.take i++y::xs.drop i) R.toArray:=fun W b' cc R el' q1 q2 q3=>cont_insert k6 hi hy hyv q1 q2 q3
  have hlen':(xs.take i++y::xs.drop i).length=xs.length+1:=by simp; omega
  by_cases hroom:xs.length+1≤c
  ·-- there is room
   have hsa:w.shape? vb=some (eY,curY.size):=by simp[World.shape?,y2]
   have hsb:w.shape? b=some (e,cur.size):=by simp[World.shape?,k2]
   refine (insShift_int b xs.length c i vb vc cur e vl w hin' hroom (by omega) hvb hvll k2 (by omega) (by simpa using h1c) hvs h1v eY e curY.size cur.size hsa hsb (by omega) (by simp[World.frozen?,y2]) (by simp[World.frozen?,y2])).mono fun ex w' ⟨he,q,hw⟩=>?_
   subst he
   obtain⟨L1,hL1⟩:∃L1,L1=putL cur.toList (i+1) ((cur.toList.take (xs.length)).drop (i)):=⟨_,rfl⟩
   rw[←hL1] at hw
   have hcl:((cur.toList.take (xs.length)).drop (i)).length=(xs.length - i):=by rw[List.length_drop,List.length_take,hct]; omega
   have hL1l:L1.length=cur.size:=by rw[hL1,putL_len (by rw[hcl,hct]; omega),hct]
   have hRl:(putL L1 (i) vl).length=cur.size:=by rw[putL_len (by omega),hL1l]
   have hcont:Cont G w 1 (xs.take i++y::xs.drop i) (putL L1 (i) vl).toArray:=by
    refine hfin w b c _ e (fun k hk=>?_) (fun j hj=>?_) (fun k hk1 hk2=>?_)
    ·rw[putL_get (by omega),if_pos (by omega),hL1,putL_get (by rw[hcl,hct]; omega),if_pos (by omega),Array.getElem?_toList]
    ·rw[putL_get (by omega),if_neg (by omega),if_pos (by omega)]
     congr 1
     omega
    ·rw[putL_get (by omega),if_neg (by omega),if_neg (by omega),hL1,putL_get (by rw[hcl,hct]; omega),if_neg (by omega),if_pos (by rw[hcl]; omega),List.getElem?_drop,List.getElem?_take,if_pos (by omega),Array.getElem?_toList]
     congr 1
     omega
   have hg1:((w.drewN q).setRow b L1.toArray).heap[b]?=some (.cells L1.toArray e (0,0)):=setRow_heap (w.drewN q) b cur _ e (0,0) k2
   have hg2:w'.heap[b]?=some (.cells (putL L1 (i) vl).toArray e (0,0)):=by rw[hw]; exact setRow_heap _ b _ _ e (0,0) hg1
   have hother:∀k,k≠b→w'.heap[k]?=w.heap[k]?:=fun k hk=>by
    rw[hw]
    exact (setRow_other _ b k _ hk).trans (setRow_other (w.drewN q) b k _ hk)
   obtain⟨r1,r2⟩:=hs.rowed (id:=id) hxT rfl rfl hnT k1 k2 hu (putL L1 (i) vl).toArray (xs.take i++y::xs.drop i) (by rw[hlen',List.size_toArray,hRl]; omega) hg2 hother (by rw[hw]; rfl) (by rw[hw]; rfl) (by rw[hw]; rfl) (by rw[hw]; simp[World.drewN]) hcont
   refine⟨_,_,rfl,r1,r2,?_,fun x hx=>hx.elim (fun h=>.inr (by omega)) .inl⟩
   refine .bsl id 0 _ _ rfl (.inl rfl) (fun b' s' hbm=>?_) fun hn'=>(hu (hs.nlu id hn').1).elim
   simp only[Gh.rename,upd_eq,Option.some.injEq,Prod.mk.injEq] at hbm
   obtain⟨rfl,rfl⟩:=hbm
   exact⟨c,_,e,by simp,hroom,by unfold maxLen; omega,hg2,by rw[List.size_toArray,hRl]; omega⟩
  ·-- a new row
   refine (insGrow_int b xs.length c i vb vc cur e vl w hin' hc1 (by omega) (by omega) hvll k2 (by omega) (by simpa using h1c) hvs h1v).mono fun ex w' ⟨he,q,ROW,hRl,hRt,hw⟩=>?_
   subst he
   have hG1:=grownCap_ge w (xs.length+1) c 3
   have hG2:=grownCap_le_maxLen w (xs.length+1) c 3 (by unfold maxLen; omega)
   generalize grownCap w (xs.length+1) c 3=g at hRl hG1 hG2 hw
   obtain⟨R1,hR1⟩:∃R1,R1=putL ROW (i) vl:=⟨_,rfl⟩
   rw[←hR1] at hw
   have hcl:((cur.toList.take (xs.length)).drop (i)).length=(xs.length - i):=by rw[List.length_drop,List.length_take,hct]; omega
   have hR1l:R1.length=g*1:=by rw[hR1,putL_len (by omega),hRl]
   obtain⟨R2,hR2⟩:∃R2,R2=putL R1 (i+1) ((cur.toList.take (xs.length)).drop (i)):=⟨_,rfl⟩
   rw[←hR2] at hw
   have hR2l:R2.length=g*1:=by rw[hR2,putL_len (by rw[hcl]; omega),hR1l]
   have hcont:Cont G w 1 (xs.take i++y::xs.drop i) R2.toArray:=by
    refine hfin w b c _ e (fun k hk=>?_) (fun j hj=>?_) (fun k hk1 hk2=>?_)
    ·rw[hR2,putL_get (by rw[hcl]; omega),if_pos (by omega),hR1,putL_get (by omega),if_pos (by omega)]
     have:=congrArg (fun l=>l[k]?) hRt
     simp only[List.getElem?_take] at this
     rw[if_pos (by omega),if_pos (by omega)] at this
     rw[this,Array.getElem?_toList]
    ·rw[hR2,putL_get (by rw[hcl]; omega),if_pos (by omega),hR1,putL_get (by omega),if_neg (by omega),if_pos (by omega)]
     congr 1
     omega
    ·rw[hR2,putL_get (by rw[hcl]; omega),if_neg (by omega),if_pos (by rw[hcl]; omega),List.getElem?_drop,List.getElem?_take,if_pos (by omega),Array.getElem?_toList]
     congr 1
     omega
   have hN0:((w.drewN q).alloc (.cells ROW.toArray 3)).heap[w.heap.size]?=some (.cells ROW.toArray 3 (0,0)):=heap_alloc_new (w.drewN q) _
   have hN1:(((w.drewN q).alloc (.cells ROW.toArray 3)).setRow w.heap.size R1.toArray).heap[w.heap.size]?=some (.cells R1.toArray 3 (0,0)):=setRow_heap _ _ _ _ _ (0,0) hN0
   have hN2:w'.heap[w.heap.size]?=some (.cells R2.toArray 3 (0,0)):=by rw[hw]; exact setRow_heap _ _ _ _ _ (0,0) hN1
   have hother:∀k,k<w.heap.size→w'.heap[k]?=w.heap[k]?:=fun k hk=>by
    rw[hw]
    exact ((setRow_other _ _ k _ (by omega)).trans (setRow_other _ _ k _ (by omega))).trans (Below.heap_alloc (w.drewN q) _ k hk)
   obtain⟨r1,r2⟩:=hs.rehomed (id:=id) hxT hnT k1 hu R2.toArray 3 (xs.take i++y::xs.drop i) (by rw[hlen',List.size_toArray,hR2l]; omega) hN2 hother (by rw[hw]; rfl) (by rw[hw]; rfl) (by rw[hw]; rfl) (by rw[hw]; simp[World.drewN]) hcont
   refine⟨_,_,rfl,r1,r2,?_,fun x hx=>hx.elim (fun h=>.inr (by omega)) .inl⟩
   refine .bsl id 0 _ _ rfl (.inl rfl) (fun b' s' hbm=>?_) fun hn'=>(hu (hs.nlu id hn').1).elim
   simp only[Gh.rename,upd_eq,Option.some.injEq,Prod.mk.injEq] at hbm
   obtain⟨rfl,rfl⟩:=hbm
   exact⟨g,_,3,by simp,hG1,hG2,hN2,by rw[List.size_toArray,hR2l]; omega⟩
set_option maxHeartbeats 1000000 in
theorem Insert_thing(xs:List AV)(y:AV)(T Y i:Nat)(id:Nat)(hi:i≤xs.length)(hTY:T≠Y)(hTid:T<id∨id+1024≤T)(hbig:xs.length≤1000000)(h1:∀x∈xs,x.cells.all AV.one=true)(hy:y.cells.length=3)(hy1:y.cells.all AV.one=true):
  FnOk Tryz.prog 110 [.bsl T 0 xs.length,.int .i64 i,.bsl Y 0 1] [(T,⟨xs,zT,false,false⟩),(Y,⟨[y],zT,false,false⟩)] id (.bsl id 0 (xs.length+1)) [(T,none),(id,some ⟨xs.take i++y::xs.drop i,zT,false,false⟩)]:=by
 refine⟨⟨_,Tryz.func110,by kernel_rfl,by kernel_rfl⟩,fun C G bx w vs nb hs hv hh hnb hid=>?_⟩
 have hxT:=hh (T,⟨xs,zT,false,false⟩) (by simp)
 have hxY:=hh (Y,⟨[y],zT,false,false⟩) (by simp)
 simp only at hxT hxY
 have hu:¬G.used id:=hid id (Nat.le_refl _) (by omega)
 obtain⟨hl,hvv⟩:=hv
 obtain⟨v0,v1,v2,rfl⟩:∃v0 v1 v2,vs = #[v0,v1,v2]:=by
  match vs,hl with
  | ⟨[a,b,c]⟩,_=>exact⟨a,b,c,rfl⟩
 have hv0:RV G w (.bsl T 0 xs.length) v0:=hvv 0 _ rfl
 have hv1:RV G w (.int .i64 i) v1:=hvv 1 _ rfl
 have hv2:RV G w (.bsl Y 0 1) v2:=hvv 2 _ rfl
 obtain rfl:=rv_int hv1
 have hnY:¬G.nl Y:=hs.lies hxY (i:=0) (y:=y) rfl
 obtain⟨vb,sY,curY,eY,y1,y2,y3,⟨y4,y5⟩,y6,y7,y8⟩:=hs.box Y _ hxY hnY
 have hsY:sY=3:=by
  have:=(y6 0 y rfl).1
  omega
 subst hsY
 obtain⟨vc,curY',eY',hv2',hvc1,hvc2,hvc3,hvc4⟩:∃c cur e,v2 = .slice (some ⟨vb,0,none⟩) 1 c∧1≤c∧c≤maxLen∧w.heap[vb]?=some (.cells cur e (0,0))∧cur.size=(0+c)*3:=by
  cases hv2 with|bsl _ _ _ _ _ _ hb _ =>
  obtain⟨c,cur,e,q1,q2,q3,q4,q5⟩:=hb vb 3 y1
  exact⟨c,cur,e,by simpa using q1,q2,q3,q4,q5⟩
 have hv2o:=hv2
 subst hv2'
 obtain⟨vl,hvl⟩:∃vl,vl=curY.toList.take 3:=⟨_,rfl⟩
 have hszY:3≤curY.size:=by simpa using y5
 have hvll:vl.length=3:=by rw[hvl,List.length_take,Array.length_toList]; omega
 have hvs:∀j v,vl[j]?=some v→w.cell? ⟨vb,j,none⟩=some v:=fun j v hj=>by
  rw[hvl,List.getElem?_take] at hj
  split at hj
  ·exact (cell_of_heap y2).trans (by simpa using hj)
  ·cases hj
 have h1v:∀v∈vl,v.oneCell'=true:=by
  have:=one_of_cont y6 (h1:=fun x hx=>by simp at hx; subst hx; exact hy1)
  rw[hvl]
  simpa using this
 have hyv:∀(j:Nat) z,y.cells[j]?=some z→∃u,vl[j]?=some u∧RV G w z u:=fun j z hz=>by
  obtain⟨u,q1,q2⟩:=(y6 0 y rfl).2 j z hz
  refine⟨u,?_,q2⟩
  have hj:j<3:=by rw[←hy]; exact (List.getElem?_eq_some_iff.1 hz).1
  rw[hvl,List.getElem?_take,if_pos hj]
  simpa using q1
 by_cases hin:i=xs.length
 ·-- at the end: an append
  subst hin
  obtain⟨i0,hi0,hz0,hzs,hzb⟩:=info_parts (P:=Tryz.prog) (e:=52) (z:=.agg #[.int .i64 0,.int .i64 0,.slice none 0 0]) (size:=3) (bytes:=40) (by kernel_rfl)
  have hap:=append_ok (P:=Tryz.prog) hs hu hv0 hv2o (ys:=[y]) (by simp[elems,hxY]) (d:=zT) (s:=3) (bytes:=40) (by simpa using hy) (fun z hz c hc=>by simp at hz; subst hz; exact List.all_eq_true.1 hy1 c hc) (r:=.bsl id 0 (xs.length+1)) (rd:=[(T,⟨xs,zT,false,false⟩)]) (wr:=[(T,none),(id,some ⟨xs++[y],zT,false,false⟩)])
   (by simp[appAV,hxT,Bx.sz]) (by simp[zT]) (t:=23) (tx:=23) (ty:=23) (e:=52) (i:=i0) (z:=.agg #[.int .i64 0,.int .i64 0,.slice none 0 0]) (.inr ⟨fun t h=>(by cases h),52,Tryz.underlying23⟩) Tryz.underlying23 hi0 hz0 (by rfl) hzs hzb
   (fun n hn=>by simp[lenAV,hxT] at hn; subst hn; constructor<;>(simp; omega))
  obtain⟨v,w1,G',hrun,r1,r2,r3,r4⟩:=hap
  have hform:∃A c,v0 = .slice A xs.length c∧xs.length≤c∧c≤maxLen∧(A=none→c=0):=by
   by_cases hn:G.nl T
   ·have hx0:=(hs.nil T _ hxT hn).1
    simp only at hx0
    cases hv0 with|bsl _ _ _ _ _ _ _ hnl =>
    obtain⟨q1,_,q3⟩:=hnl hn
    exact⟨none,0,by rw[q1,q3],by omega,by simp[maxLen],fun _=>rfl⟩
   ·obtain⟨b,s,cur,e,k1,_⟩:=hs.box T _ hxT hn
    cases hv0 with|bsl _ _ _ _ _ _ hb _ =>
    obtain⟨c,_,_,q1,q2,q3,_⟩:=hb b s k1
    exact⟨_,c,q1,q2,q3,fun h=>by cases h⟩
  obtain⟨A,c,rfl,q2,q3,q4⟩:=hform
  refine (insEnd_thing A xs.length c vb vc w w1 v q2 (by unfold maxLen at q3; omega) q4 (fun ty=>hrun)).mono fun e w' ⟨he,hw⟩=>?_
  subst he hw
  refine⟨v,G',rfl,?_,r2,r3,fun x hx=>(r4 x hx).imp _root_.id fun h=>by omega⟩
  simpa using r1
 ·have hin':i<xs.length:=by omega
  have hnT:¬G.nl T:=fun hn=>by have:=(hs.nil T _ hxT hn).1; simp only at this; rw[this] at hin'; simp at hin'
  obtain⟨b,sT,cur,e,k1,k2,k3,⟨k4,k5⟩,k6,k7,k8⟩:=hs.box T _ hxT hnT
  have hsT:sT=3:=by rw[←k4]; rfl
  subst hsT
  obtain⟨c,hv0',hc1,hc2,hc3⟩:∃c,v0 = .slice (some ⟨b,0,none⟩) xs.length c∧xs.length≤c∧c≤maxLen∧cur.size=c*3:=by
   cases hv0 with|bsl _ _ _ _ _ _ hb _ =>
   obtain⟨c,cur',e',q1,q2,q3,q4,q5⟩:=hb b 3 k1
   rw[k2] at q4
   injection q4 with q4
   injection q4 with q4 _
   subst q4
   exact⟨c,by simpa using q1,q2,q3,by simpa using q5⟩
  subst hv0'
  simp only at k5 k6
  unfold maxLen at hc2
  have h1c:=one_of_cont k6 h1
  have hct:cur.toList.length=cur.size:=by simp
  have hvb:vb≠b:=fun e=>hTY (hs.inj T Y b 3 3 k1 (e▸y1))
  have hfin:∀(W:World) (b':Nat) (cc:Nat) (R:List Value) (el':TypeId),(∀k,k<i*3→R[k]?=cur[k]?)→(∀j,j<3→R[i*3+j]?=vl[j]?)→(∀k,i*3≤k→k<xs.length*3→R[k+3]?=cur[k]?)→Cont G w 3 (xs.take i++y::xs.drop i) R.toArray:=fun W b' cc R el' q1 q2 q3=>cont_insert k6 hi hy hyv q1 q2 q3
  have hlen':(xs.take i++y::xs.drop i).length=xs.length+1:=by simp; omega
  by_cases hroom:xs.length+1≤c
  ·-- there is room
   have hsa:w.shape? vb=some (eY,curY.size):=by simp[World.shape?,y2]
   have hsb:w.shape? b=some (e,cur.size):=by simp[World.shape?,k2]
   refine (insShift_thing b xs.length c i vb vc cur e vl w hin' hroom (by omega) hvb hvll k2 (by omega) (by simpa using h1c) hvs h1v eY e curY.size cur.size hsa hsb (by omega) (by simp[World.frozen?,y2]) (by simp[World.frozen?,y2])).mono fun ex w' ⟨he,q,hw⟩=>?_
   subst he
   obtain⟨L1,hL1⟩:∃L1,L1=putL cur.toList ((i+1)*3) ((cur.toList.take (xs.length*3)).drop (i*3)):=⟨_,rfl⟩
   rw[←hL1] at hw
   have hcl:((cur.toList.take (xs.length*3)).drop (i*3)).length=(xs.length - i)*3:=by rw[List.length_drop,List.length_take,hct]; omega
   have hL1l:L1.length=cur.size:=by rw[hL1,putL_len (by rw[hcl,hct]; omega),hct]
   have hRl:(putL L1 (i*3) vl).length=cur.size:=by rw[putL_len (by omega),hL1l]
   have hcont:Cont G w 3 (xs.take i++y::xs.drop i) (putL L1 (i*3) vl).toArray:=by
    refine hfin w b c _ e (fun k hk=>?_) (fun j hj=>?_) (fun k hk1 hk2=>?_)
    ·rw[putL_get (by omega),if_pos (by omega),hL1,putL_get (by rw[hcl,hct]; omega),if_pos (by omega),Array.getElem?_toList]
    ·rw[putL_get (by omega),if_neg (by omega),if_pos (by omega)]
     congr 1
     omega
    ·rw[putL_get (by omega),if_neg (by omega),if_neg (by omega),hL1,putL_get (by rw[hcl,hct]; omega),if_neg (by omega),if_pos (by rw[hcl]; omega),List.getElem?_drop,List.getElem?_take,if_pos (by omega),Array.getElem?_toList]
     congr 1
     omega
   have hg1:((w.drewN q).setRow b L1.toArray).heap[b]?=some (.cells L1.toArray e (0,0)):=setRow_heap (w.drewN q) b cur _ e (0,0) k2
   have hg2:w'.heap[b]?=some (.cells (putL L1 (i*3) vl).toArray e (0,0)):=by rw[hw]; exact setRow_heap _ b _ _ e (0,0) hg1
   have hother:∀k,k≠b→w'.heap[k]?=w.heap[k]?:=fun k hk=>by
    rw[hw]
    exact (setRow_other _ b k _ hk).trans (setRow_other (w.drewN q) b k _ hk)
   obtain⟨r1,r2⟩:=hs.rowed (id:=id) hxT rfl rfl hnT k1 k2 hu (putL L1 (i*3) vl).toArray (xs.take i++y::xs.drop i) (by rw[hlen',List.size_toArray,hRl]; omega) hg2 hother (by rw[hw]; rfl) (by rw[hw]; rfl) (by rw[hw]; rfl) (by rw[hw]; simp[World.drewN]) hcont
   refine⟨_,_,rfl,r1,r2,?_,fun x hx=>hx.elim (fun h=>.inr (by omega)) .inl⟩
   refine .bsl id 0 _ _ rfl (.inl rfl) (fun b' s' hbm=>?_) fun hn'=>(hu (hs.nlu id hn').1).elim
   simp only[Gh.rename,upd_eq,Option.some.injEq,Prod.mk.injEq] at hbm
   obtain⟨rfl,rfl⟩:=hbm
   exact⟨c,_,e,by simp,hroom,by unfold maxLen; omega,hg2,by rw[List.size_toArray,hRl]; omega⟩
  ·-- a new row
   refine (insGrow_thing b xs.length c i vb vc cur e vl w hin' hc1 (by omega) (by omega) hvll k2 (by omega) (by simpa using h1c) hvs h1v).mono fun ex w' ⟨he,q,ROW,hRl,hRt,hw⟩=>?_
   subst he
   have hG1:=grownCap_ge w (xs.length+1) c 52
   have hG2:=grownCap_le_maxLen w (xs.length+1) c 52 (by unfold maxLen; omega)
   generalize grownCap w (xs.length+1) c 52=g at hRl hG1 hG2 hw
   obtain⟨R1,hR1⟩:∃R1,R1=putL ROW (i*3) vl:=⟨_,rfl⟩
   rw[←hR1] at hw
   have hcl:((cur.toList.take (xs.length*3)).drop (i*3)).length=(xs.length - i)*3:=by rw[List.length_drop,List.length_take,hct]; omega
   have hR1l:R1.length=g*3:=by rw[hR1,putL_len (by omega),hRl]
   obtain⟨R2,hR2⟩:∃R2,R2=putL R1 ((i+1)*3) ((cur.toList.take (xs.length*3)).drop (i*3)):=⟨_,rfl⟩
   rw[←hR2] at hw
   have hR2l:R2.length=g*3:=by rw[hR2,putL_len (by rw[hcl]; omega),hR1l]
   have hcont:Cont G w 3 (xs.take i++y::xs.drop i) R2.toArray:=by
    refine hfin w b c _ e (fun k hk=>?_) (fun j hj=>?_) (fun k hk1 hk2=>?_)
    ·rw[hR2,putL_get (by rw[hcl]; omega),if_pos (by omega),hR1,putL_get (by omega),if_pos (by omega)]
     have:=congrArg (fun l=>l[k]?) hRt
     simp only[List.getElem?_take] at this
     rw[if_pos (by omega),if_pos (by omega)] at this
     rw[this,Array.getElem?_toList]
    ·rw[hR2,putL_get (by rw[hcl]; omega),if_pos (by omega),hR1,putL_get (by omega),if_neg (by omega),if_pos (by omega)]
     congr 1
     omega
    ·rw[hR2,putL_get (by rw[hcl]; omega),if_neg (by omega),if_pos (by rw[hcl]; omega),List.getElem?_drop,List.getElem?_take,if_pos (by omega),Array.getElem?_toList]
     congr 1
     omega
   have hN0:((w.drewN q).alloc (.cells ROW.toArray 52)).heap[w.heap.size]?=some (.cells ROW.toArray 52 (0,0)):=heap_alloc_new (w.drewN q) _
   have hN1:(((w.drewN q).alloc (.cells ROW.toArray 52)).setRow w.heap.size R1.toArray).heap[w.heap.size]?=some (.cells R1.toArray 52 (0,0)):=setRow_heap _ _ _ _ _ (0,0) hN0
   have hN2:w'.heap[w.heap.size]?=some (.cells R2.toArray 52 (0,0)):=by rw[hw]; exact setRow_heap _ _ _ _ _ (0,0) hN1
   have hother:∀k,k<w.heap.size→w'.heap[k]?=w.heap[k]?:=fun k hk=>by
    rw[hw]
    exact ((setRow_other _ _ k _ (by omega)).trans (setRow_other _ _ k _ (by omega))).trans (Below.heap_alloc (w.drewN q) _ k hk)
   obtain⟨r1,r2⟩:=hs.rehomed (id:=id) hxT hnT k1 hu R2.toArray 52 (xs.take i++y::xs.drop i) (by rw[hlen',List.size_toArray,hR2l]; omega) hN2 hother (by rw[hw]; rfl) (by rw[hw]; rfl) (by rw[hw]; rfl) (by rw[hw]; simp[World.drewN]) hcont
   refine⟨_,_,rfl,r1,r2,?_,fun x hx=>hx.elim (fun h=>.inr (by omega)) .inl⟩
   refine .bsl id 0 _ _ rfl (.inl rfl) (fun b' s' hbm=>?_) fun hn'=>(hu (hs.nlu id hn').1).elim
   simp only[Gh.rename,upd_eq,Option.some.injEq,Prod.mk.injEq] at hbm
   obtain⟨rfl,rfl⟩:=hbm
   exact⟨g,_,52,by simp,hG1,hG2,hN2,by rw[List.size_toArray,hR2l]; omega⟩
set_option maxHeartbeats 1000000 in
theorem Delete_int(xs:List AV)(T i:Nat)(id:Nat)(hi:i<xs.length)(hbig:xs.length≤1000000)(h1:∀x∈xs,x.cells.all AV.one=true):
  FnOk Tryz.prog 123 [.bsl T 0 xs.length,.int .i64 i,.int .i64 ((i:Int)+1)] [(T,⟨xs,.int .i64 0,false,false⟩)] id (.bsl id 0 (xs.length - 1)) [(T,none),(id,some ⟨xs.take i++xs.drop (i+1),.int .i64 0,false,false⟩)]:=by
 refine⟨⟨_,Tryz.func123,by kernel_rfl,by kernel_rfl⟩,fun C G bx w vs nb hs hv hh hnb hid=>?_⟩
 have hxT:=hh (T,⟨xs,.int .i64 0,false,false⟩) (by simp)
 simp only at hxT
 have hu:¬G.used id:=hid id (Nat.le_refl _) (by omega)
 obtain⟨hl,hvv⟩:=hv
 obtain⟨v0,v1,v2,rfl⟩:∃v0 v1 v2,vs = #[v0,v1,v2]:=by
  match vs,hl with
  | ⟨[a,b,c]⟩,_=>exact⟨a,b,c,rfl⟩
 have hv0:RV G w (.bsl T 0 xs.length) v0:=hvv 0 _ rfl
 have hv1:RV G w (.int .i64 i) v1:=hvv 1 _ rfl
 have hv2:RV G w (.int .i64 ((i:Int)+1)) v2:=hvv 2 _ rfl
 obtain rfl:=rv_int hv1
 obtain rfl:=rv_int hv2
 have hnT:¬G.nl T:=fun hn=>by have:=(hs.nil T _ hxT hn).1; simp only at this; rw[this] at hi; simp at hi
 obtain⟨b,sT,cur,e,k1,k2,k3,⟨k4,k5⟩,k6,k7,k8⟩:=hs.box T _ hxT hnT
 have hsT:sT=1:=by rw[←k4]; rfl
 subst hsT
 obtain⟨c,hv0',hc1,hc2,hc3⟩:∃c,v0 = .slice (some ⟨b,0,none⟩) xs.length c∧xs.length≤c∧c≤maxLen∧cur.size=c*1:=by
  cases hv0 with|bsl _ _ _ _ _ _ hb _ =>
  obtain⟨c,cur',e',q1,q2,q3,q4,q5⟩:=hb b 1 k1
  rw[k2] at q4
  injection q4 with q4
  injection q4 with q4 _
  subst q4
  exact⟨c,by simpa using q1,q2,q3,by simpa using q5⟩
 subst hv0'
 simp only at k5 k6
 unfold maxLen at hc2
 have h1c:=one_of_cont k6 h1
 have hct:cur.toList.length=cur.size:=by simp
 refine (del_int b xs.length c i cur e w hi hc1 (by omega) k2 (by omega) (by simpa using h1c)).mono fun ex w' ⟨he,q,hw⟩=>?_
 subst he
 obtain⟨L1,hL1⟩:∃L1,L1=putL cur.toList (i) ((cur.toList.take (xs.length)).drop (i+1)):=⟨_,rfl⟩
 rw[←hL1] at hw
 obtain⟨zs,hzs⟩:∃zs,zs=(Builtin.zeroCells (Value.cells (.int .i64 0)) 1).toList:=⟨_,rfl⟩
 rw[←hzs] at hw
 have hzl:zs.length=1:=by rw[hzs,Array.length_toList,size_zeroCells]<;>rfl
 have hcl:((cur.toList.take (xs.length)).drop (i+1)).length=(xs.length - (i+1)):=by rw[List.length_drop,List.length_take,hct]; omega
 have hL1l:L1.length=cur.size:=by rw[hL1,putL_len (by rw[hcl,hct]; omega),hct]
 have hRl:(putL L1 (i+(xs.length - (i+1))) zs).length=cur.size:=by rw[putL_len (by omega),hL1l]
 have hlen':(xs.take i++xs.drop (i+1)).length=xs.length - 1:=by simp; omega
 have hcont:Cont G w 1 (xs.take i++xs.drop (i+1)) (putL L1 (i+(xs.length - (i+1))) zs).toArray:=by
  refine cont_erase k6 hi (fun k hk=>?_) (fun k hk1 hk2=>?_)
  ·rw[putL_get (by omega),if_pos (by omega),hL1,putL_get (by rw[hcl,hct]; omega),if_pos (by omega),Array.getElem?_toList]
  ·rw[putL_get (by omega),if_pos (by omega),hL1,putL_get (by rw[hcl,hct]; omega),if_neg (by omega),if_pos (by rw[hcl]; omega),List.getElem?_drop,List.getElem?_take,if_pos (by omega),Array.getElem?_toList]
   congr 1
   omega
 have hg1:((w.drewN q).setRow b L1.toArray).heap[b]?=some (.cells L1.toArray e (0,0)):=setRow_heap (w.drewN q) b cur _ e (0,0) k2
 have hg2:w'.heap[b]?=some (.cells (putL L1 (i+(xs.length - (i+1))) zs).toArray e (0,0)):=by rw[hw]; exact setRow_heap _ b _ _ e (0,0) hg1
 have hother:∀k,k≠b→w'.heap[k]?=w.heap[k]?:=fun k hk=>by
  rw[hw]
  exact (setRow_other _ b k _ hk).trans (setRow_other (w.drewN q) b k _ hk)
 obtain⟨r1,r2⟩:=hs.rowed (id:=id) hxT rfl rfl hnT k1 k2 hu (putL L1 (i+(xs.length - (i+1))) zs).toArray (xs.take i++xs.drop (i+1)) (by rw[hlen',List.size_toArray,hRl]; omega) hg2 hother (by rw[hw]; rfl) (by rw[hw]; rfl) (by rw[hw]; rfl) (by rw[hw]; simp[World.drewN]) hcont
 have hM:i+(xs.length - (i+1))=xs.length - 1:=by omega
 rw[hM]
 refine⟨_,_,rfl,r1,r2,?_,fun x hx=>hx.elim (fun h=>.inr (by omega)) .inl⟩
 refine .bsl id 0 _ _ rfl (.inl rfl) (fun b' s' hbm=>?_) fun hn'=>(hu (hs.nlu id hn').1).elim
 simp only[Gh.rename,upd_eq,Option.some.injEq,Prod.mk.injEq] at hbm
 obtain⟨rfl,rfl⟩:=hbm
 exact⟨c,_,e,by simp,by omega,by unfold maxLen; omega,hg2,by rw[List.size_toArray,hRl]; omega⟩
set_option maxHeartbeats 1000000 in
theorem Delete_thing(xs:List AV)(T i:Nat)(id:Nat)(hi:i<xs.length)(hbig:xs.length≤1000000)(h1:∀x∈xs,x.cells.all AV.one=true):
  FnOk Tryz.prog 112 [.bsl T 0 xs.length,.int .i64 i,.int .i64 ((i:Int)+1)] [(T,⟨xs,zT,false,false⟩)] id (.bsl id 0 (xs.length - 1)) [(T,none),(id,some ⟨xs.take i++xs.drop (i+1),zT,false,false⟩)]:=by
 refine⟨⟨_,Tryz.func112,by kernel_rfl,by kernel_rfl⟩,fun C G bx w vs nb hs hv hh hnb hid=>?_⟩
 have hxT:=hh (T,⟨xs,zT,false,false⟩) (by simp)
 simp only at hxT
 have hu:¬G.used id:=hid id (Nat.le_refl _) (by omega)
 obtain⟨hl,hvv⟩:=hv
 obtain⟨v0,v1,v2,rfl⟩:∃v0 v1 v2,vs = #[v0,v1,v2]:=by
  match vs,hl with
  | ⟨[a,b,c]⟩,_=>exact⟨a,b,c,rfl⟩
 have hv0:RV G w (.bsl T 0 xs.length) v0:=hvv 0 _ rfl
 have hv1:RV G w (.int .i64 i) v1:=hvv 1 _ rfl
 have hv2:RV G w (.int .i64 ((i:Int)+1)) v2:=hvv 2 _ rfl
 obtain rfl:=rv_int hv1
 obtain rfl:=rv_int hv2
 have hnT:¬G.nl T:=fun hn=>by have:=(hs.nil T _ hxT hn).1; simp only at this; rw[this] at hi; simp at hi
 obtain⟨b,sT,cur,e,k1,k2,k3,⟨k4,k5⟩,k6,k7,k8⟩:=hs.box T _ hxT hnT
 have hsT:sT=3:=by rw[←k4]; rfl
 subst hsT
 obtain⟨c,hv0',hc1,hc2,hc3⟩:∃c,v0 = .slice (some ⟨b,0,none⟩) xs.length c∧xs.length≤c∧c≤maxLen∧cur.size=c*3:=by
  cases hv0 with|bsl _ _ _ _ _ _ hb _ =>
  obtain⟨c,cur',e',q1,q2,q3,q4,q5⟩:=hb b 3 k1
  rw[k2] at q4
  injection q4 with q4
  injection q4 with q4 _
  subst q4
  exact⟨c,by simpa using q1,q2,q3,by simpa using q5⟩
 subst hv0'
 simp only at k5 k6
 unfold maxLen at hc2
 have h1c:=one_of_cont k6 h1
 have hct:cur.toList.length=cur.size:=by simp
 refine (del_thing b xs.length c i cur e w hi hc1 (by omega) k2 (by omega) (by simpa using h1c)).mono fun ex w' ⟨he,q,hw⟩=>?_
 subst he
 obtain⟨L1,hL1⟩:∃L1,L1=putL cur.toList (i*3) ((cur.toList.take (xs.length*3)).drop ((i+1)*3)):=⟨_,rfl⟩
 rw[←hL1] at hw
 obtain⟨zs,hzs⟩:∃zs,zs=(Builtin.zeroCells (Value.cells (.agg #[.int .i64 0,.int .i64 0,.slice none 0 0])) 1).toList:=⟨_,rfl⟩
 rw[←hzs] at hw
 have hzl:zs.length=3:=by rw[hzs,Array.length_toList,size_zeroCells]<;>rfl
 have hcl:((cur.toList.take (xs.length*3)).drop ((i+1)*3)).length=(xs.length - (i+1))*3:=by rw[List.length_drop,List.length_take,hct]; omega
 have hL1l:L1.length=cur.size:=by rw[hL1,putL_len (by rw[hcl,hct]; omega),hct]
 have hRl:(putL L1 ((i+(xs.length - (i+1)))*3) zs).length=cur.size:=by rw[putL_len (by omega),hL1l]
 have hlen':(xs.take i++xs.drop (i+1)).length=xs.length - 1:=by simp; omega
 have hcont:Cont G w 3 (xs.take i++xs.drop (i+1)) (putL L1 ((i+(xs.length - (i+1)))*3) zs).toArray:=by
  refine cont_erase k6 hi (fun k hk=>?_) (fun k hk1 hk2=>?_)
  ·rw[putL_get (by omega),if_pos (by omega),hL1,putL_get (by rw[hcl,hct]; omega),if_pos (by omega),Array.getElem?_toList]
  ·rw[putL_get (by omega),if_pos (by omega),hL1,putL_get (by rw[hcl,hct]; omega),if_neg (by omega),if_pos (by rw[hcl]; omega),List.getElem?_drop,List.getElem?_take,if_pos (by omega),Array.getElem?_toList]
   congr 1
   omega
 have hg1:((w.drewN q).setRow b L1.toArray).heap[b]?=some (.cells L1.toArray e (0,0)):=setRow_heap (w.drewN q) b cur _ e (0,0) k2
 have hg2:w'.heap[b]?=some (.cells (putL L1 ((i+(xs.length - (i+1)))*3) zs).toArray e (0,0)):=by rw[hw]; exact setRow_heap _ b _ _ e (0,0) hg1
 have hother:∀k,k≠b→w'.heap[k]?=w.heap[k]?:=fun k hk=>by
  rw[hw]
  exact (setRow_other _ b k _ hk).trans (setRow_other (w.drewN q) b k _ hk)
 obtain⟨r1,r2⟩:=hs.rowed (id:=id) hxT rfl rfl hnT k1 k2 hu (putL L1 ((i+(xs.length - (i+1)))*3) zs).toArray (xs.take i++xs.drop (i+1)) (by rw[hlen',List.size_toArray,hRl]; omega) hg2 hother (by rw[hw]; rfl) (by rw[hw]; rfl) (by rw[hw]; rfl) (by rw[hw]; simp[World.drewN]) hcont
 have hM:i+(xs.length - (i+1))=xs.length - 1:=by omega
 rw[hM]
 refine⟨_,_,rfl,r1,r2,?_,fun x hx=>hx.elim (fun h=>.inr (by omega)) .inl⟩
 refine .bsl id 0 _ _ rfl (.inl rfl) (fun b' s' hbm=>?_) fun hn'=>(hu (hs.nlu id hn').1).elim
 simp only[Gh.rename,upd_eq,Option.some.injEq,Prod.mk.injEq] at hbm
 obtain⟨rfl,rfl⟩:=hbm
 exact⟨c,_,e,by simp,by omega,by unfold maxLen; omega,hg2,by rw[List.size_toArray,hRl]; omega⟩
end Go.Am
