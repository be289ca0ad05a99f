/- What is told of arguments that are types and selects, and how many selects there can be. No condition. -/
import Derived.Test.YtgfmjhmjnnpcgaaGreatDoorXG
import Derived.Test.YtgfmjhmjnnpcgaaGreatDoorXI
import Derived.Test.YtgfmjhmjnnpcgaaGreatDoorRows
import Derived.Deep.CondSized
namespace Go.Proofs.YtgfmjhmjnnpcgaaGreatDoor
open Go Go.RowKit Go.Am
set_option maxRecDepth 100000
theorem fits_ag{n:Nat}{x:AV}(h:Fits Tryz.prog n 92 x):∃a:Ag,x=eAg a:=by
 obtain⟨m,ys,rfl,rfl,h0⟩:=fits_st Tryz.underlying92 h
 obtain⟨a,ys,rfl,ha,h0⟩:=fitsL_cons h0
 obtain⟨b,ys,rfl,hb,h0⟩:=fitsL_cons h0
 obtain⟨c,ys,rfl,hc,h0⟩:=fitsL_cons h0
 obtain⟨d,ys,rfl,hd,h0⟩:=fitsL_cons h0
 obtain rfl:=fitsL_nil h0
 obtain⟨a,rfl,_⟩:=fits_str Tryz.underlying9 ha
 obtain⟨b,rfl⟩:=fits_bool Tryz.underlying4 hb
 obtain⟨c,rfl,_⟩:=fits_str Tryz.underlying9 hc
 obtain⟨d,rfl,_⟩:=fits_int Tryz.underlying3 hd
 exact⟨⟨a,b,c,d⟩,rfl⟩
theorem fits_sel:∀(n:Nat) {x:AV},Fits Tryz.prog n 52 x→∃s:Sel,x=eSel s:=by
 intro n
 induction n using Nat.strongRecOn with
 | _ n ih =>
  intro x h
  obtain⟨m,ys,rfl,rfl,h0⟩:=fits_st Tryz.underlying52 h
  obtain⟨a,ys,rfl,ha,h0⟩:=fitsL_cons h0
  obtain⟨b,ys,rfl,hb,h0⟩:=fitsL_cons h0
  obtain⟨c,ys,rfl,hc,h0⟩:=fitsL_cons h0
  obtain⟨d,ys,rfl,hd,h0⟩:=fitsL_cons h0
  obtain rfl:=fitsL_nil h0
  obtain⟨a,rfl,_⟩:=fits_str Tryz.underlying9 ha
  obtain⟨b,rfl,_⟩:=fits_str Tryz.underlying9 hb
  obtain⟨k,xs,_,rfl,_,hx⟩:=fits_sl Tryz.underlying50 hc
  obtain⟨xs,rfl⟩:=exists_map fun y hy=>fits_ag (hx y hy)
  obtain⟨k,ks,rfl,rfl,_,hk⟩:=fits_sl Tryz.underlying48 hd
  obtain⟨ks,rfl⟩:=exists_map fun y hy=>ih k (by omega) (hk y hy)
  exact⟨.mk a b xs ks,by rw[eSel_eq]; rfl⟩
theorem fits_sels{n:Nat}{x:AV}(h:Fits Tryz.prog n 48 x):∃l:List Sel,x = .sl (l.map eSel):=by
 obtain⟨k,xs,rfl,rfl,hl,hx⟩:=fits_sl Tryz.underlying48 h
 obtain⟨l,rfl⟩:=exists_map fun y hy=>fits_sel _ (hx y hy)
 exact⟨l,rfl⟩
mutual
def sizeA:AV→Nat
 | .sl xs=>sizeS xs
 | .agg cs=>sizeC cs
 | _=>0
def sizeS:List AV→Nat
 | []=>0
 | x::r=>1+sizeA x+sizeS r
def sizeC:List AV→Nat
 | []=>0
 | x::r=>sizeA x+sizeC r
end
theorem sizeC_append(a b:List AV):sizeC (a++b)=sizeC a+sizeC b:=by
 induction a with
 | nil=>simp[sizeC]
 | cons x r ih=>simp only[List.cons_append,sizeC,ih]; omega
theorem sizeC_cells(x:AV):sizeC x.cells=sizeA x:=by
 cases x<;>simp[AV.cells,sizeC,sizeA]
mutual
theorem size_bulk{H:Type}:∀d:DataW H,sizeA (avOf d)+1≤Rows.uptoBulk d
 | .lit l=>by cases l<;>simp[avOf,sizeA,Rows.uptoBulk]
 | .nil=>by simp[avOf,sizeA,sizeS,Rows.uptoBulk]
 | .ptr d=>by simp[avOf,sizeA,Rows.uptoBulk]
 | .slice elems spare=>by
  have:=size_bulks elems
  simp only[avOf,sizeA,Rows.uptoBulk]
  omega
 | .agg parts=>by
  have:=size_bulkc parts
  simp only[avOf,sizeA,Rows.uptoBulk]
  omega
 | .iface t d=>by simp[avOf,sizeA,Rows.uptoBulk]
 | .map es=>by simp[avOf,sizeA,Rows.uptoBulk]
 | .held h=>by simp[avOf,sizeA,Rows.uptoBulk]
theorem size_bulks{H:Type}:∀l:List (DataW H),sizeS (avAll l)≤Rows.uptoBulkAll l
 | []=>by simp[avAll,sizeS]
 | d::r=>by
  have:=size_bulk d
  have:=size_bulks r
  simp only[avAll,sizeS,Rows.uptoBulkAll]
  omega
theorem size_bulkc{H:Type}:∀l:List (DataW H),sizeC (avCells l)≤Rows.uptoBulkAll l
 | []=>by simp[avCells,sizeC]
 | d::r=>by
  have:=size_bulk d
  have:=size_bulkc r
  simp only[avCells,sizeC_append,sizeC_cells,Rows.uptoBulkAll]
  omega
end
theorem sizeS_ags(l:List Ag):sizeS (l.map eAg)=l.length:=by
 induction l with
 | nil=>simp[sizeS]
 | cons a r ih=>simp only[List.map_cons,sizeS,eAg_eq,sizeA,sizeC,ih,List.length_cons]; omega
mutual
theorem sizeA_sel:∀s:Sel,1+sizeA (eSel s)=s.sz
 | .mk a n x k=>by
  have:=sizeS_sels k
  simp only[eSel,sizeA,sizeC,sizeS_ags,Sel.sz,this]
  omega
theorem sizeS_sels:∀l:List Sel,sizeS (eSels l)=szL l
 | []=>by simp[eSels,sizeS,szL]
 | s::r=>by
  have:=sizeA_sel s
  have:=sizeS_sels r
  simp only[eSels,sizeS,szL]
  omega
end
theorem sz_le{H:Type}{ds:List (DataW H)}{d:DataW H}{q:List Sel}(hd:d∈ds)(he:avOf d = .sl (q.map eSel))(hk:Rows.uptoBulkAll ds≤1048576):szL q≤1048576:=by
 have h1:=size_bulk d
 rw[he,←eSels_map] at h1
 simp only[sizeA,sizeS_sels] at h1
 have h2:Rows.uptoBulk d≤Rows.uptoBulkAll ds:=by
  clear h1 he hk
  induction ds with
  | nil=>cases hd
  | cons x r ih =>
   simp only[Rows.uptoBulkAll]
   rcases List.mem_cons.1 hd with e|h
   ·subst e; omega
   ·have:=ih h; omega
 omega
end Go.Proofs.YtgfmjhmjnnpcgaaGreatDoor
