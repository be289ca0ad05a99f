/- Parts of the proof: an abstract machine for Go functions, and what functions of the program give back (Fse, Fqe, Fo). No condition. -/
import Derived.Test.YthghjjancoopoaaDoorXG
import Derived.Test.YthghjjancoopoaaDoorYE
import Derived.Test.YthghjjancoopoaaDoorRows
import Derived.Test.YthghjjancoopoaaDoorXI
import Derived.Deep.CondSized
import Derived.Test.YthghjjancoopoaaDoorYH
namespace Go.Proofs.YthghjjancoopoaaDoor
open Go Go.RowKit Go.Am
set_option maxRecDepth 100000
theorem exists_mapP{α:Type}{f:α→AV}{p:α→Prop}:∀{xs:List AV},(∀y∈xs,∃a,y=f a∧p a)→∃l:List α,xs=l.map f∧∀a∈l,p a
 | [],_=>⟨[],rfl,fun a h=>by cases h⟩
 | y::r,h=>by
  obtain⟨a,rfl,ha⟩:=h y (by simp)
  obtain⟨l,rfl,hl⟩:=exists_mapP (xs:=r) fun z hz=>h z (by simp[hz])
  exact⟨a::l,rfl,fun b hb=>by
   rcases List.mem_cons.1 hb with rfl|hb
   ·exact ha
   ·exact hl b hb⟩
end Go.Proofs.YthghjjancoopoaaDoor
namespace Go.Proofs.YthghjjancoopoaaDoor
open Go Go.RowKit Go.Am
set_option maxRecDepth 100000
mutual
def sizeA:AV→Nat
 | .sl xs=>sizeS xs
 | .agg cs=>sizeC cs
 | _=>0
def sizeS:List AV→Nat
 | []=>0
 | x::r=>1+sizeA x+sizeS r
def sizeC:List AV→Nat
 | []=>0
 | x::r=>sizeA x+sizeC r
end
theorem sizeC_append(a b:List AV):sizeC (a++b)=sizeC a+sizeC b:=by
 induction a with
 | nil=>simp[sizeC]
 | cons x r ih=>simp only[List.cons_append,sizeC,ih]; omega
theorem sizeC_cells(x:AV):sizeC x.cells=sizeA x:=by
 cases x<;>simp[AV.cells,sizeC,sizeA]
mutual
theorem size_bulk{H:Type}:∀d:DataW H,sizeA (avOf d)+1≤Rows.uptoBulk d
 | .lit l=>by cases l<;>simp[avOf,sizeA,Rows.uptoBulk]
 | .nil=>by simp[avOf,sizeA,sizeS,Rows.uptoBulk]
 | .ptr d=>by simp[avOf,sizeA,Rows.uptoBulk]
 | .slice elems spare=>by
  have:=size_bulks elems
  simp only[avOf,sizeA,Rows.uptoBulk]
  omega
 | .agg parts=>by
  have:=size_bulkc parts
  simp only[avOf,sizeA,Rows.uptoBulk]
  omega
 | .iface t d=>by simp[avOf,sizeA,Rows.uptoBulk]
 | .map es=>by simp[avOf,sizeA,Rows.uptoBulk]
 | .held h=>by simp[avOf,sizeA,Rows.uptoBulk]
theorem size_bulks{H:Type}:∀l:List (DataW H),sizeS (avAll l)≤Rows.uptoBulkAll l
 | []=>by simp[avAll,sizeS]
 | d::r=>by
  have:=size_bulk d
  have:=size_bulks r
  simp only[avAll,sizeS,Rows.uptoBulkAll]
  omega
theorem size_bulkc{H:Type}:∀l:List (DataW H),sizeC (avCells l)≤Rows.uptoBulkAll l
 | []=>by simp[avCells,sizeC]
 | d::r=>by
  have:=size_bulk d
  have:=size_bulkc r
  simp only[avCells,sizeC_append,sizeC_cells,Rows.uptoBulkAll]
  omega
end
end Go.Proofs.YthghjjancoopoaaDoor
namespace Go.Proofs.YthghjjancoopoaaDoor
open Go Go.RowKit Go.Am
set_option maxRecDepth 100000
theorem okOs_of{l:List Out}(h:∀o∈l,okO o):okOs l:=by
 induction l with
 | nil=>trivial
 | cons o r ih=>exact⟨h o (List.mem_cons_self ..),ih fun x hx=>h x (List.mem_cons_of_mem _ hx)⟩
theorem fits_out:∀(n:Nat) {x:AV},Fits Tryd.prog n 25 x→∃o:Out,x=eO o∧okO o:=by
 intro n
 induction n using Nat.strongRecOn with
 | _ n ih =>
  intro x h
  obtain⟨m,ys,rfl,rfl,h0⟩:=fits_st Tryd.underlying25 h
  obtain⟨a,ys,rfl,ha,h0⟩:=fitsL_cons h0
  obtain⟨b,ys,rfl,hb,h0⟩:=fitsL_cons h0
  obtain⟨c,ys,rfl,hc,h0⟩:=fitsL_cons h0
  obtain⟨d,ys,rfl,hd,h0⟩:=fitsL_cons h0
  obtain⟨e,ys,rfl,he,h0⟩:=fitsL_cons h0
  obtain rfl:=fitsL_nil h0
  obtain⟨a,rfl,_⟩:=fits_int Tryd.underlying3 ha
  obtain⟨b,rfl,_⟩:=fits_int Tryd.underlying3 hb
  obtain⟨c,rfl,_⟩:=fits_str Tryd.underlying9 hc
  obtain⟨k,xs,_,rfl,_,hx⟩:=fits_sl Tryd.underlying22 hd
  obtain⟨xs,rfl,hp⟩:=exists_mapP (f:=AV.str) (p:=fun s:List UInt8=>s.length≤9223372036854775807) fun y hy=>by
   obtain⟨z,rfl,hz⟩:=fits_str Tryd.underlying9 (hx y hy)
   exact⟨z,rfl,by have:=hz; unfold reachBytes at this; omega⟩
  obtain⟨k,ks,rfl,rfl,_,hk⟩:=fits_sl Tryd.underlying23 he
  obtain⟨ks,rfl,hq⟩:=exists_mapP (p:=okO) fun y hy=>ih k (by omega) (hk y hy)
  exact⟨.mk a b c xs ks,by rw[eO_eq]; rfl,⟨hp,okOs_of hq⟩⟩
theorem sizeS_strs(l:List (List UInt8)):sizeS (l.map AV.str)=l.length:=by
 induction l with
 | nil=>simp[sizeS]
 | cons a r ih=>simp only[List.map_cons,sizeS,sizeA,ih,List.length_cons]; omega
mutual
theorem sizeA_out:∀o:Out,1+sizeA (eO o)=o.sz
 | .mk k n t ks l=>by
  have:=sizeS_outs l
  simp only[eO,sizeA,sizeC,sizeS_strs,Out.sz,this]
  omega
theorem sizeS_outs:∀l:List Out,sizeS (eOs l)=szOL l
 | []=>by simp[eOs,sizeS,szOL]
 | s::r=>by
  have:=sizeA_out s
  have:=sizeS_outs r
  simp only[eOs,sizeS,szOL]
  omega
end
theorem bulk_mem{H:Type}{ds:List (DataW H)}{d:DataW H}(hd:d∈ds):Rows.uptoBulk d≤Rows.uptoBulkAll ds:=by
 induction ds with
 | nil=>cases hd
 | cons x r ih =>
  simp only[Rows.uptoBulkAll]
  rcases List.mem_cons.1 hd with e|h
  ·subst e; omega
  ·have:=ih h; omega
theorem szO_le{H:Type}{ds:List (DataW H)}{d:DataW H}{o:Out}(hd:d∈ds)(he:avOf d=eO o)(hk:Rows.uptoBulkAll ds≤1048576):o.sz≤1048577:=by
 have h1:=size_bulk d
 rw[he] at h1
 have h2:=sizeA_out o
 have:=bulk_mem hd
 omega
end Go.Proofs.YthghjjancoopoaaDoor
