/- Parts of the proof: an abstract machine for Go functions, and what functions of the program give back (Sx2, Qx1, Qx2). No condition. -/
import Derived.Test.YtgfmjhmjnnpcgaaGreatDoorYH
import Derived.Test.YtgfmjhmjnnpcgaaGreatDoorXI
namespace Go.Am
set_option linter.all false
open Go Go.RowKit Go.Proofs
set_option maxRecDepth 100000
set_option linter.all false
def turnT(t:Ty):Ty:=⟨t.name,t.fields.reverse⟩
def turnS(l:List Ty):List Ty:=(l.map turnT).reverse
theorem once_iff{α:Type}(nm:α→List UInt8)(l:List α):(∀(i:Nat) (x:α),l[i]?=some x→∀y∈l.take i,nm y≠nm x)↔(l.map nm).Nodup:=by
 constructor
 ·intro h
  rw[List.nodup_iff_pairwise_ne,List.pairwise_map,List.pairwise_iff_getElem]
  intro i j hi hj hij
  refine h j l[j] (List.getElem?_eq_getElem hj) l[i] ?_
  rw[List.mem_take_iff_getElem]
  exact⟨i,by omega,rfl⟩
 ·intro h i x hx y hy
  rw[List.nodup_iff_pairwise_ne,List.pairwise_map,List.pairwise_iff_getElem] at h
  obtain⟨j,hj,e⟩:=List.mem_take_iff_getElem.1 hy
  have hi:i<l.length:=by
   apply Classical.byContradiction
   intro q
   rw[List.getElem?_eq_none (by omega)] at hx; cases hx
  rw[List.getElem?_eq_getElem hi] at hx
  injection hx with hx
  rw[←e,←hx]
  exact h j i (by omega) hi (by omega)
theorem once_rev{α:Type}{nm:α→List UInt8}{l:List α}(h:∀(i:Nat) (x:α),l[i]?=some x→∀y∈l.take i,nm y≠nm x):∀(i:Nat) (x:α),l.reverse[i]?=some x→∀y∈l.reverse.take i,nm y≠nm x:=by
 rw[once_iff] at h ⊢
 rw[List.map_reverse]
 exact List.Pairwise.imp (fun q=>Ne.symm q) (List.pairwise_reverse.2 (List.Pairwise.imp (fun q=>Ne.symm q) h)) |>.imp fun q=>Ne.symm q
theorem any_no{α:Type}{nm:α→List UInt8}{l:List α}{n:List UInt8}:(l.any fun x=>nm x==n)=false↔∀y∈l,nm y≠n:=by simp
theorem turn_names(l:List Ty)(n:List UInt8):hasT (turnS l) n=hasT l n:=by
 rw[Bool.eq_iff_iff,hasT_iff,hasT_iff]
 constructor
 ·rintro⟨t,ht,e⟩
  obtain⟨u,hu,rfl⟩:∃u∈l,turnT u=t:=by simpa [turnS] using ht
  exact⟨u,hu,e⟩
 ·rintro⟨t,ht,e⟩
  exact⟨turnT t,by simp[turnS]; exact⟨t,ht,rfl⟩,e⟩
theorem turn_fields{l:List Ty}{fs:List Fd}(h:∀k f,fs[k]?=some f→FdOk l f (fs.take k)):∀k f,fs.reverse[k]?=some f→FdOk (turnS l) f (fs.reverse.take k):=by
 intro k f hf
 obtain⟨j,hj⟩:=mem_ix (List.mem_reverse.1 (List.mem_of_getElem? hf))
 have hF:=h j f hj
 have ho:∀(i:Nat) (x:Fd),fs[i]?=some x→∀y∈fs.take i,y.name≠x.name:=fun i x hx=>any_no.1 (h i x hx).once
 exact⟨hF.name,hF.id,any_no.2 (once_rev ho k f hf),hF.kind,hF.plain,fun q=>by rw[turn_names]; exact hF.link q⟩
theorem sch_turn{l:List Ty}(h:fCheckT l=0):fCheckT (turnS l)=0:=by
 obtain⟨h1,h2,h3⟩:=fCheckT_zero.1 h
 refine fCheckT_zero.2 ⟨by simpa [turnS] using h1,by simpa [turnS] using h2,fun i t ht=>?_⟩
 obtain⟨u,hu,rfl⟩:∃u∈l,turnT u=t:=by
  have:=List.mem_of_getElem? ht
  simpa [turnS] using this
 obtain⟨j,hj⟩:=mem_ix hu
 have hT:=h3 j u hj
 have ho:∀(i:Nat) (x:Ty),(l.map turnT)[i]?=some x→∀y∈(l.map turnT).take i,y.name≠x.name:=fun i x hx y hy=>by
  rw[List.getElem?_map] at hx
  cases hli:l[i]? with
  | none=>rw[hli] at hx; cases hx
  | some z =>
   rw[hli] at hx
   injection hx with hx
   rw[←List.map_take,List.mem_map] at hy
   obtain⟨w,hw,rfl⟩:=hy
   rw[←hx]
   exact any_no.1 (h3 i z hli).once w hw
 exact⟨hT.name,hT.own,any_no.2 (once_rev ho i _ ht),by simpa [turnT] using hT.ne,by simpa [turnT] using hT.le,turn_fields hT.fd⟩
end Go.Am
namespace Go.Am
set_option linter.all false
open Go Go.RowKit Go.Proofs
set_option maxRecDepth 100000
set_option linter.all false
def isV(l:List Tk):Bool:=match l with
 | t::_=>t.kind==2||t.kind==3
 | []=>false
def agOf(nm:List UInt8)(l:List Tk):Ag:=match l with
 | t::_=>⟨nm,t.kind==3,t.text,t.n⟩
 | []=>⟨nm,false,[],0⟩
def pAg(l:List Tk):Option (Ag×List Tk):=if isW l=true∧isS (l.drop 1) 58=true∧isV (l.drop 2)=true then some (agOf (txt l) (l.drop 2),l.drop 3) else none
def pAgs:Nat→List Ag→List Tk→Option (List Ag×List Tk)
 | 0,_,_=>none
 | n+1,acc,l=>match pAg l with
  | none=>none
  | some p=>if isS p.2 41=true then some (acc++[p.1],p.2.drop 1) else pAgs n (acc++[p.1]) p.2
end Go.Am
namespace Go.Am
set_option linter.all false
open Go Go.RowKit Go.Proofs
set_option maxRecDepth 100000
set_option linter.all false
def AllT(l:List Tk):Prop:=∀t∈l,fTk t=0
theorem AllT.app{a b:List Tk}(h1:AllT a)(h2:AllT b):AllT (a++b):=fun t ht=>by
 rcases List.mem_append.1 ht with h|h
 ·exact h1 t h
 ·exact h2 t h
theorem AllT.cons{a:Tk}{b:List Tk}(h1:fTk a=0)(h2:AllT b):AllT (a::b):=fun t ht=>by
 rcases List.mem_cons.1 ht with rfl|h
 ·exact h1
 ·exact h2 t h
theorem AllT.nil:AllT []:=fun t ht=>by cases ht
end Go.Am
