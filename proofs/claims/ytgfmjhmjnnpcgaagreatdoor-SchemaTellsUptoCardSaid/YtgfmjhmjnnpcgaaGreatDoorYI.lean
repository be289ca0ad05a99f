/- Parts of the proof: an abstract machine for Go functions, and what functions of the program give back (Sx2, Qx1, Qx2). No condition. -/
import Derived.Test.YtgfmjhmjnnpcgaaGreatDoorYH
import Derived.Test.YtgfmjhmjnnpcgaaGreatDoorXI
namespace Go.Am
set_option linter.all false
open Go Go.RowKit Go.Proofs
set_option maxRecDepth 100000
set_option linter.all false
end Go.Am
namespace Go.Am
set_option linter.all false
open Go Go.RowKit Go.Proofs
set_option maxRecDepth 100000
set_option linter.all false
def isV(l:List Tk):Bool:=match l with
 | t::_=>t.kind==2||t.kind==3
 | []=>false
def agOf(nm:List UInt8)(l:List Tk):Ag:=match l with
 | t::_=>⟨nm,t.kind==3,t.text,t.n⟩
 | []=>⟨nm,false,[],0⟩
def pAg(l:List Tk):Option (Ag×List Tk):=if isW l=true∧isS (l.drop 1) 58=true∧isV (l.drop 2)=true then some (agOf (txt l) (l.drop 2),l.drop 3) else none
def pAgs:Nat→List Ag→List Tk→Option (List Ag×List Tk)
 | 0,_,_=>none
 | n+1,acc,l=>match pAg l with
  | none=>none
  | some p=>if isS p.2 41=true then some (acc++[p.1],p.2.drop 1) else pAgs n (acc++[p.1]) p.2
end Go.Am
namespace Go.Am
set_option linter.all false
open Go Go.RowKit Go.Proofs
set_option maxRecDepth 100000
set_option linter.all false
def AllT(l:List Tk):Prop:=∀t∈l,fTk t=0
theorem AllT.app{a b:List Tk}(h1:AllT a)(h2:AllT b):AllT (a++b):=fun t ht=>by
 rcases List.mem_append.1 ht with h|h
 ·exact h1 t h
 ·exact h2 t h
theorem AllT.cons{a:Tk}{b:List Tk}(h1:fTk a=0)(h2:AllT b):AllT (a::b):=fun t ht=>by
 rcases List.mem_cons.1 ht with rfl|h
 ·exact h1
 ·exact h2 t h
theorem AllT.nil:AllT []:=fun t ht=>by cases ht
end Go.Am
