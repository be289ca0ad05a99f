/- Parts of the proof: an abstract machine for Go functions, and what functions of the program give back (Sx1, Qr1, Qr2, Qx1, Qr3, Qr4, Qr5, Qr6, Am56, Qr7). No condition. -/
import Derived.Test.YtgfmjhmjnnpcgaaGreatDoorXI
import Derived.Test.YtgfmjhmjnnpcgaaGreatDoorXH
import Derived.Test.YtgfmjhmjnnpcgaaGreatDoorXJ
namespace Go.Am
set_option linter.all false
open Go Go.RowKit Go.Proofs
set_option maxRecDepth 100000
set_option linter.all false
def isS(l:List Tk)(c:UInt8):Bool:=match l with
 | t::_=>t.kind==4&&t.text==[c]
 | []=>false
def isW(l:List Tk):Bool:=match l with
 | t::_=>t.kind==1
 | []=>false
def txt(l:List Tk):List UInt8:=match l with
 | t::_=>t.text
 | []=>[]
def tType:List UInt8:=[116,121,112,101]
def fdOf(nm s:List UInt8):Fd:=if s=tNumber then ⟨nm,1,[]⟩ else if s=tText then ⟨nm,2,[]⟩ else ⟨nm,3,s⟩
def pFd(l:List Tk):Option (Fd×List Tk) :=
 if isW l=true∧isS (l.drop 1) 58=true then
  if isS (l.drop 2) 91=true then (if isW (l.drop 3)=true∧isS (l.drop 4) 93=true then some (⟨txt l,4,txt (l.drop 3)⟩,l.drop 5) else none)
  else if isW (l.drop 2)=true then some (fdOf (txt l) (txt (l.drop 2)),l.drop 3) else none
 else none
def pFds:Nat→List Fd→List Tk→Option (List Fd×List Tk)
 | 0,_,_=>none
 | n+1,acc,l=>match pFd l with
  | none=>none
  | some p=>if isS p.2 125=true then some (acc++[p.1],p.2.drop 1) else pFds n (acc++[p.1]) p.2
def pTy(l:List Tk):Option (Ty×List Tk) :=
 if (isW l=true∧txt l=tType)∧isW (l.drop 1)=true∧isS (l.drop 2) 123=true then (pFds (l.length+1) [] (l.drop 3)).map fun p=>(⟨txt (l.drop 1),p.1⟩,p.2) else none
def pTys:Nat→List Ty→List Tk→Option (List Ty)
 | 0,_,_=>none
 | n+1,acc,l=>match pTy l with
  | none=>none
  | some p=>if p.2=[] then some (acc++[p.1]) else pTys n (acc++[p.1]) p.2
def tysOf(l:List Tk):Option (List Ty):=pTys (l.length+1) [] l
theorem ite0{p:Prop}[Decidable p]{a b:Int}(h:(if p then a else b)=0)(ha:a≠0):¬p∧b=0:=by
 split at h
 ·exact (ha h).elim
 ·exact⟨‹_›,h⟩
theorem fName_le{s:List UInt8}(h:fName s=0):s.length≤12:=by
 unfold fName at h
 split at h
 ·cases h
 ·omega
def wSum(l:List Tk):Nat:=(l.map fun t=>(wrTk t).length+1).sum
theorem wSum_app(a b:List Tk):wSum (a++b)=wSum a+wSum b:=by simp[wSum]
theorem tkB_len(l:List Tk):(tkB l).length≤wSum l:=by
 cases l with
 | nil=>simp[tkB_nil]
 | cons t l =>
  rw[tkB_cons]
  have:(l.flatMap fun x=>32::wrTk x).length=wSum l:=by
   induction l with
   | nil=>rfl
   | cons u l ih=>simp[wSum] at ih ⊢; omega
  rw[List.length_append,this]
  simp[wSum]
def Few(l:List Tk)(a b:Nat):Prop:=(∀t∈l,fTk t=0)∧l.length≤a∧wSum l≤b
theorem Few.app{l m:List Tk}{a b c d:Nat}(h1:Few l a b)(h2:Few m c d):Few (l++m) (a+c) (b+d):=by
 refine⟨fun t ht=>?_,?_,?_⟩
 ·rcases List.mem_append.1 ht with h|h
  ·exact h1.1 t h
  ·exact h2.1 t h
 ·have:=h1.2.1; have:=h2.2.1; simp; omega
 ·have:=h1.2.2; have:=h2.2.2; rw[wSum_app]; omega
theorem Few.mono{l:List Tk}{a b c d:Nat}(h:Few l a b)(h1:a≤c)(h2:b≤d):Few l c d:=⟨h.1,Nat.le_trans h.2.1 h1,Nat.le_trans h.2.2 h2⟩
end Go.Am
namespace Go.Am
set_option linter.all false
open Go Go.RowKit Go.Proofs
set_option maxRecDepth 100000
set_option linter.all false
@[simp] theorem pureB_eTk (t:Tk):(eTk t).pureB=true:=rfl
end Go.Am
namespace Go.Am
set_option linter.all false
open Go Go.RowKit Go.Proofs
set_option maxRecDepth 100000
set_option linter.all false
end Go.Am
namespace Go.Am
set_option linter.all false
open Go Go.RowKit Go.Proofs
set_option maxRecDepth 100000
set_option linter.all false
end Go.Am
namespace Go.Am
set_option linter.all false
open Go Go.RowKit Go.Proofs
set_option maxRecDepth 100000
set_option linter.all false
end Go.Am
namespace Go.Am
set_option linter.all false
open Go Go.RowKit Go.Proofs
set_option maxRecDepth 100000
set_option linter.all false
end Go.Am
namespace Go.Am
set_option linter.all false
open Go Go.RowKit Go.Proofs
set_option maxRecDepth 100000
set_option linter.all false
end Go.Am
namespace Go.Am
set_option linter.all false
open Go Go.RowKit Go.Proofs
set_option maxRecDepth 100000
set_option linter.all false
end Go.Am
namespace Go.Am
set_option linter.all false
open Go Go.RowKit
set_option linter.all false
section
variable {E:Env} {σ:St} {k:List Itm}
theorem w_post{cc r:CC}{P:St→Prop}(h:Wk E (.code cc::.post P::k) σ)(hk:∀τ,P τ→Wk E (.code r::k) τ):Wk E (.code (.seq cc r)::k) σ:=by
 refine w_seq fun c hc G a w hD=>?_
 refine wp_mono (h c hc G a w hD) fun e a' w' hq=>?_
 cases e with
 | normal =>
  obtain⟨σ',G',h1,h2⟩:=hq
  exact⟨σ',G',h1,hk _ h2⟩
 | _=>exact hq
theorem w_join{r:CC}{X:Type}{inv:X→St}{ok:X→Prop}(hk:∀x,ok x→Wk E (.code r::k) (inv x))(τ:St)(h:∃x,ok x∧Conv E τ (inv x)):Wk E (.code r::k) τ:=by
 obtain⟨x,h1,h2⟩:=h
 exact w_conv h2 (hk x h1)
theorem w_cut3{a b c r:CC}{X:Type}(inv:X→St)(ok:X→Prop)(h:∀p:St→Prop,(∀σ' x,ok x→Conv E σ' (inv x)→p σ')→Wk E (.code a::.code b::.code c::.post p::k) σ)
  (hk:∀x,ok x→Wk E (.code r::k) (inv x)):Wk E (.code (.seq a (.seq b (.seq c r)))::k) σ :=
 w_seq (wk_mono (.code a) (fun _ q=>w_seq (wk_mono (.code b) (fun _ q=>w_post q (w_join hk)) (fun _ _ q=>q) q)) (fun _ _ q=>q) (h (fun σ'=>∃x,ok x∧Conv E σ' (inv x)) fun σ' x h1 h2=>⟨x,h1,h2⟩))
end
end Go.Am
namespace Go.Am
set_option linter.all false
open Go Go.RowKit Go.Proofs
set_option maxRecDepth 100000
set_option linter.all false
section
variable (E:Env) (hP:E.P=Tryz.prog) (z l:List Tk) (J id:Nat) (hJ:J<E.n0∧(J<id∨id+1024≤J))
include hP hJ
end
end Go.Am
