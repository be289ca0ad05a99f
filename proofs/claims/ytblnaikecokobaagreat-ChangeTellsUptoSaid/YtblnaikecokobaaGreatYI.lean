/- Parts of the proof: an abstract machine for Go functions, and what functions of the program give back (Hi4, Hi5, Hi6). No condition. -/
import Derived.Test.YtblnaikecokobaaGreatYH
namespace Go.Am
set_option linter.all false
open Go Go.RowKit Go.Proofs
set_option maxRecDepth 100000
set_option linter.all false
def swp{α:Type}(l:List α)(i j:Nat):List α:=match l[i]?,l[j]? with
 | some x,some y=>(l.set i y).set j x
 | _,_=>l
def rvs{α:Type}(l:List α):Nat→List α
 | 0=>l
 | i+1=>swp (rvs l i) i (l.length - 1 - i)
end Go.Am
namespace Go.Am
set_option linter.all false
open Go Go.RowKit Go.Proofs
set_option maxRecDepth 100000
set_option linter.all false
theorem eEv_eq(e:Ev):eEv e = .agg [.int .i64 e.kind,.int .i64 e.type,.int .i64 e.id,.int .i64 e.field,.int .i64 e.n,.str e.text]:=rfl
def zE:AV:=.agg [.int .i64 0,.int .i64 0,.int .i64 0,.int .i64 0,.int .i64 0,.str []]
end Go.Am
namespace Go.Am
set_option linter.all false
open Go Go.RowKit Go.Proofs
set_option maxRecDepth 100000
set_option linter.all false
theorem Rt.own{s:Sta}(h:Rt s):s.types.length≤1000∧(∀t∈s.types,t.fields.length≤1000)∧s.things.length≤12∧∀x∈s.things,x.cells.length≤16∧∀c∈x.cells,c.ids.length≤1000:=by
 have hr:=h.r
 refine⟨by have:=hr.sch.len; omega,fun t ht=>by have:=hr.sch.fields t ht; omega,hr.len,fun x hx=>?_⟩
 have h1:=(hr.tg x hx).cells6 hr.sch
 refine⟨by omega,fun c hc=>?_⟩
 obtain⟨k,hk⟩:=List.mem_iff_getElem?.1 hc
 obtain⟨f,_,hco⟩:=(hr.tg x hx).cellOk hk
 have:=hco.i1; omega
end Go.Am
