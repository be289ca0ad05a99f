/- The tables that the library reads, out of what the row lists; a world that holds them; what the card asks of the law's parameters. No condition. -/
import Derived.Test.YtbjmmndeeeoloaaDoorXG
import Derived.Test.YtbjmmndeeeoloaaDoorYI
import Derived.Test.YtbjmmndeeeoloaaDoorCards
import Derived.Test.YtbjmmndeeeoloaaDoorTie
import Derived.Deep.DeepHandedRow
import Derived.Lib.LaidTab
import Derived.LaidLaws
namespace Go.Proofs.YtbjmmndeeeoloaaDoor
open Go Go.RowKit Go.Am
set_option maxRecDepth 100000
theorem tab_of_third{W:World}{a b:String×DataW Unit}{name:String}{k:IntKind}{zs:List Int}{g:Nat}{t e:TypeId}{n:Nat}
  (hg:Tryd.prog.globalNamed name=some g) (hty:(Tryd.prog.globals[g]?).map (·.type)=some t) (ht:Tryd.prog.underlying t=some (.array n e)) (he:Tryd.prog.underlying e=some (.int k)) (hce:Tryd.prog.cellsOf e=1) (hct:Tryd.prog.cellsOf t=n)
  (h:laidMet Tryd.prog [a,b,(name,Lib.tabData k zs)] W):Lib.TabIs Tryd.prog W name k zs:=by
 obtain⟨ps,⟨_,_,_,_,_,_,_,_,_,_,⟨_,_,_,_,_,_,_,_,_,_,⟨g',t',cs,fuel,p,q,hg',ht',hvar,hd,_,_⟩,_⟩,_⟩,_⟩:=h
 obtain rfl:=Option.some.inj (hg.symm.trans hg')
 obtain rfl:=Option.some.inj (hty.symm.trans ht')
 unfold Lib.TabIs
 rw[hvar,←Lib.cells_of_tab ht he hce hct hd]
noncomputable abbrev laidA:List (String×DataW Unit):=Rows.execAloneUptoRow.laid
theorem laid_third {W : World} (h : laidMetH Tryd.prog laidA W) : ∃ a b, laidMet Tryd.prog [a, b, ("internal/strconv.uint64pow10", Lib.tabData .u64 Lib.pow10Tab)] W := ⟨_, _, h⟩
theorem tabs_laid{W:World}(h:laidMetH Tryd.prog laidA W):Tabs Tryd.prog W:=fun t ht g hg=>by
 obtain⟨a,b,h⟩:=laid_third h
 rw [show t = ("internal/strconv.uint64pow10", .u64, Lib.pow10Tab) by simpa [tabL] using ht]
 exact tab_of_third (g:=0) (t:=174) (e:=156) (n:=20) (by kernel_rfl) (by kernel_rfl) Tryd.underlying174 Tryd.underlying156 (by kernel_rfl) (by kernel_rfl) h
def cellsD:DataW Unit→Array Value
 | .agg l=>(l.map fun | .lit (.int k n)=>Value.int k n|_=>undef).toArray
 | _=>#[]
def layCells(vs:Array Value):Obj→Obj
 | .cells _ t frozen=>.cells vs t frozen
 | o=>o
noncomputable def laidWorld(os:Os):World :=
 { World.holding Tryd.prog os ⟨#[],#[],[]⟩ with heap:=(((World.holding Tryd.prog os ⟨#[],#[],[]⟩).heap.modify 0 (layCells (cellsD Rows.laid_internal_strconv_uint64pow10))).modify 4 (layCells (cellsD Rows.laid_math_bits_deBruijn32tab))).modify 5 (layCells (cellsD Rows.laid_math_bits_deBruijn64tab)) }
end Go.Proofs.YtbjmmndeeeoloaaDoor
