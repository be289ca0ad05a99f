/- The tables that the library reads, out of what the row lists; a world that holds them; what the card asks of the law's parameters. No condition. -/
import Derived.Test.YtbjmmndeeeoloaaGreatDoorXG
import Derived.Test.YtbjmmndeeeoloaaGreatDoorYI
import Derived.Test.YtbjmmndeeeoloaaGreatDoorCards
import Derived.Test.YtbjmmndeeeoloaaGreatDoorTie
import Derived.Deep.DeepHandedRow
import Derived.Lib.LaidTab
import Derived.LaidLaws
namespace Go.Proofs.YtbjmmndeeeoloaaGreatDoor
open Go Go.RowKit Go.Am
set_option maxRecDepth 100000
theorem tab_of_third{W:World}{a b:String×DataW Unit}{name:String}{k:IntKind}{zs:List Int}{g:Nat}{t e:TypeId}{n:Nat}
  (hg:Tryz.prog.globalNamed name=some g) (hty:(Tryz.prog.globals[g]?).map (·.type)=some t) (ht:Tryz.prog.underlying t=some (.array n e)) (he:Tryz.prog.underlying e=some (.int k)) (hce:Tryz.prog.cellsOf e=1) (hct:Tryz.prog.cellsOf t=n)
  (h:laidMet Tryz.prog [a,b,(name,Lib.tabData k zs)] W):Lib.TabIs Tryz.prog W name k zs:=by
 obtain⟨ps,⟨_,_,_,_,_,_,_,_,_,_,⟨_,_,_,_,_,_,_,_,_,_,⟨g',t',cs,fuel,p,q,hg',ht',hvar,hd,_,_⟩,_⟩,_⟩,_⟩:=h
 obtain rfl:=Option.some.inj (hg.symm.trans hg')
 obtain rfl:=Option.some.inj (hty.symm.trans ht')
 unfold Lib.TabIs
 rw[hvar,←Lib.cells_of_tab ht he hce hct hd]
noncomputable abbrev laidA:List (String×DataW Unit):=Rows.execTellsUptoRow.laid
theorem laid_third {W : World} (h : laidMetH Tryz.prog laidA W) : ∃ a b, laidMet Tryz.prog [a, b, ("internal/strconv.uint64pow10", Lib.tabData .u64 Lib.pow10Tab)] W := ⟨_, _, h⟩
theorem tabs_laid{W:World}(h:laidMetH Tryz.prog laidA W):Tabs Tryz.prog W:=fun t ht g hg=>by
 obtain⟨a,b,h⟩:=laid_third h
 rw [show t = ("internal/strconv.uint64pow10", .u64, Lib.pow10Tab) by simpa [tabL] using ht]
 exact tab_of_third (g:=0) (t:=197) (e:=184) (n:=20) (by kernel_rfl) (by kernel_rfl) Tryz.underlying197 Tryz.underlying184 (by kernel_rfl) (by kernel_rfl) h
def cellsD:DataW Unit→Array Value
 | .agg l=>(l.map fun | .lit (.int k n)=>Value.int k n|_=>undef).toArray
 | _=>#[]
def layCells(vs:Array Value):Obj→Obj
 | .cells _ t frozen=>.cells vs t frozen
 | o=>o
noncomputable def laidWorld(os:Os):World :=
 { World.holding Tryz.prog os ⟨#[],#[],[]⟩ with heap:=(((World.holding Tryz.prog os ⟨#[],#[],[]⟩).heap.modify 0 (layCells (cellsD Rows.laid_internal_strconv_uint64pow10))).modify 2 (layCells (cellsD Rows.laid_math_bits_deBruijn32tab))).modify 3 (layCells (cellsD Rows.laid_math_bits_deBruijn64tab)) }
end Go.Proofs.YtbjmmndeeeoloaaGreatDoor
