/- The tables and errors that the library reads, out of what the row lists; a world that holds them (the laws of texts). No condition. -/
import Derived.Test.YtgfmjhmjnnpcgaaGreatDoorXG
import Derived.Test.YtgfmjhmjnnpcgaaGreatDoorYA
import Derived.Test.YtgfmjhmjnnpcgaaGreatDoorCards
import Derived.Test.YtgfmjhmjnnpcgaaGreatDoorTie
import Derived.Deep.DeepHandedRow
import Derived.Lib.LaidTab
import Derived.LaidLaws
namespace Go.Proofs.YtgfmjhmjnnpcgaaGreatDoor
open Go Go.RowKit Go.Am
set_option maxRecDepth 100000
theorem laid_mem{P:Program}{W:World}:∀{l:List (String×DataW Unit)} {ps:List MemPlace},DataW.LaidVars P W l ps→∀x∈l,∃g t cs fuel p,P.globalNamed x.1=some g∧(P.globals[g]?).map (·.type)=some t∧W.var? P x.1=some cs∧DataW.trod (fun _=>()) P W 0 (fun _=>true) false fuel t cs.toList=some (x.2,p)
 | [],_,_,x,hx=>by cases hx
 | (n,d)::r,ps,⟨g,t,cs,fuel,p,q,h1,h2,h3,h4,h5,_⟩,x,hx=>by
  rcases List.mem_cons.1 hx with rfl|hx
  ·exact⟨g,t,cs,fuel,p,h1,h2,h3,h4⟩
  ·exact laid_mem h5 x hx
theorem err_cell{P:Program}{W:World}{g t:Nat}{name T:String}{m:Array (String×TypeId)}{cs:Array Value}{d:DataW Unit}{fuel:Nat}{p:List MemPlace}(hu:P.underlying t=some (.interface m))(hg:P.globalNamed name=some g)(hv:W.var? P name=some cs)
  (h:DataW.trod (fun _=>()) P W 0 (fun _=>true) false fuel t cs.toList=some (.iface T d,p)):∃v,W.cell? ⟨g,0,none⟩=some v∧(v = .nilIface∨∃te pe,v = .iface te pe):=by
 have hc:∃u v,cs.toList=[.iface u v]:=by
  cases fuel with
  | zero=>cases h
  | succ fuel =>
   simp only[DataW.trod,hu] at h
   split at h
   all_goals first|cases h; done|exact⟨_,_,by assumption⟩|(simp_all; done)|skip
 obtain⟨u,v,hc⟩:=hc
 refine⟨.iface u v,?_,.inr ⟨u,v,rfl⟩⟩
 unfold World.var? at hv
 rw[hg] at hv
 simp only[Option.bind_some] at hv
 unfold World.cell?
 split at hv
 ·rename_i cs' e f hh
  injection hv with hv
  subst hv
  rw[hh]
  have:cs' = #[.iface u v]:=by cases cs'; simp at hc ⊢; exact hc
  rw[this]; rfl
 ·cases hv
noncomputable abbrev laidA:List (String×DataW Unit):=Rows.schemaTurnedUptoRow.laid
theorem laid_plain{W:World}(h:laidMetH Tryz.prog laidA W):laidMet Tryz.prog laidA W:=h
theorem tabs_laid{W:World}(h:laidMetH Tryz.prog laidA W):Tabs Tryz.prog W:=by
 obtain⟨ps,hv,_,_⟩:=laid_plain h
 refine⟨fun t ht g hg=>?_,fun n hn g hg=>?_⟩
 ·skip
  rw [show t = ("internal/strconv.uint64pow10", .u64, Lib.pow10Tab) by simpa [tabL] using ht]
  obtain ⟨g', t', cs, fuel, p, h1, h2, h3, h4⟩ := laid_mem hv ("internal/strconv.uint64pow10", Lib.tabData .u64 Lib.pow10Tab) (.tail _ (.tail _ (.head _)))
  obtain rfl := Option.some.inj ((show Tryz.prog.globalNamed "internal/strconv.uint64pow10" = some 3 by kernel_rfl).symm.trans h1)
  obtain rfl:=Option.some.inj ((show (Tryz.prog.globals[3]?).map (·.type)=some 206 by kernel_rfl).symm.trans h2)
  unfold Lib.TabIs
  rw[h3,←Lib.cells_of_tab Tryz.underlying206 Tryz.underlying178 (by kernel_rfl) (by kernel_rfl) h4]
 ·simp only[errL,List.mem_cons,List.not_mem_nil,or_false] at hn
  rcases hn with rfl|rfl
  ·skip
   obtain ⟨g', t', cs, fuel, p, h1, h2, h3, h4⟩ := laid_mem hv ("strconv.ErrSyntax", Rows.laid_strconv_ErrSyntax) (.tail _ (.tail _ (.tail _ (.tail _ (.head _)))))
   obtain rfl := Option.some.inj ((show (Tryz.prog.globalNamed "strconv.ErrSyntax") = some 1 by kernel_rfl).symm.trans h1)
   obtain rfl:=Option.some.inj ((show (Tryz.prog.globals[1]?).map (·.type)=some 125 by kernel_rfl).symm.trans h2)
   obtain rfl:=Option.some.inj (h1.symm.trans hg)
   exact err_cell Tryz.underlying125 h1 h3 h4
  ·skip
   obtain ⟨g', t', cs, fuel, p, h1, h2, h3, h4⟩ := laid_mem hv ("strconv.ErrRange", Rows.laid_strconv_ErrRange) (.tail _ (.tail _ (.tail _ (.head _))))
   obtain rfl := Option.some.inj ((show (Tryz.prog.globalNamed "strconv.ErrRange") = some 2 by kernel_rfl).symm.trans h1)
   obtain rfl:=Option.some.inj ((show (Tryz.prog.globals[2]?).map (·.type)=some 125 by kernel_rfl).symm.trans h2)
   obtain rfl:=Option.some.inj (h1.symm.trans hg)
   exact err_cell Tryz.underlying125 h1 h3 h4
def cellsD:DataW Unit→Array Value
 | .agg l=>(l.map fun | .lit (.int k n)=>Value.int k n|_=>undef).toArray
 | _=>#[]
def strD:DataW Unit→Value
 | .iface _ (.ptr (.agg [.lit (.string s)]))=>.string ⟨⟨s⟩⟩
 | _=>undef
def layCells(vs:Array Value):Obj→Obj
 | .cells _ t frozen=>.cells vs t frozen
 | o=>o
noncomputable def laidHeap(h:Array Obj):Array Obj :=
 (((((h.modify 3 (layCells (cellsD Rows.laid_internal_strconv_uint64pow10))).modify 4 (layCells (cellsD Rows.laid_math_bits_deBruijn32tab))).modify 5 (layCells (cellsD Rows.laid_math_bits_deBruijn64tab))).modify
  1 (layCells #[.iface 224 (.pointer (some ⟨h.size,0,none⟩))])).modify 2 (layCells #[.iface 224 (.pointer (some ⟨h.size+1,0,none⟩))])) ++
  #[.cells #[strD Rows.laid_strconv_ErrSyntax] 226 (0,0),.cells #[strD Rows.laid_strconv_ErrRange] 226 (0,0)]
noncomputable def laidWorld(os:Os):World :=
 { World.holding Tryz.prog os ⟨#[],#[],[]⟩ with heap:=laidHeap (World.holding Tryz.prog os ⟨#[],#[],[]⟩).heap }
end Go.Proofs.YtgfmjhmjnnpcgaaGreatDoor
