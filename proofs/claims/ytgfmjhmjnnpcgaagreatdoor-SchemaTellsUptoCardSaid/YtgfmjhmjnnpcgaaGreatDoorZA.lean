/- What is told of arguments that are types and selects, and how many selects there can be. No condition. -/
import Derived.Test.YtgfmjhmjnnpcgaaGreatDoorXG
import Derived.Test.YtgfmjhmjnnpcgaaGreatDoorXI
import Derived.Test.YtgfmjhmjnnpcgaaGreatDoorRows
import Derived.Deep.CondSized
namespace Go.Proofs.YtgfmjhmjnnpcgaaGreatDoor
open Go Go.RowKit Go.Am
set_option maxRecDepth 100000
theorem fits_fd{n:Nat}{x:AV}(h:Fits Tryz.prog n 40 x):∃f:Am.Fd,x=eFd f:=by
 obtain⟨m,ys,rfl,rfl,h0⟩:=fits_st Tryz.underlying40 h
 obtain⟨a,ys,rfl,ha,h0⟩:=fitsL_cons h0
 obtain⟨b,ys,rfl,hb,h0⟩:=fitsL_cons h0
 obtain⟨c,ys,rfl,hc,h0⟩:=fitsL_cons h0
 obtain rfl:=fitsL_nil h0
 obtain⟨a,rfl,_⟩:=fits_str Tryz.underlying9 ha
 obtain⟨b,rfl,_⟩:=fits_int Tryz.underlying3 hb
 obtain⟨c,rfl,_⟩:=fits_str Tryz.underlying9 hc
 exact⟨⟨a,b,c⟩,rfl⟩
theorem fits_ty{n:Nat}{x:AV}(h:Fits Tryz.prog n 38 x):∃t:Am.Ty,x=eTy t:=by
 obtain⟨m,ys,rfl,rfl,h0⟩:=fits_st Tryz.underlying38 h
 obtain⟨a,ys,rfl,ha,h0⟩:=fitsL_cons h0
 obtain⟨b,ys,rfl,hb,h0⟩:=fitsL_cons h0
 obtain rfl:=fitsL_nil h0
 obtain⟨a,rfl,_⟩:=fits_str Tryz.underlying9 ha
 obtain⟨k,xs,rfl,rfl,hl,hx⟩:=fits_sl Tryz.underlying36 hb
 obtain⟨l,rfl⟩:=exists_map fun y hy=>fits_fd (hx y hy)
 exact⟨⟨a,l⟩,rfl⟩
theorem fits_tys{n:Nat}{x:AV}(h:Fits Tryz.prog n 34 x):∃l:List Am.Ty,x = .sl (l.map eTy):=by
 obtain⟨k,xs,rfl,rfl,hl,hx⟩:=fits_sl Tryz.underlying34 h
 obtain⟨l,rfl⟩:=exists_map fun y hy=>fits_ty (hx y hy)
 exact⟨l,rfl⟩
end Go.Proofs.YtgfmjhmjnnpcgaaGreatDoor
