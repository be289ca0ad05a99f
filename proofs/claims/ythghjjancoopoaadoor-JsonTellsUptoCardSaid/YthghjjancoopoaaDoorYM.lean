/- What a query answers is right: how deep, how many, each out by itself; each select alone. No condition. -/
import Derived.Test.YthghjjancoopoaaDoorYL
import Derived.Test.YthghjjancoopoaaDoorYJ
namespace Go.Am
set_option linter.all false
open Go Go.RowKit Go.Proofs
set_option maxRecDepth 100000
set_option linter.all false
def HoL:Nat→List Out→Prop
 | 0,l=>l=[]
 | k+1,l=>∀x∈l,HoL k x.kids
theorem HoL.nil:∀k,HoL k []
 | 0=>rfl
 | k+1=>fun x hx=>by cases hx
theorem HoL.mono:∀{k:Nat} {l:List Out},HoL k l→HoL (k+1) l
 | 0,l,h=>by subst h; exact HoL.nil 1
 | k+1,l,h=>fun x hx=>HoL.mono (h x hx)
theorem foldl_max_le{α:Type}(f:α→Nat):∀(l:List α) (a k:Nat),l.foldl (fun d s=>max d (f s)) a≤k↔a≤k∧∀x∈l,f x≤k
 | [],a,k=>by simp
 | y::l,a,k=>by
  simp only[List.foldl_cons,List.mem_cons,forall_eq_or_imp]
  rw[foldl_max_le f l]
  exact⟨fun h=>⟨by omega,by omega,h.2⟩,fun h=>⟨by omega,h.2.2⟩⟩
theorem Ho_deep:∀(k m:Nat) (l:List Out),HoL k l→deepO m l≤k
 | 0,m,l,h=>by
  simp only[HoL] at h
  subst h
  cases m<;>simp[deepO]
 | k+1,0,l,h=>by simp only[deepO]; omega
 | k+1,m+1,l,h=>by
  simp only[deepO]
  refine (foldl_max_le _ _ _ _).2 ⟨by omega,fun x hx=>?_⟩
  have:=Ho_deep k m _ (h x hx)
  omega
end Go.Am
