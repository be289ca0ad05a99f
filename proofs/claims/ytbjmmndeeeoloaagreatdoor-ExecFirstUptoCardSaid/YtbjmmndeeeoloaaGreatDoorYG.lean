/- Parts of the proof: an abstract machine for Go functions, and what functions of the program give back (Ex25, Ex26). No condition. -/
import Derived.Test.YtbjmmndeeeoloaaGreatDoorYF
import Derived.Test.YtbjmmndeeeoloaaGreatDoorYB
namespace Go.Am
set_option linter.all false
open Go Go.RowKit Go.Proofs
set_option maxRecDepth 100000
set_option linter.all false
theorem thA_none{s:Sta}(hs:RtL s){kd x:Int}(hk : -1≤kd∧kd≤5)(hx:I64 x)(h:thA s kd x=none):∀t∈s.things,¬(t.type=kd∧t.id=x):=fun t ht ⟨h1,h2⟩=>by
 rw[(thA_some hs hk hx ht h1 h2).1] at h; cases h
theorem thA_is{s:Sta}(hs:RtL s){kd x:Int}(hk : -1≤kd∧kd≤5)(hx:I64 x){u:Tg}(h:thA s kd x=some u):u∈s.things∧u.type=kd∧u.id=x:=by
 unfold thA at h
 split at h
 ·rename_i hb
  rw[hs.srt.findB (by omega) hx,List.any_eq_true] at hb
  obtain⟨v,hv,hi⟩:=hb
  simp[isTg] at hi
  have:=(thA_some hs hk hx hv hi.1 hi.2).1
  unfold thA at this
  rw[if_pos (by rw[hs.srt.findB (by omega) hx,List.any_eq_true]; exact⟨v,hv,by simp[isTg,hi]⟩),h] at this
  injection this with this
  subst this
  exact⟨hv,hi.1,hi.2⟩
 ·cases h
end Go.Am
namespace Go.Am
set_option linter.all false
open Go Go.RowKit Go.Proofs
set_option maxRecDepth 100000
set_option linter.all false
end Go.Am
