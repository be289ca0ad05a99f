/- Histories: the law that what was stays. No condition. -/
import Derived.Test.YtgdanfbkhaoieaaYL
namespace Go.Am
set_option linter.all false
open Go Go.RowKit Go.Proofs
set_option maxRecDepth 100000
set_option linter.all false
theorem SameV (w:Int) (s:Sta) (id:Nat) (h:w=0→Rt s):FnOk Try.prog 53 [.agg [staA w s,staB w s],.agg [staA w s,staB w s]] [] id (.bool true) []:=by
  have e:(AV.agg [staA w s,staB w s])=staV w s:=rfl
  rw [e,staV_eq]
  by_cases h0:w=0
  · rw [if_pos h0]; exact Same_self (h h0) id
  · rw [if_neg h0]; exact Same_zero id
theorem at_more (l:List Ty) (ev more:List Ev) (n:Int) (h:0≤n∧n≤(ev.length:Int)):atE l (ev++more) n=atE l ev n∧atS l (ev++more) n=atS l ev n:=by
  unfold atE atS
  have ht:(ev++more).take n.toNat=ev.take n.toNat:=List.take_append_of_le_length (by omega)
  rw [ht]
  refine ⟨?_,rfl⟩
  by_cases h0:fCheckT l=0
  · rw [if_neg (not_not_intro h0),if_neg (not_not_intro h0),if_neg (by rw [List.length_append]; omega),if_neg (by omega)]
  · rw [if_pos h0,if_pos h0]
set_option maxHeartbeats 4000000 in
theorem HistoryStays_ok (l:List Ty) (ev more:List Ev) (n:Int) (id:Nat) (hI:∀ e∈ev,I64 e.n) (hm:∀ e∈more,I64 e.n) (h1:ev.length≤1048576) (h2:more.length≤1048576):FnOk Try.prog 15 [.sl (l.map eTy),.sl (ev.map eEv),.sl (more.map eEv),.int .i64 n] [] id (.bool true) []:=by
  have hb:=fun id=>historyBegun_ok id
  have hA:=fun id=>At_ok l ev n id hI (by omega)
  have hIm:∀ e∈ev++more,I64 e.n:=fun e he=>(List.mem_append.1 he).elim (hI e) (hm e)
  have hB:=fun id=>At_ok l (ev++more) n id hIm (by simp; omega)
  have hC:=fun id=>All_ok l ev id hI (by omega)
  have hD:=fun id=>At_ok l ev ev.length id hI (by omega)
  have hS1:=fun id=>SameV (atE l ev n) (atS l ev n) id (rt_at hI)
  have hS2:=fun id=>SameV (atE l ev ev.length) (atS l ev ev.length) id (rt_at hI)
  rw [List.map_append] at hB
  have hcl:∀ a:Ev,(eEv a).cells.length=6∧∀ y∈(eEv a).cells,AV.one y=true:=fun a=>⟨rfl,fun y hy=>by simp [eEv,AV.cells] at hy; rcases hy with rfl | rfl | rfl | rfl | rfl | rfl <;> rfl⟩
  by_cases hn:0≤n∧n≤(ev.length:Int)
  · obtain ⟨q1,q2⟩:=at_more l ev more n hn
    rw [q1,q2] at hB
    unfold staV at *
    refine fn_okc Try.func15 hcc15 (by decide) hcr15 (by simp [Try.ntmps15]) fun E hP hR hl hid=>?_
    simp only [cr15] at hR
    refine w_go 4000 ?_
    simp [cc15]
    (refine w_call hP rfl (hb _) (by simp) (by simp <;> rfl) ?_; refine w_go 4000 ?_; simp)
    (refine w_call hP rfl (hA _) (by simp) (by simp <;> rfl) ?_; refine w_go 4000 ?_; simp)
    refine ⟨⟨one_staA _ _,one_staB _ _⟩,⟨fun a _=>hcl a,by omega,by omega⟩,⟨fun a _=>hcl a,by omega,by omega⟩,?_⟩
    have htk:List.take (ev.length+more.length) (ev.map eEv++more.map eEv)=ev.map eEv++more.map eEv:=List.take_of_length_le (by simp)
    (refine w_callR hP rfl (hB _) (by simp [htk] <;> rfl) (by simp [htk]) (by simp [htk] <;> rfl) (by simp [htk]) ?_; refine w_go 4000 ?_; simp [htk])
    refine ⟨⟨one_staA _ _,one_staB _ _⟩,?_⟩
    (refine w_callg hP (by simp) rfl (fun hc=>⟨hS1 _,by revert hc; simp; try grind,by simp⟩) ?_; refine w_go 4000 ?_; simp)
    (refine w_call hP rfl (hC _) (by simp) (by simp <;> rfl) ?_; refine w_go 4000 ?_; simp)
    refine ⟨⟨one_staA _ _,one_staB _ _⟩,?_⟩
    (refine w_call hP rfl (hD _) (by simp) (by simp <;> rfl) ?_; refine w_go 4000 ?_; simp)
    refine ⟨⟨one_staA _ _,one_staB _ _⟩,?_⟩
    (refine w_callg hP (by simp) rfl (fun hc=>⟨hS2 _,by revert hc; simp; try grind,by simp⟩) ?_; refine w_go 4000 ?_; simp)
    rw [hR]; exact rt_end (by simp <;> rfl) [] trivial (end_pure (by simp) (by simp) (by simp))
  · unfold staV at *
    refine fn_okc Try.func15 hcc15 (by decide) hcr15 (by simp [Try.ntmps15]) fun E hP hR hl hid=>?_
    simp only [cr15] at hR
    refine w_go 4000 ?_
    simp [cc15]
    (refine w_call hP rfl (hb _) (by simp) (by simp <;> rfl) ?_; refine w_go 4000 ?_; simp)
    (refine w_call hP rfl (hA _) (by simp) (by simp <;> rfl) ?_; refine w_go 4000 ?_; simp)
    refine ⟨⟨one_staA _ _,one_staB _ _⟩,⟨fun a _=>hcl a,by omega,by omega⟩,⟨fun a _=>hcl a,by omega,by omega⟩,?_⟩
    have htk:List.take (ev.length+more.length) (ev.map eEv++more.map eEv)=ev.map eEv++more.map eEv:=List.take_of_length_le (by simp)
    (refine w_callR hP rfl (hB _) (by simp [htk] <;> rfl) (by simp [htk]) (by simp [htk] <;> rfl) (by simp [htk]) ?_; refine w_go 4000 ?_; simp [htk])
    refine ⟨⟨one_staA _ _,one_staB _ _⟩,?_⟩
    refine w_split (.bool true) (by simp) (fun hg=>by simp at hg; omega) (fun hg=>?_)
    refine w_go 4000 ?_
    simp
    refine ⟨fun a b=>(hn ⟨a,b⟩).elim,fun a b=>(hn ⟨a,b⟩).elim,?_⟩
    refine goc_false (by simp only [Bool.and_eq_false_iff,decide_eq_false_iff_not]; left; omega) ?_
    simp
    (refine w_call hP rfl (hC _) (by simp) (by simp <;> rfl) ?_; refine w_go 4000 ?_; simp)
    refine ⟨⟨one_staA _ _,one_staB _ _⟩,?_⟩
    (refine w_call hP rfl (hD _) (by simp) (by simp <;> rfl) ?_; refine w_go 4000 ?_; simp)
    refine ⟨⟨one_staA _ _,one_staB _ _⟩,?_⟩
    (refine w_callg hP (by simp) rfl (fun hc=>⟨hS2 _,by revert hc; simp; try grind,by simp⟩) ?_; refine w_go 4000 ?_; simp)
    rw [hR]; exact rt_end (by simp <;> rfl) [] trivial (end_pure (by simp) (by simp) (by simp))
end Go.Am
