/- Histories: the law that All, At, Group and Back answer as the verifier does. No condition. -/
import Derived.Test.YtgdanfbkhaoieaaYL
namespace Go.Am
set_option linter.all false
open Go Go.RowKit Go.Proofs
set_option maxRecDepth 100000
set_option linter.all false
theorem staV_bad {w:Int} (h:w≠0) (s:Sta):staA w s=.nils∧staB w s=.nils:=by
  unfold staA staB
  exact ⟨by rw [if_neg h],by rw [if_neg h]⟩
theorem atE_bad {l:List Ty} {ev:List Ev} {n:Int} (h:vE l ev n≠0):atE l ev n=vE l ev n:=by rw [atE_v,if_pos h]
theorem vE_zero {l:List Ty} {ev:List Ev} {n:Int} (h:vE l ev n=0):fCheckT l=0∧0≤n∧n≤(ev.length:Int)∧atE l ev n=allE ⟨l,[]⟩ (ev.take n.toNat):=by
  have e:atE l ev n=allE ⟨l,[]⟩ (ev.take n.toNat):=by rw [atE_v,if_neg (not_not_intro h)]
  unfold vE at h
  split at h
  · rename_i g; exact (g h).elim
  · rename_i g
    split at h
    · omega
    · exact ⟨Classical.byContradiction g,by omega,by omega,e⟩
theorem AllOf_nil (l:List Ty) (ev:List Ev) (id:Nat) (h:fCheckT l=0) (hn:∀ e∈ev,I64 e.n) (hlen:ev.length≤1000000000000000):FnOk Try.prog 60 [.agg [.sl (l.map eTy),.nils],.sl (ev.map eEv)] [] id (.tup [staV (allE ⟨l,[]⟩ ev) (allS ⟨l,[]⟩ ev),.int .i64 (allE ⟨l,[]⟩ ev)]) []:=by
  refine FnOk.nrmA ?_
  have:=AllOf_ok ⟨l,[]⟩ ev id (rt_nil h) hn hlen
  have e:nrmL [AV.agg [.sl (l.map eTy),.nils],.sl (ev.map eEv)]=[eSta ⟨l,[]⟩,.sl (ev.map eEv)]:=by
    have h2:∀ e:Ev,(eEv e).nrm=eEv e:=fun e=>rfl
    simp [nrmL,AV.nrm,nrmL_id nrm_eTy,nrmL_id h2,eSta]
  rw [e]; exact this
set_option maxHeartbeats 8000000 in
theorem HistoryTells_ok (l:List Ty) (ev:List Ev) (n:Int) (s:Sta) (gr:List Ev) (id:Nat) (hI:∀ e∈ev,I64 e.n) (hS:IdsI s) (hG:∀ e∈gr,I64 e.n) (h1:ev.length≤1000000000000000) (h2:gr.length≤1000000000000000):FnOk Try.prog 14 [.sl (l.map eTy),.sl (ev.map eEv),.int .i64 n,eSta s,.sl (gr.map eEv)] [] id (.bool true) []:=by
  have hb:=fun id=>historyBegun_ok id
  have hA:=fun id=>All_ok l ev id hI (by omega)
  have hB:=fun id=>At_ok l ev n id hI (by omega)
  have hC:=fun id=>Group_ok s gr id hS hG
  have hD:=fun id=>Back_ok s gr id hS hG
  have hE:=fun id=>CheckSchema_ok l id
  have hF:=fun id=>CheckState_ok s id hS
  rw [(atE_all l ev).1,(atE_all l ev).2] at hA
  have hO1:=fun (h:fCheckT l=0) id=>AllOf_nil l ev id h hI (by omega)
  have hO2:=fun (h:fCheckT l=0) id=>AllOf_nil l (ev.take n.toNat) id h (fun e he=>hI e (List.mem_of_mem_take he)) (by simp; omega)
  have hO3:=fun (h:rdyE s gr=0) id=>AllOf_ok s gr id (rt_of (rdy_zero h).1 hS) hG (by omega)
  have hO4:=fun (h:grpE s gr=0) id=>BackOf_ok gr.length s gr id rfl (rt_of (rdy_zero (grp_zero h).1).1 hS) hG (by have:=(rdy_zero (grp_zero h).1).2; omega) (grp_zero h).2
  have hT1:=fun id=>stateIs_ok (sch0 l ev) (allS ⟨l,[]⟩ ev) id (fun h=>by
    have:=rt_at (n:=ev.length) hI (by rw [(atE_all l ev).1]; exact h)
    rwa [(atE_all l ev).2] at this)
  have hT2:=fun id=>stateIs_ok (atE l ev n) (atS l ev n) id (rt_at hI)
  have hT3:=fun id=>stateIs_ok (grpE s gr) (allS s gr) id (rt_grp hS hG)
  have hT4:=fun id=>bak_self s gr id (by omega)
  have v0:∀ V,FnOk Try.prog 62 [] [] V (.bool true) []:=hb
  unfold staV eSta at *
  refine fn_okc Try.func14 hcc14 (by decide) hcr14 (by simp [Try.ntmps14]) fun E hP hR hl hid=>?_
  simp only [cr14] at hR
  refine w_go 4000 ?_
  simp [cc14]
  (refine w_call hP rfl (hA _) (by simp) (by simp <;> rfl) ?_; refine w_go 4000 ?_; simp)
  refine ⟨⟨one_staA _ _,one_staB _ _⟩,?_⟩
  (refine w_call hP rfl (hB _) (by simp) (by simp <;> rfl) ?_; refine w_go 4000 ?_; simp)
  refine ⟨⟨one_staA _ _,one_staB _ _⟩,?_⟩
  (refine w_call hP rfl (hC _) (by simp) (by simp <;> rfl) ?_; refine w_go 4000 ?_; simp)
  refine ⟨⟨one_staA _ _,one_staB _ _⟩,?_⟩
  (refine w_call hP rfl (hD _) (by simp) (by simp <;> rfl) ?_; refine w_go 4000 ?_; simp)
  refine w_call hP rfl (hE _) (by simp) (by simp <;> rfl) ?_
  refine w_go 16 ?_
  simp
  refine w_seq (w_cut (X:=Unit) (fun _=>⟨[(0,true,.sl (l.map eTy)),(1,true,.sl (ev.map eEv)),(2,true,.int .i64 n),(4,true,.sl (gr.map eEv)),(8,true,.ptr E.n0 0 0),(11,true,.ptr (E.n0+1) 0 0),(12,true,.int .i64 (sch0 l ev)),(13,true,.ptr (E.n0+2) 0 0),(14,true,.int .i64 (atE l ev n)),(15,true,.ptr (E.n0+3) 0 0),(16,true,.int .i64 (grpE s gr)),(17,true,bakV s gr),(18,true,.int .i64 (bakE s gr)),(19,true,.int .i64 (fCheckT l)),(20,true,.int .i64 (vE l ev n))],[(E.n0,some ⟨[.agg [.sl (s.types.map eTy),.sl (s.things.map eTg)]],.agg [.sl (s.types.map eTy),.sl (s.things.map eTg)],false,false⟩),(E.n0+1,some ⟨[.agg [staA (sch0 l ev) (allS ⟨l,[]⟩ ev),staB (sch0 l ev) (allS ⟨l,[]⟩ ev)]],.agg [.nils,.nils],false,false⟩),(E.n0+2,some ⟨[.agg [staA (atE l ev n) (atS l ev n),staB (atE l ev n) (atS l ev n)]],.agg [.nils,.nils],false,false⟩),(E.n0+3,some ⟨[.agg [staA (grpE s gr) (allS s gr),staB (grpE s gr) (allS s gr)]],.agg [.nils,.nils],false,false⟩)],4⟩) (fun _=>True) (fun p hp=>?_) fun _ _=>?_)
  · refine w_go 4000 ?_
    simp
    refine ⟨fun a=>⟨a,fun b=>⟨a,b⟩⟩,?_⟩
    refine goc (fun h=>?_) (fun h=>?_) <;> simp
    · have hv:vE l ev n=3:=by
        simp at h
        unfold vE
        rw [if_neg (not_not_intro h.1),if_pos (by omega)]
      refine hp _ () trivial ?_
      have hrn:rnOk [(E.n0,E.n0),(E.n0+1,E.n0+8192),(E.n0+2,E.n0+18432),(E.n0+3,E.n0+27648)]:=by simp[hv]
      refine Conv.sub [(E.n0,E.n0),(E.n0+1,E.n0+8192),(E.n0+2,E.n0+18432),(E.n0+3,E.n0+27648)] hrn ?_ ?_ ?_ ?_ ?_ <;> (try simp[hv])
    · have hv:vE l ev n=fCheckT l:=by
        simp at h
        unfold vE
        by_cases g:fCheckT l=0
        · rw [if_neg (not_not_intro g),if_neg (by have:=h g; omega),g]
        · rw [if_pos g]
      refine hp _ () trivial ?_
      have hrn:rnOk [(E.n0,E.n0),(E.n0+1,E.n0+8192),(E.n0+2,E.n0+18432),(E.n0+3,E.n0+27648)]:=by simp[hv]
      refine Conv.sub [(E.n0,E.n0),(E.n0+1,E.n0+8192),(E.n0+2,E.n0+18432),(E.n0+3,E.n0+27648)] hrn ?_ ?_ ?_ ?_ ?_ <;> (try simp[hv])
  refine w_go 4000 ?_
  simp
  refine w_call hP rfl (hF _) (by simp) (by simp <;> rfl) ?_
  refine w_go 5 ?_
  simp
  refine w_seq (w_cut (X:=Unit) (fun _=>⟨[(0,true,.sl (l.map eTy)),(1,true,.sl (ev.map eEv)),(2,true,.int .i64 n),(4,true,.sl (gr.map eEv)),(8,true,.ptr E.n0 0 0),(11,true,.ptr (E.n0+1) 0 0),(12,true,.int .i64 (sch0 l ev)),(13,true,.ptr (E.n0+2) 0 0),(14,true,.int .i64 (atE l ev n)),(15,true,.ptr (E.n0+3) 0 0),(16,true,.int .i64 (grpE s gr)),(17,true,bakV s gr),(18,true,.int .i64 (bakE s gr)),(19,true,.int .i64 (fCheckT l)),(20,true,.int .i64 (vE l ev n)),(21,true,.int .i64 (rdyE s gr))],[(E.n0,some ⟨[.agg [.sl (s.types.map eTy),.sl (s.things.map eTg)]],.agg [.sl (s.types.map eTy),.sl (s.things.map eTg)],false,false⟩),(E.n0+1,some ⟨[.agg [staA (sch0 l ev) (allS ⟨l,[]⟩ ev),staB (sch0 l ev) (allS ⟨l,[]⟩ ev)]],.agg [.nils,.nils],false,false⟩),(E.n0+2,some ⟨[.agg [staA (atE l ev n) (atS l ev n),staB (atE l ev n) (atS l ev n)]],.agg [.nils,.nils],false,false⟩),(E.n0+3,some ⟨[.agg [staA (grpE s gr) (allS s gr),staB (grpE s gr) (allS s gr)]],.agg [.nils,.nils],false,false⟩)],4⟩) (fun _=>True) (fun p hp=>?_) fun _ _=>?_)
  · refine w_go 4000 ?_
    simp
    refine goc (fun h=>?_) (fun h=>?_) <;> simp
    · have hv:rdyE s gr=2:=by
        simp at h
        unfold rdyE
        rw [if_neg (not_not_intro h.1),if_pos (by omega)]
      refine hp _ () trivial ?_
      have hrn:rnOk [(E.n0,E.n0),(E.n0+1,E.n0+1),(E.n0+2,E.n0+2),(E.n0+3,E.n0+3)]:=by simp[hv]
      refine Conv.sub [(E.n0,E.n0),(E.n0+1,E.n0+1),(E.n0+2,E.n0+2),(E.n0+3,E.n0+3)] hrn ?_ ?_ ?_ ?_ ?_ <;> (try simp[hv])
    · have hv:rdyE s gr=fSt s:=by
        simp at h
        unfold rdyE
        by_cases g:fSt s=0
        · rw [if_neg (not_not_intro g),if_neg (by have:=h g; omega),g]
        · rw [if_pos g]
      refine hp _ () trivial ?_
      have hrn:rnOk [(E.n0,E.n0),(E.n0+1,E.n0+1),(E.n0+2,E.n0+2),(E.n0+3,E.n0+3)]:=by simp[hv]
      refine Conv.sub [(E.n0,E.n0),(E.n0+1,E.n0+1),(E.n0+2,E.n0+2),(E.n0+3,E.n0+3)] hrn ?_ ?_ ?_ ?_ ?_ <;> (try simp[hv])
  refine w_go 18 ?_
  simp
  refine w_seq (w_cut (X:=Unit) (fun _=>⟨[(0,true,.sl (l.map eTy)),(1,true,.sl (ev.map eEv)),(2,true,.int .i64 n),(4,true,.sl (gr.map eEv)),(8,true,.ptr E.n0 0 0),(11,true,.ptr (E.n0+1) 0 0),(12,true,.int .i64 (sch0 l ev)),(13,true,.ptr (E.n0+2) 0 0),(14,true,.int .i64 (atE l ev n)),(15,true,.ptr (E.n0+3) 0 0),(16,true,.int .i64 (grpE s gr)),(17,true,bakV s gr),(18,true,.int .i64 (bakE s gr)),(19,true,.int .i64 (sch0 l ev)),(20,true,.int .i64 (vE l ev n)),(21,true,.int .i64 (rdyE s gr)),(22,true,.ptr (E.n0+4) 0 0),(23,true,.ptr (E.n0+5) 0 0),(24,true,.ptr (E.n0+6) 0 0)],[(E.n0,some ⟨[.agg [.sl (s.types.map eTy),.sl (s.things.map eTg)]],.agg [.sl (s.types.map eTy),.sl (s.things.map eTg)],false,false⟩),(E.n0+1,some ⟨[.agg [staA (sch0 l ev) (allS ⟨l,[]⟩ ev),staB (sch0 l ev) (allS ⟨l,[]⟩ ev)]],.agg [.nils,.nils],false,false⟩),(E.n0+2,some ⟨[.agg [staA (atE l ev n) (atS l ev n),staB (atE l ev n) (atS l ev n)]],.agg [.nils,.nils],false,false⟩),(E.n0+3,some ⟨[.agg [staA (grpE s gr) (allS s gr),staB (grpE s gr) (allS s gr)]],.agg [.nils,.nils],false,false⟩),(E.n0+4,some ⟨[.agg [staA (sch0 l ev) (allS ⟨l,[]⟩ ev),staB (sch0 l ev) (allS ⟨l,[]⟩ ev)]],.agg [.nils,.nils],false,false⟩),(E.n0+5,some ⟨[.agg [.nils,.nils]],.agg [.nils,.nils],false,false⟩),(E.n0+6,some ⟨[.agg [.nils,.nils]],.agg [.nils,.nils],false,false⟩)],7⟩) (fun _=>True) (fun p hp=>?_) fun _ _=>?_)
  · refine w_go 4000 ?_
    simp
    refine goc (fun h=>?_) (fun h=>?_) <;> simp
    · have h:fCheckT l=0:=by simpa using h
      have hv:sch0 l ev=allE ⟨l,[]⟩ ev:=by unfold sch0; rw [if_neg (not_not_intro h)]
      (refine w_call hP rfl (hO1 h _) (by simp) (by simp <;> rfl) ?_; refine w_go 4000 ?_; simp)
      refine ⟨⟨one_staA _ _,one_staB _ _⟩,?_⟩
      refine hp _ () trivial ?_
      have hrn:rnOk [(E.n0,E.n0),(E.n0+1,E.n0+1),(E.n0+2,E.n0+2),(E.n0+3,E.n0+3),(E.n0+4,E.n0+4),(E.n0+5,E.n0+1028),(E.n0+6,E.n0+2052)]:=by simp[hv]
      refine Conv.sub [(E.n0,E.n0),(E.n0+1,E.n0+1),(E.n0+2,E.n0+2),(E.n0+3,E.n0+3),(E.n0+4,E.n0+4),(E.n0+5,E.n0+1028),(E.n0+6,E.n0+2052)] hrn ?_ ?_ ?_ ?_ ?_ <;> (try simp[hv])
    · have h:¬ fCheckT l=0:=by simpa using h
      have hv:sch0 l ev=fCheckT l:=by unfold sch0; rw [if_pos h]
      obtain ⟨q1,q2⟩:=staV_bad h (allS ⟨l,[]⟩ ev)
      refine hp _ () trivial ?_
      have hrn:rnOk [(E.n0,E.n0),(E.n0+1,E.n0+1),(E.n0+2,E.n0+2),(E.n0+3,E.n0+3),(E.n0+4,E.n0+4),(E.n0+5,E.n0+1028),(E.n0+6,E.n0+2052)]:=by simp[hv,q1,q2]
      refine Conv.sub [(E.n0,E.n0),(E.n0+1,E.n0+1),(E.n0+2,E.n0+2),(E.n0+3,E.n0+3),(E.n0+4,E.n0+4),(E.n0+5,E.n0+1028),(E.n0+6,E.n0+2052)] hrn ?_ ?_ ?_ ?_ ?_ <;> (try simp[hv,q1,q2])
  refine w_seq (w_cut (X:=Unit) (fun _=>⟨[(0,true,.sl (l.map eTy)),(1,true,.sl (ev.map eEv)),(2,true,.int .i64 n),(4,true,.sl (gr.map eEv)),(8,true,.ptr E.n0 0 0),(11,true,.ptr (E.n0+1) 0 0),(12,true,.int .i64 (sch0 l ev)),(13,true,.ptr (E.n0+2) 0 0),(14,true,.int .i64 (atE l ev n)),(15,true,.ptr (E.n0+3) 0 0),(16,true,.int .i64 (grpE s gr)),(17,true,bakV s gr),(18,true,.int .i64 (bakE s gr)),(19,true,.int .i64 (sch0 l ev)),(20,true,.int .i64 (atE l ev n)),(21,true,.int .i64 (rdyE s gr)),(22,true,.ptr (E.n0+4) 0 0),(23,true,.ptr (E.n0+5) 0 0),(24,true,.ptr (E.n0+6) 0 0)],[(E.n0,some ⟨[.agg [.sl (s.types.map eTy),.sl (s.things.map eTg)]],.agg [.sl (s.types.map eTy),.sl (s.things.map eTg)],false,false⟩),(E.n0+1,some ⟨[.agg [staA (sch0 l ev) (allS ⟨l,[]⟩ ev),staB (sch0 l ev) (allS ⟨l,[]⟩ ev)]],.agg [.nils,.nils],false,false⟩),(E.n0+2,some ⟨[.agg [staA (atE l ev n) (atS l ev n),staB (atE l ev n) (atS l ev n)]],.agg [.nils,.nils],false,false⟩),(E.n0+3,some ⟨[.agg [staA (grpE s gr) (allS s gr),staB (grpE s gr) (allS s gr)]],.agg [.nils,.nils],false,false⟩),(E.n0+4,some ⟨[.agg [staA (sch0 l ev) (allS ⟨l,[]⟩ ev),staB (sch0 l ev) (allS ⟨l,[]⟩ ev)]],.agg [.nils,.nils],false,false⟩),(E.n0+5,some ⟨[.agg [staA (atE l ev n) (atS l ev n),staB (atE l ev n) (atS l ev n)]],.agg [.nils,.nils],false,false⟩),(E.n0+6,some ⟨[.agg [.nils,.nils]],.agg [.nils,.nils],false,false⟩)],7⟩) (fun _=>True) (fun p hp=>?_) fun _ _=>?_)
  · refine w_go 4000 ?_
    simp
    refine goc (fun h=>?_) (fun h=>?_) <;> simp
    · have h:vE l ev n=0:=by simpa using h
      obtain ⟨q0,q1,q2,q3⟩:=vE_zero h
      have hO:=hO2 q0
      rw [← q3,List.map_take] at hO
      have hs:allS ⟨l,[]⟩ (ev.take n.toNat)=atS l ev n:=rfl
      rw [hs] at hO
      refine ⟨⟨fun a _=>rfl,by omega,by omega⟩,?_⟩
      (refine w_call hP rfl (hO _) (by simp) (by simp <;> rfl) ?_; refine w_go 4000 ?_; simp)
      refine ⟨⟨one_staA _ _,one_staB _ _⟩,?_⟩
      refine hp _ () trivial ?_
      have hrn:rnOk [(E.n0,E.n0),(E.n0+1,E.n0+1),(E.n0+2,E.n0+2),(E.n0+3,E.n0+3),(E.n0+4,E.n0+4),(E.n0+5,E.n0+5),(E.n0+6,E.n0+6)]:=by simp
      refine Conv.sub [(E.n0,E.n0),(E.n0+1,E.n0+1),(E.n0+2,E.n0+2),(E.n0+3,E.n0+3),(E.n0+4,E.n0+4),(E.n0+5,E.n0+5),(E.n0+6,E.n0+6)] hrn ?_ ?_ ?_ ?_ ?_ <;> (try simp)
    · have h:¬ vE l ev n=0:=by simpa using h
      have hv:=atE_bad h
      obtain ⟨q1,q2⟩:=staV_bad h (atS l ev n)
      refine hp _ () trivial ?_
      have hrn:rnOk [(E.n0,E.n0),(E.n0+1,E.n0+1),(E.n0+2,E.n0+2),(E.n0+3,E.n0+3),(E.n0+4,E.n0+4),(E.n0+5,E.n0+5),(E.n0+6,E.n0+6)]:=by simp[hv,q1,q2]
      refine Conv.sub [(E.n0,E.n0),(E.n0+1,E.n0+1),(E.n0+2,E.n0+2),(E.n0+3,E.n0+3),(E.n0+4,E.n0+4),(E.n0+5,E.n0+5),(E.n0+6,E.n0+6)] hrn ?_ ?_ ?_ ?_ ?_ <;> (try simp[hv,q1,q2])
  refine w_seq (w_cut (X:=Unit) (fun _=>⟨[(0,true,.sl (l.map eTy)),(1,true,.sl (ev.map eEv)),(2,true,.int .i64 n),(4,true,.sl (gr.map eEv)),(8,true,.ptr E.n0 0 0),(11,true,.ptr (E.n0+1) 0 0),(12,true,.int .i64 (sch0 l ev)),(13,true,.ptr (E.n0+2) 0 0),(14,true,.int .i64 (atE l ev n)),(15,true,.ptr (E.n0+3) 0 0),(16,true,.int .i64 (grpE s gr)),(17,true,bakV s gr),(18,true,.int .i64 (bakE s gr)),(19,true,.int .i64 (sch0 l ev)),(20,true,.int .i64 (atE l ev n)),(21,true,.int .i64 (grpE s gr)),(22,true,.ptr (E.n0+4) 0 0),(23,true,.ptr (E.n0+5) 0 0),(24,true,.ptr (E.n0+6) 0 0)],[(E.n0,some ⟨[.agg [.sl (s.types.map eTy),.sl (s.things.map eTg)]],.agg [.sl (s.types.map eTy),.sl (s.things.map eTg)],false,false⟩),(E.n0+1,some ⟨[.agg [staA (sch0 l ev) (allS ⟨l,[]⟩ ev),staB (sch0 l ev) (allS ⟨l,[]⟩ ev)]],.agg [.nils,.nils],false,false⟩),(E.n0+2,some ⟨[.agg [staA (atE l ev n) (atS l ev n),staB (atE l ev n) (atS l ev n)]],.agg [.nils,.nils],false,false⟩),(E.n0+3,some ⟨[.agg [staA (grpE s gr) (allS s gr),staB (grpE s gr) (allS s gr)]],.agg [.nils,.nils],false,false⟩),(E.n0+4,some ⟨[.agg [staA (sch0 l ev) (allS ⟨l,[]⟩ ev),staB (sch0 l ev) (allS ⟨l,[]⟩ ev)]],.agg [.nils,.nils],false,false⟩),(E.n0+5,some ⟨[.agg [staA (atE l ev n) (atS l ev n),staB (atE l ev n) (atS l ev n)]],.agg [.nils,.nils],false,false⟩),(E.n0+6,some ⟨[.agg [staA (grpE s gr) (allS s gr),staB (grpE s gr) (allS s gr)]],.agg [.nils,.nils],false,false⟩)],7⟩) (fun _=>True) (fun p hp=>?_) fun _ _=>?_)
  · refine w_go 4000 ?_
    simp
    refine goc (fun h=>?_) (fun h=>?_) <;> simp
    · have h:rdyE s gr=0:=by simpa using h
      have hv:grpE s gr=allE s gr:=by unfold grpE; rw [if_neg (not_not_intro h)]
      (refine w_call hP rfl (hO3 h _) (by simp) (by simp <;> rfl) ?_; refine w_go 4000 ?_; simp)
      refine ⟨⟨one_staA _ _,one_staB _ _⟩,?_⟩
      refine hp _ () trivial ?_
      have hrn:rnOk [(E.n0,E.n0),(E.n0+1,E.n0+1),(E.n0+2,E.n0+2),(E.n0+3,E.n0+3),(E.n0+4,E.n0+4),(E.n0+5,E.n0+5),(E.n0+6,E.n0+6)]:=by simp[hv]
      refine Conv.sub [(E.n0,E.n0),(E.n0+1,E.n0+1),(E.n0+2,E.n0+2),(E.n0+3,E.n0+3),(E.n0+4,E.n0+4),(E.n0+5,E.n0+5),(E.n0+6,E.n0+6)] hrn ?_ ?_ ?_ ?_ ?_ <;> (try simp[hv])
    · have h:¬ rdyE s gr=0:=by simpa using h
      have hv:grpE s gr=rdyE s gr:=by unfold grpE; rw [if_pos h]
      obtain ⟨q1,q2⟩:=staV_bad h (allS s gr)
      refine hp _ () trivial ?_
      have hrn:rnOk [(E.n0,E.n0),(E.n0+1,E.n0+1),(E.n0+2,E.n0+2),(E.n0+3,E.n0+3),(E.n0+4,E.n0+4),(E.n0+5,E.n0+5),(E.n0+6,E.n0+6)]:=by simp[hv,q1,q2]
      refine Conv.sub [(E.n0,E.n0),(E.n0+1,E.n0+1),(E.n0+2,E.n0+2),(E.n0+3,E.n0+3),(E.n0+4,E.n0+4),(E.n0+5,E.n0+5),(E.n0+6,E.n0+6)] hrn ?_ ?_ ?_ ?_ ?_ <;> (try simp[hv,q1,q2])
  refine w_go 18 ?_
  simp
  refine w_seq (w_cut (X:=Unit) (fun _=>⟨[(0,true,.sl (l.map eTy)),(1,true,.sl (ev.map eEv)),(2,true,.int .i64 n),(4,true,.sl (gr.map eEv)),(8,true,.ptr E.n0 0 0),(11,true,.ptr (E.n0+1) 0 0),(12,true,.int .i64 (sch0 l ev)),(13,true,.ptr (E.n0+2) 0 0),(14,true,.int .i64 (atE l ev n)),(15,true,.ptr (E.n0+3) 0 0),(16,true,.int .i64 (grpE s gr)),(17,true,bakV s gr),(18,true,.int .i64 (bakE s gr)),(19,true,.int .i64 (sch0 l ev)),(20,true,.int .i64 (atE l ev n)),(21,true,.int .i64 (grpE s gr)),(22,true,.ptr (E.n0+4) 0 0),(23,true,.ptr (E.n0+5) 0 0),(24,true,.ptr (E.n0+6) 0 0),(25,true,.int .i64 (bakE s gr)),(26,true,bakV s gr)],[(E.n0,some ⟨[.agg [.sl (s.types.map eTy),.sl (s.things.map eTg)]],.agg [.sl (s.types.map eTy),.sl (s.things.map eTg)],false,false⟩),(E.n0+1,some ⟨[.agg [staA (sch0 l ev) (allS ⟨l,[]⟩ ev),staB (sch0 l ev) (allS ⟨l,[]⟩ ev)]],.agg [.nils,.nils],false,false⟩),(E.n0+2,some ⟨[.agg [staA (atE l ev n) (atS l ev n),staB (atE l ev n) (atS l ev n)]],.agg [.nils,.nils],false,false⟩),(E.n0+3,some ⟨[.agg [staA (grpE s gr) (allS s gr),staB (grpE s gr) (allS s gr)]],.agg [.nils,.nils],false,false⟩),(E.n0+4,some ⟨[.agg [staA (sch0 l ev) (allS ⟨l,[]⟩ ev),staB (sch0 l ev) (allS ⟨l,[]⟩ ev)]],.agg [.nils,.nils],false,false⟩),(E.n0+5,some ⟨[.agg [staA (atE l ev n) (atS l ev n),staB (atE l ev n) (atS l ev n)]],.agg [.nils,.nils],false,false⟩),(E.n0+6,some ⟨[.agg [staA (grpE s gr) (allS s gr),staB (grpE s gr) (allS s gr)]],.agg [.nils,.nils],false,false⟩)],7⟩) (fun _=>True) (fun p hp=>?_) fun _ _=>?_)
  · refine w_go 4000 ?_
    simp
    refine goc (fun h=>?_) (fun h=>?_) <;> simp
    · have h:grpE s gr=0:=by simpa using h
      obtain ⟨q1,q2⟩:=bak_of h
      have hO:=hO4 h
      rw [← q1,← q2] at hO
      (refine w_call hP rfl (hO _) (by simp) (by simp <;> rfl) ?_; refine w_go 4000 ?_; simp)
      refine hp _ () trivial ?_
      have hrn:rnOk [(E.n0,E.n0),(E.n0+1,E.n0+1),(E.n0+2,E.n0+2),(E.n0+3,E.n0+3),(E.n0+4,E.n0+4),(E.n0+5,E.n0+5),(E.n0+6,E.n0+6)]:=by simp
      refine Conv.sub [(E.n0,E.n0),(E.n0+1,E.n0+1),(E.n0+2,E.n0+2),(E.n0+3,E.n0+3),(E.n0+4,E.n0+4),(E.n0+5,E.n0+5),(E.n0+6,E.n0+6)] hrn ?_ ?_ ?_ ?_ ?_ <;> (try simp)
    · have h:¬ grpE s gr=0:=by simpa using h
      obtain ⟨q1,q2⟩:=bak_bad h
      refine hp _ () trivial ?_
      have hrn:rnOk [(E.n0,E.n0),(E.n0+1,E.n0+1),(E.n0+2,E.n0+2),(E.n0+3,E.n0+3),(E.n0+4,E.n0+4),(E.n0+5,E.n0+5),(E.n0+6,E.n0+6)]:=by simp[q1,q2]
      refine Conv.sub [(E.n0,E.n0),(E.n0+1,E.n0+1),(E.n0+2,E.n0+2),(E.n0+3,E.n0+3),(E.n0+4,E.n0+4),(E.n0+5,E.n0+5),(E.n0+6,E.n0+6)] hrn ?_ ?_ ?_ ?_ ?_ <;> (try simp[q1,q2])
  refine w_go 4000 ?_
  simp
  (refine w_call hP rfl (hb _) (by simp) (by simp <;> rfl) ?_; refine w_go 4000 ?_; simp)
  (refine w_callg hP (by simp) rfl (fun hc=>⟨hT1 _,by revert hc; simp; try grind,by simp⟩) ?_; refine w_go 4000 ?_; simp)
  (refine w_callg hP (by simp) rfl (fun hc=>⟨hT2 _,by revert hc; simp; try grind,by simp⟩) ?_; refine w_go 4000 ?_; simp)
  (refine w_callg hP (by simp) rfl (fun hc=>⟨hT3 _,by revert hc; simp; try grind,by simp⟩) ?_; refine w_go 4000 ?_; simp)
  (refine w_callg hP (by simp) rfl (fun hc=>⟨hT4 _,by revert hc; simp; try grind,by simp⟩) ?_; refine w_go 4000 ?_; simp)
  rw [hR]; exact rt_end (by simp <;> rfl) [] trivial (end_pure (by simp) (by simp) (by simp))
end Go.Am
