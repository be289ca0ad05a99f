/- Histories: a group and what undoes it are nothing: the law. No condition. -/
import Derived.Test.YtgdanfbkhaoieaaYO
import Derived.Test.YtgdanfbkhaoieaaYK
namespace Go.Am
set_option linter.all false
open Go Go.RowKit Go.Proofs
set_option maxRecDepth 100000
set_option linter.all false
theorem befE_04 (s:Sta) (e:Ev):befE s e=0∨befE s e=4:=by
  unfold befE
  split
  · split
    · split
      · exact .inl rfl
      · exact .inr rfl
    · exact .inl rfl
  · exact .inl rfl
theorem bkE_04:∀ (s:Sta) (l:List Ev),∀ x∈bkE s l,x=0∨x=4
  | _,[],x,h=>by cases h
  | s,e::l,x,h=>by
    rcases List.mem_cons.1 h with rfl | h
    · exact befE_04 s e
    · exact bkE_04 _ l x h
theorem firstNZ_04:∀ {l:List Int},(∀ x∈l,x=0∨x=4)→firstNZ l=0∨firstNZ l=4
  | [],_=>.inl rfl
  | x::l,h=>by
    simp only [firstNZ]
    split
    · rename_i g; exact .inr ((h x (List.mem_cons_self ..)).resolve_left g)
    · exact firstNZ_04 fun y hy=>h y (List.mem_cons_of_mem _ hy)
theorem bk2E_04 (s:Sta) (l:List Ev):bk2E s l=0∨bk2E s l=4:=firstNZ_04 fun x hx=>bkE_04 s l x (List.mem_reverse.1 hx)
theorem befX_I {s:Sta} (h:Rt s) {e:Ev} (hn:I64 e.n) (he:rawE s e=0):I64 (befX s e).n:=by
  have z:I64 0:=by unfold I64; omega
  unfold befX
  by_cases hb:befE s e=0
  · rw [if_pos hb]
    have ho:=evOk h he
    unfold befV
    by_cases k1:e.kind=1
    · rw [if_pos k1]; exact z
    by_cases k2:e.kind=2
    · rw [if_neg k1,if_pos k2]; exact z
    rw [if_neg k1,if_neg k2]
    obtain ⟨t,f,c,hh⟩:=chOk h ho (by have:=ho.k1; omega)
    have hclo:clOf s e=some c:=by unfold clOf; rw [hh.tt]; exact hh.cc
    have hfdo:fdOf s e=some f:=by unfold fdOf; rw [if_neg (by have:=hh.f0; omega)]; exact hh.ff
    rw [hclo,hfdo]
    have htm:=List.mem_of_getElem? hh.tt
    have hcm:=List.mem_of_getElem? hh.cc
    obtain ⟨f',hf',hco⟩:=(h.r.tg t htm).cellOk hh.cc
    have hids:=h.idsI t htm c hcm
    simp only
    repeat' split
    · have:=hco.n1; unfold I64; simp only; omega
    · exact z
    · rename_i hk
      simp only
      match hcs:c.ids with
      | []=>exact (hk.2 hcs).elim
      | y::r=>exact hids y (by rw [hcs]; exact List.mem_cons_self ..)
    · exact hn
    · exact hn
  · rw [if_neg hb]; exact z
theorem allS_app (s:Sta):∀ (a b:List Ev),allS s (a++b)=allS (allS s a) b:=fun a=>by
  induction a generalizing s with
  | nil=>intro b; rfl
  | cons x a ih=>intro b; exact ih (rawS s x) b
theorem back_undoes:∀ (n:Nat) (s:Sta) (l:List Ev),l.length=n→Rt s→(∀ e∈l,I64 e.n)→allE s l=0→bk2E s l=0→allE (allS s l) (bkX s l).reverse=0∧allS (allS s l) (bkX s l).reverse=s:=by
  intro n
  induction n with
  | zero =>
    intro s l hl _ _ _ _
    have:l=[]:=List.length_eq_zero_iff.1 hl
    subst this
    exact ⟨rfl,rfl⟩
  | succ n ih =>
    intro s ev hl h hn ha hb
    obtain ⟨l,e,rfl⟩:∃ l e,ev=l++[e]:=⟨ev.take n,ev[n],by rw [← List.take_succ_eq_append_getElem (by omega),List.take_of_length_le (by omega)]⟩
    have hll:l.length=n:=by simp at hl; exact hl
    obtain ⟨a1,a2⟩:=all_snoc e s l ha
    have hln:∀ x∈l,I64 x.n:=fun x hx=>hn x (List.mem_append_left _ hx)
    have hen:=hn e (List.mem_append_right _ (List.mem_singleton.2 rfl))
    have hra:=rt_all s l h hln a1
    have h2:bk2E s (l++[e])=if befE (allS s l) e≠0 then befE (allS s l) e else bk2E s l:=by unfold bk2E; rw [bkE_snoc]; simp [firstNZ]
    rw [h2] at hb
    split at hb
    · rename_i g; exact (g hb).elim
    · rename_i g
      have g:befE (allS s l) e=0:=Classical.byContradiction g
      obtain ⟨u1,u2⟩:=undone hra hen a2 g
      have hx:befX (allS s l) e=befV (allS s l) e:=by unfold befX; rw [if_pos g]
      obtain ⟨i1,i2⟩:=ih s l hll h hln a1 hb
      have hs:allS s (l++[e])=rawS (allS s l) e:=by rw [allS_app]; rfl
      rw [hs,bkX_snoc,List.reverse_append,hx]
      simp only [List.reverse_cons,List.reverse_nil,List.nil_append,List.cons_append,allE,allS,u1,u2]
      exact ⟨by simpa using i1,i2⟩
theorem bkX_I:∀ (s:Sta) (l:List Ev),Rt s→(∀ e∈l,I64 e.n)→allE s l=0→∀ e∈bkX s l,I64 e.n
  | _,[],_,_,_,e,h=>by cases h
  | s,x::l,h,hn,ha,e,he=>by
    simp only [allE] at ha
    split at ha
    · rename_i g; exact (g ha).elim
    · rename_i g
      have g:rawE s x=0:=Classical.byContradiction g
      have hx:=hn x (List.mem_cons_self ..)
      rcases List.mem_cons.1 he with rfl | he
      · exact befX_I h hx g
      · exact bkX_I _ l (rt_raw h hx g).1 (fun e he=>hn e (List.mem_cons_of_mem _ he)) ha e he
set_option maxHeartbeats 4000000 in
theorem HistoryBack_ok (s:Sta) (l:List Ev) (id:Nat) (hI:IdsI s) (hn:∀ e∈l,I64 e.n):FnOk Try.prog 16 [eSta s,.sl (l.map eEv)] [] id (.bool true) []:=by
  have hb:=fun id=>historyBegun_ok id
  have hsb:=fun id=>stateBegun_ok id
  have hG:=fun id=>Group_ok s l id hI hn
  by_cases hg:grpE s l=0
  rotate_left
  · have hV:staV (grpE s l) (allS s l)=.agg [.nils,.nils]:=by rw [staV_eq,if_neg hg]; rfl
    rw [hV] at hG
    unfold eSta at *
    refine fn_okc Try.func16 hcc16 (by decide) hcr16 (by simp [Try.ntmps16]) fun E hP hR hl hid=>?_
    simp only [cr16] at hR
    refine w_go 4000 ?_
    simp [cc16]
    (refine w_call hP rfl (hb _) (by simp) (by simp <;> rfl) ?_; refine w_go 4000 ?_; simp)
    (refine w_callg hP (by simp) rfl (fun hc=>⟨hsb _,by revert hc; simp; try grind,by simp⟩) ?_; refine w_go 4000 ?_; simp)
    (refine w_call hP rfl (hG _) (by simp) (by simp <;> rfl) ?_; refine w_go 4000 ?_; simp)
    refine goc_true (by simpa using hg) ?_
    simp
    rw [hR]; exact rt_end (by simp <;> rfl) [] trivial (end_pure (by simp; rfl) (by simp) (by simp))
  obtain ⟨g1,g2⟩:=grp_zero hg
  obtain ⟨g3,g4⟩:=rdy_zero g1
  have hRs:=rt_of g3 hI
  have hRA:=rt_all s l hRs hn g2
  obtain ⟨k1,k2⟩:=bak_of hg
  have hK:=fun id=>Back_ok s l id hI hn
  rw [k1,k2] at hK
  have hS1:=fun id=>Same_self hRA id
  have hS2:=fun id=>Same_self hRs id
  have hS3:∀ id,l.length=0→FnOk Try.prog 53 [eSta (allS s l),eSta s] [] id (.bool true) []:=fun id h=>by
    have:l=[]:=List.length_eq_zero_iff.1 h
    subst this
    exact hS2 id
  have hE:bk2E s l=4∨(bk2E s l=0∧bk2V s l=.sl ((bkX s l).reverse.map eEv)∧∀ id,FnOk Try.prog 57 [eSta (allS s l),.sl ((bkX s l).reverse.map eEv)] [] id (.tup [eSta s,.int .i64 0]) []):=by
    rcases bk2E_04 s l with h | h
    · right
      refine ⟨h,by unfold bk2V; rw [if_pos h],fun id=>?_⟩
      obtain ⟨u1,u2⟩:=back_undoes l.length s l rfl hRs hn g2 h
      have:=Group_ok (allS s l) (bkX s l).reverse id hRA.idsI fun e he=>bkX_I s l hRs hn g2 e (List.mem_reverse.1 he)
      have hge:grpE (allS s l) (bkX s l).reverse=0:=by
        unfold grpE
        have:rdyE (allS s l) (bkX s l).reverse=0:=by unfold rdyE; rw [if_neg (not_not_intro hRA.st),if_neg (by simp [bkX_len]; omega)]
        rw [if_neg (not_not_intro this)]; exact u1
      rw [hge,u2,staV_eq,if_pos rfl] at this
      exact this
    · exact .inl h
  rw [hg,staV_eq,if_pos rfl] at hG
  have hD:∀ si e id,Rt si→rawE si e=0→FnOk Try.prog 44 [eSta si,eEv e] [] id (.tup [eSta (rawS si e),.int .i64 0]) []:=fun si e id h he=>Do_done si e id h.st he
  generalize hA:allS s l=A at *
  unfold eSta at *
  refine fn_okc Try.func16 hcc16 (by decide) hcr16 (by simp [Try.ntmps16]) fun E hP hR hl hid=>?_
  simp only [cr16] at hR
  refine w_go 4000 ?_
  simp [cc16]
  (refine w_call hP rfl (hb _) (by simp) (by simp <;> rfl) ?_; refine w_go 4000 ?_; simp)
  (refine w_callg hP (by simp) rfl (fun hc=>⟨hsb _,by revert hc; simp; try grind,by simp⟩) ?_; refine w_go 4000 ?_; simp)
  (refine w_call hP rfl (hG _) (by simp) (by simp <;> rfl) ?_; refine w_go 4000 ?_; simp)
  refine w_loop (X:=Nat × Sta) (fun q=>⟨[(1,true,.sl (l.map eEv)),(2,true,.ptr E.n0 0 0),(5,true,.ptr (E.n0+1) 0 0),(7,true,.ptr (E.n0+2) 0 0),(8,true,.int .i64 q.1)],
    [(E.n0,some ⟨[.agg [.sl (s.types.map eTy),.sl (s.things.map eTg)]],.agg [.nils,.nils],false,false⟩),(E.n0+1,some ⟨[.agg [.sl (A.types.map eTy),.sl (A.things.map eTg)]],.agg [.nils,.nils],false,false⟩),(E.n0+2,some ⟨[.agg [.sl (q.2.types.map eTy),.sl (q.2.things.map eTg)]],.agg [.nils,.nils],false,false⟩)],3⟩)
    (fun q=>q.1≤l.length∧Rt q.2∧allS q.2 (l.drop q.1)=A∧allE q.2 (l.drop q.1)=0) (fun q=>l.length - q.1) (0,s) ?_ ⟨by simp,hRs,hA,g2⟩ ?_
  · have hrn:rnOk [(E.n0,E.n0),(E.n0+1,E.n0+14336),(E.n0+2,E.n0+20480)]:=by simp
    refine Conv.sub [(E.n0,E.n0),(E.n0+1,E.n0+14336),(E.n0+2,E.n0+20480)] hrn ?_ ?_ ?_ ?_ ?_ <;> (try simp)
  · rintro ⟨i,si⟩ ⟨hi,hRi,hfs,hfe⟩ p hp
    simp only at hi hRi hfs hfe
    refine w_go 4000 ?_
    simp
    refine goc (fun g=>?_) (fun g=>?_)
    · have g:=of_decide_eq_true g
      obtain ⟨e,he,hd⟩:=drop_cons g
      have hi1:IntKind.i64.wrap ((i:Int)+1)=((i+1:Nat):Int):=wrap64 (by omega)
      have hei:=hn e (List.mem_of_getElem? he)
      rw [hd] at hfs hfe
      simp only [allS,allE] at hfs hfe
      have hr:rawE si e=0:=by
        split at hfe
        · rename_i q; exact (q hfe).elim
        · rename_i q; exact Classical.byContradiction q
      rw [if_neg (not_not_intro hr)] at hfe
      have hD:=fun id=>hD si e id hRi hr
      have hR':=(rt_raw hRi hei hr).1
      generalize rawS si e=sj at *
      simp only [eEv_eq e] at hD
      simp [he,eEv_eq e]
      refine ⟨g,?_⟩
      (refine w_call hP rfl (hD _) (by simp) (by simp <;> rfl) ?_; refine w_go 4000 ?_; simp)
      refine hp _ (i+1,sj) ⟨by simp only; omega,hR',hfs,hfe⟩ (by simp only; omega) ?_
      have hrn:rnOk [(E.n0,E.n0),(E.n0+1,E.n0+1),(E.n0+2,E.n0+2)]:=by simp[hi1]
      refine Conv.sub [(E.n0,E.n0),(E.n0+1,E.n0+1),(E.n0+2,E.n0+2)] hrn ?_ ?_ ?_ ?_ ?_ <;> (try simp[hi1])
    · have g:=of_decide_eq_false g
      rw [List.drop_of_length_le (by omega)] at hfs
      simp only [allS] at hfs
      subst hfs
      simp
      (refine w_call hP rfl (hS1 _) (by simp) (by simp <;> rfl) ?_; refine w_go 4000 ?_; simp)
      refine w_callg hP (by simp) rfl (fun hc=>⟨hS3 _ (by revert hc; simp),by revert hc; simp,by simp⟩) ?_
      refine w_go 4000 ?_
      simp
      rcases hE with hE | ⟨h0,hv,hGB⟩
      · rw [hE] at hK
        have hv:bk2V s l=.nils:=by unfold bk2V; rw [if_neg (by rw [hE]; decide)]
        rw [hv] at hK
        (refine w_call hP rfl (hK _) (by simp) (by simp <;> rfl) ?_; refine w_go 4000 ?_; simp)
        rw [hR]; exact rt_end (by simp <;> rfl) [] trivial (end_pure (by simp) (by simp) (by simp))
      · rw [h0,hv] at hK
        (refine w_call hP rfl (hK _) (by simp) (by simp <;> rfl) ?_; refine w_go 4000 ?_; simp)
        rw [List.map_reverse] at hGB
        (refine w_call hP rfl (hGB _) (by simp) (by simp <;> rfl) ?_; refine w_go 4000 ?_; simp)
        (refine w_callg hP (by simp) rfl (fun hc=>⟨hS2 _,by revert hc; simp; try grind,by simp⟩) ?_; refine w_go 4000 ?_; simp)
        rw [hR]; exact rt_end (by simp <;> rfl) [] trivial (end_pure (by simp) (by simp) (by simp))
end Go.Am
