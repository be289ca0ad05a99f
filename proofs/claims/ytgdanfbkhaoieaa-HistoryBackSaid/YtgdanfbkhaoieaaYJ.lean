/- Parts of the proof: an abstract machine for Go functions, and what functions of the program give back (Rh1, Hl1). No condition. -/
import Derived.Test.YtgdanfbkhaoieaaYI
import Derived.Test.YtgdanfbkhaoieaaYG
import Derived.Test.YtgdanfbkhaoieaaXY
import Derived.Test.YtgdanfbkhaoieaaXF
namespace Go.Am
set_option linter.all false
open Go Go.RowKit Go.Proofs
set_option maxRecDepth 100000
set_option linter.all false
theorem DoOf_st (s:Sta) (e:Ev) (id:Nat) (h:Rt s) (hn:I64 e.n):FnOk Try.prog 47 [eSta s,eEv e] [] id (.tup [staV (rawE s e) (rawS s e),.int .i64 (rawE s e)]) []:=by
  rw [staV_eq]; exact DoOf_ok s e id h hn
set_option maxHeartbeats 2000000 in
theorem AllOf_ok (s:Sta) (ev:List Ev) (id:Nat) (h:Rt s) (hn:∀ e∈ev,I64 e.n) (hlen:ev.length≤1000000000000000):FnOk Try.prog 60 [eSta s,.sl (ev.map eEv)] [] id (.tup [staV (allE s ev) (allS s ev),.int .i64 (allE s ev)]) []:=by
  unfold eSta
  refine fn_okc Try.func60 hcc60 (by decide) hcr60 (by simp [Try.ntmps60]) fun E hP hR hl hid=>?_
  simp only [cr60] at hR
  refine w_go 4000 ?_
  simp [cc60]
  refine w_loop (X:=Nat × Sta) (fun q=>⟨[(1,true,.sl (ev.map eEv)),(2,true,.ptr E.n0 0 0),(4,true,.ptr (E.n0+1) 0 0),(6,true,.int .i64 q.1)],
    [(E.n0,some ⟨[.agg [.sl (q.2.types.map eTy),.sl (q.2.things.map eTg)]],.agg [.nils,.nils],false,false⟩),(E.n0+1,some ⟨[.agg [.nils,.nils]],.agg [.nils,.nils],false,false⟩)],2⟩)
    (fun q=>q.1≤ev.length∧Rt q.2∧allS q.2 (ev.drop q.1)=allS s ev∧allE q.2 (ev.drop q.1)=allE s ev) (fun q=>ev.length - q.1) (0,s) ?_ ⟨by simp,h,rfl,rfl⟩ ?_
  · have hrn:rnOk [(E.n0,E.n0),(E.n0+1,E.n0+1024)]:=by simp
    refine Conv.sub [(E.n0,E.n0),(E.n0+1,E.n0+1024)] hrn ?_ ?_ ?_ ?_ ?_ <;> (try simp)
  · rintro ⟨i,si⟩ ⟨hi,hRi,hfs,hfe⟩ p hp
    simp only at hi hRi hfs hfe
    refine w_go 4000 ?_
    simp
    refine goc (fun g=>?_) (fun g=>?_)
    · have g:=of_decide_eq_true g
      obtain ⟨e,he,hd⟩:=drop_cons g
      have hi1:IntKind.i64.wrap ((i:Int)+1)=((i+1:Nat):Int):=wrap64 (by omega)
      have hei:=hn e (List.mem_of_getElem? he)
      have hD:=fun id=>DoOf_st si e id hRi hei
      rw [hd] at hfs hfe
      simp only [allS,allE] at hfs hfe
      unfold staV eSta at hD
      by_cases hr:rawE si e=0
      · rw [if_neg (by simpa using hr)] at hfe
        have ha:staA (rawE si e) (rawS si e)=.sl ((rawS si e).types.map eTy):=by unfold staA; rw [if_pos hr]
        have hb:staB (rawE si e) (rawS si e)=.sl ((rawS si e).things.map eTg):=by unfold staB; rw [if_pos hr]
        have hR':=(rt_raw hRi hei hr).1
        rw [ha,hb,hr] at hD
        generalize rawS si e=sj at *
        simp only [eEv_eq e] at hD
        simp [he,eEv_eq e]
        refine ⟨g,?_⟩
        (refine w_call hP rfl (hD _) (by simp) (by simp <;> rfl) ?_; refine w_go 4000 ?_; simp)
        refine hp _ (i+1,sj) ⟨by simp only; omega,hR',hfs,hfe⟩ (by simp only; omega) ?_
        have hrn:rnOk [(E.n0,E.n0),(E.n0+1,E.n0+1)]:=by simp[hi1]
        refine Conv.sub [(E.n0,E.n0),(E.n0+1,E.n0+1)] hrn ?_ ?_ ?_ ?_ ?_ <;> (try simp[hi1])
      · rw [if_pos hr] at hfe
        have ha:staA (rawE si e) (rawS si e)=.nils:=by unfold staA; rw [if_neg hr]
        have hb:staB (rawE si e) (rawS si e)=.nils:=by unfold staB; rw [if_neg hr]
        have hV:staV (rawE si e) (allS s ev)=.agg [.nils,.nils]:=by rw [staV_eq,if_neg hr]; rfl
        rw [ha,hb] at hD
        rw [← hfe,hV] at hR
        simp only [eEv_eq e] at hD
        simp [he,eEv_eq e]
        refine ⟨g,?_⟩
        (refine w_call hP rfl (hD _) (by simp) (by simp <;> rfl) ?_; refine w_go 4000 ?_; simp)
        refine goc_true (by simpa using hr) ?_
        simp
        rw [hR]; exact rt_end (by simp <;> rfl) [] trivial (end_pure (by simp) (by simp) (by simp))
    · have g:=of_decide_eq_false g
      rw [List.drop_of_length_le (by omega)] at hfs hfe
      simp only [allS,allE] at hfs hfe
      have hV:staV 0 (allS s ev)=.agg [.sl (si.types.map eTy),.sl (si.things.map eTg)]:=by rw [staV_eq,if_pos rfl,← hfs]; rfl
      rw [← hfe,hV] at hR
      simp
      rw [hR]; exact rt_end (by simp <;> rfl) [] trivial (end_pure (by simp) (by simp) (by simp))
theorem bkX_snoc (e:Ev):∀ (s:Sta) (l:List Ev),bkX s (l++[e])=bkX s l++[befX (allS s l) e]
  | s,[]=>rfl
  | s,x::l=>by simp only [List.cons_append,bkX,allS,bkX_snoc e (rawS s x) l]
theorem bkE_snoc (e:Ev):∀ (s:Sta) (l:List Ev),bkE s (l++[e])=bkE s l++[befE (allS s l) e]
  | s,[]=>rfl
  | s,x::l=>by simp only [List.cons_append,bkE,allS,bkE_snoc e (rawS s x) l]
theorem all_snoc (e:Ev):∀ (s:Sta) (l:List Ev),allE s (l++[e])=0→allE s l=0∧rawE (allS s l) e=0
  | s,[],h=>by
    simp only [List.nil_append,allE] at h
    split at h
    · rename_i g; exact (g h).elim
    · rename_i g; exact ⟨rfl,Classical.byContradiction g⟩
  | s,x::l,h=>by
    simp only [List.cons_append,allE] at h ⊢
    split at h
    · rename_i g; exact (g h).elim
    · rename_i g
      rw [if_neg g]
      exact all_snoc e (rawS s x) l h
theorem rt_all:∀ (s:Sta) (l:List Ev),Rt s→(∀ e∈l,I64 e.n)→allE s l=0→Rt (allS s l)
  | s,[],h,_,_=>h
  | s,x::l,h,hn,ha=>by
    simp only [allE] at ha
    split at ha
    · rename_i g; exact (g ha).elim
    · rename_i g
      exact rt_all _ l (rt_raw h (hn x (List.mem_cons_self ..)) (Classical.byContradiction g)).1 (fun e he=>hn e (List.mem_cons_of_mem _ he)) ha
theorem bkX_len:∀ (s:Sta) (l:List Ev),(bkX s l).length=l.length
  | _,[]=>rfl
  | s,x::l=>by simp [bkX,bkX_len (rawS s x) l]
def bk2E (s:Sta) (ev:List Ev):Int:=firstNZ (bkE s ev).reverse
def bk2V (s:Sta) (ev:List Ev):AV:=if bk2E s ev=0 then .sl ((bkX s ev).reverse.map eEv) else .nils
set_option maxHeartbeats 2000000 in
theorem BackOf_ok:∀ (n:Nat) (s:Sta) (ev:List Ev) (id:Nat),ev.length=n→Rt s→(∀ e∈ev,I64 e.n)→n≤1000000→allE s ev=0→FnOk Try.prog 61 [eSta s,.sl (ev.map eEv)] [] id (.tup [bk2V s ev,.int .i64 (bk2E s ev)]) []:=by
  intro n
  induction n with
  | zero =>
    intro s ev id hl _ _ _ _
    have:ev=[]:=List.length_eq_zero_iff.1 hl
    subst this
    have h1:bk2V s []=.sl []:=rfl
    have h2:bk2E s []=0:=rfl
    rw [h1,h2]
    unfold eSta
    refine fn_okc Try.func61 hcc61 (by decide) hcr61 (by simp [Try.ntmps61]) fun E hP hR hl hid=>?_
    simp only [cr61] at hR
    refine w_go 4000 ?_
    simp [cc61]
    have hrn:rnOk []:=by simp [id_lt hid,id_own hid,id_own' hid,id_own0 hid,id_own0' hid]
    rw [hR]
    refine rt_end (by simp <;> rfl) [] hrn ⟨?_,?_,?_,?_,?_,?_⟩ <;> (try simp [id_lt hid,id_own hid,id_own' hid,id_own0 hid,id_own0' hid])
  | succ n ih =>
    intro s ev id hl h hn hn8 ha
    obtain ⟨l,e,rfl⟩:∃ l e,ev=l++[e]:=⟨ev.take n,ev[n],by rw [← List.take_succ_eq_append_getElem (by omega),List.take_of_length_le (by omega)]⟩
    have hll:l.length=n:=by simp at hl; exact hl
    subst hll
    obtain ⟨a1,a2⟩:=all_snoc e s l ha
    have hln:∀ x∈l,I64 x.n:=fun x hx=>hn x (List.mem_append_left _ hx)
    have hen:=hn e (List.mem_append_right _ (List.mem_singleton.2 rfl))
    have hA:=fun id=>AllOf_ok s l id h hln (by omega)
    have hra:=rt_all s l h hln a1
    have hU:=fun id=>UndoOf_ok (allS s l) e id hra hen
    have hI:=fun id=>ih s l id rfl h hln (by omega) a1
    have hux:undX (allS s l) e=befX (allS s l) e:=by unfold undX; rw [fDoE_of hra.st,if_neg (by simpa using a2)]
    have huy:undE (allS s l) e=befE (allS s l) e:=by unfold undE; rw [fDoE_of hra.st,if_neg (by simpa using a2)]
    rw [hux,huy] at hU
    rw [staV_eq,a1,if_pos rfl] at hA
    have h2:bk2E s (l++[e])=if befE (allS s l) e≠0 then befE (allS s l) e else bk2E s l:=by unfold bk2E; rw [bkE_snoc]; simp [firstNZ]
    have h1:bk2V s (l++[e])=if bk2E s (l++[e])=0 then .sl (eEv (befX (allS s l) e)::(bkX s l).reverse.map eEv) else .nils:=by unfold bk2V; rw [bkX_snoc]; simp
    rw [h1,h2]
    generalize hx:befX (allS s l) e=x at *
    generalize hw:befE (allS s l) e=w at *
    generalize allS s l=sa at *
    have hm:(l++[e]).map eEv=l.map eEv++[eEv e]:=by simp
    have hg:(l.map eEv++[eEv e])[l.length]? = some (eEv e):=by rw [List.getElem?_append_right (by simp)]; simp
    have htk:List.take l.length (l.map eEv++[eEv e])=l.map eEv:=by rw [List.take_append_of_le_length (by simp)]; exact List.take_of_length_le (by simp)
    have hw1:IntKind.i64.wrap ((l.length:Int)+1 - 1)=(l.length:Int):=by rw [wrap64 (by omega)]; omega
    have hwn:IntKind.i64.wrap (l.length:Int)=(l.length:Int):=wrap64 (by omega)
    rw [hm]
    unfold eSta at *
    simp only [eEv_eq e,eEv_eq x] at *
    by_cases h0:w=0
    · subst h0
      by_cases h3:bk2E s l=0
      · have hv:bk2V s l=.sl ((bkX s l).reverse.map eEv):=by unfold bk2V; rw [if_pos h3]
        rw [hv,h3] at hI
        simp only [ne_eq,not_true_eq_false,if_false,h3,if_true]
        refine fn_okc Try.func61 hcc61 (by decide) hcr61 (by simp [Try.ntmps61]) fun E hP hR hl hid=>?_
        simp only [cr61] at hR
        refine w_go 4000 ?_
        simp [cc61]
        refine goc_false (by simp; omega) ?_
        simp [hw1,hwn,htk,hg]
        refine ⟨⟨fun y hy=>by rcases hy with ⟨a,_,rfl⟩ | rfl <;> rfl,by omega⟩,?_⟩
        (refine w_call hP rfl (hA _) (by simp [hw1,hwn,htk,hg]) (by simp [hw1,hwn,htk,hg] <;> rfl) ?_; refine w_go 4000 ?_; simp [hw1,hwn,htk,hg])
        (repeat (refine And.intro (by first | assumption | omega | (simp; omega) | (simp_all; done)) ?_))
        (refine w_call hP rfl (hU _) (by simp [hw1,hwn,htk,hg]) (by simp [hw1,hwn,htk,hg] <;> rfl) ?_; refine w_go 4000 ?_; simp [hw1,hwn,htk,hg])
        refine ⟨⟨fun y hy=>by rcases hy with ⟨a,_,rfl⟩ | rfl <;> rfl,by omega⟩,?_⟩
        have hbl:=bkX_len s l
        (refine w_call hP rfl (hI _) (by simp [hw1,hwn,htk,hg]) (by simp [hw1,hwn,htk,hg] <;> rfl) ?_; refine w_go 4000 ?_; simp [hw1,hwn,htk,hg])
        refine ⟨⟨fun a _=>⟨rfl,fun y hy=>by simp [eEv] at hy; rcases hy with rfl | rfl | rfl | rfl | rfl | rfl <;> rfl⟩,by omega,by omega⟩,?_⟩
        have htk2:List.take (1+(bkX s l).length) (.agg [.int .i64 x.kind,.int .i64 x.type,.int .i64 x.id,.int .i64 x.field,.int .i64 x.n,.str x.text]::((bkX s l).map eEv).reverse)=.agg [.int .i64 x.kind,.int .i64 x.type,.int .i64 x.id,.int .i64 x.field,.int .i64 x.n,.str x.text]::((bkX s l).map eEv).reverse:=List.take_of_length_le (by simp; omega)
        have htk3:List.take (bkX s l).length ((bkX s l).map eEv).reverse=((bkX s l).map eEv).reverse:=List.take_of_length_le (by simp)
        have hpq:pureL ((bkX s l).map eEv).reverse=true:=by rw [← List.map_reverse]; exact pure_evs _
        have hnq:∀ S,namesL S ((bkX s l).map eEv).reverse:=fun S=>namesL_pure _ hpq
        have hadd:1+(bkX s l).length=(bkX s l).length+1:=by omega
        rw [hR]
        refine rt_endR (vs:=[.bsl (E.n0+53248) 0 (1+(bkX s l).length),.int .i64 0]) (vs':=[.sl (.agg [.int .i64 x.kind,.int .i64 x.type,.int .i64 x.id,.int .i64 x.field,.int .i64 x.n,.str x.text]::((bkX s l).map eEv).reverse),.int .i64 0]) (by simp) (by simp [htk2] <;> exact ⟨by omega,rfl⟩) [] trivial ⟨?_,?_,?_,?_,?_,?_⟩ <;> (try simp [hpq,hnq])
        exact namesL_pure _ (by simp [hpq])
      · have hv:bk2V s l=.nils:=by unfold bk2V; rw [if_neg h3]
        rw [hv] at hI
        simp only [ne_eq,not_true_eq_false,if_false,h3]
        refine fn_okc Try.func61 hcc61 (by decide) hcr61 (by simp [Try.ntmps61]) fun E hP hR hl hid=>?_
        simp only [cr61] at hR
        refine w_go 4000 ?_
        simp [cc61]
        refine goc_false (by simp; omega) ?_
        simp [hw1,hwn,htk,hg]
        refine ⟨⟨fun y hy=>by rcases hy with ⟨a,_,rfl⟩ | rfl <;> rfl,by omega⟩,?_⟩
        (refine w_call hP rfl (hA _) (by simp [hw1,hwn,htk,hg]) (by simp [hw1,hwn,htk,hg] <;> rfl) ?_; refine w_go 4000 ?_; simp [hw1,hwn,htk,hg])
        (repeat (refine And.intro (by first | assumption | omega | (simp; omega) | (simp_all; done)) ?_))
        (refine w_call hP rfl (hU _) (by simp [hw1,hwn,htk,hg]) (by simp [hw1,hwn,htk,hg] <;> rfl) ?_; refine w_go 4000 ?_; simp [hw1,hwn,htk,hg])
        refine ⟨⟨fun y hy=>by rcases hy with ⟨a,_,rfl⟩ | rfl <;> rfl,by omega⟩,?_⟩
        (refine w_call hP rfl (hI _) (by simp [hw1,hwn,htk,hg]) (by simp [hw1,hwn,htk,hg] <;> rfl) ?_; refine w_go 4000 ?_; simp [hw1,hwn,htk,hg])
        refine goc_true (by simpa using h3) ?_
        simp
        rw [hR]; exact rt_end (by simp <;> rfl) [] trivial (end_pure (by simp) (by simp) (by simp))
    · simp only [ne_eq,h0,not_false_eq_true,if_true,if_false]
      refine fn_okc Try.func61 hcc61 (by decide) hcr61 (by simp [Try.ntmps61]) fun E hP hR hl hid=>?_
      simp only [cr61] at hR
      refine w_go 4000 ?_
      simp [cc61]
      refine goc_false (by simp; omega) ?_
      simp [hw1,hwn,htk,hg]
      refine ⟨⟨fun y hy=>by rcases hy with ⟨a,_,rfl⟩ | rfl <;> rfl,by omega⟩,?_⟩
      (refine w_call hP rfl (hA _) (by simp [hw1,hwn,htk,hg]) (by simp [hw1,hwn,htk,hg] <;> rfl) ?_; refine w_go 4000 ?_; simp [hw1,hwn,htk,hg])
      (repeat (refine And.intro (by first | assumption | omega | (simp; omega) | (simp_all; done)) ?_))
      (refine w_call hP rfl (hU _) (by simp [hw1,hwn,htk,hg]) (by simp [hw1,hwn,htk,hg] <;> rfl) ?_; refine w_go 4000 ?_; simp [hw1,hwn,htk,hg])
      refine goc_true (by simpa using h0) ?_
      simp
      rw [hR]; exact rt_end (by simp <;> rfl) [] trivial (end_pure (by simp) (by simp) (by simp))
end Go.Am
namespace Go.Am
set_option linter.all false
open Go Go.RowKit Go.Proofs
set_option maxRecDepth 100000
set_option linter.all false
def sch0 (l:List Ty) (ev:List Ev):Int:=if fCheckT l≠0 then fCheckT l else allE ⟨l,[]⟩ ev
def vE (l:List Ty) (ev:List Ev) (n:Int):Int:=if fCheckT l≠0 then fCheckT l else if n<0∨(ev.length:Int)<n then 3 else 0
theorem atE_v (l:List Ty) (ev:List Ev) (n:Int):atE l ev n=if vE l ev n≠0 then vE l ev n else allE ⟨l,[]⟩ (ev.take n.toNat):=by
  by_cases h:fCheckT l=0
  · by_cases h2:n<0∨(ev.length:Int)<n
    · have e1:vE l ev n=3:=by unfold vE; rw [if_neg (by simpa using h),if_pos h2]
      rw [e1,if_pos (by decide)]
      unfold atE
      rw [if_neg (by simpa using h),if_pos h2]
    · have e1:vE l ev n=0:=by unfold vE; rw [if_neg (by simpa using h),if_neg h2]
      rw [e1,if_neg (by decide)]
      unfold atE
      rw [if_neg (by simpa using h),if_neg h2]
  · have e1:vE l ev n=fCheckT l:=by unfold vE; rw [if_pos h]
    rw [e1,if_pos h]
    unfold atE
    rw [if_pos h]
theorem atE_all (l:List Ty) (ev:List Ev):atE l ev ev.length=sch0 l ev∧atS l ev ev.length=allS ⟨l,[]⟩ ev:=by
  unfold atE atS sch0
  have ht:ev.take (ev.length:Int).toNat=ev:=List.take_of_length_le (by simp)
  rw [ht]
  by_cases h:fCheckT l=0
  · rw [if_neg (by simpa using h),if_neg (by simpa using h),if_neg (by omega)]
    exact ⟨rfl,rfl⟩
  · rw [if_pos h,if_pos h]; exact ⟨rfl,rfl⟩
theorem rt_at {l:List Ty} {ev:List Ev} {n:Int} (hI:∀ e∈ev,I64 e.n) (h:atE l ev n=0):Rt (atS l ev n):=by
  unfold atE at h
  by_cases h0:fCheckT l=0
  · rw [if_neg (by simpa using h0)] at h
    split at h
    · omega
    · exact rt_all _ _ (rt_nil h0) (fun e he=>hI e (List.mem_of_mem_take he)) h
  · rw [if_pos h0] at h; exact (h0 h).elim
theorem rdy_zero {s:Sta} {ev:List Ev} (h:rdyE s ev=0):fSt s=0∧ev.length≤8:=by
  unfold rdyE at h
  split at h
  · rename_i g; exact (g h).elim
  · rename_i g
    split at h
    · omega
    · exact ⟨Classical.byContradiction g,by omega⟩
theorem grp_zero {s:Sta} {ev:List Ev} (h:grpE s ev=0):rdyE s ev=0∧allE s ev=0:=by
  unfold grpE at h
  split at h
  · rename_i g; exact (g h).elim
  · rename_i g; exact ⟨Classical.byContradiction g,h⟩
theorem rt_grp {s:Sta} {ev:List Ev} (hS:IdsI s) (hI:∀ e∈ev,I64 e.n) (h:grpE s ev=0):Rt (allS s ev) :=
  rt_all _ _ (rt_of (rdy_zero (grp_zero h).1).1 hS) hI (grp_zero h).2
theorem Same_zero (id:Nat):FnOk Try.prog 53 [.agg [.nils,.nils],.agg [.nils,.nils]] [] id (.bool true) []:=by
  refine FnOk.nrmA ?_
  have:=SameStateG (.sl []) (.sl []) true rfl rfl (fun id=>by
    have:=SameTypes_ok [] [] id (by simp) (fun t ht=>by cases ht)
    simpa using this) [] [] id (by simp) (fun t ht=>by cases ht)
  simpa [nrmL,AV.nrm] using this
theorem stateIs_ok (w:Int) (s:Sta) (id:Nat) (h:w=0→Rt s):FnOk Try.prog 51 [.agg [staA w s,staB w s],.int .i64 w,.int .i64 w,.agg [staA w s,staB w s]] [] id (.bool true) []:=by
  by_cases h0:w=0
  · subst h0
    have hS:=fun id=>Same_self (h rfl) id
    have e1:staA 0 s=.sl (s.types.map eTy):=rfl
    have e2:staB 0 s=.sl (s.things.map eTg):=rfl
    rw [e1,e2]
    unfold eSta at hS
    refine fn_okc Try.func51 hcc51 (by decide) hcr51 (by simp [Try.ntmps51]) fun E hP hR hl hid=>?_
    simp only [cr51] at hR
    refine w_go 4000 ?_
    simp [cc51]
    (refine w_callg hP (by simp) rfl (fun hc=>⟨hS _,by revert hc; simp; try grind,by simp⟩) ?_; refine w_go 4000 ?_; simp)
    rw [hR]; exact rt_end (by simp <;> rfl) [] trivial (end_pure (by simp) (by simp) (by simp))
  · have hS:=fun id=>Same_zero id
    have e1:staA w s=.nils:=by unfold staA; rw [if_neg h0]
    have e2:staB w s=.nils:=by unfold staB; rw [if_neg h0]
    rw [e1,e2]
    refine fn_okc Try.func51 hcc51 (by decide) hcr51 (by simp [Try.ntmps51]) fun E hP hR hl hid=>?_
    simp only [cr51] at hR
    refine w_go 4000 ?_
    simp [cc51]
    refine goc_true (by simpa using h0) ?_
    simp
    (refine w_callg hP (by simp) rfl (fun hc=>⟨hS _,by revert hc; simp; try grind,by simp⟩) ?_; refine w_go 4000 ?_; simp)
    rw [hR]; exact rt_end (by simp <;> rfl) [] trivial (end_pure (by simp) (by simp) (by simp))
theorem sameEv_self (l:List Ev):sameL sameEv l l=true:=by
  induction l with
  | nil=>rfl
  | cons x l ih =>
    obtain ⟨a,b,c,d,e,f⟩:=x
    simp only [sameL,ih,Bool.and_true]
    simp [sameEv]
theorem Evs_self (l:List Ev) (id:Nat) (h:l.length≤1000000000000000):FnOk Try.prog 63 [.sl (l.map eEv),.sl (l.map eEv)] [] id (.bool true) []:=by
  have:=SameEvents_ok l l id (by omega)
  rwa [sameEv_self] at this
theorem Evs_nil (id:Nat):FnOk Try.prog 63 [.nils,.nils] [] id (.bool true) []:=FnOk.nrmA (by simpa [nrmL,AV.nrm] using Evs_self [] id (by simp))
theorem bak_self (s:Sta) (ev:List Ev) (id:Nat) (h:ev.length≤1000000000000000):FnOk Try.prog 63 [bakV s ev,bakV s ev] [] id (.bool true) []:=by
  unfold bakV
  split
  · exact Evs_self _ id (by simp [bkX_len]; exact h)
  · exact Evs_nil id
@[simp] theorem pure_bakV (s:Sta) (ev:List Ev):(bakV s ev).pureB=true:=by
  unfold bakV
  split
  · exact pure_evs _
  · rfl
@[simp] theorem ren_bakV (R:Rn) (S:Nat→Prop) (s:Sta) (ev:List Ev):RenR R S (bakV s ev) (bakV s ev):=renR_pure rfl (pure_bakV s ev)
theorem bak_of {s:Sta} {ev:List Ev} (h:grpE s ev=0):bakE s ev=bk2E s ev∧bakV s ev=bk2V s ev:=by
  have e:bakE s ev=bk2E s ev:=by unfold bakE bk2E; rw [if_neg (by simpa using h)]
  exact ⟨e,by unfold bakV bk2V; rw [e]⟩
theorem bak_bad {s:Sta} {ev:List Ev} (h:grpE s ev≠0):bakE s ev=grpE s ev∧bakV s ev=.nils:=by
  have e:bakE s ev=grpE s ev:=by unfold bakE; rw [if_pos h]
  exact ⟨e,by unfold bakV; rw [e,if_neg h]⟩
def evD:List Ev:=[⟨1,0,1,0,0,[]⟩,⟨3,0,1,0,4,[]⟩,⟨1,1,2,0,0,[]⟩,⟨5,0,1,2,2,[]⟩]
theorem deeds_ok (id:Nat):FnOk Try.prog 123 [] [] id (.sl (evD.map eEv)) []:=by
  unfold evD
  simp only [List.map_cons,List.map_nil,eEv]
  refine fn_okc Try.func123 hcc123 (by decide) hcr123 (by simp [Try.ntmps123]) fun E hP hR hl hid=>?_
  simp only [cr123] at hR
  refine w_go 4000 ?_
  simp [cc123]
  have hrn:rnOk []:=by simp [id_lt hid,id_own hid,id_own' hid,id_own0 hid,id_own0' hid]
  rw [hR]
  refine rt_endR (by simp <;> rfl) (by simp [id_lt hid,id_own hid,id_own' hid,id_own0 hid,id_own0' hid] <;> exact ⟨rfl,rfl⟩) [] hrn ⟨?_,?_,?_,?_,?_,?_⟩ <;> (try simp [id_lt hid,id_own hid,id_own' hid,id_own0 hid,id_own0' hid])
  exact namesL_pure _ rfl
def stD0:Sta:=⟨tyW,[]⟩
def stD2:Sta:=⟨tyW,[⟨0,1,[⟨4,[],[]⟩,cl0,cl0,cl0]⟩]⟩
def stD4:Sta:=⟨tyW,[⟨0,1,[⟨4,[],[]⟩,cl0,⟨0,[],[2]⟩,cl0]⟩,⟨1,2,[cl0]⟩]⟩
end Go.Am
