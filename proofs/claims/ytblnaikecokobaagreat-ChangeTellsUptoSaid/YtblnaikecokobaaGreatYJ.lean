/- Parts of the proof: an abstract machine for Go functions, and what functions of the program give back (Rh1, Hl1). No condition. -/
import Derived.Test.YtblnaikecokobaaGreatYI
import Derived.Test.YtblnaikecokobaaGreatYG
import Derived.Test.YtblnaikecokobaaGreatXY
import Derived.Test.YtblnaikecokobaaGreatXF
namespace Go.Am
set_option linter.all false
open Go Go.RowKit Go.Proofs
set_option maxRecDepth 100000
set_option linter.all false
theorem DoOf_st(s:Sta)(e:Ev)(id:Nat)(h:Rt s)(hn:I64 e.n):FnOk Tryz.prog 32 [eSta s,eEv e] [] id (.tup [staV (rawE s e) (rawS s e),.int .i64 (rawE s e)]) []:=by
 rw[staV_eq]; exact DoOf_ok s e id h hn
set_option maxHeartbeats 2000000 in
theorem AllOf_ok(s:Sta)(ev:List Ev)(id:Nat)(h:Rt s)(hn:∀e∈ev,I64 e.n)(hlen:ev.length≤1000000000000000):FnOk Tryz.prog 11 [eSta s,.sl (ev.map eEv)] [] id (.tup [staV (allE s ev) (allS s ev),.int .i64 (allE s ev)]) []:=by
 unfold eSta
 refine fn_okc Tryz.func11 hcc11 (by decide) hcr11 (by simp[Tryz.ntmps11]) fun E hP hR hl hid=>?_
 simp only[cr11] at hR
 refine w_go 4000 ?_
 simp[cc11]
 refine w_loop (X:=Nat×Sta) (fun q=>⟨[(1,true,.sl (ev.map eEv)),(2,true,.ptr E.n0 0 0),(4,true,.ptr (E.n0+1) 0 0),(6,true,.int .i64 q.1)],
  [(E.n0,some ⟨[.agg [.sl (q.2.types.map eTy),.sl (q.2.things.map eTg)]],.agg [.nils,.nils],false,false⟩),(E.n0+1,some ⟨[.agg [.nils,.nils]],.agg [.nils,.nils],false,false⟩)],2⟩)
  (fun q=>q.1≤ev.length∧Rt q.2∧allS q.2 (ev.drop q.1)=allS s ev∧allE q.2 (ev.drop q.1)=allE s ev) (fun q=>ev.length - q.1) (0,s) ?_ ⟨by simp,h,rfl,rfl⟩ ?_
 ·have hrn:rnOk [(E.n0,E.n0),(E.n0+1,E.n0+1024)]:=by simp
  refine Conv.sub [(E.n0,E.n0),(E.n0+1,E.n0+1024)] hrn ?_ ?_ ?_ ?_ ?_<;>(try simp)
 ·rintro⟨i,si⟩ ⟨hi,hRi,hfs,hfe⟩ p hp
  simp only at hi hRi hfs hfe
  refine w_go 4000 ?_
  simp
  refine goc (fun g=>?_) (fun g=>?_)
  ·have g:=of_decide_eq_true g
   obtain⟨e,he,hd⟩:=drop_cons g
   have hi1:IntKind.i64.wrap ((i:Int)+1)=((i+1:Nat):Int):=wrap64 (by omega)
   have hei:=hn e (List.mem_of_getElem? he)
   have hD:=fun id=>DoOf_st si e id hRi hei
   rw[hd] at hfs hfe
   simp only[allS,allE] at hfs hfe
   unfold staV eSta at hD
   by_cases hr:rawE si e=0
   ·rw[if_neg (by simpa using hr)] at hfe
    have ha:staA (rawE si e) (rawS si e) = .sl ((rawS si e).types.map eTy):=by unfold staA; rw[if_pos hr]
    have hb:staB (rawE si e) (rawS si e) = .sl ((rawS si e).things.map eTg):=by unfold staB; rw[if_pos hr]
    have hR':=(rt_raw hRi hei hr).1
    rw[ha,hb,hr] at hD
    generalize rawS si e=sj at *
    simp only[eEv_eq e] at hD
    simp[he,eEv_eq e]
    refine⟨g,?_⟩
    (refine w_call hP rfl (hD _) (by simp) (by simp<;>rfl) ?_; refine w_go 4000 ?_; simp)
    refine hp _ (i+1,sj) ⟨by simp only; omega,hR',hfs,hfe⟩ (by simp only; omega) ?_
    have hrn:rnOk [(E.n0,E.n0),(E.n0+1,E.n0+1)]:=by simp[hi1]
    refine Conv.sub [(E.n0,E.n0),(E.n0+1,E.n0+1)] hrn ?_ ?_ ?_ ?_ ?_<;>(try simp[hi1])
   ·rw[if_pos hr] at hfe
    have ha:staA (rawE si e) (rawS si e) = .nils:=by unfold staA; rw[if_neg hr]
    have hb:staB (rawE si e) (rawS si e) = .nils:=by unfold staB; rw[if_neg hr]
    have hV:staV (rawE si e) (allS s ev) = .agg [.nils,.nils]:=by rw[staV_eq,if_neg hr]; rfl
    rw[ha,hb] at hD
    rw[←hfe,hV] at hR
    simp only[eEv_eq e] at hD
    simp[he,eEv_eq e]
    refine⟨g,?_⟩
    (refine w_call hP rfl (hD _) (by simp) (by simp<;>rfl) ?_; refine w_go 4000 ?_; simp)
    refine goc_true (by simpa using hr) ?_
    simp
    rw[hR]; exact rt_end (by simp<;>rfl) [] trivial (end_pure (by simp) (by simp) (by simp))
  ·have g:=of_decide_eq_false g
   rw[List.drop_of_length_le (by omega)] at hfs hfe
   simp only[allS,allE] at hfs hfe
   have hV:staV 0 (allS s ev) = .agg [.sl (si.types.map eTy),.sl (si.things.map eTg)]:=by rw[staV_eq,if_pos rfl,←hfs]; rfl
   rw[←hfe,hV] at hR
   simp
   rw[hR]; exact rt_end (by simp<;>rfl) [] trivial (end_pure (by simp) (by simp) (by simp))
theorem rt_all:∀(s:Sta) (l:List Ev),Rt s→(∀e∈l,I64 e.n)→allE s l=0→Rt (allS s l)
 | s,[],h,_,_=>h
 | s,x::l,h,hn,ha=>by
  simp only[allE] at ha
  split at ha
  ·rename_i g; exact (g ha).elim
  ·rename_i g
   exact rt_all _ l (rt_raw h (hn x (List.mem_cons_self ..)) (Classical.byContradiction g)).1 (fun e he=>hn e (List.mem_cons_of_mem _ he)) ha
end Go.Am
namespace Go.Am
set_option linter.all false
open Go Go.RowKit Go.Proofs
set_option maxRecDepth 100000
set_option linter.all false
theorem Same_zero(id:Nat):FnOk Tryz.prog 16 [.agg [.nils,.nils],.agg [.nils,.nils]] [] id (.bool true) []:=by
 refine FnOk.nrmA ?_
 have:=SameStateG (.sl []) (.sl []) true rfl rfl (fun id=>by
  have:=SameTypes_ok [] [] id (by simp) (fun t ht=>by cases ht)
  simpa using this) [] [] id (by simp) (fun t ht=>by cases ht)
 simpa [nrmL,AV.nrm] using this
theorem stateIs_ok(w:Int)(s:Sta)(id:Nat)(h:w=0→Rt s):FnOk Tryz.prog 14 [.agg [staA w s,staB w s],.int .i64 w,.int .i64 w,.agg [staA w s,staB w s]] [] id (.bool true) []:=by
 by_cases h0:w=0
 ·subst h0
  have hS:=fun id=>Same_self (h rfl) id
  have e1:staA 0 s = .sl (s.types.map eTy):=rfl
  have e2:staB 0 s = .sl (s.things.map eTg):=rfl
  rw[e1,e2]
  unfold eSta at hS
  refine fn_okc Tryz.func14 hcc14 (by decide) hcr14 (by simp[Tryz.ntmps14]) fun E hP hR hl hid=>?_
  simp only[cr14] at hR
  refine w_go 4000 ?_
  simp[cc14]
  (refine w_callg hP (by simp) rfl (fun hc=>⟨hS _,by revert hc; simp; try grind,by simp⟩) ?_; refine w_go 4000 ?_; simp)
  rw[hR]; exact rt_end (by simp<;>rfl) [] trivial (end_pure (by simp) (by simp) (by simp))
 ·have hS:=fun id=>Same_zero id
  have e1:staA w s = .nils:=by unfold staA; rw[if_neg h0]
  have e2:staB w s = .nils:=by unfold staB; rw[if_neg h0]
  rw[e1,e2]
  refine fn_okc Tryz.func14 hcc14 (by decide) hcr14 (by simp[Tryz.ntmps14]) fun E hP hR hl hid=>?_
  simp only[cr14] at hR
  refine w_go 4000 ?_
  simp[cc14]
  refine goc_true (by simpa using h0) ?_
  simp
  (refine w_callg hP (by simp) rfl (fun hc=>⟨hS _,by revert hc; simp; try grind,by simp⟩) ?_; refine w_go 4000 ?_; simp)
  rw[hR]; exact rt_end (by simp<;>rfl) [] trivial (end_pure (by simp) (by simp) (by simp))
theorem sameEv_self(l:List Ev):sameL sameEv l l=true:=by
 induction l with
 | nil=>rfl
 | cons x l ih =>
  obtain⟨a,b,c,d,e,f⟩:=x
  simp only[sameL,ih,Bool.and_true]
  simp[sameEv]
theorem Evs_self(l:List Ev)(id:Nat)(h:l.length≤1000000000000000):FnOk Tryz.prog 13 [.sl (l.map eEv),.sl (l.map eEv)] [] id (.bool true) []:=by
 have:=SameEvents_ok l l id (by omega)
 rwa [sameEv_self] at this
theorem Evs_nil(id:Nat):FnOk Tryz.prog 13 [.nils,.nils] [] id (.bool true) []:=FnOk.nrmA (by simpa [nrmL,AV.nrm] using Evs_self [] id (by simp))
end Go.Am
