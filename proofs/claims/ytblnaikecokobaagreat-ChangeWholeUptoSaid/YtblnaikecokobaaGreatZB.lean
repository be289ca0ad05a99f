/- Parts of the proof: an abstract machine for Go functions, and what functions of the program give back (Ch7, Ch8). No condition. -/
import Derived.Test.YtblnaikecokobaaGreatZA
import Derived.Test.YtblnaikecokobaaGreatXJ
import Derived.Test.YtblnaikecokobaaGreatYH
namespace Go.Am
set_option linter.all false
open Go Go.RowKit Go.Proofs
set_option maxRecDepth 100000
set_option linter.all false
theorem fChkL_args:∀(q ah:List Sel),fChkL q ah=0→∀s∈q,fArgs s.args=0
 | [],_,_,s,hs=>by cases hs
 | x::r,ah,h,s,hs=>by
  simp only[fChkL] at h
  split at h
  ·rename_i g; exact (g h).elim
  ·rename_i g
   split at h
   ·rename_i g2; exact (g2 h).elim
   ·rcases List.mem_cons.1 hs with rfl|hs
    ·have g:fSel1 s ah=0:=Classical.byContradiction g
     unfold fSel1 at g
     repeat' split at g
     all_goals first|omega|(rename_i a; exact Classical.byContradiction a)
    ·exact fChkL_args r _ h s hs
theorem fQuery_zero{q:List Sel}(h:fQuery q=0):q≠[]∧q.length≤40∧fChkL q []=0∧∀s∈q,fArgs s.args=0:=by
 unfold fQuery at h
 split at h
 ·omega
 ·rename_i g
  split at h
  ·omega
  ·rename_i g2
   have:q.length≤manyL 5 q:=by simp[manyL]
   exact⟨g,by omega,h,fChkL_args q [] h⟩
theorem fSt_types{s:Sta}(h:fSt s=0):fCheckT s.types=0:=by
 unfold fSt at h
 split at h
 ·rename_i g; exact (g h).elim
 ·rename_i g; exact Classical.byContradiction g
def rdE(s:Sta)(q:List Sel):Int:=if fSt s≠0 then fSt s else fQuery q
def cvE(s:Sta)(q:List Sel):Int:=if rdE s q≠0 then rdE s q else ofE s.types q
theorem rdE_zero{s:Sta}{q:List Sel}(h:rdE s q=0):fSt s=0∧fQuery q=0:=by
 unfold rdE at h
 split at h
 ·rename_i g; exact (g h).elim
 ·rename_i g; exact⟨Classical.byContradiction g,h⟩
theorem evV_bad{w:Int}(h:w≠0)(ev:List Ev):evV w ev = .nils:=by unfold evV; rw[if_neg h]
theorem Of_rd{s:Sta}{q:List Sel}(h:rdE s q=0)(id:Nat):FnOk Tryz.prog 22 [.sl (s.types.map eTy),.sl (q.map eSel)] [] id (.tup [evV (ofE s.types q) (evsOf s.types q),.int .i64 (ofE s.types q)]) []:=by
 have hS:=schOk (fSt_types (rdE_zero h).1)
 have hq:=fQuery_zero (rdE_zero h).2
 exact Of_ok s.types q id hq.2.2.2 (by have:=hS.len; omega) (fun t ht=>by have:=hS.fields t ht; omega) (by omega)
@[simp] theorem pure_evV (w:Int) (ev:List Ev):(evV w ev).pureB=true:=by
 unfold evV
 split
 ·exact pure_evs _
 ·rfl
set_option maxHeartbeats 1000000 in
theorem Events_ok(s:Sta)(q:List Sel)(id:Nat)(hq8:szL q≤1099511627776):FnOk Tryz.prog 6 [eSta s,.sl (q.map eSel)] [] id (.tup [evV (cvE s q) (evsOf s.types q),.int .i64 (cvE s q)]) []:=by
 have hS:=fun id=>stCheck_ok s id
 have hQ:=fun id=>qCheck_ok q id hq8
 have hO:=fun h id=>Of_rd (s:=s) (q:=q) h id
 unfold eSta at *
 have hrd:rdE s q=if fSt s≠0 then fSt s else fQuery q:=rfl
 have hch:cvE s q=if rdE s q≠0 then rdE s q else ofE s.types q:=rfl
 have bad:rdE s q≠0→∀w,rdE s q=w→cvE s q=w∧evV (cvE s q) (evsOf s.types q) = .nils:=fun h w hw=>by
  rw[if_pos h] at hch
  exact⟨hch.trans hw,evV_bad (by rw[hch]; exact h) _⟩
 refine fn_okc Tryz.func6 hcc6 (by decide) hcr6 (by simp[Tryz.ntmps6]) fun E hP hR hl hid=>?_
 simp only[cr6] at hR
 refine w_go 4000 ?_
 simp[cc6]
 (refine w_call hP rfl (hS _) (by simp) (by simp<;>rfl) ?_; refine w_go 4000 ?_; simp)
 refine goc (fun h1=>?_) (fun h1=>?_)<;>simp
 ·have h1:fSt s=0:=by simpa using h1
  rw[if_neg (by simpa using h1)] at hrd
  (refine w_call hP rfl (hQ _) (by simp) (by simp<;>rfl) ?_; refine w_go 4000 ?_; simp)
  refine goc (fun h2=>?_) (fun h2=>?_)<;>simp
  ·have h2:fQuery q≠0:=by simpa using h2
   obtain⟨e1,e2⟩:=bad (by rw[hrd]; exact h2) _ hrd
   rw[e2,e1] at hR
   rw[hR]; exact rt_end (by simp<;>rfl) [] trivial (end_pure (by simp) (by simp) (by simp))
  ·have h2:fQuery q=0:=by simpa using h2
   have h3:rdE s q=0:=hrd.trans h2
   rw[if_neg (by simpa using h3)] at hch
   rw[hch] at hR
   (refine w_call hP rfl (hO h3 _) (by simp) (by simp<;>rfl) ?_; refine w_go 4000 ?_; simp)
   rw[hR]; exact rt_end (by simp<;>rfl) [] trivial (end_pure (by simp) (by simp) (by simp))
 ·have h1:fSt s≠0:=by simpa using h1
  rw[if_pos h1] at hrd
  obtain⟨e1,e2⟩:=bad (by rw[hrd]; exact h1) _ hrd
  rw[e2,e1] at hR
  refine goc_true (by simpa using h1) ?_
  simp
  rw[hR]; exact rt_end (by simp<;>rfl) [] trivial (end_pure (by simp) (by simp) (by simp))
end Go.Am
namespace Go.Am
set_option linter.all false
open Go Go.RowKit Go.Proofs
set_option maxRecDepth 100000
set_option linter.all false
theorem evsOf_n{s:Sta}{q:List Sel}(h:rdE s q=0):∀e∈evsOf s.types q,I64 e.n:=fun e he=>by
 obtain⟨x,hx,rfl⟩:=List.mem_map.1 he
 have hA:=(fQuery_zero (rdE_zero h).2).2.2.2 x hx
 simp only[mkX,valA,I64]
 split
 ·have:=getA_ok hA (valN (evK x)); omega
 ·simp[ag0]
theorem ofE_zero{l:List Ty}{q:List Sel}(h:ofE l q=0):firstE (mkE l) q=0∧q.length≤8:=by
 unfold ofE at h
 split at h
 ·rename_i g; exact (g h).elim
 ·rename_i g
  split at h
  ·omega
  ·exact⟨Classical.byContradiction g,by omega⟩
theorem cvE_zero{s:Sta}{q:List Sel}(h:cvE s q=0):rdE s q=0∧ofE s.types q=0:=by
 unfold cvE at h
 split at h
 ·rename_i g; exact (g h).elim
 ·rename_i g; exact⟨Classical.byContradiction g,h⟩
theorem ch_rdy{s:Sta}{q:List Sel}(h:cvE s q=0):rdyE s (evsOf s.types q)=0:=by
 obtain⟨h1,h2⟩:=cvE_zero h
 have:=(ofE_zero h2).2
 unfold rdyE
 rw[if_neg (by simpa using (rdE_zero h1).1),if_neg (by simp[evsOf]; omega)]
def cdE(s:Sta)(q:List Sel):Int:=if cvE s q≠0 then cvE s q else allE s (evsOf s.types q)
theorem cdE_zero{s:Sta}{q:List Sel}(h:cdE s q=0):cvE s q=0∧allE s (evsOf s.types q)=0:=by
 unfold cdE at h
 split at h
 ·rename_i g; exact (g h).elim
 ·rename_i g; exact⟨Classical.byContradiction g,h⟩
theorem staV_bad0{w:Int}(h:w≠0)(s:Sta):staV w s = .agg [.nils,.nils]:=by rw[staV_eq,if_neg h]; rfl
set_option maxHeartbeats 1000000 in
theorem cDo_ok(s:Sta)(q:List Sel)(id:Nat)(hI:IdsI s)(hq8:szL q≤1099511627776):FnOk Tryz.prog 7 [eSta s,.sl (q.map eSel)] [] id (.tup [staV (cdE s q) (allS s (evsOf s.types q)),evV (cdE s q) (evsOf s.types q),.int .i64 (cdE s q)]) []:=by
 have hV:=fun id=>Events_ok s q id hq8
 have hcd:cdE s q=if cvE s q≠0 then cvE s q else allE s (evsOf s.types q):=rfl
 by_cases h0:cvE s q=0
 ·rw[if_neg (by simpa using h0)] at hcd
  rw[hcd]
  have hG:=fun id=>Group_ok s (evsOf s.types q) id hI (evsOf_n (cvE_zero h0).1)
  have hg:grpE s (evsOf s.types q)=allE s (evsOf s.types q):=by unfold grpE; rw[if_neg (by simpa using ch_rdy h0)]
  rw[h0,show evV 0 (evsOf s.types q) = .sl ((evsOf s.types q).map eEv) from rfl] at hV
  rw[hg] at hG
  by_cases h1:allE s (evsOf s.types q)=0
  ·rw[h1] at hG ⊢
   rw[show evV 0 (evsOf s.types q) = .sl ((evsOf s.types q).map eEv) from rfl,staV_eq,if_pos rfl] at *
   unfold eSta at *
   refine fn_okc Tryz.func7 hcc7 (by decide) hcr7 (by simp[Tryz.ntmps7]) fun E hP hR hl hid=>?_
   simp only[cr7] at hR
   refine w_go 4000 ?_
   simp[cc7]
   (refine w_call hP rfl (hV _) (by simp) (by simp<;>rfl) ?_; refine w_go 4000 ?_; simp)
   (refine w_call hP rfl (hG _) (by simp) (by simp<;>rfl) ?_; refine w_go 4000 ?_; simp)
   rw[hR]; exact rt_end (by simp<;>rfl) [] trivial (end_pure (by simp) (by simp) (by simp))
  ·rw[evV_bad h1]
   rw[staV_bad0 h1] at hG ⊢
   unfold eSta at *
   refine fn_okc Tryz.func7 hcc7 (by decide) hcr7 (by simp[Tryz.ntmps7]) fun E hP hR hl hid=>?_
   simp only[cr7] at hR
   refine w_go 4000 ?_
   simp[cc7]
   (refine w_call hP rfl (hV _) (by simp) (by simp<;>rfl) ?_; refine w_go 4000 ?_; simp)
   (refine w_call hP rfl (hG _) (by simp) (by simp<;>rfl) ?_; refine w_go 4000 ?_; simp)
   refine goc_true (by simpa using h1) ?_
   simp
   rw[hR]; exact rt_end (by simp<;>rfl) [] trivial (end_pure (by simp) (by simp) (by simp))
 ·rw[if_pos h0] at hcd
  rw[hcd,staV_bad0 h0,evV_bad h0]
  rw[evV_bad h0] at hV
  unfold eSta at *
  refine fn_okc Tryz.func7 hcc7 (by decide) hcr7 (by simp[Tryz.ntmps7]) fun E hP hR hl hid=>?_
  simp only[cr7] at hR
  refine w_go 4000 ?_
  simp[cc7]
  (refine w_call hP rfl (hV _) (by simp) (by simp<;>rfl) ?_; refine w_go 4000 ?_; simp)
  refine goc_true (by simpa using h0) ?_
  simp
  rw[hR]; exact rt_end (by simp<;>rfl) [] trivial (end_pure (by simp) (by simp) (by simp))
end Go.Am
