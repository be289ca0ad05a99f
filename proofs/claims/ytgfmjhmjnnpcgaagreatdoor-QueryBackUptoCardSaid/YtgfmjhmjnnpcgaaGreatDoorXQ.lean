/- Parts of the proof: an abstract machine for Go functions, and what functions of the program give back (Qz5, Fb, Fv, Lw3). No condition. -/
import Derived.Test.YtgfmjhmjnnpcgaaGreatDoorXM
import Derived.Test.YtgfmjhmjnnpcgaaGreatDoorXO
import Derived.Test.YtgfmjhmjnnpcgaaGreatDoorXP
import Derived.Test.YtgfmjhmjnnpcgaaGreatDoorXH
import Derived.Test.YtgfmjhmjnnpcgaaGreatDoorXE
import Derived.Test.YtgfmjhmjnnpcgaaGreatDoorRows
import Derived.Deep.CondSized
import Derived.Test.YtgfmjhmjnnpcgaaGreatDoorCards
import Derived.Test.YtgfmjhmjnnpcgaaGreatDoorTie
import Derived.Deep.DeepHandedRow
import Derived.Lib.LaidTab
import Derived.LaidLaws
namespace Go.Am
set_option linter.all false
open Go Go.RowKit Go.Proofs
set_option maxRecDepth 100000
set_option linter.all false
def anyQ(v:AV)(m:List Sel):Prop:=v = .sl (m.map eSel)∨(v = .nils∧m=[])
theorem qry_ne{s:List UInt8}{e:Int}(h:fQry s = .error e):e≠0:=by
 unfold fQry at h
 split at h
 ·rename_i hl
  injection h with h
  exact h▸fLex_ne hl
 ·unfold fQryT at h
  split at h
  ·injection h with h; omega
  ·split at h
   ·cases h
   ·rename_i hn
    injection h with h
    exact h▸hn
theorem qry_sz{s:List UInt8}{m:List Sel}(h:fQry s = .ok m):szL m≤300:=by
 unfold fQry at h
 split at h
 ·cases h
 rename_i l hl
 have h3:=((fLex_ok s l).1 hl).2.2
 unfold fQryT at h
 split at h
 ·cases h
 rename_i q hq
 unfold selsOf at hq
 split at hq
 ·cases hq
 rename_i q' u hp
 have:=pSome_sz hp
 split at hq
 ·injection hq with hq
  subst hq
  split at h
  ·injection h with h
   subst h; omega
  ·cases h
 ·cases hq
theorem same_anyQ(v:AV)(m:List Sel)(hv:anyQ v m)(h8:szL m≤300)(id:Nat):FnOk Tryz.prog 36 [v,v] [] id (.bool true) []:=by
 rcases hv with rfl|⟨rfl,rfl⟩
 ·exact same_selsK m id (by omega)
 ·exact FnOk.nrmA (by simpa [nrmL,AV.nrm] using same_selsK [] id (by decide))
theorem qry_case(s:List UInt8):∃(v:AV) (e:Int) (m:List Sel),qryV (fQry s) = .tup [v,.int .i64 e]∧anyQ v m∧szL m≤300:=by
 cases hs:fQry s with
 | error e=>exact⟨.nils,e,[],rfl,.inr ⟨rfl,rfl⟩,by decide⟩
 | ok m=>exact⟨.sl (m.map eSel),0,m,rfl,.inl rfl,qry_sz hs⟩
theorem qry_wri{l:List Sel}(h:fQuery l=0):∀t∈tkSels l,Wri t:=fun t ht=>wri_all (qry_tok h t ht)
theorem tk_num{t:Tk}(h:fTk t=0)(hk:t.kind=2): -999999999≤t.n∧t.n≤999999999:=by
 obtain⟨k,tx,n⟩:=t
 simp only at hk
 subst hk
 unfold fTk at h
 obtain⟨h1,h⟩:=ite0 h (by decide)
 obtain⟨h2,h⟩:=ite0 h (by decide)
 simp at h
 simp only
 omega
set_option maxHeartbeats 8000000 in
theorem QueryTells_ok(s:List UInt8)(l:List Sel)(id:Nat)(h8:szL l≤1048576):FnOk Tryz.prog 11 [.str s,.sl (l.map eSel)] [] id (.bool true) []:=by
 have hB:=fun id=>queryBegun_ok id
 have hPr:=fun id=>qPrint_ok l id (by omega) qry_wri
 have hR1:=fun id=>qRead_ok s id
 have hR2:=fun id=>rQryOf_ok s id
 have hC1:=fun id=>qCheck_ok l id (by omega)
 have hC2:=fun id=>CheckQuery_ok l id (by omega)
 obtain⟨v,e,m,hv,hm,hz⟩:=qry_case s
 have hS:=fun id=>same_anyQ v m hm hz id
 rw[hv] at hR1 hR2
 by_cases hc:fQuery l=0
 ·have hT:=fun id=>rSelT_ok (szL l+1) l id (by omega) (by omega)
  have q1:=tkSels_len l
  have q2:=wSum_le (qry_tok hc)
  have hBy:=fun id=>rBytes_ok (tkSels l) id (fun t ht hk=>tk_num (qry_tok hc t ht) hk) (by omega) (by omega)
  rw[qPr_ok hc] at hPr
  rw[hc] at hC1 hC2
  refine fn_okc Tryz.func11 hcc11 (by decide) hcr11 (by simp[Tryz.ntmps11]) fun E hP hR hl hid=>?_
  simp only[cr11] at hR
  refine w_go 4000 ?_
  simp[cc11]
  (refine w_call hP rfl (hR1 _) (by simp) (by simp<;>rfl) ?_; refine w_go 4000 ?_; simp)
  (refine w_call hP rfl (hPr _) (by simp) (by simp<;>rfl) ?_; refine w_go 4000 ?_; simp)
  (refine w_call hP rfl (hR2 _) (by simp) (by simp<;>rfl) ?_; refine w_go 4000 ?_; simp)
  (refine w_call hP rfl (hC2 _) (by simp) (by simp<;>rfl) ?_; refine w_go 4000 ?_; simp)
  (refine w_call hP rfl (hT _) (by simp) (by simp<;>rfl) ?_; refine w_go 4000 ?_; simp)
  (refine w_call hP rfl (hBy _) (by simp) (by simp<;>rfl) ?_; refine w_go 4000 ?_; simp)
  (refine w_call hP rfl (hB _) (by simp) (by simp<;>rfl) ?_; refine w_go 4000 ?_; simp)
  (refine w_callg hP (by simp) rfl (fun hc=>⟨hC1 _,by revert hc; simp; try grind,by simp⟩) ?_; refine w_go 4000 ?_; simp)
  (refine w_callg hP (by simp) rfl (fun hc=>⟨hS _,by revert hc; simp; try grind,by simp⟩) ?_; refine w_go 4000 ?_; simp)
  rw[hR]; exact rt_end (by simp<;>rfl) [] trivial (end_pure (by simp) (by simp) (by simp))
 ·rw[show qPr l=([],fQuery l) from by unfold qPr; rw[if_neg hc]] at hPr
  refine fn_okc Tryz.func11 hcc11 (by decide) hcr11 (by simp[Tryz.ntmps11]) fun E hP hR hl hid=>?_
  simp only[cr11] at hR
  refine w_go 4000 ?_
  simp[cc11]
  (refine w_call hP rfl (hR1 _) (by simp) (by simp<;>rfl) ?_; refine w_go 4000 ?_; simp)
  (refine w_call hP rfl (hPr _) (by simp) (by simp<;>rfl) ?_; refine w_go 4000 ?_; simp)
  (refine w_call hP rfl (hR2 _) (by simp) (by simp<;>rfl) ?_; refine w_go 4000 ?_; simp)
  (refine w_call hP rfl (hC2 _) (by simp) (by simp<;>rfl) ?_; refine w_go 4000 ?_; simp)
  refine goc_false (by simpa using hc) ?_
  simp
  (refine w_call hP rfl (hB _) (by simp) (by simp<;>rfl) ?_; refine w_go 4000 ?_; simp)
  (refine w_callg hP (by simp) rfl (fun hc=>⟨hC1 _,by revert hc; simp; try grind,by simp⟩) ?_; refine w_go 4000 ?_; simp)
  (refine w_callg hP (by simp) rfl (fun hc=>⟨hS _,by revert hc; simp; try grind,by simp⟩) ?_; refine w_go 4000 ?_; simp)
  rw[hR]; exact rt_end (by simp<;>rfl) [] trivial (end_pure (by simp) (by simp) (by simp))
set_option maxHeartbeats 16000000 in
theorem QueryBack_ok(s:List UInt8)(l:List Sel)(id:Nat)(h8:szL l≤1048576):FnOk Tryz.prog 12 [.str s,.sl (l.map eSel)] [] id (.bool true) []:=by
 have hB:=fun id=>queryBegun_ok id
 have hL:=fun id=>lexBegun_ok id
 have hP1:=fun id=>qPrint_ok l id (by omega) qry_wri
 have hR2:=fun id=>qRead_ok s id
 cases hs:fQry s with
 | error e =>
  rw[hs] at hR2
  have hR2:∀id,FnOk Tryz.prog 31 [.str s] [] id (.tup [.nils,.int .i64 e]) []:=hR2
  have hne:=qry_ne hs
  clear hs
  by_cases hc:fQuery l=0
  ·rw[qPr_ok hc] at hP1
   have hT:=fun id=>rSelT_ok (szL l+1) l id (by omega) (by omega)
   by_cases hl8:(tkB (tkSels l)).length≤2000∧(tkSels l).length≤300
   ·have hRl:=fun id=>qRead_ok (tkB (tkSels l)) id
    rw[qry_back hc hl8.1 hl8.2] at hRl
    have hRl:∀id,FnOk Tryz.prog 31 [.str (tkB (tkSels l))] [] id (.tup [.sl (l.map eSel),.int .i64 0]) []:=hRl
    have hS:=fun id=>same_selsK l id (by omega)
    refine fn_okc Tryz.func12 hcc12 (by decide) hcr12 (by simp[Tryz.ntmps12]) fun E hP hR hl hid=>?_
    simp only[cr12] at hR
    refine w_go 4000 ?_
    simp[cc12]
    (refine w_call hP rfl (hB _) (by simp) (by simp<;>rfl) ?_; refine w_go 4000 ?_; simp)
    (refine w_callg hP (by simp) rfl (fun hc=>⟨hL _,by revert hc; simp; try grind,by simp⟩) ?_; refine w_go 4000 ?_; simp)
    (refine w_call hP rfl (hP1 _) (by simp) (by simp<;>rfl) ?_; refine w_go 4000 ?_; simp)
    (refine w_call hP rfl (hRl _) (by simp) (by simp<;>rfl) ?_; refine w_go 4000 ?_; simp)
    (refine w_callg hP (by simp) rfl (fun hc=>⟨hT _,by revert hc; simp; try grind,by simp⟩) ?_; refine w_go 4000 ?_; simp)
    (refine w_callg hP (by simp) rfl (fun hc=>⟨hS _,by revert hc; simp; try grind,by simp⟩) ?_; refine w_go 4000 ?_; simp)
    (refine w_call hP rfl (hR2 _) (by simp) (by simp<;>rfl) ?_; refine w_go 4000 ?_; simp)
    refine goc_true (by simpa using hne) ?_
    simp
    rw[hR]; exact rt_end (by simp<;>rfl) [] trivial (end_pure (by simp) (by simp) (by simp))
   ·have hRl:=fun id=>qRead_ok (tkB (tkSels l)) id
    rw[qry_many hc (by omega)] at hRl
    have hRl:∀id,FnOk Tryz.prog 31 [.str (tkB (tkSels l))] [] id (.tup [.nils,.int .i64 2]) []:=hRl
    refine fn_okc Tryz.func12 hcc12 (by decide) hcr12 (by simp[Tryz.ntmps12]) fun E hP hR hl hid=>?_
    simp only[cr12] at hR
    refine w_go 4000 ?_
    simp[cc12]
    (refine w_call hP rfl (hB _) (by simp) (by simp<;>rfl) ?_; refine w_go 4000 ?_; simp)
    (refine w_callg hP (by simp) rfl (fun hc=>⟨hL _,by revert hc; simp; try grind,by simp⟩) ?_; refine w_go 4000 ?_; simp)
    (refine w_call hP rfl (hP1 _) (by simp) (by simp<;>rfl) ?_; refine w_go 4000 ?_; simp)
    (refine w_call hP rfl (hRl _) (by simp) (by simp<;>rfl) ?_; refine w_go 4000 ?_; simp)
    (refine w_callg hP (by simp) rfl (fun hc=>⟨hT _,by revert hc; simp; try grind,by simp⟩) ?_; refine w_go 4000 ?_; simp)
    refine w_callg hP (by simp) rfl (v:=.bool false) (rd:=[]) (fun hh=>by simp at hh) ?_
    refine w_go 4000 ?_
    simp
    refine⟨by omega,?_⟩
    refine goc_false (by simp; omega) ?_
    simp
    (refine w_call hP rfl (hR2 _) (by simp) (by simp<;>rfl) ?_; refine w_go 4000 ?_; simp)
    refine goc_true (by simpa using hne) ?_
    simp
    rw[hR]; exact rt_end (by simp<;>rfl) [] trivial (end_pure (by simp) (by simp) (by simp))
  ·rw[show qPr l=([],fQuery l) from by unfold qPr; rw[if_neg hc]] at hP1
   refine fn_okc Tryz.func12 hcc12 (by decide) hcr12 (by simp[Tryz.ntmps12]) fun E hP hR hl hid=>?_
   simp only[cr12] at hR
   refine w_go 4000 ?_
   simp[cc12]
   (refine w_call hP rfl (hB _) (by simp) (by simp<;>rfl) ?_; refine w_go 4000 ?_; simp)
   (refine w_callg hP (by simp) rfl (fun hc=>⟨hL _,by revert hc; simp; try grind,by simp⟩) ?_; refine w_go 4000 ?_; simp)
   (refine w_call hP rfl (hP1 _) (by simp) (by simp<;>rfl) ?_; refine w_go 4000 ?_; simp)
   refine goc_false (by simpa using hc) ?_
   simp
   (refine w_call hP rfl (hR2 _) (by simp) (by simp<;>rfl) ?_; refine w_go 4000 ?_; simp)
   refine goc_true (by simpa using hne) ?_
   simp
   rw[hR]; exact rt_end (by simp<;>rfl) [] trivial (end_pure (by simp) (by simp) (by simp))
 | ok m =>
  rw[hs] at hR2
  have hR2:∀id,FnOk Tryz.prog 31 [.str s] [] id (.tup [.sl (m.map eSel),.int .i64 0]) []:=hR2
  have hf2:=qry_ok hs
  have hmz:=qry_sz hs
  have hm3:=qry_num hs
  have t2:=fun id=>qPrint_ok m id (by omega) qry_wri
  rw[qPr_ok hf2] at t2
  have t2:∀id,FnOk Tryz.prog 32 [.sl (m.map eSel)] [] id (.tup [.str (tkB (tkSels m)),.int .i64 0]) []:=t2
  have t5:=fun id=>qCheck_ok m id (by omega)
  rw[hf2] at t5
  clear hs
  by_cases hm8:(tkB (tkSels m)).length≤2000
  ·have t3:=fun id=>qRead_ok (tkB (tkSels m)) id
   rw[qry_back hf2 hm8 hm3] at t3
   have t3:∀id,FnOk Tryz.prog 31 [.str (tkB (tkSels m))] [] id (.tup [.sl (m.map eSel),.int .i64 0]) []:=t3
   have t4:=fun id=>same_selsK m id (by omega)
   by_cases hc:fQuery l=0
   ·rw[qPr_ok hc] at hP1
    have hT:=fun id=>rSelT_ok (szL l+1) l id (by omega) (by omega)
    by_cases hl8:(tkB (tkSels l)).length≤2000∧(tkSels l).length≤300
    ·have hRl:=fun id=>qRead_ok (tkB (tkSels l)) id
     rw[qry_back hc hl8.1 hl8.2] at hRl
     have hRl:∀id,FnOk Tryz.prog 31 [.str (tkB (tkSels l))] [] id (.tup [.sl (l.map eSel),.int .i64 0]) []:=hRl
     have hS:=fun id=>same_selsK l id (by omega)
     refine fn_okc Tryz.func12 hcc12 (by decide) hcr12 (by simp[Tryz.ntmps12]) fun E hP hR hl hid=>?_
     simp only[cr12] at hR
     refine w_go 4000 ?_
     simp[cc12]
     (refine w_call hP rfl (hB _) (by simp) (by simp<;>rfl) ?_; refine w_go 4000 ?_; simp)
     (refine w_callg hP (by simp) rfl (fun hc=>⟨hL _,by revert hc; simp; try grind,by simp⟩) ?_; refine w_go 4000 ?_; simp)
     (refine w_call hP rfl (hP1 _) (by simp) (by simp<;>rfl) ?_; refine w_go 4000 ?_; simp)
     (refine w_call hP rfl (hRl _) (by simp) (by simp<;>rfl) ?_; refine w_go 4000 ?_; simp)
     (refine w_callg hP (by simp) rfl (fun hc=>⟨hT _,by revert hc; simp; try grind,by simp⟩) ?_; refine w_go 4000 ?_; simp)
     (refine w_callg hP (by simp) rfl (fun hc=>⟨hS _,by revert hc; simp; try grind,by simp⟩) ?_; refine w_go 4000 ?_; simp)
     (refine w_call hP rfl (hR2 _) (by simp) (by simp<;>rfl) ?_; refine w_go 4000 ?_; simp)
     (refine w_call hP rfl (t2 _) (by simp) (by simp<;>rfl) ?_; refine w_go 4000 ?_; simp)
     (refine w_callg hP (by simp) rfl (fun hc=>⟨t5 _,by revert hc; simp; try grind,by simp⟩) ?_; refine w_go 4000 ?_; simp)
     refine goc_false (by simp; omega) ?_
     simp
     (refine w_call hP rfl (t3 _) (by simp) (by simp<;>rfl) ?_; refine w_go 4000 ?_; simp)
     (refine w_callg hP (by simp) rfl (fun hc=>⟨t4 _,by revert hc; simp; try grind,by simp⟩) ?_; refine w_go 4000 ?_; simp)
     rw[hR]; exact rt_end (by simp<;>rfl) [] trivial (end_pure (by simp) (by simp) (by simp))
    ·have hRl:=fun id=>qRead_ok (tkB (tkSels l)) id
     rw[qry_many hc (by omega)] at hRl
     have hRl:∀id,FnOk Tryz.prog 31 [.str (tkB (tkSels l))] [] id (.tup [.nils,.int .i64 2]) []:=hRl
     refine fn_okc Tryz.func12 hcc12 (by decide) hcr12 (by simp[Tryz.ntmps12]) fun E hP hR hl hid=>?_
     simp only[cr12] at hR
     refine w_go 4000 ?_
     simp[cc12]
     (refine w_call hP rfl (hB _) (by simp) (by simp<;>rfl) ?_; refine w_go 4000 ?_; simp)
     (refine w_callg hP (by simp) rfl (fun hc=>⟨hL _,by revert hc; simp; try grind,by simp⟩) ?_; refine w_go 4000 ?_; simp)
     (refine w_call hP rfl (hP1 _) (by simp) (by simp<;>rfl) ?_; refine w_go 4000 ?_; simp)
     (refine w_call hP rfl (hRl _) (by simp) (by simp<;>rfl) ?_; refine w_go 4000 ?_; simp)
     (refine w_callg hP (by simp) rfl (fun hc=>⟨hT _,by revert hc; simp; try grind,by simp⟩) ?_; refine w_go 4000 ?_; simp)
     refine w_callg hP (by simp) rfl (v:=.bool false) (rd:=[]) (fun hh=>by simp at hh) ?_
     refine w_go 4000 ?_
     simp
     refine⟨by omega,?_⟩
     refine goc_false (by simp; omega) ?_
     simp
     (refine w_call hP rfl (hR2 _) (by simp) (by simp<;>rfl) ?_; refine w_go 4000 ?_; simp)
     (refine w_call hP rfl (t2 _) (by simp) (by simp<;>rfl) ?_; refine w_go 4000 ?_; simp)
     (refine w_callg hP (by simp) rfl (fun hc=>⟨t5 _,by revert hc; simp; try grind,by simp⟩) ?_; refine w_go 4000 ?_; simp)
     refine goc_false (by simp; omega) ?_
     simp
     (refine w_call hP rfl (t3 _) (by simp) (by simp<;>rfl) ?_; refine w_go 4000 ?_; simp)
     (refine w_callg hP (by simp) rfl (fun hc=>⟨t4 _,by revert hc; simp; try grind,by simp⟩) ?_; refine w_go 4000 ?_; simp)
     rw[hR]; exact rt_end (by simp<;>rfl) [] trivial (end_pure (by simp) (by simp) (by simp))
   ·rw[show qPr l=([],fQuery l) from by unfold qPr; rw[if_neg hc]] at hP1
    refine fn_okc Tryz.func12 hcc12 (by decide) hcr12 (by simp[Tryz.ntmps12]) fun E hP hR hl hid=>?_
    simp only[cr12] at hR
    refine w_go 4000 ?_
    simp[cc12]
    (refine w_call hP rfl (hB _) (by simp) (by simp<;>rfl) ?_; refine w_go 4000 ?_; simp)
    (refine w_callg hP (by simp) rfl (fun hc=>⟨hL _,by revert hc; simp; try grind,by simp⟩) ?_; refine w_go 4000 ?_; simp)
    (refine w_call hP rfl (hP1 _) (by simp) (by simp<;>rfl) ?_; refine w_go 4000 ?_; simp)
    refine goc_false (by simpa using hc) ?_
    simp
    (refine w_call hP rfl (hR2 _) (by simp) (by simp<;>rfl) ?_; refine w_go 4000 ?_; simp)
    (refine w_call hP rfl (t2 _) (by simp) (by simp<;>rfl) ?_; refine w_go 4000 ?_; simp)
    (refine w_callg hP (by simp) rfl (fun hc=>⟨t5 _,by revert hc; simp; try grind,by simp⟩) ?_; refine w_go 4000 ?_; simp)
    refine goc_false (by simp; omega) ?_
    simp
    (refine w_call hP rfl (t3 _) (by simp) (by simp<;>rfl) ?_; refine w_go 4000 ?_; simp)
    (refine w_callg hP (by simp) rfl (fun hc=>⟨t4 _,by revert hc; simp; try grind,by simp⟩) ?_; refine w_go 4000 ?_; simp)
    rw[hR]; exact rt_end (by simp<;>rfl) [] trivial (end_pure (by simp) (by simp) (by simp))
  ·skip
   by_cases hc:fQuery l=0
   ·rw[qPr_ok hc] at hP1
    have hT:=fun id=>rSelT_ok (szL l+1) l id (by omega) (by omega)
    by_cases hl8:(tkB (tkSels l)).length≤2000∧(tkSels l).length≤300
    ·have hRl:=fun id=>qRead_ok (tkB (tkSels l)) id
     rw[qry_back hc hl8.1 hl8.2] at hRl
     have hRl:∀id,FnOk Tryz.prog 31 [.str (tkB (tkSels l))] [] id (.tup [.sl (l.map eSel),.int .i64 0]) []:=hRl
     have hS:=fun id=>same_selsK l id (by omega)
     refine fn_okc Tryz.func12 hcc12 (by decide) hcr12 (by simp[Tryz.ntmps12]) fun E hP hR hl hid=>?_
     simp only[cr12] at hR
     refine w_go 4000 ?_
     simp[cc12]
     (refine w_call hP rfl (hB _) (by simp) (by simp<;>rfl) ?_; refine w_go 4000 ?_; simp)
     (refine w_callg hP (by simp) rfl (fun hc=>⟨hL _,by revert hc; simp; try grind,by simp⟩) ?_; refine w_go 4000 ?_; simp)
     (refine w_call hP rfl (hP1 _) (by simp) (by simp<;>rfl) ?_; refine w_go 4000 ?_; simp)
     (refine w_call hP rfl (hRl _) (by simp) (by simp<;>rfl) ?_; refine w_go 4000 ?_; simp)
     (refine w_callg hP (by simp) rfl (fun hc=>⟨hT _,by revert hc; simp; try grind,by simp⟩) ?_; refine w_go 4000 ?_; simp)
     (refine w_callg hP (by simp) rfl (fun hc=>⟨hS _,by revert hc; simp; try grind,by simp⟩) ?_; refine w_go 4000 ?_; simp)
     (refine w_call hP rfl (hR2 _) (by simp) (by simp<;>rfl) ?_; refine w_go 4000 ?_; simp)
     (refine w_call hP rfl (t2 _) (by simp) (by simp<;>rfl) ?_; refine w_go 4000 ?_; simp)
     (refine w_callg hP (by simp) rfl (fun hc=>⟨t5 _,by revert hc; simp; try grind,by simp⟩) ?_; refine w_go 4000 ?_; simp)
     refine goc_true (by simp; omega) ?_
     simp
     (refine w_callg hP (by simp) rfl (fun hc=>⟨t5 _,by revert hc; simp; try grind,by simp⟩) ?_; refine w_go 4000 ?_; simp)
     rw[hR]; exact rt_end (by simp<;>rfl) [] trivial (end_pure (by simp) (by simp) (by simp))
    ·have hRl:=fun id=>qRead_ok (tkB (tkSels l)) id
     rw[qry_many hc (by omega)] at hRl
     have hRl:∀id,FnOk Tryz.prog 31 [.str (tkB (tkSels l))] [] id (.tup [.nils,.int .i64 2]) []:=hRl
     refine fn_okc Tryz.func12 hcc12 (by decide) hcr12 (by simp[Tryz.ntmps12]) fun E hP hR hl hid=>?_
     simp only[cr12] at hR
     refine w_go 4000 ?_
     simp[cc12]
     (refine w_call hP rfl (hB _) (by simp) (by simp<;>rfl) ?_; refine w_go 4000 ?_; simp)
     (refine w_callg hP (by simp) rfl (fun hc=>⟨hL _,by revert hc; simp; try grind,by simp⟩) ?_; refine w_go 4000 ?_; simp)
     (refine w_call hP rfl (hP1 _) (by simp) (by simp<;>rfl) ?_; refine w_go 4000 ?_; simp)
     (refine w_call hP rfl (hRl _) (by simp) (by simp<;>rfl) ?_; refine w_go 4000 ?_; simp)
     (refine w_callg hP (by simp) rfl (fun hc=>⟨hT _,by revert hc; simp; try grind,by simp⟩) ?_; refine w_go 4000 ?_; simp)
     refine w_callg hP (by simp) rfl (v:=.bool false) (rd:=[]) (fun hh=>by simp at hh) ?_
     refine w_go 4000 ?_
     simp
     refine⟨by omega,?_⟩
     refine goc_false (by simp; omega) ?_
     simp
     (refine w_call hP rfl (hR2 _) (by simp) (by simp<;>rfl) ?_; refine w_go 4000 ?_; simp)
     (refine w_call hP rfl (t2 _) (by simp) (by simp<;>rfl) ?_; refine w_go 4000 ?_; simp)
     (refine w_callg hP (by simp) rfl (fun hc=>⟨t5 _,by revert hc; simp; try grind,by simp⟩) ?_; refine w_go 4000 ?_; simp)
     refine goc_true (by simp; omega) ?_
     simp
     (refine w_callg hP (by simp) rfl (fun hc=>⟨t5 _,by revert hc; simp; try grind,by simp⟩) ?_; refine w_go 4000 ?_; simp)
     rw[hR]; exact rt_end (by simp<;>rfl) [] trivial (end_pure (by simp) (by simp) (by simp))
   ·rw[show qPr l=([],fQuery l) from by unfold qPr; rw[if_neg hc]] at hP1
    refine fn_okc Tryz.func12 hcc12 (by decide) hcr12 (by simp[Tryz.ntmps12]) fun E hP hR hl hid=>?_
    simp only[cr12] at hR
    refine w_go 4000 ?_
    simp[cc12]
    (refine w_call hP rfl (hB _) (by simp) (by simp<;>rfl) ?_; refine w_go 4000 ?_; simp)
    (refine w_callg hP (by simp) rfl (fun hc=>⟨hL _,by revert hc; simp; try grind,by simp⟩) ?_; refine w_go 4000 ?_; simp)
    (refine w_call hP rfl (hP1 _) (by simp) (by simp<;>rfl) ?_; refine w_go 4000 ?_; simp)
    refine goc_false (by simpa using hc) ?_
    simp
    (refine w_call hP rfl (hR2 _) (by simp) (by simp<;>rfl) ?_; refine w_go 4000 ?_; simp)
    (refine w_call hP rfl (t2 _) (by simp) (by simp<;>rfl) ?_; refine w_go 4000 ?_; simp)
    (refine w_callg hP (by simp) rfl (fun hc=>⟨t5 _,by revert hc; simp; try grind,by simp⟩) ?_; refine w_go 4000 ?_; simp)
    refine goc_true (by simp; omega) ?_
    simp
    (refine w_callg hP (by simp) rfl (fun hc=>⟨t5 _,by revert hc; simp; try grind,by simp⟩) ?_; refine w_go 4000 ?_; simp)
    rw[hR]; exact rt_end (by simp<;>rfl) [] trivial (end_pure (by simp) (by simp) (by simp))
end Go.Am
namespace Go.Proofs.YtgfmjhmjnnpcgaaGreatDoor
open Go Go.RowKit Go.Am
set_option maxRecDepth 100000
theorem Tryz.own:ownKnob Tryz.prog.godebug=none:=by kernel_rfl
theorem Tryz.laidOut:laidOutB Tryz.prog=true:=by kernel_rfl
noncomputable def tys(fn:Func):List TypeId:=closeT Tryz.prog 8 fn.params.toList
end Go.Proofs.YtgfmjhmjnnpcgaaGreatDoor
namespace Go.Proofs.YtgfmjhmjnnpcgaaGreatDoor
open Go Go.RowKit Go.Am
set_option maxRecDepth 100000
theorem fits_ag{n:Nat}{x:AV}(h:Fits Tryz.prog n 92 x):∃a:Ag,x=eAg a:=by
 obtain⟨m,ys,rfl,rfl,h0⟩:=fits_st Tryz.underlying92 h
 obtain⟨a,ys,rfl,ha,h0⟩:=fitsL_cons h0
 obtain⟨b,ys,rfl,hb,h0⟩:=fitsL_cons h0
 obtain⟨c,ys,rfl,hc,h0⟩:=fitsL_cons h0
 obtain⟨d,ys,rfl,hd,h0⟩:=fitsL_cons h0
 obtain rfl:=fitsL_nil h0
 obtain⟨a,rfl,_⟩:=fits_str Tryz.underlying9 ha
 obtain⟨b,rfl⟩:=fits_bool Tryz.underlying4 hb
 obtain⟨c,rfl,_⟩:=fits_str Tryz.underlying9 hc
 obtain⟨d,rfl,_⟩:=fits_int Tryz.underlying3 hd
 exact⟨⟨a,b,c,d⟩,rfl⟩
theorem fits_sel:∀(n:Nat) {x:AV},Fits Tryz.prog n 52 x→∃s:Sel,x=eSel s:=by
 intro n
 induction n using Nat.strongRecOn with
 | _ n ih =>
  intro x h
  obtain⟨m,ys,rfl,rfl,h0⟩:=fits_st Tryz.underlying52 h
  obtain⟨a,ys,rfl,ha,h0⟩:=fitsL_cons h0
  obtain⟨b,ys,rfl,hb,h0⟩:=fitsL_cons h0
  obtain⟨c,ys,rfl,hc,h0⟩:=fitsL_cons h0
  obtain⟨d,ys,rfl,hd,h0⟩:=fitsL_cons h0
  obtain rfl:=fitsL_nil h0
  obtain⟨a,rfl,_⟩:=fits_str Tryz.underlying9 ha
  obtain⟨b,rfl,_⟩:=fits_str Tryz.underlying9 hb
  obtain⟨k,xs,_,rfl,_,hx⟩:=fits_sl Tryz.underlying50 hc
  obtain⟨xs,rfl⟩:=exists_map fun y hy=>fits_ag (hx y hy)
  obtain⟨k,ks,rfl,rfl,_,hk⟩:=fits_sl Tryz.underlying48 hd
  obtain⟨ks,rfl⟩:=exists_map fun y hy=>ih k (by omega) (hk y hy)
  exact⟨.mk a b xs ks,by rw[eSel_eq]; rfl⟩
theorem fits_sels{n:Nat}{x:AV}(h:Fits Tryz.prog n 48 x):∃l:List Sel,x = .sl (l.map eSel):=by
 obtain⟨k,xs,rfl,rfl,hl,hx⟩:=fits_sl Tryz.underlying48 h
 obtain⟨l,rfl⟩:=exists_map fun y hy=>fits_sel _ (hx y hy)
 exact⟨l,rfl⟩
mutual
def sizeA:AV→Nat
 | .sl xs=>sizeS xs
 | .agg cs=>sizeC cs
 | _=>0
def sizeS:List AV→Nat
 | []=>0
 | x::r=>1+sizeA x+sizeS r
def sizeC:List AV→Nat
 | []=>0
 | x::r=>sizeA x+sizeC r
end
theorem sizeC_append(a b:List AV):sizeC (a++b)=sizeC a+sizeC b:=by
 induction a with
 | nil=>simp[sizeC]
 | cons x r ih=>simp only[List.cons_append,sizeC,ih]; omega
theorem sizeC_cells(x:AV):sizeC x.cells=sizeA x:=by
 cases x<;>simp[AV.cells,sizeC,sizeA]
mutual
theorem size_bulk{H:Type}:∀d:DataW H,sizeA (avOf d)+1≤Rows.uptoBulk d
 | .lit l=>by cases l<;>simp[avOf,sizeA,Rows.uptoBulk]
 | .nil=>by simp[avOf,sizeA,sizeS,Rows.uptoBulk]
 | .ptr d=>by simp[avOf,sizeA,Rows.uptoBulk]
 | .slice elems spare=>by
  have:=size_bulks elems
  simp only[avOf,sizeA,Rows.uptoBulk]
  omega
 | .agg parts=>by
  have:=size_bulkc parts
  simp only[avOf,sizeA,Rows.uptoBulk]
  omega
 | .iface t d=>by simp[avOf,sizeA,Rows.uptoBulk]
 | .map es=>by simp[avOf,sizeA,Rows.uptoBulk]
 | .held h=>by simp[avOf,sizeA,Rows.uptoBulk]
theorem size_bulks{H:Type}:∀l:List (DataW H),sizeS (avAll l)≤Rows.uptoBulkAll l
 | []=>by simp[avAll,sizeS]
 | d::r=>by
  have:=size_bulk d
  have:=size_bulks r
  simp only[avAll,sizeS,Rows.uptoBulkAll]
  omega
theorem size_bulkc{H:Type}:∀l:List (DataW H),sizeC (avCells l)≤Rows.uptoBulkAll l
 | []=>by simp[avCells,sizeC]
 | d::r=>by
  have:=size_bulk d
  have:=size_bulkc r
  simp only[avCells,sizeC_append,sizeC_cells,Rows.uptoBulkAll]
  omega
end
theorem sizeS_ags(l:List Ag):sizeS (l.map eAg)=l.length:=by
 induction l with
 | nil=>simp[sizeS]
 | cons a r ih=>simp only[List.map_cons,sizeS,eAg_eq,sizeA,sizeC,ih,List.length_cons]; omega
mutual
theorem sizeA_sel:∀s:Sel,1+sizeA (eSel s)=s.sz
 | .mk a n x k=>by
  have:=sizeS_sels k
  simp only[eSel,sizeA,sizeC,sizeS_ags,Sel.sz,this]
  omega
theorem sizeS_sels:∀l:List Sel,sizeS (eSels l)=szL l
 | []=>by simp[eSels,sizeS,szL]
 | s::r=>by
  have:=sizeA_sel s
  have:=sizeS_sels r
  simp only[eSels,sizeS,szL]
  omega
end
theorem sz_le{H:Type}{ds:List (DataW H)}{d:DataW H}{q:List Sel}(hd:d∈ds)(he:avOf d = .sl (q.map eSel))(hk:Rows.uptoBulkAll ds≤1048576):szL q≤1048576:=by
 have h1:=size_bulk d
 rw[he,←eSels_map] at h1
 simp only[sizeA,sizeS_sels] at h1
 have h2:Rows.uptoBulk d≤Rows.uptoBulkAll ds:=by
  clear h1 he hk
  induction ds with
  | nil=>cases hd
  | cons x r ih =>
   simp only[Rows.uptoBulkAll]
   rcases List.mem_cons.1 hd with e|h
   ·subst e; omega
   ·have:=ih h; omega
 omega
end Go.Proofs.YtgfmjhmjnnpcgaaGreatDoor
namespace Go.Proofs.YtgfmjhmjnnpcgaaGreatDoor
open Go Go.RowKit Go.Am
set_option maxRecDepth 100000
theorem laid_mem{P:Program}{W:World}:∀{l:List (String×DataW Unit)} {ps:List MemPlace},DataW.LaidVars P W l ps→∀x∈l,∃g t cs fuel p,P.globalNamed x.1=some g∧(P.globals[g]?).map (·.type)=some t∧W.var? P x.1=some cs∧DataW.trod (fun _=>()) P W 0 (fun _=>true) false fuel t cs.toList=some (x.2,p)
 | [],_,_,x,hx=>by cases hx
 | (n,d)::r,ps,⟨g,t,cs,fuel,p,q,h1,h2,h3,h4,h5,_⟩,x,hx=>by
  rcases List.mem_cons.1 hx with rfl|hx
  ·exact⟨g,t,cs,fuel,p,h1,h2,h3,h4⟩
  ·exact laid_mem h5 x hx
theorem err_cell{P:Program}{W:World}{g t:Nat}{name T:String}{m:Array (String×TypeId)}{cs:Array Value}{d:DataW Unit}{fuel:Nat}{p:List MemPlace}(hu:P.underlying t=some (.interface m))(hg:P.globalNamed name=some g)(hv:W.var? P name=some cs)
  (h:DataW.trod (fun _=>()) P W 0 (fun _=>true) false fuel t cs.toList=some (.iface T d,p)):∃v,W.cell? ⟨g,0,none⟩=some v∧(v = .nilIface∨∃te pe,v = .iface te pe):=by
 have hc:∃u v,cs.toList=[.iface u v]:=by
  cases fuel with
  | zero=>cases h
  | succ fuel =>
   simp only[DataW.trod,hu] at h
   split at h
   all_goals first|cases h; done|exact⟨_,_,by assumption⟩|(simp_all; done)|skip
 obtain⟨u,v,hc⟩:=hc
 refine⟨.iface u v,?_,.inr ⟨u,v,rfl⟩⟩
 unfold World.var? at hv
 rw[hg] at hv
 simp only[Option.bind_some] at hv
 unfold World.cell?
 split at hv
 ·rename_i cs' e f hh
  injection hv with hv
  subst hv
  rw[hh]
  have:cs' = #[.iface u v]:=by cases cs'; simp at hc ⊢; exact hc
  rw[this]; rfl
 ·cases hv
noncomputable abbrev laidA:List (String×DataW Unit):=Rows.schemaTurnedUptoRow.laid
theorem laid_plain{W:World}(h:laidMetH Tryz.prog laidA W):laidMet Tryz.prog laidA W:=h
theorem tabs_laid{W:World}(h:laidMetH Tryz.prog laidA W):Tabs Tryz.prog W:=by
 obtain⟨ps,hv,_,_⟩:=laid_plain h
 refine⟨fun t ht g hg=>?_,fun n hn g hg=>?_⟩
 ·skip
  rw [show t = ("internal/strconv.uint64pow10", .u64, Lib.pow10Tab) by simpa [tabL] using ht]
  obtain ⟨g', t', cs, fuel, p, h1, h2, h3, h4⟩ := laid_mem hv ("internal/strconv.uint64pow10", Lib.tabData .u64 Lib.pow10Tab) (.tail _ (.tail _ (.head _)))
  obtain rfl := Option.some.inj ((show Tryz.prog.globalNamed "internal/strconv.uint64pow10" = some 3 by kernel_rfl).symm.trans h1)
  obtain rfl:=Option.some.inj ((show (Tryz.prog.globals[3]?).map (·.type)=some 206 by kernel_rfl).symm.trans h2)
  unfold Lib.TabIs
  rw[h3,←Lib.cells_of_tab Tryz.underlying206 Tryz.underlying178 (by kernel_rfl) (by kernel_rfl) h4]
 ·simp only[errL,List.mem_cons,List.not_mem_nil,or_false] at hn
  rcases hn with rfl|rfl
  ·skip
   obtain ⟨g', t', cs, fuel, p, h1, h2, h3, h4⟩ := laid_mem hv ("strconv.ErrSyntax", Rows.laid_strconv_ErrSyntax) (.tail _ (.tail _ (.tail _ (.tail _ (.head _)))))
   obtain rfl := Option.some.inj ((show (Tryz.prog.globalNamed "strconv.ErrSyntax") = some 1 by kernel_rfl).symm.trans h1)
   obtain rfl:=Option.some.inj ((show (Tryz.prog.globals[1]?).map (·.type)=some 125 by kernel_rfl).symm.trans h2)
   obtain rfl:=Option.some.inj (h1.symm.trans hg)
   exact err_cell Tryz.underlying125 h1 h3 h4
  ·skip
   obtain ⟨g', t', cs, fuel, p, h1, h2, h3, h4⟩ := laid_mem hv ("strconv.ErrRange", Rows.laid_strconv_ErrRange) (.tail _ (.tail _ (.tail _ (.head _))))
   obtain rfl := Option.some.inj ((show (Tryz.prog.globalNamed "strconv.ErrRange") = some 2 by kernel_rfl).symm.trans h1)
   obtain rfl:=Option.some.inj ((show (Tryz.prog.globals[2]?).map (·.type)=some 125 by kernel_rfl).symm.trans h2)
   obtain rfl:=Option.some.inj (h1.symm.trans hg)
   exact err_cell Tryz.underlying125 h1 h3 h4
def cellsD:DataW Unit→Array Value
 | .agg l=>(l.map fun | .lit (.int k n)=>Value.int k n|_=>undef).toArray
 | _=>#[]
def strD:DataW Unit→Value
 | .iface _ (.ptr (.agg [.lit (.string s)]))=>.string ⟨⟨s⟩⟩
 | _=>undef
def layCells(vs:Array Value):Obj→Obj
 | .cells _ t frozen=>.cells vs t frozen
 | o=>o
noncomputable def laidHeap(h:Array Obj):Array Obj :=
 (((((h.modify 3 (layCells (cellsD Rows.laid_internal_strconv_uint64pow10))).modify 4 (layCells (cellsD Rows.laid_math_bits_deBruijn32tab))).modify 5 (layCells (cellsD Rows.laid_math_bits_deBruijn64tab))).modify
  1 (layCells #[.iface 224 (.pointer (some ⟨h.size,0,none⟩))])).modify 2 (layCells #[.iface 224 (.pointer (some ⟨h.size+1,0,none⟩))])) ++
  #[.cells #[strD Rows.laid_strconv_ErrSyntax] 226 (0,0),.cells #[strD Rows.laid_strconv_ErrRange] 226 (0,0)]
noncomputable def laidWorld(os:Os):World :=
 { World.holding Tryz.prog os ⟨#[],#[],[]⟩ with heap:=laidHeap (World.holding Tryz.prog os ⟨#[],#[],[]⟩).heap }
end Go.Proofs.YtgfmjhmjnnpcgaaGreatDoor
