/- Parts of the proof: an abstract machine for Go functions, and what functions of the program give back (Rj14, Rj15). No condition. -/
import Derived.Test.YthghjjancoopoaaDoorYT
import Derived.Test.YthghjjancoopoaaDoorXD
namespace Go.Am
set_option linter.all false
open Go Go.RowKit Go.Proofs
set_option maxRecDepth 100000
set_option linter.all false
theorem szOL_app(l:List Out)(o:Out):szOL (l++[o])=szOL l+o.sz:=by
 induction l with
 | nil=>simp[szOL]
 | cons x r ih=>simp only[List.cons_append,szOL,ih]; omega
theorem okOs_app{l:List Out}{o:Out}(h:okOs l)(ho:okO o):okOs (l++[o]):=by
 induction l with
 | nil=>exact⟨ho,trivial⟩
 | cons x r ih=>exact⟨h.1,ih h.2⟩
theorem pText_len{s t u:List UInt8}(h:pText s=some (t,u)):t.length+u.length+2≤s.length:=by
 have:=pText_eq h
 have h2:=qL_len t
 rw[this]; simp[quoted]; omega
theorem comma_len{first:Bool}{s t:List UInt8}(h:pComma first s=some t):t.length≤s.length:=by
 rw[comma_eq h]; simp
theorem cut_len{s w:List UInt8}{n:Nat}(h:cutB s w=true)(hw:w.length=n):(s.drop n).length+n=s.length:=by
 have:=((cutB_iff s w).1 h).1
 rw[List.length_drop]; omega
theorem pOut_szs:∀n:Nat,(∀s o u,s.length≤9223372036854775807→pOut n s=some (o,u)→o.sz+u.length≤s.length∧okO o) ∧
  (∀first l s l' u,s.length≤9223372036854775807→okOs l→pItems n first l s=some (l',u)→szOL l'+u.length+1≤szOL l+s.length∧okOs l') ∧
  (∀first ks l s ks' l' u,s.length≤9223372036854775807→okOs l→(∀k∈ks,k.length≤9223372036854775807)→pPairs n first ks l s=some (ks',l',u)→ks'.length+szOL l'+u.length+1≤ks.length+szOL l+s.length∧okOs l'∧∀k∈ks',k.length≤9223372036854775807)
 | 0=>⟨fun s o u _ h=>by simp[pOut] at h,fun _ _ _ _ _ _ _ h=>by simp[pItems] at h,fun _ _ _ _ _ _ _ _ _ _ h=>by simp[pPairs] at h⟩
 | n+1=>by
  obtain⟨ih1,ih2,ih3⟩:=pOut_szs n
  refine⟨fun s o u h8 h=>?_,fun first l s l' u h8 hl h=>?_,fun first ks l s ks' l' u h8 hl hk h=>?_⟩
  ·simp only[pOut] at h
   split at h
   ·rename_i h1
    simp only[Option.some.injEq,Prod.mk.injEq] at h
    obtain⟨rfl,rfl⟩:=h
    have:=cut_len (n:=4) h1 rfl
    exact⟨by rw[show oNone.sz=1 from rfl]; omega,by rw[okO_eq]; exact⟨fun s hs=>by simp[oNone,Out.keys] at hs,trivial⟩⟩
   split at h
   ·obtain⟨p,hp,h2⟩:=Option.map_eq_some_iff.1 h
    simp only[Prod.mk.injEq] at h2
    obtain⟨rfl,rfl⟩:=h2
    have:=pText_len hp
    exact⟨by rw[show (oText p.1).sz=1 from rfl]; omega,by rw[okO_eq]; exact⟨fun s hs=>by simp[oText,Out.keys] at hs,trivial⟩⟩
   split at h
   ·rename_i h1
    obtain⟨p,hp,h2⟩:=Option.map_eq_some_iff.1 h
    simp only[Prod.mk.injEq] at h2
    obtain⟨rfl,rfl⟩:=h2
    have h3:=cut_len (n:=1) h1 rfl
    obtain⟨h4,h5⟩:=ih2 _ _ _ _ _ (by omega) (show okOs [] from trivial) hp
    refine⟨?_,by rw[okO_eq]; exact⟨fun s hs=>by simp[oList,Out.keys] at hs,h5⟩⟩
    rw[szO_eq]
    simp only[oList,Out.keys,Out.kids,List.length_nil,szOL] at h4 ⊢
    omega
   split at h
   ·rename_i h1
    obtain⟨⟨a,b,c⟩,hp,h2⟩:=Option.map_eq_some_iff.1 h
    simp only[Prod.mk.injEq] at h2
    obtain⟨rfl,rfl⟩:=h2
    have h3:=cut_len (n:=1) h1 rfl
    obtain⟨h4,h5,h6⟩:=ih3 _ _ _ _ _ _ _ (by omega) (show okOs [] from trivial) (fun k hk=>by cases hk) hp
    refine⟨?_,by rw[okO_eq]; exact⟨h6,h5⟩⟩
    rw[szO_eq]
    simp only[oMap,Out.keys,Out.kids,List.length_nil,szOL] at h4 ⊢
    omega
   ·obtain⟨p,hp,h2⟩:=Option.map_eq_some_iff.1 h
    simp only[Prod.mk.injEq] at h2
    obtain⟨rfl,rfl⟩:=h2
    have h3:=pNum_eq hp
    obtain⟨c,r,h4,_⟩:=itoa_head p.1
    have h5:=congrArg List.length h3
    rw[h4] at h5
    simp at h5
    exact⟨by rw[show (oNum p.1).sz=1 from rfl]; omega,by rw[okO_eq]; exact⟨fun s hs=>by simp[oNum,Out.keys] at hs,trivial⟩⟩
  ·simp only[pItems] at h
   split at h
   ·rename_i h1
    simp only[Option.some.injEq,Prod.mk.injEq] at h
    obtain⟨rfl,rfl⟩:=h
    have h3:=cut_len (n:=1) h1 rfl
    exact⟨by omega,hl⟩
   ·split at h
    ·cases h
    rename_i t ht
    split at h
    ·cases h
    rename_i o v ho
    have h3:=comma_len ht
    obtain⟨h4,h5⟩:=ih1 _ _ _ (by omega) ho
    obtain⟨h6,h7⟩:=ih2 _ _ _ _ _ (by omega) (okOs_app hl h5) h
    rw[szOL_app] at h6
    exact⟨by omega,h7⟩
  ·simp only[pPairs] at h
   split at h
   ·rename_i h1
    simp only[Option.some.injEq,Prod.mk.injEq] at h
    obtain⟨rfl,rfl,rfl⟩:=h
    have h3:=cut_len (n:=1) h1 rfl
    exact⟨by omega,hl,hk⟩
   ·split at h
    ·cases h
    rename_i t ht
    split at h
    ·cases h
    rename_i k0 v hv
    split at h
    ·rename_i hc
     split at h
     ·cases h
     rename_i o x ho
     have h3:=comma_len ht
     have h8':=pText_len hv
     have h9:=cut_len (n:=1) hc rfl
     obtain⟨h4,h5⟩:=ih1 _ _ _ (by omega) ho
     obtain⟨h6,h7,h10⟩:=ih3 _ _ _ _ _ _ _ (by omega) (okOs_app hl h5) (fun k hk'=>by
      rcases List.mem_append.1 hk' with hk'|hk'
      ·exact hk k hk'
      ·obtain rfl:=List.mem_singleton.1 hk'; omega) h
     rw[szOL_app] at h6
     simp only[List.length_append,List.length_cons,List.length_nil] at h6
     exact⟨by omega,h7,h10⟩
    ·cases h
theorem pAll_sz{s:List UInt8}{o:Out}(h8:s.length≤9223372036854775807)(h:pAll s=some o):o.sz≤s.length∧okO o:=by
 unfold pAll at h
 split at h
 ·rename_i o' h1
  injection h with h
  subst h
  obtain⟨h2,h3⟩:=(pOut_szs _).1 _ _ _ h8 h1
  exact⟨by simp at h2; omega,h3⟩
 ·cases h
def fRead(s:List UInt8):Out×Int:=if 20000<s.length then (oZ,2) else match pAll s with
 | none=>(oZ,1)
 | some o=>if fOut o=0 then (o,0) else (oZ,fOut o)
theorem zOut_eq:zOut = .agg [.int .i64 0,.int .i64 0,.str [],.nils,.nils]:=rfl
set_option maxHeartbeats 8000000 in
theorem read_ok(s:List UInt8)(id:Nat):FnOk Tryd.prog 10 [.str s] [] id (.tup [eO (fRead s).1,.int .i64 (fRead s).2]) []:=by
 have hz:∀e:Int,(AV.tup [.agg [.int .i64 0,.int .i64 0,.str [],.nils,.nils],.int .i64 e]).nrm = .tup [eO oZ,.int .i64 e]:=fun e=>rfl
 by_cases h1:20000<s.length
 ·have e:fRead s=(oZ,2):=by unfold fRead; rw[if_pos h1]
  rw[e,←hz]
  refine FnOk.nrm ?_
  refine fn_okc Tryd.func10 hcc10 (by decide) hcr10 (by simp[Tryd.ntmps10]) fun E hP hR hl hid=>?_
  simp only[cr10] at hR
  refine w_go 4000 ?_
  simp[cc10]
  refine goc_true (by simp; omega) ?_
  simp
  rw[hR]; exact rt_end (by simp<;>rfl) [] trivial (end_pure (by simp) (by simp) (by simp))
 have hPr:=fun id=>prs_ok s id (by omega)
 cases hp:pAll s with
 | none =>
  have e:fRead s=(oZ,1):=by unfold fRead; rw[if_neg h1,hp]
  have e1:prsO s=zOut:=by unfold prsO; rw[hp]
  have e2:prsB s=false:=by unfold prsB; rw[hp]; rfl
  rw[e1,e2,zOut_eq] at hPr
  rw[e,←hz]
  refine FnOk.nrm ?_
  refine fn_okc Tryd.func10 hcc10 (by decide) hcr10 (by simp[Tryd.ntmps10]) fun E hP hR hl hid=>?_
  simp only[cr10] at hR
  refine w_go 4000 ?_
  simp[cc10]
  refine goc_false (by simp; omega) ?_
  simp
  (refine w_call hP rfl (hPr _) (by simp) (by simp<;>rfl) ?_; refine w_go 4000 ?_; simp)
  rw[hR]; exact rt_end (by simp<;>rfl) [] trivial (end_pure (by simp) (by simp) (by simp))
 | some o =>
  have e1:prsO s=eO o:=by unfold prsO; rw[hp]
  have e2:prsB s=true:=by unfold prsB; rw[hp]; rfl
  obtain⟨h2,h3⟩:=pAll_sz (by omega) hp
  have hC:=fun id=>oCheck_ok o id (by omega) h3
  obtain⟨ok,on,ot,oks,ols,hoe⟩:=eO_agg o
  rw[e1,e2,hoe] at hPr
  rw[hoe] at hC
  by_cases h4:fOut o=0
  ·have e:fRead s=(o,0):=by unfold fRead; rw[if_neg h1,hp]; simp only; rw[if_pos h4]
   rw[h4] at hC
   rw[e,hoe]
   refine fn_okc Tryd.func10 hcc10 (by decide) hcr10 (by simp[Tryd.ntmps10]) fun E hP hR hl hid=>?_
   simp only[cr10] at hR
   refine w_go 4000 ?_
   simp[cc10]
   refine goc_false (by simp; omega) ?_
   simp
   (refine w_call hP rfl (hPr _) (by simp) (by simp<;>rfl) ?_; refine w_go 4000 ?_; simp)
   (refine w_call hP rfl (hC _) (by simp) (by simp<;>rfl) ?_; refine w_go 4000 ?_; simp)
   rw[hR]; exact rt_end (by simp<;>rfl) [] trivial (end_pure (by simp) (by simp) (by simp))
  ·have e:fRead s=(oZ,fOut o):=by unfold fRead; rw[if_neg h1,hp]; simp only; rw[if_neg h4]
   rw[e,←hz]
   refine FnOk.nrm ?_
   refine fn_okc Tryd.func10 hcc10 (by decide) hcr10 (by simp[Tryd.ntmps10]) fun E hP hR hl hid=>?_
   simp only[cr10] at hR
   refine w_go 4000 ?_
   simp[cc10]
   refine goc_false (by simp; omega) ?_
   simp
   (refine w_call hP rfl (hPr _) (by simp) (by simp<;>rfl) ?_; refine w_go 4000 ?_; simp)
   (refine w_call hP rfl (hC _) (by simp) (by simp<;>rfl) ?_; refine w_go 4000 ?_; simp)
   refine goc_true (by simpa using h4) ?_
   simp
   rw[hR]; exact rt_end (by simp<;>rfl) [] trivial (end_pure (by simp) (by simp) (by simp))
end Go.Am
namespace Go.Am
set_option linter.all false
open Go Go.RowKit Go.Proofs
set_option maxRecDepth 100000
set_option linter.all false
def outJ:Out:=oMap [[97]] [oList [oNone,oText [113,34,1,10]]]
def txtJ:List UInt8:=[123,34,97,34,58,91,110,117,108,108,44,34,113,92,34,92,117,48,48,48,49,92,110,34,93,125]
theorem out_j:fOut outJ=0:=by decide
theorem okO_j:okO outJ:=by simp[outJ,oMap,oList,oNone,oText,okO,okOs]
theorem jS_j:jS outJ=txtJ:=by decide
theorem fRead_j:fRead txtJ=(outJ,0):=by
 unfold fRead
 rw[if_neg (by decide),←jS_j,pAll_of (by decide)]
 simp only
 rw[if_pos out_j]
theorem eO_j:eO outJ = .agg [.int .i64 5,.int .i64 0,.str [],.sl [.str [97]],.sl [.agg [.int .i64 4,.int .i64 0,.str [],.sl [],.sl [.agg [.int .i64 1,.int .i64 0,.str [],.sl [],.sl []],.agg [.int .i64 3,.int .i64 0,.str [113,34,1,10],.sl [],.sl []]]]]]:=rfl
theorem Rd.own{L:List (Nat×Bx)}{id n:Nat}{b:Bx}(hb:(id,b)∈L)(hn:b.xs.length=n):Rd L (.bsl id 0 n) (.sl b.xs) :=
 .bsl id 0 n b b.xs hb (by omega) hn (fun i x y hx hy=>by rw[Nat.zero_add,hy] at hx; injection hx with hx; rw[hx]) (fun i x y j c d hx hy hc hd=>by rw[Nat.zero_add,hy] at hx; injection hx with hx; subst hx; rw[hc] at hd; injection hd with hd; rw[hd]; exact .same _)
set_option maxHeartbeats 8000000 in
theorem jsonBegun_ok(id:Nat):FnOk Tryd.prog 8 [] [] id (.bool true) []:=by
 have hPr:∀id,FnOk Tryd.prog 7 [.agg [.int .i64 5,.int .i64 0,.str [],.sl [.str [97]],.sl [.agg [.int .i64 4,.int .i64 0,.str [],.nils,.sl [.agg [.int .i64 1,.int .i64 0,.str [],.nils,.nils],.agg [.int .i64 3,.int .i64 0,.str [113,34,1,10],.nils,.nils]]]]]] [] id (.tup [.str txtJ,.int .i64 0]) []:=fun id=>by
  have:=jPrint_ok outJ id (by decide) okO_j
  rw[show fPrint outJ=txtJ by unfold fPrint; rw[if_pos out_j,jS_j],out_j] at this
  exact FnOk.nrmA this
 have hRd:=fun id=>read_ok txtJ id
 rw[fRead_j,eO_j] at hRd
 have hS:∀id,FnOk Tryd.prog 9 [.agg [.int .i64 5,.int .i64 0,.str [],.sl [.str [97]],.sl [.agg [.int .i64 4,.int .i64 0,.str [],.sl [],.sl [.agg [.int .i64 1,.int .i64 0,.str [],.sl [],.sl []],.agg [.int .i64 3,.int .i64 0,.str [113,34,1,10],.sl [],.sl []]]]]],.agg [.int .i64 5,.int .i64 0,.str [],.sl [.str [97]],.sl [.agg [.int .i64 4,.int .i64 0,.str [],.nils,.sl [.agg [.int .i64 1,.int .i64 0,.str [],.nils,.nils],.agg [.int .i64 3,.int .i64 0,.str [113,34,1,10],.nils,.nils]]]]]] [] id (.bool true) []:=fun id=>by
  have:=Same_ok (outJ.sz+1) outJ outJ id (Nat.lt_succ_self _) (by decide)
  rw[decide_eq_true rfl] at this
  exact FnOk.nrmA this
 unfold txtJ at hPr hRd
 refine fn_okc Tryd.func8 hcc8 (by decide) hcr8 (by simp[Tryd.ntmps8]) fun E hP hR hl hid=>?_
 simp only[cr8] at hR
 refine w_go 51 ?_
 simp[cc8]
 refine w_conv (Conv.deepBox (E.n0+8192) [(E.n0+6144,⟨[.agg [.int .i64 4,.int .i64 0,.str [],.nils,.sl [.agg [.int .i64 1,.int .i64 0,.str [],.nils,.nils],.agg [.int .i64 3,.int .i64 0,.str [113,34,1,10],.nils,.nils]]]],.agg [.int .i64 0,.int .i64 0,.str [],.nils,.nils],false,false⟩),(E.n0+1024,⟨[.str [97]],.str [],false,false⟩)] [] (x:=.agg [.int .i64 5,.int .i64 0,.str [],.bsl (E.n0+1024) 0 1,.bsl (E.n0+6144) 0 1]) (y:=.agg [.int .i64 5,.int .i64 0,.str [],.sl [.str [97]],.sl [.agg [.int .i64 4,.int .i64 0,.str [],.nils,.sl [.agg [.int .i64 1,.int .i64 0,.str [],.nils,.nils],.agg [.int .i64 3,.int .i64 0,.str [113,34,1,10],.nils,.nils]]]]]) (by simp; rfl) rfl rfl (fun m c d h1 h2=>?_) (fun q hq=>?_) ⟨fun y b hb=>?_,fun q hq=>?_⟩ (fun q hq=>?_)) ?_
 ·match m,h1,h2 with
  | 0,h1,h2|1,h1,h2|2,h1,h2=>simp at h1 h2; rw[←h1,←h2]; exact .same _
  | 3,h1,h2=>simp at h1 h2; rw[←h1,←h2]; exact Rd.own (b:=⟨[.str [97]],.str [],false,false⟩) (by simp) rfl
  | 4,h1,h2=>simp at h1 h2; rw[←h1,←h2]; exact Rd.own (b:=⟨[.agg [.int .i64 4,.int .i64 0,.str [],.nils,.sl [.agg [.int .i64 1,.int .i64 0,.str [],.nils,.nils],.agg [.int .i64 3,.int .i64 0,.str [113,34,1,10],.nils,.nils]]]],.agg [.int .i64 0,.int .i64 0,.str [],.nils,.nils],false,false⟩) (by simp) rfl
  | m+5,h1,h2=>simp at h1
 ·simp at hq
  rcases hq with rfl|rfl<;>simp
 ·cases hb
 ·simp at hq
  rcases hq with h|h|h|h|h|h<;>subst h<;>simp
 ·simp at hq
  rcases hq with rfl|rfl<;>simp
 refine w_go 4000 ?_
 simp
 (refine w_call hP rfl (hPr _) (by simp) (by simp<;>rfl) ?_; refine w_go 4000 ?_; simp)
 (refine w_call hP rfl (hRd _) (by simp) (by simp<;>rfl) ?_; refine w_go 4000 ?_; simp)
 (refine w_callg hP (by simp) rfl (fun hc=>⟨hS _,by revert hc; simp; try grind,by simp⟩) ?_; refine w_go 4000 ?_; simp)
 rw[hR]; exact rt_end (by simp<;>rfl) [] trivial (end_pure (by simp) (by simp) (by simp))
end Go.Am
