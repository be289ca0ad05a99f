/- Texts read as outs: an out. No condition. -/
import Derived.Test.YthghjjancoopoaaDoorYR
namespace Go.Am
set_option linter.all false
open Go Go.RowKit Go.Proofs
set_option maxRecDepth 100000
set_option linter.all false
theorem rd_ok{P:Program}{f:Nat}{args:List AV}{rd:List (Nat×Bx)}{id J n:Nat}{z s u:List UInt8}{o:Out}{w:AV}(hp:pOut n s=some (o,u))(hw:w.nrm=eO o)(h:FnE P f args rd id (.ok (w,[(J,some (bS z u))]))):FnE P f args rd id (rdR J z (outR (pOut n s))):=by
 rw[hp]
 show FnOk P f args rd id (eO o) [(J,some (bS z u))]
 rw[←hw]
 exact FnOk.nrm h
theorem rd_no{P:Program}{f:Nat}{args:List AV}{rd:List (Nat×Bx)}{id J n:Nat}{z s:List UInt8}(hp:pOut n s=none)(h:FnE P f args rd id (.error wv)):FnE P f args rd id (rdR J z (outR (pOut n s))):=by
 rw[hp]; exact h
theorem nrm_list(l:List Out):(AV.agg [.int .i64 4,.int .i64 0,.str [],.nils,.sl (l.map eO)]).nrm=eO (oList l):=by
 have:=nrm_eOs l
 rw[eOs_map] at this
 unfold oList
 rw[eO_eq]
 simp[AV.nrm,nrmL] at this ⊢
 exact this
theorem nrm_map(ks:List (List UInt8))(l:List Out):(AV.agg [.int .i64 5,.int .i64 0,.str [],.sl (ks.map .str),.sl (l.map eO)]).nrm=eO (oMap ks l):=by
 have:=nrm_eO (oMap ks l)
 unfold oMap at this ⊢
 rw[eO_eq] at this ⊢
 exact this
theorem pairs_len{n:Nat}{ks:List (List UInt8)}{l:List Out}{s u:List UInt8}(h:pPairs n true [] [] s=some (ks,l,u)):ks.length=l.length:=by
 obtain⟨kk,k,h1,h2,h3,_⟩:=(pOut_eqs n).2.2 _ _ _ _ _ _ _ h
 rw[h1,h2]; simpa using h3
set_option maxHeartbeats 16000000 in
theorem out_step{n:Nat}(hO:∀m,m<n→OutIs m):OutIs (n+1):=by
 intro z s J id hn h8
 have ht1:=fun id=>try_ok z s [110,117,108,108] J id
 have ht2:=fun id=>hasPrefix_ok s [34] id
 have ht3:=fun id=>try_ok z s [91] J id
 have ht4:=fun id=>try_ok z s [123] J id
 by_cases g1:cutB s [110,117,108,108]=true
 ·refine rd_ok (w:=.agg [.int .i64 1,.int .i64 0,.str [],.nils,.nils]) (pOut_null g1) rfl ?_
  rw[g1,cutL_yes g1] at ht1
  rw[bS_eq,bS_eq] at ht1
  rw[bS_eq]
  refine fn_okE Tryd.func36 hcc36 (by decide) hcr36 (by simp[Tryd.ntmps36]) fun E hP hR hPn hl hid hB hu=>?_
  simp only[cr36] at hR
  refine w_go 4000 ?_
  simp[cc36]
  have hJ:=hl (J,_) (List.mem_cons_self ..)
  simp only at hJ
  have J1:=lf hJ
  (refine w_call hP rfl (ht1 _) (by simp[J1]) (by simp[J1]<;>rfl) ?_; refine w_go 4000 ?_; simp[J1])
  have hrn:rnOk []:=by simp[bS,J1,idO hid]
  refine hR _ _ _ (rfl) ?_
  refine rt_end (by simp[bS,J1,idO hid]<;>rfl) [] hrn ⟨?_,?_,?_,?_,?_,?_⟩<;>(try simp[bS,J1,idO hid])
 have g1:cutB s [110,117,108,108]=false:=by simpa using g1
 rw[g1,cutL_no g1] at ht1
 by_cases g2:cutB s [34]=true
 ·rw[g2] at ht2
  have hx:=fun id=>text_ok z s J id h8
  cases hp:pText s with
  | none =>
   rw[hp] at hx
   change ∀id,FnE _ _ _ _ _ (.error wv) at hx
   refine rd_no (by simp only[pOut]; rw[g1,if_neg (by simp),if_pos g2,hp]; rfl) ?_
   rw[bS_eq] at *
   refine fn_okE Tryd.func36 hcc36 (by decide) hcr36 (by simp[Tryd.ntmps36]) fun E hP hR hPn hl hid hB hu=>?_
   simp only[cr36] at hR
   refine w_go 4000 ?_
   simp[cc36]
   have hJ:=hl (J,_) (List.mem_cons_self ..)
   simp only at hJ
   have J1:=lf hJ
   (refine w_call hP rfl (ht1 _) (by simp[J1]) (by simp[J1]<;>rfl) ?_; refine w_go 4000 ?_; simp[J1])
   (refine w_call hP rfl (ht2 _) (by simp[J1]) (by simp[J1]<;>rfl) ?_; refine w_go 4000 ?_; simp[J1])
   refine w_callE hP rfl (hx _) (by simp[J1]) (by simp[J1]<;>rfl) (fun pv hpv=>⟨by simp[J1],by injection hpv with hpv; subst hpv; exact hPn _ _ (rfl) rfl (by simp[J1])⟩) (fun v wr h=>by cases h)
  | some p =>
   obtain⟨t,u⟩:=p
   rw[hp] at hx
   have hx:∀id,FnOk Tryd.prog 67 [.ptr J 0 0] [(J,bS z s)] id (.str t) [(J,some (bS z u))]:=hx
   refine rd_ok (w:=.agg [.int .i64 3,.int .i64 0,.str t,.nils,.nils]) (pOut_text g1 g2 hp) rfl ?_
   rw[bS_eq,bS_eq] at hx
   rw[bS_eq] at ht1 ⊢
   refine fn_okE Tryd.func36 hcc36 (by decide) hcr36 (by simp[Tryd.ntmps36]) fun E hP hR hPn hl hid hB hu=>?_
   simp only[cr36] at hR
   refine w_go 4000 ?_
   simp[cc36]
   have hJ:=hl (J,_) (List.mem_cons_self ..)
   simp only at hJ
   have J1:=lf hJ
   (refine w_call hP rfl (ht1 _) (by simp[J1]) (by simp[J1]<;>rfl) ?_; refine w_go 4000 ?_; simp[J1])
   (refine w_call hP rfl (ht2 _) (by simp[J1]) (by simp[J1]<;>rfl) ?_; refine w_go 4000 ?_; simp[J1])
   (refine w_call hP rfl (hx _) (by simp[J1]) (by simp[J1]<;>rfl) ?_; refine w_go 4000 ?_; simp[J1])
   have hrn:rnOk []:=by simp[bS,J1,idO hid]
   refine hR _ _ _ (rfl) ?_
   refine rt_end (by simp[bS,J1,idO hid]<;>rfl) [] hrn ⟨?_,?_,?_,?_,?_,?_⟩<;>(try simp[bS,J1,idO hid])
 have g2:cutB s [34]=false:=by simpa using g2
 rw[g2] at ht2
 by_cases g3:cutB s [91]=true
 ·rw[g3,cutL_yes g3] at ht3
  have hc:=cut_eq g3
  have hsl:s.length=(s.drop 1).length+1:=by
   conv=>lhs; rw[hc]
   simp
  change ∀id,FnOk _ _ _ _ _ _ [(J,some (bS z (s.drop 1)))] at ht3
  generalize ht:s.drop 1=t at *
  rw[bS_eq,bS_eq] at ht3
  rw[bS_eq] at ht1
  generalize hq:pItems n true [] t=q
  cases q with
  | none =>
   refine rd_no (by simp only[pOut]; rw[g1,g2,if_neg (by simp),if_neg (by simp),if_pos g3,ht,hq]; rfl) ?_
   rw[bS_eq]
   refine fn_okE Tryd.func36 hcc36 (by decide) hcr36 (by simp[Tryd.ntmps36]) fun E hP hR hPn hl hid hB hu=>?_
   simp only[cr36] at hR
   refine w_go 4000 ?_
   simp[cc36]
   have hJ:=hl (J,_) (List.mem_cons_self ..)
   simp only at hJ
   have J1:=lf hJ
   (refine w_call hP rfl (ht1 _) (by simp[J1]) (by simp[J1]<;>rfl) ?_; refine w_go 4000 ?_; simp[J1])
   (refine w_call hP rfl (ht2 _) (by simp[J1]) (by simp[J1]<;>rfl) ?_; refine w_go 4000 ?_; simp[J1])
   refine w_call hP rfl (ht3 _) (by simp[J1]) (by simp[J1]<;>rfl) ?_
   refine w_go 21 ?_
   simp[J1]
   refine w_conv (Conv.voidBox (E.n0+2048) (by simp; rfl) rfl (.agg [.int .i64 4,.int .i64 0,.str [],.nils,.nils] [.int .i64 4,.int .i64 0,.str [],.nils,.bsl (E.n0+17408) 0 0] rfl (fun m x y h1 h2=>?_)) (.agg [.int .i64 0,.int .i64 0,.str [],.nils,.nils])) ?_
   ·match m,h1,h2 with
    | 0,h1,h2|1,h1,h2|2,h1,h2|3,h1,h2=>simp at h1 h2; exact .inl (h1.symm.trans h2)
    | 4,h1,h2=>simp at h1 h2; exact .inr ⟨h1.symm,h2.symm⟩
    | m+5,h1,h2=>simp at h1
   refine w_go 4000 ?_
   simp[J1]
   have hs:=fun id=>some1_ok hO z t J E.n0 (E.n0+2048) (E.n0+17408) id (by simp[J1]) (by omega) (by omega)
   rw[hq,bS_eq,kB_eq,pB_eq,lB_eq] at hs
   change ∀id,FnE _ _ _ _ _ (.error wv) at hs
   refine w_callE hP rfl (hs _) (by simp[J1]) (by simp[J1]<;>rfl) (fun pv hpv=>⟨by simp[J1],by injection hpv with hpv; subst hpv; exact hPn _ _ (rfl) rfl (by simp[J1])⟩) (fun v wr h=>by cases h)
  | some q =>
   obtain⟨l,u⟩:=q
   by_cases hemp:l=[]
   ·subst hemp
    refine rd_ok (w:=.agg [.int .i64 4,.int .i64 0,.str [],.nils,.sl (([]:List Out).map eO)]) (pOut_list g1 g2 g3 (by rw[ht]; exact hq)) (by rfl) ?_
    rw[bS_eq]
    refine fn_okE Tryd.func36 hcc36 (by decide) hcr36 (by simp[Tryd.ntmps36]) fun E hP hR hPn hl hid hB hu=>?_
    simp only[cr36] at hR
    refine w_go 4000 ?_
    simp[cc36]
    have hJ:=hl (J,_) (List.mem_cons_self ..)
    simp only at hJ
    have J1:=lf hJ
    (refine w_call hP rfl (ht1 _) (by simp[J1]) (by simp[J1]<;>rfl) ?_; refine w_go 4000 ?_; simp[J1])
    (refine w_call hP rfl (ht2 _) (by simp[J1]) (by simp[J1]<;>rfl) ?_; refine w_go 4000 ?_; simp[J1])
    refine w_call hP rfl (ht3 _) (by simp[J1]) (by simp[J1]<;>rfl) ?_
    refine w_go 21 ?_
    simp[J1]
    refine w_conv (Conv.voidBox (E.n0+2048) (by simp; rfl) rfl (.agg [.int .i64 4,.int .i64 0,.str [],.nils,.nils] [.int .i64 4,.int .i64 0,.str [],.nils,.bsl (E.n0+17408) 0 0] rfl (fun m x y h1 h2=>?_)) (.agg [.int .i64 0,.int .i64 0,.str [],.nils,.nils])) ?_
    ·match m,h1,h2 with
     | 0,h1,h2|1,h1,h2|2,h1,h2|3,h1,h2=>simp at h1 h2; exact .inl (h1.symm.trans h2)
     | 4,h1,h2=>simp at h1 h2; exact .inr ⟨h1.symm,h2.symm⟩
     | m+5,h1,h2=>simp at h1
    refine w_go 4000 ?_
    simp[J1]
    have hs:=fun id=>some1_ok hO z t J E.n0 (E.n0+2048) (E.n0+17408) id (by simp[J1]) (by omega) (by omega)
    rw[hq] at hs
    have hs:∀id,FnOk Tryd.prog 68 [.ptr J 0 0,.str [93],.fn 69 [.ptr (E.n0+2048) 0 0,.ptr E.n0 0 0]] [(J,bS z t),(E.n0,pB J),(E.n0+2048,kB 4 .nils (.bsl (E.n0+17408) 0 0)),(E.n0+17408,lB [])] id (.tup []) [(J,some (bS z u))]:=hs
    rw[bS_eq,kB_eq,pB_eq,lB_eq,bS_eq] at hs
    (refine w_call hP rfl (hs _) (by simp[J1]) (by simp[J1]<;>rfl) ?_; refine w_go 4000 ?_; simp[J1])
    have hrn:rnOk []:=by simp[bS,J1,idO hid]
    refine hR _ _ _ (rfl) ?_
    refine rt_endR (by simp[bS,J1,idO hid]<;>rfl) (by simp[bS,J1,idO hid]<;>exact⟨rfl,rfl⟩) [] hrn ⟨?_,?_,?_,?_,?_,?_⟩<;>(try simp[bS,J1,idO hid])
    all_goals trace_state
   ·refine rd_ok (w:=.agg [.int .i64 4,.int .i64 0,.str [],.nils,.sl (l.map eO)]) (pOut_list g1 g2 g3 (by rw[ht]; exact hq)) (nrm_list l) ?_
    rw[bS_eq]
    refine fn_okE Tryd.func36 hcc36 (by decide) hcr36 (by simp[Tryd.ntmps36]) fun E hP hR hPn hl hid hB hu=>?_
    simp only[cr36] at hR
    refine w_go 4000 ?_
    simp[cc36]
    have hJ:=hl (J,_) (List.mem_cons_self ..)
    simp only at hJ
    have J1:=lf hJ
    (refine w_call hP rfl (ht1 _) (by simp[J1]) (by simp[J1]<;>rfl) ?_; refine w_go 4000 ?_; simp[J1])
    (refine w_call hP rfl (ht2 _) (by simp[J1]) (by simp[J1]<;>rfl) ?_; refine w_go 4000 ?_; simp[J1])
    refine w_call hP rfl (ht3 _) (by simp[J1]) (by simp[J1]<;>rfl) ?_
    refine w_go 21 ?_
    simp[J1]
    refine w_conv (Conv.voidBox (E.n0+2048) (by simp; rfl) rfl (.agg [.int .i64 4,.int .i64 0,.str [],.nils,.nils] [.int .i64 4,.int .i64 0,.str [],.nils,.bsl (E.n0+17408) 0 0] rfl (fun m x y h1 h2=>?_)) (.agg [.int .i64 0,.int .i64 0,.str [],.nils,.nils])) ?_
    ·match m,h1,h2 with
     | 0,h1,h2|1,h1,h2|2,h1,h2|3,h1,h2=>simp at h1 h2; exact .inl (h1.symm.trans h2)
     | 4,h1,h2=>simp at h1 h2; exact .inr ⟨h1.symm,h2.symm⟩
     | m+5,h1,h2=>simp at h1
    refine w_go 4000 ?_
    simp[J1]
    have hs:=fun id=>some1_ok hO z t J E.n0 (E.n0+2048) (E.n0+17408) id (by simp[J1]) (by omega) (by omega)
    rw[hq] at hs
    have hs:∀id,FnOk Tryd.prog 68 [.ptr J 0 0,.str [93],.fn 69 [.ptr (E.n0+2048) 0 0,.ptr E.n0 0 0]] [(J,bS z t),(E.n0,pB J),(E.n0+2048,kB 4 .nils (.bsl (E.n0+17408) 0 0)),(E.n0+17408,lB [])] id (.tup []) [(J,some (bS z u)),(E.n0+2048,some (kB 4 .nils (.bsl id 0 l.length))),(E.n0+17408,none),(id,some (lB l))]:=fun id=>by
     have h1:=hs id
     have e:some1R J (E.n0+2048) (E.n0+17408) id z (some (l,u)) = .ok (.tup [],[(J,some (bS z u)),(E.n0+2048,some (kB 4 .nils (.bsl id 0 l.length))),(E.n0+17408,none),(id,some (lB l))]):=by
      show Except.ok (_,if l=[] then _ else _)=_
      rw[if_neg hemp]
     rw[e] at h1
     exact h1
    rw[bS_eq,kB_eq,pB_eq,lB_eq,bS_eq,lB_eq] at hs
    simp only[kB_eq] at hs
    (refine w_call hP rfl (hs _) (by simp[J1]) (by simp[J1]<;>rfl) ?_; refine w_go 4000 ?_; simp[J1])
    have hrn:rnOk []:=by simp[bS,J1,idO hid]
    refine hR _ _ _ (rfl) ?_
    refine rt_endR (by simp[bS,J1,idO hid]<;>rfl) (by simp[bS,J1,idO hid]<;>exact⟨rfl,rfl⟩) [] hrn ⟨?_,?_,?_,?_,?_,?_⟩<;>(try simp[bS,J1,idO hid])
    all_goals trace_state
 have g3:cutB s [91]=false:=by simpa using g3
 rw[g3,cutL_no g3] at ht3
 by_cases g4:cutB s [123]=true
 ·rw[g4,cutL_yes g4] at ht4
  have hc:=cut_eq g4
  have hsl:s.length=(s.drop 1).length+1:=by
   conv=>lhs; rw[hc]
   simp
  change ∀id,FnOk _ _ _ _ _ _ [(J,some (bS z (s.drop 1)))] at ht4
  generalize ht:s.drop 1=t at *
  rw[bS_eq,bS_eq] at ht4
  rw[bS_eq] at ht1 ht3
  generalize hq:pPairs n true [] [] t=q
  cases q with
  | none =>
   refine rd_no (by simp only[pOut]; rw[g1,g2,g3,if_neg (by simp),if_neg (by simp),if_neg (by simp),if_pos g4,ht,hq]; rfl) ?_
   rw[bS_eq]
   refine fn_okE Tryd.func36 hcc36 (by decide) hcr36 (by simp[Tryd.ntmps36]) fun E hP hR hPn hl hid hB hu=>?_
   simp only[cr36] at hR
   refine w_go 4000 ?_
   simp[cc36]
   have hJ:=hl (J,_) (List.mem_cons_self ..)
   simp only at hJ
   have J1:=lf hJ
   (refine w_call hP rfl (ht1 _) (by simp[J1]) (by simp[J1]<;>rfl) ?_; refine w_go 4000 ?_; simp[J1])
   (refine w_call hP rfl (ht2 _) (by simp[J1]) (by simp[J1]<;>rfl) ?_; refine w_go 4000 ?_; simp[J1])
   (refine w_call hP rfl (ht3 _) (by simp[J1]) (by simp[J1]<;>rfl) ?_; refine w_go 4000 ?_; simp[J1])
   refine w_call hP rfl (ht4 _) (by simp[J1]) (by simp[J1]<;>rfl) ?_
   refine w_go 21 ?_
   simp[J1]
   refine w_conv (Conv.trans (Conv.voidBox (E.n0+2048) (by simp; rfl) rfl (.agg [.int .i64 5,.int .i64 0,.str [],.nils,.nils] [.int .i64 5,.int .i64 0,.str [],.bsl (E.n0+20480) 0 0,.nils] rfl (fun m x y h1 h2=>?_)) (.str [])) (Conv.voidBox (E.n0+2048) (by simp; rfl) rfl (.agg [.int .i64 5,.int .i64 0,.str [],.bsl (E.n0+20480) 0 0,.nils] [.int .i64 5,.int .i64 0,.str [],.bsl (E.n0+20480) 0 0,.bsl (E.n0+20481) 0 0] rfl (fun m x y h1 h2=>?_)) (.agg [.int .i64 0,.int .i64 0,.str [],.nils,.nils]))) ?_
   ·match m,h1,h2 with
    | 0,h1,h2|1,h1,h2|2,h1,h2|4,h1,h2=>simp at h1 h2; exact .inl (h1.symm.trans h2)
    | 3,h1,h2=>simp at h1 h2; exact .inr ⟨h1.symm,h2.symm⟩
    | m+5,h1,h2=>simp at h1
   ·match m,h1,h2 with
    | 0,h1,h2|1,h1,h2|2,h1,h2|3,h1,h2=>simp at h1 h2; exact .inl (h1.symm.trans h2)
    | 4,h1,h2=>simp at h1 h2; exact .inr ⟨h1.symm,h2.symm⟩
    | m+5,h1,h2=>simp at h1
   refine w_go 4000 ?_
   simp[J1]
   have hs:=fun id=>some2_ok hO z t J E.n0 (E.n0+2048) (E.n0+20480) (E.n0+20481) id (by simp[J1]) (by omega) (by omega)
   rw[hq,bS_eq,kB_eq,pB_eq,lB_eq,sB_eq] at hs
   change ∀id,FnE _ _ _ _ _ (.error wv) at hs
   refine w_callE hP rfl (hs _) (by simp[J1]) (by simp[J1]<;>rfl) (fun pv hpv=>⟨by simp[J1],by injection hpv with hpv; subst hpv; exact hPn _ _ (rfl) rfl (by simp[J1])⟩) (fun v wr h=>by cases h)
  | some q =>
   obtain⟨ks,l,u⟩:=q
   by_cases hemp:l=[]
   ·have hk:=pairs_len hq
    subst hemp
    obtain rfl:=List.length_eq_zero_iff.1 hk
    refine rd_ok (w:=.agg [.int .i64 5,.int .i64 0,.str [],.sl (([]:List (List UInt8)).map .str),.sl (([]:List Out).map eO)]) (pOut_map g1 g2 g3 g4 (by rw[ht]; exact hq)) (by rfl) ?_
    rw[bS_eq]
    refine fn_okE Tryd.func36 hcc36 (by decide) hcr36 (by simp[Tryd.ntmps36]) fun E hP hR hPn hl hid hB hu=>?_
    simp only[cr36] at hR
    refine w_go 4000 ?_
    simp[cc36]
    have hJ:=hl (J,_) (List.mem_cons_self ..)
    simp only at hJ
    have J1:=lf hJ
    (refine w_call hP rfl (ht1 _) (by simp[J1]) (by simp[J1]<;>rfl) ?_; refine w_go 4000 ?_; simp[J1])
    (refine w_call hP rfl (ht2 _) (by simp[J1]) (by simp[J1]<;>rfl) ?_; refine w_go 4000 ?_; simp[J1])
    (refine w_call hP rfl (ht3 _) (by simp[J1]) (by simp[J1]<;>rfl) ?_; refine w_go 4000 ?_; simp[J1])
    refine w_call hP rfl (ht4 _) (by simp[J1]) (by simp[J1]<;>rfl) ?_
    refine w_go 21 ?_
    simp[J1]
    refine w_conv (Conv.trans (Conv.voidBox (E.n0+2048) (by simp; rfl) rfl (.agg [.int .i64 5,.int .i64 0,.str [],.nils,.nils] [.int .i64 5,.int .i64 0,.str [],.bsl (E.n0+20480) 0 0,.nils] rfl (fun m x y h1 h2=>?_)) (.str [])) (Conv.voidBox (E.n0+2048) (by simp; rfl) rfl (.agg [.int .i64 5,.int .i64 0,.str [],.bsl (E.n0+20480) 0 0,.nils] [.int .i64 5,.int .i64 0,.str [],.bsl (E.n0+20480) 0 0,.bsl (E.n0+20481) 0 0] rfl (fun m x y h1 h2=>?_)) (.agg [.int .i64 0,.int .i64 0,.str [],.nils,.nils]))) ?_
    ·match m,h1,h2 with
     | 0,h1,h2|1,h1,h2|2,h1,h2|4,h1,h2=>simp at h1 h2; exact .inl (h1.symm.trans h2)
     | 3,h1,h2=>simp at h1 h2; exact .inr ⟨h1.symm,h2.symm⟩
     | m+5,h1,h2=>simp at h1
    ·match m,h1,h2 with
     | 0,h1,h2|1,h1,h2|2,h1,h2|3,h1,h2=>simp at h1 h2; exact .inl (h1.symm.trans h2)
     | 4,h1,h2=>simp at h1 h2; exact .inr ⟨h1.symm,h2.symm⟩
     | m+5,h1,h2=>simp at h1
    refine w_go 4000 ?_
    simp[J1]
    have hs:=fun id=>some2_ok hO z t J E.n0 (E.n0+2048) (E.n0+20480) (E.n0+20481) id (by simp[J1]) (by omega) (by omega)
    rw[hq] at hs
    have hs:∀id,FnOk Tryd.prog 68 [.ptr J 0 0,.str [125],.fn 70 [.ptr (E.n0+2048) 0 0,.ptr E.n0 0 0]] [(J,bS z t),(E.n0,pB J),(E.n0+2048,kB 5 (.bsl (E.n0+20480) 0 0) (.bsl (E.n0+20481) 0 0)),(E.n0+20480,sB []),(E.n0+20481,lB [])] id (.tup []) [(J,some (bS z u))]:=hs
    rw[bS_eq,kB_eq,pB_eq,lB_eq,sB_eq,bS_eq] at hs
    (refine w_call hP rfl (hs _) (by simp[J1]) (by simp[J1]<;>rfl) ?_; refine w_go 4000 ?_; simp[J1])
    have hrn:rnOk []:=by simp[bS,J1,idO hid]
    refine hR _ _ _ (rfl) ?_
    refine rt_endR (by simp[bS,J1,idO hid]<;>rfl) (by simp[bS,J1,idO hid]<;>exact⟨rfl,rfl⟩) [] hrn ⟨?_,?_,?_,?_,?_,?_⟩<;>(try simp[bS,J1,idO hid])
    all_goals trace_state
   ·refine rd_ok (w:=.agg [.int .i64 5,.int .i64 0,.str [],.sl (ks.map .str),.sl (l.map eO)]) (pOut_map g1 g2 g3 g4 (by rw[ht]; exact hq)) (nrm_map ks l) ?_
    rw[bS_eq]
    refine fn_okE Tryd.func36 hcc36 (by decide) hcr36 (by simp[Tryd.ntmps36]) fun E hP hR hPn hl hid hB hu=>?_
    simp only[cr36] at hR
    refine w_go 4000 ?_
    simp[cc36]
    have hJ:=hl (J,_) (List.mem_cons_self ..)
    simp only at hJ
    have J1:=lf hJ
    (refine w_call hP rfl (ht1 _) (by simp[J1]) (by simp[J1]<;>rfl) ?_; refine w_go 4000 ?_; simp[J1])
    (refine w_call hP rfl (ht2 _) (by simp[J1]) (by simp[J1]<;>rfl) ?_; refine w_go 4000 ?_; simp[J1])
    (refine w_call hP rfl (ht3 _) (by simp[J1]) (by simp[J1]<;>rfl) ?_; refine w_go 4000 ?_; simp[J1])
    refine w_call hP rfl (ht4 _) (by simp[J1]) (by simp[J1]<;>rfl) ?_
    refine w_go 21 ?_
    simp[J1]
    refine w_conv (Conv.trans (Conv.voidBox (E.n0+2048) (by simp; rfl) rfl (.agg [.int .i64 5,.int .i64 0,.str [],.nils,.nils] [.int .i64 5,.int .i64 0,.str [],.bsl (E.n0+20480) 0 0,.nils] rfl (fun m x y h1 h2=>?_)) (.str [])) (Conv.voidBox (E.n0+2048) (by simp; rfl) rfl (.agg [.int .i64 5,.int .i64 0,.str [],.bsl (E.n0+20480) 0 0,.nils] [.int .i64 5,.int .i64 0,.str [],.bsl (E.n0+20480) 0 0,.bsl (E.n0+20481) 0 0] rfl (fun m x y h1 h2=>?_)) (.agg [.int .i64 0,.int .i64 0,.str [],.nils,.nils]))) ?_
    ·match m,h1,h2 with
     | 0,h1,h2|1,h1,h2|2,h1,h2|4,h1,h2=>simp at h1 h2; exact .inl (h1.symm.trans h2)
     | 3,h1,h2=>simp at h1 h2; exact .inr ⟨h1.symm,h2.symm⟩
     | m+5,h1,h2=>simp at h1
    ·match m,h1,h2 with
     | 0,h1,h2|1,h1,h2|2,h1,h2|3,h1,h2=>simp at h1 h2; exact .inl (h1.symm.trans h2)
     | 4,h1,h2=>simp at h1 h2; exact .inr ⟨h1.symm,h2.symm⟩
     | m+5,h1,h2=>simp at h1
    refine w_go 4000 ?_
    simp[J1]
    have hs:=fun id=>some2_ok hO z t J E.n0 (E.n0+2048) (E.n0+20480) (E.n0+20481) id (by simp[J1]) (by omega) (by omega)
    rw[hq] at hs
    have hs:∀id,FnOk Tryd.prog 68 [.ptr J 0 0,.str [125],.fn 70 [.ptr (E.n0+2048) 0 0,.ptr E.n0 0 0]] [(J,bS z t),(E.n0,pB J),(E.n0+2048,kB 5 (.bsl (E.n0+20480) 0 0) (.bsl (E.n0+20481) 0 0)),(E.n0+20480,sB []),(E.n0+20481,lB [])] id (.tup []) [(J,some (bS z u)),(E.n0+2048,some (kB 5 (.bsl id 0 ks.length) (.bsl (id+1) 0 l.length))),(E.n0+20480,none),(E.n0+20481,none),(id,some (sB ks)),(id+1,some (lB l))]:=fun id=>by
     have h1:=hs id
     have e:some2R J (E.n0+2048) (E.n0+20480) (E.n0+20481) id z (some (ks,l,u)) = .ok (.tup [],[(J,some (bS z u)),(E.n0+2048,some (kB 5 (.bsl id 0 ks.length) (.bsl (id+1) 0 l.length))),(E.n0+20480,none),(E.n0+20481,none),(id,some (sB ks)),(id+1,some (lB l))]):=by
      show Except.ok (_,if l=[] then _ else _)=_
      rw[if_neg hemp]
     rw[e] at h1
     exact h1
    rw[bS_eq,kB_eq,pB_eq,lB_eq,sB_eq,bS_eq,lB_eq,sB_eq] at hs
    simp only[kB_eq] at hs
    (refine w_call hP rfl (hs _) (by simp[J1,Nat.add_assoc]) (by simp[J1,Nat.add_assoc]<;>rfl) ?_; refine w_go 4000 ?_; simp[J1,Nat.add_assoc])
    have hrn:rnOk []:=by simp[bS,J1,idO hid]
    refine hR _ _ _ (rfl) ?_
    refine rt_endR (by simp[bS,J1,idO hid]<;>rfl) (by simp[bS,J1,idO hid]<;>exact⟨rfl,rfl⟩) [] hrn ⟨?_,?_,?_,?_,?_,?_⟩<;>(try simp[bS,J1,idO hid])
    all_goals trace_state
 have g4:cutB s [123]=false:=by simpa using g4
 rw[g4,cutL_no g4] at ht4
 have hx:=fun id=>number_ok z s J id h8
 cases hp:pNum s with
 | none =>
  rw[hp] at hx
  change ∀id,FnE _ _ _ _ _ (.error wv) at hx
  refine rd_no (by simp only[pOut]; rw[g1,g2,g3,g4,if_neg (by simp),if_neg (by simp),if_neg (by simp),if_neg (by simp),hp]; rfl) ?_
  rw[bS_eq] at *
  refine fn_okE Tryd.func36 hcc36 (by decide) hcr36 (by simp[Tryd.ntmps36]) fun E hP hR hPn hl hid hB hu=>?_
  simp only[cr36] at hR
  refine w_go 4000 ?_
  simp[cc36]
  have hJ:=hl (J,_) (List.mem_cons_self ..)
  simp only at hJ
  have J1:=lf hJ
  (refine w_call hP rfl (ht1 _) (by simp[J1]) (by simp[J1]<;>rfl) ?_; refine w_go 4000 ?_; simp[J1])
  (refine w_call hP rfl (ht2 _) (by simp[J1]) (by simp[J1]<;>rfl) ?_; refine w_go 4000 ?_; simp[J1])
  (refine w_call hP rfl (ht3 _) (by simp[J1]) (by simp[J1]<;>rfl) ?_; refine w_go 4000 ?_; simp[J1])
  (refine w_call hP rfl (ht4 _) (by simp[J1]) (by simp[J1]<;>rfl) ?_; refine w_go 4000 ?_; simp[J1])
  refine w_callE hP rfl (hx _) (by simp[J1]) (by simp[J1]<;>rfl) (fun pv hpv=>⟨by simp[J1],by injection hpv with hpv; subst hpv; exact hPn _ _ (rfl) rfl (by simp[J1])⟩) (fun v wr h=>by cases h)
 | some p =>
  obtain⟨i,u⟩:=p
  rw[hp] at hx
  have hx:∀id,FnOk Tryd.prog 72 [.ptr J 0 0] [(J,bS z s)] id (.int .i64 i) [(J,some (bS z u))]:=hx
  refine rd_ok (w:=.agg [.int .i64 2,.int .i64 i,.str [],.nils,.nils]) (pOut_num g1 g2 g3 g4 hp) rfl ?_
  rw[bS_eq,bS_eq] at hx
  rw[bS_eq] at ht1 ht3 ht4 ⊢
  refine fn_okE Tryd.func36 hcc36 (by decide) hcr36 (by simp[Tryd.ntmps36]) fun E hP hR hPn hl hid hB hu=>?_
  simp only[cr36] at hR
  refine w_go 4000 ?_
  simp[cc36]
  have hJ:=hl (J,_) (List.mem_cons_self ..)
  simp only at hJ
  have J1:=lf hJ
  (refine w_call hP rfl (ht1 _) (by simp[J1]) (by simp[J1]<;>rfl) ?_; refine w_go 4000 ?_; simp[J1])
  (refine w_call hP rfl (ht2 _) (by simp[J1]) (by simp[J1]<;>rfl) ?_; refine w_go 4000 ?_; simp[J1])
  (refine w_call hP rfl (ht3 _) (by simp[J1]) (by simp[J1]<;>rfl) ?_; refine w_go 4000 ?_; simp[J1])
  (refine w_call hP rfl (ht4 _) (by simp[J1]) (by simp[J1]<;>rfl) ?_; refine w_go 4000 ?_; simp[J1])
  (refine w_call hP rfl (hx _) (by simp[J1]) (by simp[J1]<;>rfl) ?_; refine w_go 4000 ?_; simp[J1])
  have hrn:rnOk []:=by simp[bS,J1,idO hid]
  refine hR _ _ _ (rfl) ?_
  refine rt_end (by simp[bS,J1,idO hid]<;>rfl) [] hrn ⟨?_,?_,?_,?_,?_,?_⟩<;>(try simp[bS,J1,idO hid])
theorem out_is:∀n,OutIs n:=fun n=>by
 induction n using Nat.strongRecOn with
 | _ n ih =>
  cases n with
  | zero=>intro z s J id hn; omega
  | succ n=>exact out_step fun m hm=>ih m (by omega)
end Go.Am
