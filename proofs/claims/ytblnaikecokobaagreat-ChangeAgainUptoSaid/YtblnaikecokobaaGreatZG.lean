/- Changes: the law that what is set twice is set once. No condition. -/
import Derived.Test.YtblnaikecokobaaGreatZF
import Derived.Test.YtblnaikecokobaaGreatZD
import Derived.Test.YtblnaikecokobaaGreatYL
namespace Go.Am
set_option linter.all false
open Go Go.RowKit Go.Proofs
set_option maxRecDepth 100000
set_option linter.all false
def setB(l:List Ev):Bool:=l.all fun e=>e.kind==3||e.kind==4
def madeB(l:List Ev):Bool:=l.any fun e=>e.kind==1
structure Again(s:Sta)(q:List Sel)(X:Sta)(ev:List Ev)(w:Int):Prop where
 rtX:Rt X
 n:∀e∈ev,I64 e.n
 len:ev.length≤8
 all:allE X ev=w
 cd:cdE X q=w
 evs:evsOf X.types q=ev
 grp:grpE X ev=w
 set:setB ev=true→w=0∧allS X ev=X
 made:madeB ev=true→ev.length=1→w=6
theorem again{s:Sta}{q:List Sel}(hI:IdsI s)(h:cdE s q=0):Again s q (allS s (evsOf s.types q)) (evsOf s.types q) (allE (allS s (evsOf s.types q)) (evsOf s.types q)):=by
 obtain⟨h1,h2⟩:=cdE_zero h
 obtain⟨h3,h4⟩:=cvE_zero h1
 have hR:=rt_of (rdE_zero h3).1 hI
 have hn:=evsOf_n h3
 have hl:=(ofE_zero h4).2
 have hX:=rt_all _ _ hR hn h2
 have ht:=allS_types _ hR hn h2
 have hr:rdE (allS s (evsOf s.types q)) q=0:=by
  unfold rdE
  rw[if_neg (by rw[hX.st]; decide)]
  exact (rdE_zero h3).2
 have hv:cvE (allS s (evsOf s.types q)) q=0:=by
  unfold cvE
  rw[if_neg (by rw[hr]; decide),ht]
  exact h4
 have hle:(evsOf s.types q).length≤8:=by simp[evsOf]; exact hl
 refine⟨hX,hn,hle,rfl,?_,by rw[ht],?_,fun hs=>?_,fun hm h1=>?_⟩
 ·unfold cdE; rw[if_neg (by rw[hv]; decide),ht]
 ·unfold grpE
  have:rdyE (allS s (evsOf s.types q)) (evsOf s.types q)=0:=by
   unfold rdyE
   rw[if_neg (by rw[hX.st]; decide),if_neg (by omega)]
  rw[if_neg (by rw[this]; decide)]
 ·have hset:∀e∈evsOf s.types q,I64 e.n∧isSet e:=fun e he=>⟨hn e he,by
   have:=List.all_eq_true.1 hs e he
   unfold isSet; simpa using this⟩
  exact⟨allE_twice _ _ hR hset hset h2 h2,allS_twice _ _ hR hset (fun e he=>he) h2 h2⟩
 ·generalize evsOf s.types q=ev at *
  match ev,h1 with
  | [e],_ =>
   have hk:e.kind=1:=by simpa [madeB] using hm
   obtain⟨a,_⟩:=allE_cons h2
   have h6:=made_there hR (hn e (by simp)) hk a
   show (if rawE (rawS s e) e≠0 then rawE (rawS s e) e else 0)=6
   rw[if_pos (by rw[h6]; decide)]
   exact h6
set_option maxHeartbeats 8000000 in
theorem ChangeAgain_ok(s:Sta)(q:List Sel)(id:Nat)(hI:IdsI s)(hq8:szL q≤1099511627776):FnOk Tryz.prog 4 [eSta s,.sl (q.map eSel)] [] id (.bool true) []:=by
 have hb:=fun id=>changeBegun_ok id
 have hh:=fun id=>historyBegun_ok id
 have hD:=fun id=>cDo_ok s q id hI hq8
 by_cases h0:cdE s q=0
 rotate_left
 ·rw[staV_bad0 h0,evV_bad h0] at hD
  unfold eSta at *
  refine fn_okc Tryz.func4 hcc4 (by decide) hcr4 (by simp[Tryz.ntmps4]) fun E hP hR hl hid=>?_
  simp only[cr4] at hR
  refine w_go 4000 ?_
  simp[cc4]
  (refine w_call hP rfl (hb _) (by simp) (by simp<;>rfl) ?_; refine w_go 4000 ?_; simp)
  (refine w_callg hP (by simp) rfl (fun hc=>⟨hh _,by revert hc; simp; try grind,by simp⟩) ?_; refine w_go 4000 ?_; simp)
  (refine w_call hP rfl (hD _) (by simp) (by simp<;>rfl) ?_; refine w_go 4000 ?_; simp)
  refine goc_true (by simpa using h0) ?_
  simp
  rw[hR]; exact rt_end (by simp<;>rfl) [] trivial (end_pure (by simp) (by simp) (by simp))
 rw[h0,staV_eq,if_pos rfl,show evV 0 (evsOf s.types q) = .sl ((evsOf s.types q).map eEv) from rfl] at hD
 obtain⟨hX,hn,hl8,hall,hcd,hevs,hgr,hset,hmade⟩:=again hI h0
 generalize hA:allE (allS s (evsOf s.types q)) (evsOf s.types q)=w at *
 generalize allS s (evsOf s.types q)=X at *
 have hD2:=fun id=>cDo_ok X q id hX.idsI hq8
 have hG:=fun id=>Group_ok X (evsOf s.types q) id hX.idsI hn
 rw[hcd,hevs] at hD2
 rw[hgr] at hG
 generalize evsOf s.types q=ev at *
 have hpE:pureL (ev.map eEv)=true:=pure_evs _
 unfold eSta at *
 refine fn_okc Tryz.func4 hcc4 (by decide) hcr4 (by simp[Tryz.ntmps4]) fun E hP hR hl hid=>?_
 simp only[cr4] at hR
 refine w_go 4000 ?_
 simp[cc4]
 (refine w_call hP rfl (hb _) (by simp) (by simp<;>rfl) ?_; refine w_go 4000 ?_; simp)
 (refine w_callg hP (by simp) rfl (fun hc=>⟨hh _,by revert hc; simp; try grind,by simp⟩) ?_; refine w_go 4000 ?_; simp)
 (refine w_call hP rfl (hD _) (by simp) (by simp<;>rfl) ?_; refine w_go 4000 ?_; simp)
 refine w_loop (X:=Nat) (fun i=>⟨[(1,true,.sl (q.map eSel)),(5,true,.ptr E.n0 0 0),(6,true,.sl (ev.map eEv)),(8,true,.bool (setB (ev.take i))),(9,true,.bool (madeB (ev.take i))),(10,true,.int .i64 i)],[(E.n0,some ⟨[.agg [.sl (X.types.map eTy),.sl (X.things.map eTg)]],.agg [.nils,.nils],false,false⟩)],1⟩) (fun i=>i≤ev.length) (fun i=>ev.length - i) 0 ?_ (by omega) ?_
 ·have hrn:rnOk [(E.n0,E.n0+15360)]:=by simp[setB,madeB]
  refine Conv.sub [(E.n0,E.n0+15360)] hrn ?_ ?_ ?_ ?_ ?_<;>(try simp[setB,madeB])
 ·rintro i hi p hp
  refine w_go 4000 ?_
  simp
  refine goc (fun h=>?_) (fun h=>?_)
  ·have h:=of_decide_eq_true h
   obtain⟨x,hx,hd⟩:=drop_cons h
   have hi1:IntKind.i64.wrap ((i:Int)+1)=((i+1:Nat):Int):=wrap64 (by omega)
   have hs1:setB (ev.take (i+1))=(setB (ev.take i)&&(x.kind==3||x.kind==4)):=by rw[take_snoc hx]; simp[setB]
   have hm1:madeB (ev.take (i+1))=(madeB (ev.take i)||x.kind==1):=by rw[take_snoc hx]; simp[madeB]
   simp[hx,eEv]
   refine⟨fun a=>⟨a,h⟩,fun a b=>⟨⟨a,b⟩,h⟩,fun a=>⟨a,fun b=>⟨a,b⟩⟩,fun a=>⟨a,h⟩,?_⟩
   refine hp _ (i+1) h (by omega) ?_
   have hrn:rnOk [(E.n0,E.n0)]:=by simp[hi1,hs1,hm1]
   refine Conv.sub [(E.n0,E.n0)] hrn ?_ ?_ ?_ ?_ ?_<;>(try simp[hi1,hs1,hm1])
  ·have h:¬i<ev.length:=of_decide_eq_false h
   rw[List.take_of_length_le (by omega)]
   have hSX:=fun id=>Same_self hX id
   unfold eSta at hSX
   cases hs:setB ev with
   | true =>
    obtain⟨hw,hY⟩:=hset hs
    rw[hw] at hD2 hG hmade
    rw[hY,staV_eq,if_pos rfl] at hD2 hG
    rw[show evV 0 ev = .sl (ev.map eEv) from rfl] at hD2
    unfold eSta at hD2 hG
    simp
    (refine w_call hP rfl (hD2 _) (by simp) (by simp<;>rfl) ?_; refine w_go 4000 ?_; simp)
    (refine w_callg hP (by simp) rfl (fun hc=>⟨hSX _,by revert hc; simp; try grind,by simp⟩) ?_; refine w_go 4000 ?_; simp)
    refine goc_false (by
     cases hm:madeB ev with
     | false=>simp
     | true =>
      have:=hmade hm
      simp
      intro h1
      have:=this (by omega)
      omega) ?_
    simp
    (refine w_call hP rfl (hG _) (by simp) (by simp<;>rfl) ?_; refine w_go 4000 ?_; simp)
    (refine w_callg hP (by simp) rfl (fun hc=>⟨hSX _,by revert hc; simp; try grind,by simp⟩) ?_; refine w_go 4000 ?_; simp)
    rw[hR]; exact rt_end (by simp<;>rfl) [] trivial (end_pure (by simp) (by simp) (by simp))
   | false =>
    simp
    by_cases hw:w=0
    ·rw[hw] at hD2 hG hmade hA
     have hRY:=rt_all _ _ hX hn hA
     have hSY:=fun id=>Same_self hRY id
     generalize allS X ev=Y at *
     rw[staV_eq,if_pos rfl] at hD2 hG
     rw[show evV 0 ev = .sl (ev.map eEv) from rfl] at hD2
     unfold eSta at hD2 hG hSY
     (refine w_call hP rfl (hD2 _) (by simp) (by simp<;>rfl) ?_; refine w_go 4000 ?_; simp)
     refine w_split (.bool true) (by simp) (fun hg=>by simp at hg) (fun _=>?_)
     refine w_go 4000 ?_
     simp
     refine goc_false (by
      cases hm:madeB ev with
      | false=>simp
      | true =>
       have:=hmade hm
       simp
       intro h1
       have:=this (by omega)
       omega) ?_
     simp
     (refine w_call hP rfl (hG _) (by simp) (by simp<;>rfl) ?_; refine w_go 4000 ?_; simp)
     (refine w_callg hP (by simp) rfl (fun hc=>⟨hSY _,by revert hc; simp; try grind,by simp⟩) ?_; refine w_go 4000 ?_; simp)
     rw[hR]; exact rt_end (by simp<;>rfl) [] trivial (end_pure (by simp) (by simp) (by simp))
    ·rw[staV_bad0 hw,evV_bad hw] at hD2
     (refine w_call hP rfl (hD2 _) (by simp) (by simp<;>rfl) ?_; refine w_go 4000 ?_; simp)
     refine w_split (.bool true) (by simp) (fun hg=>by simp at hg) (fun _=>?_)
     refine w_go 4000 ?_
     simp
     refine goc_false (by
      cases hm:madeB ev with
      | false=>simp
      | true =>
       have:=hmade hm
       simp
       intro h1
       exact this (by omega)) ?_
     simp
     refine goc_true (by simpa using hw) ?_
     simp
     rw[hR]; exact rt_end (by simp<;>rfl) [] trivial (end_pure (by simp) (by simp) (by simp))
end Go.Am
