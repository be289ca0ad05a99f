/- Parts of the proof: an abstract machine for Go functions, and what functions of the program give back (Hi1, Hi2, Hi3). No condition. -/
import Derived.Test.YtblnaikecokobaaGreatXY
import Derived.Test.YtblnaikecokobaaGreatXD
import Derived.Test.YtblnaikecokobaaGreatCcB
namespace Go.Am
set_option linter.all false
open Go Go.RowKit Go.Proofs
set_option maxRecDepth 100000
set_option linter.all false
theorem lk_mem{n:Nat}{v:Bool×AV}:∀{l:List (Nat×Bool×AV)},lk l n=some v→(n,v)∈l
 | [],h=>by cases h
 | (m,c,u)::l,h=>by
  simp only[lk] at h
  split at h
  ·rename_i e; subst e; injection h with h; subst h; exact List.mem_cons_self ..
  ·exact List.mem_cons_of_mem _ (lk_mem h)
theorem bk_mem{y:Nat}{b:Bx}:∀{l:List (Nat×Option Bx)},bk l y=some b→(y,some b)∈l
 | [],h=>by cases h
 | (m,c)::l,h=>by
  simp only[bk] at h
  split at h
  ·rename_i e; subst e; rw[h]; exact List.mem_cons_self ..
  ·exact List.mem_cons_of_mem _ (bk_mem h)
theorem Conv.stayL{E:Env}{σ σ':St}(hk:σ.k≤σ'.k)(hf:∀q∈σ'.fr,lk σ.fr q.1=some q.2)(hb:∀q∈σ'.bx,∀b,q.2=some b→bk σ.bx q.1=some b)(hc:∀q∈σ.bx,E.n0≤q.1∨hasKey q.1 σ'.bx):Conv E σ σ' :=
 Conv.stay hk (fun n c v h=>hf _ (lk_mem h)) (fun y b h=>hb _ (bk_mem h) b rfl) hc
theorem mem_someL{q:Nat×Option Bx}:∀{l:List (Nat×Bx)},q∈someL l→∃p∈l,q=(p.1,some p.2)
 | [],h=>by cases h
 | (i,b)::l,h=>by
  rcases List.mem_cons.1 h with rfl|h
  ·exact⟨_,List.mem_cons_self ..,rfl⟩
  ·obtain⟨p,h1,h2⟩:=mem_someL h
   exact⟨p,List.mem_cons_of_mem _ h1,h2⟩
theorem mem_goneL{q:Nat×Option Bx}{l:List (Nat×Bx)}(h:q∈goneL l):∃p∈l,q=(p.1,none):=by
 obtain⟨p,h1,h2⟩:=List.mem_map.1 h
 exact⟨p,h1,h2.symm⟩
theorem bk_someL_app{M:List (Nat×Option Bx)}{q:Nat×Bx}:∀{l:List (Nat×Bx)},(l.map Prod.fst).Nodup→q∈l→bk (someL l++M) q.1=some q.2
 | [],_,h=>by cases h
 | (i,b)::l,hn,h=>by
  rw[List.map_cons,List.nodup_cons] at hn
  show (if q.1=i then some b else bk (someL l++M) q.1)=some q.2
  rcases List.mem_cons.1 h with rfl|h
  ·simp
  ·rw[if_neg fun e=>hn.1 (List.mem_map.2 ⟨q,h,e⟩)]
   exact bk_someL_app hn.2 h
theorem nm_of{T:Nat}{S:List OTg}{q:Nat×Bx}(h:q∈trB T S):q.1∈nmT T S:=List.mem_map.2 ⟨q,h,rfl⟩
theorem of_nm{T:Nat}{S:List OTg}{z:Nat}(h:z∈nmT T S):∃q∈trB T S,q.1=z:=List.mem_map.1 h
def allS(s:Sta):List Ev→Sta
 | []=>s
 | e::l=>allS (rawS s e) l
def allE(s:Sta):List Ev→Int
 | []=>0
 | e::l=>if rawE s e≠0 then rawE s e else allE (rawS s e) l
def allAV(s:Sta)(l:List Ev):AV:=if allE s l=0 then eSta (allS s l) else eS0
theorem StR_own{l:List Ty}{S:List OTg}(h:Rt (stOf l S)):StR (stOf l S):=h.r
set_option maxHeartbeats 4000000 in
theorem Of_own(l:List Ty)(S0:List OTg)(T0:Nat)(ev:List Ev)(id:Nat)(hnd:(nmT T0 S0).Nodup)(hok:∀o∈S0,o.Ok)(hR0:Rt (stOf l S0))(hI:∀e∈ev,I64 e.n)(hlen:ev.length≤1000000000000000):
  FnOk Tryz.prog 42 [.agg [.sl (l.map eTy),.bsl T0 0 S0.length],.sl (ev.map eEv)] (trB T0 S0) id (.tup [allAV (stOf l S0) ev,.int .i64 (allE (stOf l S0) ev)]) (goneL (trB T0 S0)):=by
 refine fn_okb Tryz.func42 hcc42 (by decide) hcr42 (by simp[Tryz.ntmps42]) fun E hP hR hl hid hB hu=>?_
 simp only[cr42] at hR
 refine w_go 4000 ?_
 simp[cc42]
 have hlt:∀z∈nmT T0 S0,z<E.n0:=fun z hz=>by
  obtain⟨q,hq,rfl⟩:=List.mem_map.1 (show z∈(trB T0 S0).map Prod.fst from hz)
  exact (hl q hq).1
 have hgone:∀z∈nmT T0 S0,∀(A B:Nat×Option Bx) X,hasKey z (A::B::(X++goneL (trB T0 S0))):=fun z hz A B X=>by
  obtain⟨q,hq,rfl⟩:=List.mem_map.1 (show z∈(trB T0 S0).map Prod.fst from hz)
  exact .inr (.inr (hasKey_iff.2 ⟨(q.1,none),List.mem_append_right _ (List.mem_map.2 ⟨q,hq,rfl⟩),rfl⟩))
 refine w_loop (X:=Nat×Nat×List OTg×Nat) (fun q=>⟨[(2,true,.ptr E.n0 0 0),(4,true,.ptr (E.n0+1024) 0 0),(10,true,.sl (ev.map eEv)),(11,true,.int .i64 ev.length),(12,true,.int .i64 q.1)],
  (E.n0,some ⟨[.agg [.sl (l.map eTy),.bsl q.2.1 0 q.2.2.1.length]],.agg [.sl (l.map eTy),.bsl T0 0 S0.length],false,false⟩)::(E.n0+1024,some ⟨[.agg [.nils,.nils]],.agg [.nils,.nils],false,false⟩)::(someL (trB q.2.1 q.2.2.1)++goneL (trB T0 S0)),q.2.2.2⟩)
  (fun q=>q.1≤ev.length∧6144≤q.2.2.2∧(nmT q.2.1 q.2.2.1).Nodup∧(∀z∈nmT q.2.1 q.2.2.1,z∈nmT T0 S0∨(E.n0+6144≤z∧z<E.n0+q.2.2.2))∧(∀o∈q.2.2.1,o.Ok)∧Rt (stOf l q.2.2.1)∧allS (stOf l q.2.2.1) (ev.drop q.1)=allS (stOf l S0) ev∧allE (stOf l q.2.2.1) (ev.drop q.1)=allE (stOf l S0) ev)
  (fun q=>ev.length - q.1) (0,T0,S0,6144) ?_ ⟨by omega,by simp,hnd,fun z hz=>.inl hz,hok,hR0,rfl,rfl⟩ ?_
 ·refine Conv.stayL (by simp) (by simp) (fun q hq b hb=>?_) fun q hq=>?_
  ·rcases List.mem_cons.1 hq with rfl|hq
   ·injection hb with hb; subst hb; simp
   rcases List.mem_cons.1 hq with rfl|hq
   ·injection hb with hb; subst hb; simp
   rcases List.mem_append.1 hq with hq|hq
   ·obtain⟨p,hp,rfl⟩:=mem_someL hq
    injection hb with hb; subst hb
    have h1:=(hl p hp).1
    have:=bk_someL_app (M:=[]) (l:=trB T0 S0) hnd hp
    rw[List.append_nil] at this
    simp only[bk]
    rw[if_neg (by omega),if_neg (by omega)]
    exact this
   ·obtain⟨p,hp,rfl⟩:=mem_goneL hq
    cases hb
  ·rcases List.mem_cons.1 hq with rfl|hq
   ·left; simp
   rcases List.mem_cons.1 hq with rfl|hq
   ·left; simp
   obtain⟨p,hp,rfl⟩:=mem_someL hq
   right
   exact .inr (.inr (hasKey_iff.2 ⟨_,List.mem_append_left _ hq,rfl⟩))
 ·rintro⟨i,T,S,K⟩ ⟨hi,hK,hnd1,hnm,hok1,hR1,hfs,hfe⟩ p hp
  simp only at hi hK hnd1 hnm hok1 hR1 hfs hfe
  refine w_go 8 ?_
  simp
  refine w_cond (b:=decide (i<ev.length)) (by simp) (by simp) (fun h=>?_) (fun h=>?_)
  ·have h:=of_decide_eq_true h
   obtain⟨e,he,hd⟩:=drop_cons h
   rw[hd] at hfs hfe
   simp only[allS,allE] at hfs hfe
   have hei:=hI e (List.mem_of_getElem? he)
   have hi1:IntKind.i64.wrap ((i:Int)+1)=((i+1:Nat):Int):=wrap64 (by omega)
   have hin:∀q∈trB T S,bk (someL (trB T S)++goneL (trB T0 S0)) q.1=some q.2:=fun q hq=>bk_someL_app (l:=trB T S) hnd1 hq
   have hnz:∀z∈nmT T S,z≠E.n0∧z≠E.n0+1024∧(z<E.n0+K):=fun z hz=>by
    rcases hnm z hz with h|h
    ·have:=hlt z h; omega
    ·omega
   by_cases hE:rawE (stOf l S) e=0
   ·rw[if_neg (by simpa using hE)] at hfe
    obtain⟨T',S',wr,hf,ht,hst⟩:=raw_done (id:=E.n0+(K+1024+4096+1024*2)) hnd1 (fun z hz=>by have:=hnz z hz; omega) hok1 (StR_own hR1) hE
    unfold eEv at hf
    have hwk:∀q∈wr,q.1∈nmT T S∨(E.n0+(K+1024+4096+1024*2)≤q.1∧q.1<E.n0+(K+1024+4096+1024*2)+1024):=ht.kw
    have hsk:∀L z,(z=E.n0∨z=E.n0+1024)→bk (addW L wr) z=bk L z:=fun L z hz=>by
     rw[bk_addW]
     exact appl_none fun q hq=>by
      rcases hwk q hq with h|h
      ·have:=hnz _ h; omega
      ·omega
    have hsk0:=fun L=>hsk L E.n0 (.inl rfl)
    have hsk1:=fun L=>hsk L (E.n0+1024) (.inr rfl)
    refine w_go 4000 ?_
    simp[he,eEv]
    refine⟨h,?_⟩
    refine w_call hP rfl hf (by simp) (HasL.of fun q hq=>?_) ?_
    ·have:=hnz q.1 (List.mem_map.2 ⟨q,hq,rfl⟩)
     simp only[bk]
     rw[if_neg (by omega),if_neg (by omega),if_neg (by omega),if_neg (by omega)]
     exact hin q hq
    refine w_go 4000 ?_
    simp[hsk0,hsk1]
    have hL0:Has (bk ((E.n0+(K+1024+2048),some ⟨[.agg [.int .i64 e.kind,.int .i64 e.type,.int .i64 e.id,.int .i64 e.field,.int .i64 e.n,.str e.text]],.agg [.int .i64 0,.int .i64 0,.int .i64 0,.int .i64 0,.int .i64 0,.str []],false,false⟩)::(E.n0+(K+1024+2048),some ⟨[.agg [.int .i64 0,.int .i64 0,.int .i64 0,.int .i64 0,.int .i64 0,.str []]],.agg [.int .i64 0,.int .i64 0,.int .i64 0,.int .i64 0,.int .i64 0,.str []],false,false⟩)::(E.n0,some ⟨[.agg [.sl (l.map eTy),.bsl T 0 S.length]],.agg [.sl (l.map eTy),.bsl T0 0 S0.length],false,false⟩)::(E.n0+1024,some ⟨[.agg [.nils,.nils]],.agg [.nils,.nils],false,false⟩)::(someL (trB T S)++goneL (trB T0 S0)))) (trB T S):=fun q hq=>by
     have:=hnz q.1 (List.mem_map.2 ⟨q,hq,rfl⟩)
     simp only[bk]
     rw[if_neg (by omega),if_neg (by omega),if_neg (by omega),if_neg (by omega)]
     exact hin q hq
    refine hp _ (i+1,T',S',K+1024+21504) ⟨by simp only; omega,by simp only; omega,ht.nd,fun z hz=>?_,ht.ok,?_,?_,?_⟩ (by simp only; omega) ?_
    ·simp only
     rcases ht.nm z hz with h|h
     ·exact (hnm z h).imp _root_.id fun h=>by omega
     ·right; omega
    ·simp only
     rw[hst]; exact (rt_raw hR1 hei hE).1
    ·simp only
     rw[hst]; exact hfs
    ·simp only
     rw[hst]; exact hfe
    ·refine Conv.stayL (by simp only; omega) (by simp[hi1]) (fun q hq b hb=>?_) fun q hq=>?_
     ·rcases List.mem_cons.1 hq with rfl|hq
      ·injection hb with hb; subst hb; simp
      rcases List.mem_cons.1 hq with rfl|hq
      ·injection hb with hb; subst hb; simp[hsk1]
      rcases List.mem_append.1 hq with hq|hq
      ·obtain⟨p,hp,rfl⟩:=mem_someL hq
       injection hb with hb; subst hb
       have hz:p.1<E.n0+(K+1024+4096+1024*2)+1024∧p.1≠E.n0:=by
        rcases ht.nm p.1 (List.mem_map.2 ⟨p,hp,rfl⟩) with h|h
        ·have:=hnz _ h; omega
        ·omega
       simp only[bk]
       rw[if_neg (by omega),if_neg (by omega),if_neg (by omega),bk_addW]
       exact ht.has _ hL0 p hp
      ·obtain⟨p,hp,rfl⟩:=mem_goneL hq
       cases hb
     ·have hT:∀z,z∈nmT T S→E.n0≤z∨z∈nmT T0 S0:=fun z hz=>by
       rcases hnm z hz with h|h
       ·exact .inr h
       ·left; omega
      have hfin:E.n0≤q.1∨q.1∈nmT T0 S0:=by
       rcases List.mem_cons.1 hq with rfl|hq
       ·left; simp
       rcases List.mem_cons.1 hq with rfl|hq
       ·left; simp
       rcases List.mem_cons.1 hq with rfl|hq
       ·left; simp
       rcases mem_addW1 hq with hq|hq
       ·rcases List.mem_cons.1 hq with rfl|hq
        ·left; simp
        rcases List.mem_cons.1 hq with rfl|hq
        ·left; simp
        rcases List.mem_cons.1 hq with rfl|hq
        ·left; simp
        rcases List.mem_cons.1 hq with rfl|hq
        ·left; simp
        rcases List.mem_append.1 hq with hq|hq
        ·obtain⟨p,hp,rfl⟩:=mem_someL hq
         exact hT _ (nm_of hp)
        ·obtain⟨p,hp,rfl⟩:=mem_goneL hq
         exact .inr (nm_of hp)
       ·rcases hwk q hq with h|h
        ·exact hT _ h
        ·left; omega
      exact hfin.imp _root_.id fun h=>hgone _ h _ _ _
   ·have hf:=Raw_wrong (id:=E.n0+(K+1024+4096+1024*2)) hnd1 (fun z hz=>by have:=hnz z hz; omega) hok1 (StR_own hR1) hE
    unfold eEv at hf
    refine w_go 4000 ?_
    simp[he,eEv]
    refine⟨h,?_⟩
    unfold eS0 at hf
    refine w_call hP rfl hf (by simp) (HasL.of fun q hq=>?_) ?_
    ·have:=hnz q.1 (List.mem_map.2 ⟨q,hq,rfl⟩)
     simp only[bk]
     rw[if_neg (by omega),if_neg (by omega),if_neg (by omega),if_neg (by omega)]
     exact hin q hq
    refine w_go 4000 ?_
    simp
    refine goc_true (by simpa using hE) ?_
    simp
    rw[if_pos hE] at hfe
    have hA:allAV (stOf l S0) ev = .agg [.nils,.nils]:=by unfold allAV eS0; rw[if_neg (by rw[←hfe]; exact hE)]
    rw[hA,←hfe] at hR
    rw[hR]
    refine rt_end (by simp<;>rfl) [] trivial (end_moved (by simp) (by simp) fun q hq=>?_)
    simp only[List.mem_cons] at hq
    rcases hq with rfl|rfl|rfl|rfl|rfl|rfl|rfl|hq
    all_goals first|(left; simp; done)|skip
    rcases List.mem_append.1 hq with hq|hq
    ·obtain⟨p,hp,rfl⟩:=mem_someL hq
     rcases hnm p.1 (List.mem_map.2 ⟨p,hp,rfl⟩) with h|h
     ·exact .inr h
     ·left; simp only; omega
    ·obtain⟨p,hp,rfl⟩:=mem_goneL hq
     exact .inr (nm_of hp)
  ·have h:=of_decide_eq_false h
   rw[List.drop_of_length_le (by omega)] at hfs hfe
   simp only[allS,allE] at hfs hfe
   refine w_go 21 ?_
   simp
   have hA:allAV (stOf l S0) ev = .agg [.sl (l.map eTy),.sl ((S.map OTg.t).map eTg)]:=by unfold allAV; rw[if_pos hfe.symm,←hfs]; rfl
   rw[hA,←hfe] at hR
   have hin:∀q∈trB T S,bk (someL (trB T S)++goneL (trB T0 S0)) q.1=some q.2:=fun q hq=>bk_someL_app (l:=trB T S) hnd1 hq
   have hnz:∀z∈nmT T S,z≠E.n0∧z≠E.n0+1024:=fun z hz=>by
    rcases hnm z hz with h|h
    ·have:=hlt z h; omega
    ·omega
   refine w_conv (Conv.deepL 4 ((E.n0+1024,⟨[.agg [.sl (l.map eTy),.bsl T 0 S.length]],.agg [.nils,.nils],false,false⟩)::trB T S) (goneL (trB T0 S0)) (x:=.ptr (E.n0+1024) 0 0) (y:=.cptr [.sl (l.map eTy),.sl ((S.map OTg.t).map eTg)]) rfl (fun q hq=>?_) ?_ ⟨fun y b hy=>?_,fun q hq=>?_⟩) ?_
   ·rcases List.mem_cons.1 hq with rfl|hq
    ·exact⟨bk_cons_eq,rfl⟩
    ·have:=hnz q.1 (List.mem_map.2 ⟨q,hq,rfl⟩)
     refine⟨?_,trB_ro q hq⟩
     simp only[bk]
     rw[if_neg (by omega),if_neg (by omega),if_neg (by omega)]
     exact hin q hq
   ·refine .ptr _ _ (.agg [.sl (l.map eTy),.bsl T 0 S.length]) _ (List.mem_cons_self ..) rfl rfl fun j c d h1 h2=>?_
    match j,h1,h2 with
    | 0,h1,h2 =>
     injection h1 with h1; injection h2 with h2
     subst h1 h2; exact .same _
    | 1,h1,h2 =>
     injection h1 with h1; injection h2 with h2
     subst h1 h2
     exact rd_things hok1 (List.mem_cons_of_mem _ (List.mem_cons_self ..)) fun q hq=>List.mem_cons_of_mem _ (List.mem_cons_of_mem _ hq)
    | j+2,h1,h2=>simp[AV.cells] at h1
   ·rw[bk_goneL] at hy; cases hy
   ·have hfin:E.n0≤q.1∨q.1∈nmT T0 S0:=by
     simp only[List.mem_cons] at hq
     rcases hq with rfl|rfl|rfl|hq
     all_goals first|(left; simp; done)|skip
     rcases List.mem_append.1 hq with hq|hq
     ·obtain⟨p,hp,rfl⟩:=mem_someL hq
      rcases hnm p.1 (List.mem_map.2 ⟨p,hp,rfl⟩) with h|h
      ·exact .inr h
      ·left; simp only; omega
     ·obtain⟨p,hp,rfl⟩:=mem_goneL hq
      exact .inr (nm_of hp)
    refine hfin.imp _root_.id fun h=>?_
    obtain⟨p,hp,e⟩:=of_nm h
    rw[←e]
    exact hasKey_goneL hp
   ·refine w_go 5 ?_
    simp
    have hp:pureL (List.map (eTg∘OTg.t) S)=true:=pureL_map (f:=eTg∘OTg.t) (fun o=>pure_eTg o.t) S
    rw[hR]
    refine rt_end (by simp<;>rfl) [] trivial (end_moved (by simp) (by simp[hp]) fun q hq=>?_)
    obtain⟨p,hp,rfl⟩:=mem_goneL hq
    exact .inr (nm_of hp)
end Go.Am
namespace Go.Am
set_option linter.all false
open Go Go.RowKit Go.Proofs
set_option maxRecDepth 100000
set_option linter.all false
set_option maxHeartbeats 4000000 in
theorem Of_nil(l:List Ty)(ev:List Ev)(id:Nat)(hR0:Rt (stOf l []))(hI:∀e∈ev,I64 e.n)(hlen:ev.length≤1000000000000000):
  FnOk Tryz.prog 42 [.agg [.sl (l.map eTy),.nils],.sl (ev.map eEv)] (([]:List (Nat×Bx))) id (.tup [allAV (stOf l []) ev,.int .i64 (allE (stOf l []) ev)]) (goneL (([]:List (Nat×Bx)))):=by
 refine fn_okc Tryz.func42 hcc42 (by decide) hcr42 (by simp[Tryz.ntmps42]) fun E hP hR hl hid=>?_
 simp only[cr42] at hR
 refine w_go 4000 ?_
 simp[cc42]
 refine w_loop (X:=Nat×Nat×List OTg×Nat) (fun q=>⟨[(2,true,.ptr E.n0 0 0),(4,true,.ptr (E.n0+1024) 0 0),(10,true,.sl (ev.map eEv)),(11,true,.int .i64 ev.length),(12,true,.int .i64 q.1)],
  (E.n0,some ⟨[.agg [.sl (l.map eTy),.bsl q.2.1 0 q.2.2.1.length]],.agg [.sl (l.map eTy),.nils],false,false⟩)::(E.n0+1024,some ⟨[.agg [.nils,.nils]],.agg [.nils,.nils],false,false⟩)::(someL (trB q.2.1 q.2.2.1)++goneL (([]:List (Nat×Bx)))),q.2.2.2⟩)
  (fun q=>q.1≤ev.length∧6144≤q.2.2.2∧(nmT q.2.1 q.2.2.1).Nodup∧(∀z∈nmT q.2.1 q.2.2.1,z∈([]:List Nat)∨(E.n0+6144≤z∧z<E.n0+q.2.2.2))∧(∀o∈q.2.2.1,o.Ok)∧Rt (stOf l q.2.2.1)∧allS (stOf l q.2.2.1) (ev.drop q.1)=allS (stOf l []) ev∧allE (stOf l q.2.2.1) (ev.drop q.1)=allE (stOf l []) ev)
  (fun q=>ev.length - q.1) (0,E.n0+6144,[],6145) ?_ ⟨by omega,by simp,by simp[nmT,nmR,restB],fun z hz=>.inr (by simp[nmT,nmR,restB] at hz; simp only; omega),fun o ho=>(by cases ho),hR0,rfl,rfl⟩ ?_
 ·refine Conv.trans (Conv.voidBox E.n0 (by simp; rfl) rfl (.agg [.sl (l.map eTy),.nils] [.sl (l.map eTy),.bsl (E.n0+6144) 0 0] rfl (fun m x y h1 h2=>?_)) zT) ?_
  ·match m,h1,h2 with
   | 0,h1,h2=>injection h1 with h1; injection h2 with h2; subst h1 h2; exact .inl rfl
   | 1,h1,h2=>injection h1 with h1; injection h2 with h2; subst h1 h2; exact .inr ⟨rfl,rfl⟩
   | m+2,h1,h2=>simp at h1
  ·refine Conv.stayL (by simp) (by simp) (fun q hq b hb=>?_) fun q hq=>?_
   ·simp only[trB,restB,List.flatMap_nil,someL,goneL,List.map_nil,List.append_nil,List.mem_cons,List.not_mem_nil,or_false] at hq
    rcases hq with rfl|rfl|rfl
    ·injection hb with hb; subst hb; simp
    ·injection hb with hb; subst hb; simp
    ·injection hb with hb; subst hb; simp[tBx]
   ·left
    simp only[List.mem_cons,List.not_mem_nil,or_false] at hq
    rcases hq with rfl|rfl|rfl|rfl<;>simp
 ·rintro⟨i,T,S,K⟩ ⟨hi,hK,hnd1,hnm,hok1,hR1,hfs,hfe⟩ p hp
  simp only at hi hK hnd1 hnm hok1 hR1 hfs hfe
  refine w_go 8 ?_
  simp
  refine w_cond (b:=decide (i<ev.length)) (by simp) (by simp) (fun h=>?_) (fun h=>?_)
  ·have h:=of_decide_eq_true h
   obtain⟨e,he,hd⟩:=drop_cons h
   rw[hd] at hfs hfe
   simp only[allS,allE] at hfs hfe
   have hei:=hI e (List.mem_of_getElem? he)
   have hi1:IntKind.i64.wrap ((i:Int)+1)=((i+1:Nat):Int):=wrap64 (by omega)
   have hin:∀q∈trB T S,bk (someL (trB T S)++goneL (([]:List (Nat×Bx)))) q.1=some q.2:=fun q hq=>bk_someL_app (l:=trB T S) hnd1 hq
   have hnz:∀z∈nmT T S,z≠E.n0∧z≠E.n0+1024∧(z<E.n0+K):=fun z hz=>by
    rcases hnm z hz with h|h
    ·cases h
    ·omega
   by_cases hE:rawE (stOf l S) e=0
   ·rw[if_neg (by simpa using hE)] at hfe
    obtain⟨T',S',wr,hf,ht,hst⟩:=raw_done (id:=E.n0+(K+1024+4096+1024*2)) hnd1 (fun z hz=>by have:=hnz z hz; omega) hok1 (StR_own hR1) hE
    unfold eEv at hf
    have hwk:∀q∈wr,q.1∈nmT T S∨(E.n0+(K+1024+4096+1024*2)≤q.1∧q.1<E.n0+(K+1024+4096+1024*2)+1024):=ht.kw
    have hsk:∀L z,(z=E.n0∨z=E.n0+1024)→bk (addW L wr) z=bk L z:=fun L z hz=>by
     rw[bk_addW]
     exact appl_none fun q hq=>by
      rcases hwk q hq with h|h
      ·have:=hnz _ h; omega
      ·omega
    have hsk0:=fun L=>hsk L E.n0 (.inl rfl)
    have hsk1:=fun L=>hsk L (E.n0+1024) (.inr rfl)
    refine w_go 4000 ?_
    simp[he,eEv]
    refine⟨h,?_⟩
    refine w_call hP rfl hf (by simp) (HasL.of fun q hq=>?_) ?_
    ·have:=hnz q.1 (List.mem_map.2 ⟨q,hq,rfl⟩)
     simp only[bk]
     rw[if_neg (by omega),if_neg (by omega),if_neg (by omega),if_neg (by omega)]
     exact hin q hq
    refine w_go 4000 ?_
    simp[hsk0,hsk1]
    have hL0:Has (bk ((E.n0+(K+1024+2048),some ⟨[.agg [.int .i64 e.kind,.int .i64 e.type,.int .i64 e.id,.int .i64 e.field,.int .i64 e.n,.str e.text]],.agg [.int .i64 0,.int .i64 0,.int .i64 0,.int .i64 0,.int .i64 0,.str []],false,false⟩)::(E.n0+(K+1024+2048),some ⟨[.agg [.int .i64 0,.int .i64 0,.int .i64 0,.int .i64 0,.int .i64 0,.str []]],.agg [.int .i64 0,.int .i64 0,.int .i64 0,.int .i64 0,.int .i64 0,.str []],false,false⟩)::(E.n0,some ⟨[.agg [.sl (l.map eTy),.bsl T 0 S.length]],.agg [.sl (l.map eTy),.nils],false,false⟩)::(E.n0+1024,some ⟨[.agg [.nils,.nils]],.agg [.nils,.nils],false,false⟩)::(someL (trB T S)++goneL (([]:List (Nat×Bx)))))) (trB T S):=fun q hq=>by
     have:=hnz q.1 (List.mem_map.2 ⟨q,hq,rfl⟩)
     simp only[bk]
     rw[if_neg (by omega),if_neg (by omega),if_neg (by omega),if_neg (by omega)]
     exact hin q hq
    refine hp _ (i+1,T',S',K+1024+21504) ⟨by simp only; omega,by simp only; omega,ht.nd,fun z hz=>?_,ht.ok,?_,?_,?_⟩ (by simp only; omega) ?_
    ·simp only
     rcases ht.nm z hz with h|h
     ·exact (hnm z h).imp _root_.id fun h=>by omega
     ·right; omega
    ·simp only
     rw[hst]; exact (rt_raw hR1 hei hE).1
    ·simp only
     rw[hst]; exact hfs
    ·simp only
     rw[hst]; exact hfe
    ·refine Conv.stayL (by simp only; omega) (by simp[hi1]) (fun q hq b hb=>?_) fun q hq=>?_
     ·rcases List.mem_cons.1 hq with rfl|hq
      ·injection hb with hb; subst hb; simp
      rcases List.mem_cons.1 hq with rfl|hq
      ·injection hb with hb; subst hb; simp[hsk1]
      rcases List.mem_append.1 hq with hq|hq
      ·obtain⟨p,hp,rfl⟩:=mem_someL hq
       injection hb with hb; subst hb
       have hz:p.1<E.n0+(K+1024+4096+1024*2)+1024∧p.1≠E.n0:=by
        rcases ht.nm p.1 (List.mem_map.2 ⟨p,hp,rfl⟩) with h|h
        ·have:=hnz _ h; omega
        ·omega
       simp only[bk]
       rw[if_neg (by omega),if_neg (by omega),if_neg (by omega),bk_addW]
       exact ht.has _ hL0 p hp
      ·cases hq
     ·have hT:∀z,z∈nmT T S→E.n0≤z∨z∈([]:List Nat):=fun z hz=>by
       rcases hnm z hz with h|h
       ·exact .inr h
       ·left; omega
      have hfin:E.n0≤q.1∨q.1∈([]:List Nat):=by
       rcases List.mem_cons.1 hq with rfl|hq
       ·left; simp
       rcases List.mem_cons.1 hq with rfl|hq
       ·left; simp
       rcases List.mem_cons.1 hq with rfl|hq
       ·left; simp
       rcases mem_addW1 hq with hq|hq
       ·rcases List.mem_cons.1 hq with rfl|hq
        ·left; simp
        rcases List.mem_cons.1 hq with rfl|hq
        ·left; simp
        rcases List.mem_cons.1 hq with rfl|hq
        ·left; simp
        rcases List.mem_cons.1 hq with rfl|hq
        ·left; simp
        rcases List.mem_append.1 hq with hq|hq
        ·obtain⟨p,hp,rfl⟩:=mem_someL hq
         exact hT _ (nm_of hp)
        ·cases hq
       ·rcases hwk q hq with h|h
        ·exact hT _ h
        ·left; omega
      exact hfin.imp _root_.id fun h=>by cases h
   ·have hf:=Raw_wrong (id:=E.n0+(K+1024+4096+1024*2)) hnd1 (fun z hz=>by have:=hnz z hz; omega) hok1 (StR_own hR1) hE
    unfold eEv at hf
    refine w_go 4000 ?_
    simp[he,eEv]
    refine⟨h,?_⟩
    unfold eS0 at hf
    refine w_call hP rfl hf (by simp) (HasL.of fun q hq=>?_) ?_
    ·have:=hnz q.1 (List.mem_map.2 ⟨q,hq,rfl⟩)
     simp only[bk]
     rw[if_neg (by omega),if_neg (by omega),if_neg (by omega),if_neg (by omega)]
     exact hin q hq
    refine w_go 4000 ?_
    simp
    refine goc_true (by simpa using hE) ?_
    simp
    rw[if_pos hE] at hfe
    have hA:allAV (stOf l []) ev = .agg [.nils,.nils]:=by unfold allAV eS0; rw[if_neg (by rw[←hfe]; exact hE)]
    rw[hA,←hfe] at hR
    rw[hR]
    refine rt_end (by simp<;>rfl) [] trivial (end_moved (by simp) (by simp) fun q hq=>?_)
    simp only[List.mem_cons] at hq
    rcases hq with rfl|rfl|rfl|rfl|rfl|rfl|rfl|hq
    all_goals first|(left; simp; done)|skip
    rcases List.mem_append.1 hq with hq|hq
    ·obtain⟨p,hp,rfl⟩:=mem_someL hq
     rcases hnm p.1 (List.mem_map.2 ⟨p,hp,rfl⟩) with h|h
     ·exact .inr h
     ·left; simp only; omega
    ·cases hq
  ·have h:=of_decide_eq_false h
   rw[List.drop_of_length_le (by omega)] at hfs hfe
   simp only[allS,allE] at hfs hfe
   refine w_go 21 ?_
   simp
   have hA:allAV (stOf l []) ev = .agg [.sl (l.map eTy),.sl ((S.map OTg.t).map eTg)]:=by unfold allAV; rw[if_pos hfe.symm,←hfs]; rfl
   rw[hA,←hfe] at hR
   have hin:∀q∈trB T S,bk (someL (trB T S)++goneL (([]:List (Nat×Bx)))) q.1=some q.2:=fun q hq=>bk_someL_app (l:=trB T S) hnd1 hq
   have hnz:∀z∈nmT T S,z≠E.n0∧z≠E.n0+1024:=fun z hz=>by
    rcases hnm z hz with h|h
    ·cases h
    ·omega
   refine w_conv (Conv.deepL 4 ((E.n0+1024,⟨[.agg [.sl (l.map eTy),.bsl T 0 S.length]],.agg [.nils,.nils],false,false⟩)::trB T S) (goneL (([]:List (Nat×Bx)))) (x:=.ptr (E.n0+1024) 0 0) (y:=.cptr [.sl (l.map eTy),.sl ((S.map OTg.t).map eTg)]) rfl (fun q hq=>?_) ?_ ⟨fun y b hy=>?_,fun q hq=>?_⟩) ?_
   ·rcases List.mem_cons.1 hq with rfl|hq
    ·exact⟨bk_cons_eq,rfl⟩
    ·have:=hnz q.1 (List.mem_map.2 ⟨q,hq,rfl⟩)
     refine⟨?_,trB_ro q hq⟩
     simp only[bk]
     rw[if_neg (by omega),if_neg (by omega),if_neg (by omega)]
     exact hin q hq
   ·refine .ptr _ _ (.agg [.sl (l.map eTy),.bsl T 0 S.length]) _ (List.mem_cons_self ..) rfl rfl fun j c d h1 h2=>?_
    match j,h1,h2 with
    | 0,h1,h2 =>
     injection h1 with h1; injection h2 with h2
     subst h1 h2; exact .same _
    | 1,h1,h2 =>
     injection h1 with h1; injection h2 with h2
     subst h1 h2
     exact rd_things hok1 (List.mem_cons_of_mem _ (List.mem_cons_self ..)) fun q hq=>List.mem_cons_of_mem _ (List.mem_cons_of_mem _ hq)
    | j+2,h1,h2=>simp[AV.cells] at h1
   ·rw[bk_goneL] at hy; cases hy
   ·have hfin:E.n0≤q.1∨q.1∈([]:List Nat):=by
     simp only[List.mem_cons] at hq
     rcases hq with rfl|rfl|rfl|hq
     all_goals first|(left; simp; done)|skip
     rcases List.mem_append.1 hq with hq|hq
     ·obtain⟨p,hp,rfl⟩:=mem_someL hq
      rcases hnm p.1 (List.mem_map.2 ⟨p,hp,rfl⟩) with h|h
      ·exact .inr h
      ·left; simp only; omega
     ·cases hq
    refine hfin.imp _root_.id fun h=>?_
    cases h
   ·refine w_go 5 ?_
    simp
    have hp:pureL (List.map (eTg∘OTg.t) S)=true:=pureL_map (f:=eTg∘OTg.t) (fun o=>pure_eTg o.t) S
    rw[hR]
    refine rt_end (by simp<;>rfl) [] trivial (end_moved (by simp) (by simp[hp]) fun q hq=>?_)
    cases hq
end Go.Am
namespace Go.Am
set_option linter.all false
open Go Go.RowKit Go.Proofs
set_option maxRecDepth 100000
set_option linter.all false
def staA(w:Int)(s:Sta):AV:=if w=0 then .sl (s.types.map eTy) else .nils
def staB(w:Int)(s:Sta):AV:=if w=0 then .sl (s.things.map eTg) else .nils
def staV(w:Int)(s:Sta):AV:=.agg [staA w s,staB w s]
theorem staV_eq(w:Int)(s:Sta):staV w s=if w=0 then eSta s else eS0:=by
 unfold staV staA staB
 by_cases h:w=0
 ·rw[if_pos h,if_pos h,if_pos h]; rfl
 ·rw[if_neg h,if_neg h,if_neg h]; rfl
@[simp] theorem pure_staA (w:Int) (s:Sta):(staA w s).pureB=true:=by unfold staA; split<;>simp
@[simp] theorem pure_staB (w:Int) (s:Sta):(staB w s).pureB=true:=by unfold staB; split<;>simp
@[simp] theorem one_staA (w:Int) (s:Sta):AV.one (staA w s)=true:=by unfold staA; split<;>rfl
@[simp] theorem one_staB (w:Int) (s:Sta):AV.one (staB w s)=true:=by unfold staB; split<;>rfl
theorem rt_nil{l:List Ty}(h:fCheckT l=0):Rt ⟨l,[]⟩ :=
 ⟨h,⟨schOk h,by simp,fun t ht=>(by cases ht)⟩,⟨fun t ht=>(by cases ht),fun t ht=>(by cases ht),fun i j a b _ ha _=>(by simp at ha)⟩,fun t ht=>(by cases ht)⟩
def atE(l:List Ty)(ev:List Ev)(n:Int):Int:=if fCheckT l≠0 then fCheckT l else if n<0∨(ev.length:Int)<n then 3 else allE ⟨l,[]⟩ (ev.take n.toNat)
def atS(l:List Ty)(ev:List Ev)(n:Int):Sta:=allS ⟨l,[]⟩ (ev.take n.toNat)
theorem At_ok(l:List Ty)(ev:List Ev)(n:Int)(id:Nat)(hI:∀e∈ev,I64 e.n)(hlen:ev.length≤1000000000000000):FnOk Tryz.prog 38 [.sl (l.map eTy),.sl (ev.map eEv),.int .i64 n] [] id (.tup [staV (atE l ev n) (atS l ev n),.int .i64 (atE l ev n)]) []:=by
 have hC:=fun id=>sCheck_ok l id
 by_cases h0:fCheckT l=0
 rotate_left
 ·have hE:atE l ev n=fCheckT l:=by unfold atE; rw[if_pos h0]
  have hV:staV (fCheckT l) (atS l ev n) = .agg [.nils,.nils]:=by rw[staV_eq,if_neg h0]; rfl
  rw[hE,hV]
  refine fn_okc Tryz.func38 hcc38 (by decide) hcr38 (by simp[Tryz.ntmps38]) fun E hP hR hl hid=>?_
  simp only[cr38] at hR
  refine w_go 4000 ?_
  simp[cc38]
  (refine w_call hP rfl (hC _) (by simp) (by simp<;>rfl) ?_; refine w_go 4000 ?_; simp)
  refine⟨fun a=>(h0 a).elim,?_⟩
  refine goc_false (by simp[h0]) ?_
  simp
  refine goc_true (by simp[h0]) ?_
  simp
  rw[hR]; exact rt_end (by simp<;>rfl) [] trivial (end_pure (by simp) (by simp) (by simp))
 by_cases h1:n<0∨(ev.length:Int)<n
 ·have hE:atE l ev n=3:=by unfold atE; rw[if_neg (by simpa using h0),if_pos h1]
  have hV:staV 3 (atS l ev n) = .agg [.nils,.nils]:=by rw[staV_eq,if_neg (by decide)]; rfl
  rw[hE,hV]
  rw[h0] at hC
  refine fn_okc Tryz.func38 hcc38 (by decide) hcr38 (by simp[Tryz.ntmps38]) fun E hP hR hl hid=>?_
  simp only[cr38] at hR
  refine w_go 4000 ?_
  simp[cc38]
  (refine w_call hP rfl (hC _) (by simp) (by simp<;>rfl) ?_; refine w_go 4000 ?_; simp)
  refine goc_true (by simp; omega) ?_
  simp
  rw[hR]; exact rt_end (by simp<;>rfl) [] trivial (end_pure (by simp) (by simp) (by simp))
 ·have hE:atE l ev n=allE ⟨l,[]⟩ (ev.take n.toNat):=by unfold atE; rw[if_neg (by simpa using h0),if_neg h1]
  rw[h0] at hC
  have hS:=schOk h0
  have hO:=fun id=>schOwn_ok l id (by have:=hS.len; omega) (fun t ht=>by have:=hS.fields t ht; omega)
  have hF:=fun id=>Of_nil l (ev.take n.toNat) id (rt_nil h0) (fun e he=>hI e (List.mem_of_mem_take he)) (by simp; omega)
  have hV:allAV (stOf l []) (ev.take n.toNat)=staV (atE l ev n) (atS l ev n):=by rw[staV_eq,hE]; rfl
  rw[hV,show allE (stOf l []) (ev.take n.toNat)=atE l ev n by rw[hE]; rfl,List.map_take] at hF
  simp only[goneL,List.map_nil] at hF
  unfold staV at *
  refine fn_okc Tryz.func38 hcc38 (by decide) hcr38 (by simp[Tryz.ntmps38]) fun E hP hR hl hid=>?_
  simp only[cr38] at hR
  refine w_go 4000 ?_
  simp[cc38]
  (refine w_call hP rfl (hC _) (by simp) (by simp<;>rfl) ?_; refine w_go 4000 ?_; simp)
  refine goc_false (by simp; omega) ?_
  simp
  (refine w_call hP rfl (hO _) (by simp) (by simp<;>rfl) ?_; refine w_go 4000 ?_; simp)
  refine⟨⟨fun a _=>rfl,by omega,by omega⟩,?_⟩
  (refine w_call hP rfl (hF _) (by simp) (by simp<;>rfl) ?_; refine w_go 4000 ?_; simp)
  refine⟨⟨one_staA _ _,one_staB _ _⟩,?_⟩
  rw[hR]; exact rt_end (by simp<;>rfl) [] trivial (end_pure (by simp) (by simp) (by simp))
theorem All_ok(l:List Ty)(ev:List Ev)(id:Nat)(hI:∀e∈ev,I64 e.n)(hlen:ev.length≤1000000000000000):FnOk Tryz.prog 35 [.sl (l.map eTy),.sl (ev.map eEv)] [] id (.tup [staV (atE l ev ev.length) (atS l ev ev.length),.int .i64 (atE l ev ev.length)]) []:=by
 have hA:=fun id=>At_ok l ev ev.length id hI hlen
 unfold staV at *
 refine fn_okc Tryz.func35 hcc35 (by decide) hcr35 (by simp[Tryz.ntmps35]) fun E hP hR hl hid=>?_
 simp only[cr35] at hR
 refine w_go 4000 ?_
 simp[cc35]
 (refine w_call hP rfl (hA _) (by simp) (by simp<;>rfl) ?_; refine w_go 4000 ?_; simp)
 refine⟨⟨one_staA _ _,one_staB _ _⟩,?_⟩
 rw[hR]; exact rt_end (by simp<;>rfl) [] trivial (end_pure (by simp) (by simp) (by simp))
def rdyE(s:Sta)(ev:List Ev):Int:=if fSt s≠0 then fSt s else if 8<ev.length then 2 else 0
theorem ready_ok(s:Sta)(ev:List Ev)(id:Nat):FnOk Tryz.prog 41 [eSta s,.sl (ev.map eEv)] [] id (.int .i64 (rdyE s ev)) []:=by
 have hC:=fun id=>stCheck_ok s id
 unfold eSta at *
 refine fn_okc Tryz.func41 hcc41 (by decide) hcr41 (by simp[Tryz.ntmps41]) fun E hP hR hl hid=>?_
 simp only[cr41] at hR
 refine w_go 4000 ?_
 simp[cc41]
 (refine w_call hP rfl (hC _) (by simp) (by simp<;>rfl) ?_; refine w_go 4000 ?_; simp)
 refine goc (fun h=>?_) (fun h=>?_)<;>simp
 ·have hE:rdyE s ev=2:=by unfold rdyE; simp at h; rw[if_neg (by omega),if_pos (by omega)]
  rw[hE] at hR
  rw[hR]; exact rt_end (by simp<;>rfl) [] trivial (end_pure (by simp) (by simp) (by simp))
 ·have hE:rdyE s ev=fSt s:=by
   unfold rdyE
   simp at h
   by_cases g:fSt s=0
   ·rw[if_neg (by simpa using g),if_neg (by have:=h g; omega),g]
   ·rw[if_pos g]
  rw[hE] at hR
  rw[hR]; exact rt_end (by simp<;>rfl) [] trivial (end_pure (by simp) (by simp) (by simp))
def grpE(s:Sta)(ev:List Ev):Int:=if rdyE s ev≠0 then rdyE s ev else allE s ev
theorem bk_addW_gone{L:List (Nat×Option Bx)}{rd:List (Nat×Bx)}{z:Nat}(h:z∉rd.map Prod.fst):bk (addW L (goneL rd)) z=bk L z:=by
 rw[bk_addW]
 exact appl_none fun q hq e=>by
  obtain⟨p,hp,rfl⟩:=mem_goneL hq
  exact h (e▸List.mem_map.2 ⟨p,hp,rfl⟩)
set_option maxHeartbeats 2000000 in
theorem Group_ok(s:Sta)(ev:List Ev)(id:Nat)(hI:IdsI s)(hn:∀e∈ev,I64 e.n):FnOk Tryz.prog 17 [eSta s,.sl (ev.map eEv)] [] id (.tup [staV (grpE s ev) (allS s ev),.int .i64 (grpE s ev)]) []:=by
 have hC:=fun id=>ready_ok s ev id
 by_cases h0:rdyE s ev=0
 rotate_left
 ·have hE:grpE s ev=rdyE s ev:=by unfold grpE; rw[if_pos h0]
  have hV:staV (rdyE s ev) (allS s ev) = .agg [.nils,.nils]:=by rw[staV_eq,if_neg h0]; rfl
  rw[hE,hV]
  unfold eSta at *
  refine fn_okc Tryz.func17 hcc17 (by decide) hcr17 (by simp[Tryz.ntmps17]) fun E hP hR hl hid=>?_
  simp only[cr17] at hR
  refine w_go 4000 ?_
  simp[cc17]
  (refine w_call hP rfl (hC _) (by simp) (by simp<;>rfl) ?_; refine w_go 4000 ?_; simp)
  refine goc_true (by simpa using h0) ?_
  simp
  rw[hR]; exact rt_end (by simp<;>rfl) [] trivial (end_pure (by simp) (by simp) (by simp))
 have hE:grpE s ev=allE s ev:=by unfold grpE; rw[if_neg (by simpa using h0)]
 rw[h0] at hC
 have h8:fSt s=0∧ev.length≤8:=by
  unfold rdyE at h0
  split at h0
  ·rename_i g; exact (g h0).elim
  ·rename_i g
   split at h0
   ·omega
   ·exact⟨Classical.byContradiction g,by omega⟩
 have hR:=rt_of h8.1 hI
 obtain⟨hr,hs,hl⟩:=stR_of h8.1
 have h6:∀x∈s.things,x.cells.length≤16∧∀c∈x.cells,c.ids.length≤1000:=fun x hx=>by
  have h1:=(hr.tg x hx).cells6 hr.sch
  refine⟨by omega,fun c hc=>?_⟩
  obtain⟨k,hk⟩:=List.mem_iff_getElem?.1 hc
  obtain⟨f,_,hco⟩:=(hr.tg x hx).cellOk hk
  have:=hco.i1; omega
 have h5:=hr.sch.len
 have h12:=hr.len
 have hW:∀id,FnOk Tryz.prog 43 [eSta s] [] id (.agg [.sl (s.types.map eTy),.bsl id 0 s.things.length]) ((id,some ⟨eTosU id s.things s.things.length,zT,false,false⟩)::restU id s.things s.things.length):=fun id=>stOwn_ok s id (by omega) (fun t ht=>by have:=hr.sch.fields t ht; omega) h12 h6
 have h16:∀x∈s.things,x.cells.length≤16:=fun x hx=>(h6 x hx).1
 have hkey:∀t,∀q∈restU t s.things s.things.length,t+1≤q.1∧q.1<t+1000:=fun t q hq=>by
  obtain⟨y,b⟩:=q
  rcases restU_key h16 hq with⟨j,h1,h2⟩|⟨j,m,h1,h2,h3⟩<;>simp only<;>omega
 have hF:∀t id,FnOk Tryz.prog 42 [.agg [.sl (s.types.map eTy),.bsl t 0 s.things.length],.sl (ev.map eEv)] (trB t (ownS t 0 s.things)) id (.tup [staV (grpE s ev) (allS s ev),.int .i64 (grpE s ev)]) (goneL (trB t (ownS t 0 s.things))):=fun t id=>by
  have:=Of_own s.types (ownS t 0 s.things) t ev id (own_nd h16 h12) (ownS_ok t s.things 0) (by rw[own_st]; exact hR) hn (by omega)
  rw[own_st,ownS_len] at this
  rw[staV_eq,hE]; exact this
 unfold staV eSta at *
 refine fn_okc Tryz.func17 hcc17 (by decide) hcr17 (by simp[Tryz.ntmps17]) fun E hP hR hl hid=>?_
 simp only[cr17] at hR
 refine w_go 4000 ?_
 simp[cc17]
 (refine w_call hP rfl (hC _) (by simp) (by simp<;>rfl) ?_; refine w_go 4000 ?_; simp)
 have hsk:∀L z,z<E.n0+10240→bk (addW L (restU (E.n0+10240) s.things s.things.length)) z=bk L z:=fun L z hz=>by
  rw[bk_addW]
  exact appl_none fun q hq=>by have:=hkey _ q hq; omega
 have hin:∀L,∀q∈trB (E.n0+10240) (ownS (E.n0+10240) 0 s.things),bk (addW ((E.n0+10240,some ⟨eTosU (E.n0+10240) s.things s.things.length,zT,false,false⟩)::L) (restU (E.n0+10240) s.things s.things.length)) q.1=some q.2:=fun L q hq=>by
  have hm:=own_in hq
  rw[bk_addW]
  rcases List.mem_cons.1 hm with hm|hm
  ·injection hm with h1 h2
   rw[appl_none fun q' hq'=>by have:=hkey _ q' hq'; omega,h1,h2]
   exact bk_cons_eq
  ·exact appl_get (restU_aside (S:=fun _=>True) h16 s.things.length h12 (fun _ _=>trivial) fun _ _ _ _=>trivial).nd hm
 have hsk2:∀L z,z<E.n0+10240→bk (addW L (goneL (trB (E.n0+10240) (ownS (E.n0+10240) 0 s.things)))) z=bk L z:=fun L z hz=>bk_addW_gone fun hm=>by
  have:=own_rg h16 h12 z hm; omega
 refine w_call hP rfl (hW _) (by simp) (by simp) ?_
 refine w_go 4 ?_
 simp[hsk]
 refine w_call hP rfl (hF (E.n0+10240) _) (by simp) (HasL.of (hin _)) ?_
 refine w_go 4000 ?_
 simp[hsk,hsk2]
 refine⟨⟨one_staA _ _,one_staB _ _⟩,?_⟩
 rw[hR]
 refine rt_end (by simp<;>rfl) [] trivial (end_pure (by simp) (by simp) (dropOk_own fun q hq=>?_))
 rcases List.mem_cons.1 hq with rfl|hq
 ·simp
 rcases mem_addW1 hq with hq|hq
 ·rcases mem_addW1 hq with hq|hq
  ·simp only[List.mem_cons,List.not_mem_nil,or_false] at hq
   rcases hq with rfl|rfl|rfl<;>simp
  ·have:=hkey _ q hq; omega
 ·obtain⟨p,hp,rfl⟩:=mem_goneL hq
  have:=own_rg h16 h12 _ (nm_of hp)
  simp only; omega
end Go.Am
