/- Parts of the proof: an abstract machine for Go functions, and what functions of the program give back (Ra5, Ra6, Ra7, Ra8). No condition. -/
import Derived.Test.YtblnaikecokobaaGreatXS
import Derived.Test.YtblnaikecokobaaGreatXJ
namespace Go.Am
set_option linter.all false
open Go Go.RowKit Go.Proofs
set_option maxRecDepth 100000
set_option linter.all false
theorem tree_chgB{id T:Nat}{A B:List OTg}{o o':OTg}{X:List (Nat×Bx)}(ho:o.bxs=(o.c,cBn o)::X)(ho':o'.bxs=(o.c,cBn o')::X)(he:eTn o'=eTn o)(hok':o'.Ok)(hnd:(nmT T (A++o::B)).Nodup)(hok:∀x∈A++o::B,x.Ok):
  TreeTo id T (A++o::B) [(o.c,some (cBn o'))] T (A++o'::B):=by
 have hr:restB (A++o::B)=restB A++((o.c,cBn o)::X++restB B):=by rw[restB_app,restB_cons,ho]
 have hr':restB (A++o'::B)=restB A++((o.c,cBn o')::X++restB B):=by rw[restB_app,restB_cons,ho']
 have hn:nmT T (A++o'::B)=nmT T (A++o::B):=by simp only[nmT,nmR,hr,hr']; simp
 have ht:tBx (A++o'::B)=tBx (A++o::B):=by simp[tBx,he]
 have hnd':=hnd
 rw[nmT,nmR,hr] at hnd'
 simp only[List.map_append,List.map_cons,List.nodup_cons,List.nodup_append,List.mem_append,List.mem_cons,List.cons_append] at hnd'
 obtain⟨h0,h1,⟨h2,h3,h4,h5⟩,h6⟩:=hnd'
 refine⟨fun bx hb q hq=>?_,by rw[hn]; exact hnd,fun z hz=>.inl (by rw[←hn]; exact hz),fun x hx=>?_,fun q hq=>?_⟩
 ·simp only[appl]
  have key:q∈trB T (A++o::B)→q.1≠o.c→upd bx o.c (some (cBn o')) q.1=some q.2:=fun h1 h2=>by
   rw[upd_ne _ _ _ h2]; exact hb q h1
  rcases List.mem_cons.1 hq with rfl|hq
  ·exact key (by rw[ht]; exact List.mem_cons_self ..) (fun e=>h0 (.inr (.inl e)))
  ·rw[hr'] at hq
   rcases List.mem_append.1 hq with hq|hq
   ·refine key (List.mem_cons_of_mem _ (by rw[hr]; exact List.mem_append_left _ hq)) fun e=>h6 q.1 (List.mem_map.2 ⟨q,hq,rfl⟩) o.c (.inl rfl) e
   ·rcases List.mem_append.1 hq with hq|hq
    ·rcases List.mem_cons.1 hq with rfl|hq
     ·exact upd_eq ..
     ·exact key (List.mem_cons_of_mem _ (by rw[hr]; exact List.mem_append_right _ (List.mem_append_left _ (List.mem_cons_of_mem _ hq)))) fun e=>h2 (.inl (e▸List.mem_map.2 ⟨q,hq,rfl⟩))
    ·exact key (List.mem_cons_of_mem _ (by rw[hr]; exact List.mem_append_right _ (List.mem_append_right _ hq))) fun e=>h2 (.inr (e▸List.mem_map.2 ⟨q,hq,rfl⟩))
 ·rcases List.mem_append.1 hx with hx|hx
  ·exact hok x (List.mem_append_left _ hx)
  ·rcases List.mem_cons.1 hx with rfl|hx
   ·exact hok'
   ·exact hok x (List.mem_append_right _ (List.mem_cons_of_mem _ hx))
 ·simp only[List.mem_cons,List.not_mem_nil,or_false] at hq
  subst hq
  exact .inl (by simp[nmT,nmR,hr])
theorem tree_chgC{id T:Nat}{A B:List OTg}{o o':OTg}{X I Y:List (Nat×Bx)}{b:Bx}{pre:List (Nat×Option Bx)}(ho:o.bxs=(o.c,cBn o)::(X++(I++Y)))(ho':o'.bxs=(o.c,cBn o')::(X++((id,b)::Y)))(hpre:∀p∈pre,p.1∈I.map Prod.fst)(he:eTn o'=eTn o)(hok':o'.Ok)
  (hnd:(nmT T (A++o::B)).Nodup) (hfr:∀z∈nmT T (A++o::B),z<id∨id+1024≤z) (hok:∀x∈A++o::B,x.Ok) :
  TreeTo id T (A++o::B) (pre++[(o.c,some (cBn o')),(id,some b)]) T (A++o'::B):=by
 have hr:restB (A++o::B)=restB A++((o.c,cBn o)::(X++(I++Y))++restB B):=by rw[restB_app,restB_cons,ho]
 have hr':restB (A++o'::B)=restB A++((o.c,cBn o')::(X++((id,b)::Y))++restB B):=by rw[restB_app,restB_cons,ho']
 have ht:tBx (A++o'::B)=tBx (A++o::B):=by simp[tBx,he]
 have hnd':=hnd
 rw[nmT,nmR,hr] at hnd'
 simp only[List.map_append,List.map_cons,List.nodup_cons,List.nodup_append,List.mem_append,List.mem_cons,List.cons_append] at hnd'
 obtain⟨h0,h1,⟨h2,⟨h7,⟨h8,h9,h10⟩,h11⟩,h4,h5⟩,h6⟩:=hnd'
 have hmem:∀z,z∈nmT T (A++o::B)↔z=T∨z∈(restB A).map Prod.fst∨z=o.c∨z∈X.map Prod.fst∨z∈I.map Prod.fst∨z∈Y.map Prod.fst∨z∈(restB B).map Prod.fst:=fun z=>by
  simp only[nmT,nmR,hr,List.map_append,List.map_cons,List.mem_append,List.mem_cons,List.cons_append,or_assoc]
 have hmem':∀z,z∈nmT T (A++o'::B)↔z=T∨z∈(restB A).map Prod.fst∨z=o.c∨z∈X.map Prod.fst∨z=id∨z∈Y.map Prod.fst∨z∈(restB B).map Prod.fst:=fun z=>by
  simp only[nmT,nmR,hr',List.map_append,List.map_cons,List.mem_append,List.mem_cons,List.cons_append,or_assoc]
 have hout:∀(bx:Nat→Option Bx) z,z∉I.map Prod.fst→z≠o.c→z≠id→appl bx (pre++[(o.c,some (cBn o')),(id,some b)]) z=bx z:=fun bx z h1 h2 h3=>by
  rw[appl_append]
  simp only[appl]
  rw[upd_ne _ _ _ h3,upd_ne _ _ _ h2]
  exact appl_out (fun h=>by
   obtain⟨p,hp,rfl⟩:=List.mem_map.1 h
   exact h1 (hpre p hp))
 have hc:o.c<id∨id+1024≤o.c:=hfr _ ((hmem _).2 (.inr (.inr (.inl rfl))))
 refine⟨fun bx hb q hq=>?_,?_,fun z hz=>?_,fun x hx=>?_,fun q hq=>?_⟩
 ·have key:q∈trB T (A++o::B)→q.1∉I.map Prod.fst→q.1≠o.c→appl bx (pre++[(o.c,some (cBn o')),(id,some b)]) q.1=some q.2:=fun g1 g2 g3=>by
   have:q.1<id∨id+1024≤q.1:=hfr q.1 (List.mem_map.2 ⟨q,g1,rfl⟩)
   rw[hout _ _ g2 g3 (by omega)]; exact hb q g1
  rcases List.mem_cons.1 hq with rfl|hq
  ·exact key (by rw[ht]; exact List.mem_cons_self ..) (fun e=>h0 (.inr (.inr (.inl (.inr (.inl e)))))) (fun e=>h0 (.inr (.inl e)))
  ·rw[hr'] at hq
   rcases List.mem_append.1 hq with hq|hq
   ·have hm:=List.mem_map_of_mem (f:=Prod.fst) hq
    exact key (List.mem_cons_of_mem _ (by rw[hr]; exact List.mem_append_left _ hq)) (fun e=>h6 q.1 hm q.1 (.inr (.inl (.inr (.inl e)))) rfl) (fun e=>h6 q.1 hm o.c (.inl rfl) e)
   ·rcases List.mem_append.1 hq with hq|hq
    ·rcases List.mem_cons.1 hq with rfl|hq
     ·rw[appl_append]
      simp only[appl]
      rw[upd_ne _ _ _ (by omega),upd_eq]
     ·rcases List.mem_append.1 hq with hq|hq
      ·have hm:=List.mem_map_of_mem (f:=Prod.fst) hq
       exact key (List.mem_cons_of_mem _ (by rw[hr]; exact List.mem_append_right _ (List.mem_append_left _ (List.mem_cons_of_mem _ (List.mem_append_left _ hq))))) (fun e=>h11 q.1 hm q.1 (.inl e) rfl) (fun e=>h2 (.inl (.inl (e▸hm))))
      ·rcases List.mem_cons.1 hq with rfl|hq
       ·rw[appl_append]
        simp only[appl]
        rw[upd_eq]
       ·have hm:=List.mem_map_of_mem (f:=Prod.fst) hq
        exact key (List.mem_cons_of_mem _ (by rw[hr]; exact List.mem_append_right _ (List.mem_append_left _ (List.mem_cons_of_mem _ (List.mem_append_right _ (List.mem_append_right _ hq)))))) (fun e=>h10 q.1 e q.1 hm rfl) (fun e=>h2 (.inl (.inr (.inr (e▸hm)))))
    ·have hm:=List.mem_map_of_mem (f:=Prod.fst) hq
     exact key (List.mem_cons_of_mem _ (by rw[hr]; exact List.mem_append_right _ (List.mem_append_right _ hq))) (fun e=>h5 q.1 (.inr (.inl e)) q.1 hm rfl) (fun e=>h2 (.inr (e▸hm)))
 ·rw[nmT,nmR,hr']
  simp only[List.map_append,List.map_cons,List.nodup_cons,List.nodup_append,List.mem_append,List.mem_cons,List.cons_append]
  have fr:∀z,z∈nmT T (A++o::B)→z≠id:=fun z hz=>by have:=hfr z hz; omega
  refine⟨fun h=>?_,h1,⟨fun h=>?_,⟨h7,⟨fun h=>?_,h9⟩,fun a ha b hb=>?_⟩,h4,fun a ha b hb=>?_⟩,fun a ha b hb=>?_⟩
  ·rcases h with h|h|(h|h|h)|h
   ·exact h0 (.inl h)
   ·exact h0 (.inr (.inl h))
   ·exact h0 (.inr (.inr (.inl (.inl h))))
   ·exact fr T (List.mem_cons_self ..) h
   ·exact h0 (.inr (.inr (.inl (.inr (.inr h)))))
   ·exact h0 (.inr (.inr (.inr h)))
  ·rcases h with (h|h|h)|h
   ·exact h2 (.inl (.inl h))
   ·omega
   ·exact h2 (.inl (.inr (.inr h)))
   ·exact h2 (.inr h)
  ·exact fr id ((hmem _).2 (by simp[h])) rfl
  ·rcases hb with rfl|hb
   ·exact fr a ((hmem _).2 (by simp[ha]))
   ·exact h11 a ha b (.inr hb)
  ·rcases ha with ha|rfl|ha
   ·exact h5 a (.inl ha) b hb
   ·exact fun e=>fr b ((hmem _).2 (by simp[hb])) e.symm
   ·exact h5 a (.inr (.inr ha)) b hb
  ·rcases hb with rfl|(hb|rfl|hb)|hb
   ·exact h6 a ha _ (.inl rfl)
   ·exact h6 a ha b (.inr (.inl (.inl hb)))
   ·exact fr a ((hmem _).2 (by simp[ha]))
   ·exact h6 a ha b (.inr (.inl (.inr (.inr hb))))
   ·exact h6 a ha b (.inr (.inr hb))
 ·rcases (hmem' z).1 hz with h|h|h|h|h|h|h
  ·exact .inl ((hmem z).2 (by simp[h]))
  ·exact .inl ((hmem z).2 (by simp[h]))
  ·exact .inl ((hmem z).2 (by simp[h]))
  ·exact .inl ((hmem z).2 (by simp[h]))
  ·exact .inr ⟨by omega,by omega⟩
  ·exact .inl ((hmem z).2 (by simp[h]))
  ·exact .inl ((hmem z).2 (by simp[h]))
 ·rcases List.mem_append.1 hx with hx|hx
  ·exact hok x (List.mem_append_left _ hx)
  ·rcases List.mem_cons.1 hx with rfl|hx
   ·exact hok'
   ·exact hok x (List.mem_append_right _ (List.mem_cons_of_mem _ hx))
 ·rcases List.mem_append.1 hq with hq|hq
  ·exact .inl ((hmem _).2 (by have:=hpre q hq; simp only[this,true_or,or_true]))
  ·simp only[List.mem_cons,List.not_mem_nil,or_false] at hq
   rcases hq with rfl|rfl
   ·exact .inl ((hmem _).2 (by simp))
   ·exact .inr ⟨Nat.le_refl _,by simp only; omega⟩
end Go.Am
namespace Go.Am
set_option linter.all false
open Go Go.RowKit Go.Proofs
set_option maxRecDepth 100000
set_option linter.all false
def rawI(s:Sta)(e:Ev):Nat:=fFindI s.things e.type e.id
def rawB(s:Sta)(e:Ev):Bool:=fFindB s.things e.type e.id
def fdOf(s:Sta)(e:Ev):Option Fd:=if e.field<0 then none else (fldsAt s.types e.type)[e.field.toNat]?
def clOf(s:Sta)(e:Ev):Option Cl:=match s.things[rawI s e]? with
 | some t=>t.cells[e.field.toNat]?
 | none=>none
def chE(s:Sta)(e:Ev):Int:=match fdOf s e,clOf s e with
 | some f,some c=>if kindFits e.kind f=true then chgE s f c e else 7
 | _,_=>5
def doE(s:Sta)(e:Ev):Int :=
 if e.kind=1 then (if rawB s e=true then 6 else if s.things.length=12 then 2 else 0)
 else if rawB s e=false then 5 else if e.kind=2 then (if eachB (meantB s.types e) s.types s.things=false then 4 else 0) else chE s e
def rawE(s:Sta)(e:Ev):Int:=if rawE0 s.types e≠0 then rawE0 s.types e else doE s e
def setC(s:Sta)(i k:Nat)(c:Cl):Sta:=⟨s.types,match s.things[i]? with
 | some t=>s.things.set i ⟨t.type,t.id,t.cells.set k c⟩
 | none=>s.things⟩
def rawS(s:Sta)(e:Ev):Sta :=
 if e.kind=1 then ⟨s.types,s.things.take (rawI s e)++⟨e.type,e.id,List.replicate (fldsAt s.types e.type).length cl0⟩::s.things.drop (rawI s e)⟩
 else if e.kind=2 then ⟨s.types,s.things.take (rawI s e)++s.things.drop (rawI s e+1)⟩
 else match fdOf s e,clOf s e with
  | some f,some c=>setC s (rawI s e) e.field.toNat (chgC f c e)
  | _,_=>s
structure StR(s:Sta):Prop where
 sch:SchOk s.types
 len:s.things.length≤12
 tg:∀t∈s.things,TgOk s t
theorem split_at{α:Type}{l:List α}{i:Nat}{x:α}(h:l[i]?=some x):l=l.take i++x::l.drop (i+1):=by
 obtain⟨h1,h2⟩:=List.getElem?_eq_some_iff.1 h
 conv=>lhs; rw[←List.take_append_drop i l,List.drop_eq_getElem_cons h1,h2]
theorem rawE0_zero{l:List Ty}{e:Ev}(h:rawE0 l e=0):fForm e=0∧0≤e.type∧e.type≤(l.length:Int) - 1∧1≤e.id∧e.id≤999∧1≤e.kind∧e.kind≤6:=by
 unfold rawE0 at h
 split at h
 ·rename_i h1; exact (h1 h).elim
 ·rename_i h1
  split at h
  ·omega
  ·split at h
   ·omega
   ·rename_i h2 h3
    have h1:fForm e=0:=by omega
    have hk:1≤e.kind∧e.kind≤6:=by
     unfold fForm at h1
     split at h1
     ·omega
     ·rename_i h4; omega
    exact⟨h1,by omega,by omega,by omega,by omega,hk.1,hk.2⟩
theorem find_le(l:List Tg)(a b:Int):fFindI l a b≤l.length:=(bs_le _ _ _ (Nat.zero_le _)).2
theorem find_lt{l:List Tg}{a b:Int}(h:fFindB l a b=true):fFindI l a b<l.length:=by unfold fFindB at h; simp at h; exact h.1
section
variable {l:List Ty} {S:List OTg} {T:Nat} {e:Ev} {id:Nat} (hnd:(nmT T S).Nodup) (hfr:∀z∈nmT T S,z<id∨id+1024≤z) (hok:∀o∈S,o.Ok) (hR:StR (stOf l S))
include hnd hfr hok hR
theorem raw_lens:l.length≤5∧S.length≤12∧(∀t∈l,t.fields.length≤6)∧∀t∈S.map OTg.t,0≤t.type∧t.type.toNat<l.length∧t.cells.length=(fldsAt l t.type).length∧t.cells.length≤1000000∧∀c∈t.cells,c.ids.length≤6:=by
 refine⟨hR.sch.len,by have:=hR.len; simpa [stOf] using this,hR.sch.fields,fun t ht=>?_⟩
 have h:=hR.tg t ht
 have h6:=h.cells6 hR.sch
 refine⟨h.ty0,h.ty1,h.len,by omega,fun c hc=>?_⟩
 obtain⟨k,hk⟩:=List.mem_iff_getElem?.1 hc
 obtain⟨f,_,hco⟩:=h.cellOk hk
 exact hco.i1
theorem raw_found(h1 : -1≤e.type∧e.type≤1000)(h2:1≤e.id∧e.id≤999)(hb:rawB (stOf l S) e=true){o:OTg}(ho:S[rawI (stOf l S) e]?=some o){ty:Ty}(hty:l[e.type.toNat]?=some ty):o.t.type=e.type∧o.t.id=e.id∧o.t.cells.length=ty.fields.length:=by
 have ht:(stOf l S).things[rawI (stOf l S) e]?=some o.t:=by simp only[stOf] at ho ⊢; rw[List.getElem?_map,ho]; rfl
 have hg:=hR.tg o.t (List.mem_of_getElem? ht)
 have h5:=hR.sch.len
 have hz:fOrdAt (stOf l S).things e.type e.id (rawI (stOf l S) e)=0:=by unfold rawB fFindB at hb; simp at hb; exact hb.2
 unfold fOrdAt at hz
 rw[ht] at hz
 have hz:ordI o.t.type o.t.id e.type e.id=0:=hz
 have g1:=hg.ty0
 have g2:=hg.ty1
 have g3:=hg.id1
 have g4:=hg.id2
 obtain⟨e1,e2⟩:=(ord_zero (by omega) (by omega) (by omega) (by unfold I64; omega)).1 hz
 refine⟨e1,e2,?_⟩
 have:=hg.len
 rw[e1] at this
 have hfl:fldsAt (stOf l S).types e.type=ty.fields:=by simp[fldsAt,stOf,hty]
 rw[this,hfl]
omit hfr hok hR in
theorem raw_cI{o:OTg}(ho:o∈S){I:Nat}{b:Bx}(h:(I,b)∈idsB o.t.cells o.is):o.c≠I:=fun e=>by
 rw[nmT,List.nodup_cons] at hnd
 obtain⟨i,hi⟩:=List.mem_iff_getElem?.1 ho
 have hs:=split_at hi
 have h2:=hnd.2
 rw[hs,nmR_app,nmR_cons,List.nodup_append,List.nodup_append] at h2
 have h3:=h2.2.1.1
 rw[nmO,OTg.bxs,List.map_cons,List.nodup_cons] at h3
 exact h3.1 (e▸List.mem_map.2 ⟨_,h,rfl⟩)
theorem Raw_wrong(h:rawE (stOf l S) e≠0):FnOk Tryz.prog 69 [.agg [.sl (l.map eTy),.bsl T 0 S.length],eEv e] (trB T S) id (.tup [eS0,.int .i64 (rawE (stOf l S) e)]) []:=by
 obtain⟨q1,q2,q3,q4⟩:=raw_lens hnd hfr hok hR
 have hE0:rawE (stOf l S) e=if rawE0 l e≠0 then rawE0 l e else doE (stOf l S) e:=rfl
 rw[hE0] at h ⊢
 by_cases h0:rawE0 l e≠0
 ·rw[if_pos h0]
  exact (Raw_err0 l e T S.length id (by omega) h0).more fun q hq=>by cases hq
 rw[if_neg h0] at h ⊢
 obtain⟨hf0,a1,a2,a3,a4,a5,a6⟩:=rawE0_zero (by omega:rawE0 l e=0)
 have hty:e.type.toNat<l.length:=by omega
 obtain⟨ty,htya⟩:∃ty,l[e.type.toNat]?=some ty:=⟨_,List.getElem?_eq_getElem hty⟩
 have hfl:fldsAt l e.type=ty.fields:=by simp[fldsAt,htya]
 have hf6:ty.fields.length≤6:=q3 ty (List.mem_of_getElem? htya)
 have hds:doE (stOf l S) e=doE (stOf l S) e:=rfl
 have hdo:∀D id,(∀q∈trB T S,q.1≠D)→FnOk Tryz.prog 95 [.ptr D 0 0] ((D,dBx l (.bsl T 0 S.length) e 0)::trB T S) id (.int .i64 (doE (stOf l S) e)) [(D,some (dBx l (.bsl T 0 S.length) e (rawI (stOf l S) e)))]:=fun D id hD=>by
  have d1:D≠T:=fun e=>hD _ (List.mem_cons_self ..) e.symm
  have dr:∀q∈restB S,q.1≠D:=fun q hq=>hD q (List.mem_cons_of_mem _ hq)
  have hnd':=hnd
  rw[nmT,List.nodup_cons] at hnd'
  have dT:∀q∈restB S,q.1≠T:=fun q hq e=>hnd'.1 (e▸mem_nm hq)
  have hm2:∀q∈[(D,dBx l (.bsl T 0 S.length) e 0),(T,tBx S)],q∈(D,dBx l (.bsl T 0 S.length) e 0)::trB T S:=fun q hq=>by
   simp only[List.mem_cons,List.not_mem_nil,or_false] at hq
   rcases hq with rfl|rfl
   ·exact List.mem_cons_self ..
   ·exact List.mem_cons_of_mem _ (List.mem_cons_self ..)
  have hll:(stOf l S).things.length=S.length:=List.length_map ..
  by_cases k1:e.kind=1
  ·have hE:doE (stOf l S) e=if rawB (stOf l S) e=true then 6 else if S.length=12 then 2 else 0:=by unfold doE; rw[if_pos k1,hll]
   rw[hE] at h ⊢
   refine (do_err l S e 0 D T id _ ?_ (by omega) d1).more hm2
   by_cases b:rawB (stOf l S) e=true
   ·exact .inl ⟨k1,b,if_pos b⟩
   ·rw[if_neg b] at h ⊢
    by_cases b2:S.length=12
    ·exact .inr (.inl ⟨k1,eq_false_of_ne_true b,b2,if_pos b2⟩)
    ·rw[if_neg b2] at h; exact (h rfl).elim
  ·by_cases b:rawB (stOf l S) e=false
   ·have hE:doE (stOf l S) e=5:=by unfold doE; rw[if_neg k1,if_pos b]
    rw[hE]
    exact (do_err l S e 0 D T id _ (.inr (.inr ⟨k1,b,rfl⟩)) (by omega) d1).more hm2
   ·have b':rawB (stOf l S) e=true:=by simpa using b
    by_cases k2:e.kind=2
    ·have hE:doE (stOf l S) e=if eachB (meantB l e) l (S.map OTg.t)=false then 4 else 0:=by unfold doE; rw[if_neg k1,if_neg b,if_pos k2]; rfl
     rw[hE] at h ⊢
     by_cases m:eachB (meantB l e) l (S.map OTg.t)=false
     ·rw[if_pos m]
      exact do_dropE l S e 0 D T id k2 b' hok (by omega) (by omega) d1 hnd'.2 dr dT q4 m
     ·rw[if_neg m] at h; exact (h rfl).elim
    ·have hE:doE (stOf l S) e=chE (stOf l S) e:=by unfold doE; rw[if_neg k1,if_neg b,if_neg k2]
     rw[hE] at h ⊢
     have hlt:=find_lt b'
     obtain⟨o,ho⟩:∃o,S[rawI (stOf l S) e]?=some o:=⟨_,List.getElem?_eq_getElem (hll▸hlt)⟩
     have hoS:=List.mem_of_getElem? ho
     have hot:=q4 o.t (List.mem_map.2 ⟨o,hoS,rfl⟩)
     have hlen:=(raw_found hnd hfr hok hR (by omega) (by omega) b' ho htya).2.2
     have hbx:∀q∈o.bxs,q∈restB S:=fun q hq=>List.mem_flatMap.2 ⟨o,hoS,hq⟩
     have dc:o.c≠D∧o.c≠T:=⟨dr _ (hbx _ (List.mem_cons_self ..)),dT _ (hbx _ (List.mem_cons_self ..))⟩
     have his:=(hok o hoS).len
     have hm3:∀q∈[(D,dBx l (.bsl T 0 S.length) e 0),(T,tBx S),(o.c,cBn o)],q∈(D,dBx l (.bsl T 0 S.length) e 0)::trB T S:=fun q hq=>by
      simp only[List.mem_cons,List.not_mem_nil,or_false] at hq
      rcases hq with rfl|rfl|rfl
      ·exact List.mem_cons_self ..
      ·exact List.mem_cons_of_mem _ (List.mem_cons_self ..)
      ·exact List.mem_cons_of_mem _ (List.mem_cons_of_mem _ (hbx _ (List.mem_cons_self ..)))
     have k3:3≤e.kind:=by omega
     have fin5:fdOf (stOf l S) e=none→FnOk Tryz.prog 95 [.ptr D 0 0] ((D,dBx l (.bsl T 0 S.length) e 0)::trB T S) id (.int .i64 (chE (stOf l S) e)) [(D,some (dBx l (.bsl T 0 S.length) e (rawI (stOf l S) e)))]:=fun hfd=>by
      have hw:chE (stOf l S) e=5:=by unfold chE; rw[hfd]
      rw[hw]
      have hfr:fieldR ty e o.c = .tup [.agg [.str [],.int .i64 0,.str []],.nilp,.int .i64 5]:=by
       unfold fdOf at hfd
       unfold fieldR
       by_cases h5:e.field<0
       ·rw[if_pos h5]
       ·rw[if_neg h5] at hfd ⊢
        have hfd:(fldsAt l e.type)[e.field.toNat]?=none:=hfd
        rw[hfl] at hfd
        rw[hfd]
      exact (do_chgA l S e 0 D T o.c id (List.zipWith eCn o.t.cells o.is) 5 k3 b' (by omega) d1 dc.1.symm dc.2.symm fun id=>change_err l S e (rawI (stOf l S) e) o ty D T id _ 5 (by omega) ⟨_,_,_,rfl⟩ hfr htya a1 ho hlen his (by omega) d1 dc.1.symm dc.2.symm).more hm3
     cases hfd:fdOf (stOf l S) e with
     | none=>exact fin5 hfd
     | some f =>
      clear fin5
      have hfd':=hfd
      unfold fdOf at hfd
      by_cases h5:e.field<0
      ·rw[if_pos h5] at hfd; cases hfd
      rw[if_neg h5] at hfd
      have hfd:(fldsAt l e.type)[e.field.toNat]?=some f:=hfd
      rw[hfl] at hfd
      have hkl:e.field.toNat<ty.fields.length:=(List.getElem?_eq_some_iff.1 hfd).1
      obtain⟨cl,hcl⟩:∃cl,o.t.cells[e.field.toNat]?=some cl:=⟨_,List.getElem?_eq_getElem (by omega)⟩
      obtain⟨io,hio⟩:∃io,o.is[e.field.toNat]?=some io:=⟨_,List.getElem?_eq_getElem (by omega)⟩
      have hclo:clOf (stOf l S) e=some cl:=by
       unfold clOf
       have:(stOf l S).things[rawI (stOf l S) e]?=some o.t:=by simp only[stOf] at ho ⊢; rw[List.getElem?_map,ho]; rfl
       rw[this]
       exact hcl
      have hchE:chE (stOf l S) e=if kindFits e.kind f=true then chgE (stOf l S) f cl e else 7:=by unfold chE; rw[hfd',hclo]
      rw[hchE] at h ⊢
      by_cases hkf:kindFits e.kind f=true
      ·rw[if_pos hkf] at h ⊢
       have hc8:cl.ids.length≤1000:=by have:=hot.2.2.2.2 cl (List.mem_of_getElem? hcl); omega
       cases io with
       | none =>
        have hn:=(hok o hoS).nil _ _ hcl hio
        have hW:∀id,chgW (stOf l S) f cl e o.c e.field.toNat id (List.zipWith eCn o.t.cells o.is) none=[]:=fun id=>by unfold chgW; rw[if_pos h]
        refine (do_chgA l S e 0 D T o.c id (List.zipWith eCn o.t.cells o.is) _ k3 b' (by omega) d1 dc.1.symm dc.2.symm fun id=>?_).more hm3
        have:=change_none l S e (rawI (stOf l S) e) o ty f cl D T id k3 a6 (by omega) hfd hkf hcl hio htya a1 ho hlen his hn (by omega) (by omega) (by omega) hc8 d1 dc.1.symm dc.2.symm
        rw[hW] at this
        exact this
       | some I =>
        have hIm:(I,iBx cl)∈o.bxs:=List.mem_cons_of_mem _ (idsB_mem _ hcl hio _ (List.mem_cons_self ..))
        have hIr:=hbx _ hIm
        have hW:∀id,chgW (stOf l S) f cl e o.c e.field.toNat id (List.zipWith eCn o.t.cells o.is) (some I)=[]:=fun id=>by unfold chgW; rw[if_pos h]
        have dI:D≠I∧T≠I∧o.c≠I:=⟨fun e=>dr _ hIr e.symm,fun e=>dT _ hIr e.symm,raw_cI hnd hoS (idsB_mem _ hcl hio _ (List.mem_cons_self ..))⟩
        refine (do_chgA2 l S e 0 D T o.c id (List.zipWith eCn o.t.cells o.is) _ I cl.ids dI.1 dI.2.1 dI.2.2 k3 b' (by omega) d1 dc.1.symm dc.2.symm fun id=>?_).more fun q hq=>?_
        ·have:=change_some l S e (rawI (stOf l S) e) o ty f cl I D T id k3 a6 (by omega) hfd hkf hcl hio htya a1 ho hlen his (by omega) (by omega) (by omega) hc8 d1 dc.1.symm dc.2.symm dI.1 dI.2.1 dI.2.2
         rw[hW] at this
         exact this
        ·simp only[List.mem_cons,List.not_mem_nil,or_false] at hq
         rcases hq with rfl|rfl|rfl|rfl
         ·exact List.mem_cons_self ..
         ·exact List.mem_cons_of_mem _ (List.mem_cons_self ..)
         ·exact List.mem_cons_of_mem _ (List.mem_cons_of_mem _ (hbx _ (List.mem_cons_self ..)))
         ·exact List.mem_cons_of_mem _ (List.mem_cons_of_mem _ hIr)
      ·rw[if_neg hkf]
       have hfr:fieldR ty e o.c = .tup [eFd f,.nilp,.int .i64 7]:=by unfold fieldR; rw[if_neg h5,hfd]; simp only; rw[if_neg hkf]
       exact (do_chgA l S e 0 D T o.c id (List.zipWith eCn o.t.cells o.is) 7 k3 b' (by omega) d1 dc.1.symm dc.2.symm fun id=>change_err l S e (rawI (stOf l S) e) o ty D T id _ 7 (by omega) ⟨_,_,_,rfl⟩ hfr htya a1 ho hlen his (by omega) d1 dc.1.symm dc.2.symm).more hm3
 exact Raw_errD l S e T id _ _ (trB T S) (by rw[trB_names]; exact hnd) h (by omega) hf0 a1 a2 a3 a4 hdo
end
end Go.Am
namespace Go.Am
set_option linter.all false
open Go Go.RowKit Go.Proofs
set_option maxRecDepth 100000
set_option linter.all false
structure RawTo(l:List Ty)(S:List OTg)(T:Nat)(e:Ev)(id:Nat)(T':Nat)(S':List OTg)(wr:List (Nat×Option Bx)):Prop where
 fn:FnOk Tryz.prog 69 [.agg [.sl (l.map eTy),.bsl T 0 S.length],eEv e] (trB T S) id (.tup [.agg [.sl (l.map eTy),.bsl T' 0 S'.length],.int .i64 0]) wr
 tree:TreeTo id T S wr T' S'
 st:stOf l S'=rawS (stOf l S) e
section
variable {l:List Ty} {S:List OTg} {T:Nat} {e:Ev} {id:Nat} (hnd:(nmT T S).Nodup) (hfr:∀z∈nmT T S,z<id∨id+1024≤z) (hok:∀o∈S,o.Ok) (hR:StR (stOf l S))
include hnd hfr hok hR
omit hnd hfr hok hR in
theorem rawE_split(h:rawE (stOf l S) e=0):rawE0 l e=0∧doE (stOf l S) e=0:=by
 have hE0:rawE (stOf l S) e=if rawE0 l e≠0 then rawE0 l e else doE (stOf l S) e:=rfl
 rw[hE0] at h
 by_cases h0:rawE0 l e=0
 ·rw[if_neg (by simp[h0])] at h; exact⟨h0,h⟩
 ·rw[if_pos h0] at h; exact (h0 h).elim
theorem raw_make(k1:e.kind=1)(h:rawE (stOf l S) e=0):∃T' S' wr,RawTo l S T e id T' S' wr:=by
 obtain⟨q1,q2,q3,q4⟩:=raw_lens hnd hfr hok hR
 obtain⟨h0,h⟩:=rawE_split h
 obtain⟨hf0,a1,a2,a3,a4,a5,a6⟩:=rawE0_zero h0
 have hty:e.type.toNat<l.length:=by omega
 obtain⟨ty,htya⟩:∃ty,l[e.type.toNat]?=some ty:=⟨_,List.getElem?_eq_getElem hty⟩
 have hfl:fldsAt l e.type=ty.fields:=by simp[fldsAt,htya]
 have hf6:ty.fields.length≤6:=q3 ty (List.mem_of_getElem? htya)
 have hll:(stOf l S).things.length=S.length:=List.length_map ..
 have hE:doE (stOf l S) e=if rawB (stOf l S) e=true then 6 else if S.length=12 then 2 else 0:=by unfold doE; rw[if_pos k1,hll]
 rw[hE] at h
 by_cases b:rawB (stOf l S) e=true
 ·rw[if_pos b] at h; omega
 rw[if_neg b] at h
 by_cases b2:S.length=12
 ·rw[if_pos b2] at h; omega
 have hi:rawI (stOf l S) e≤S.length:=hll▸find_le ..
 have hii:fFindI (S.map OTg.t) e.type e.id=rawI (stOf l S) e:=rfl
 have hbf:fFindB (S.map OTg.t) e.type e.id=false:=eq_false_of_ne_true b
 have ft:=tree_make (id:=id) (T:=T) (A:=S.take (rawI (stOf l S) e)) (B:=S.drop (rawI (stOf l S) e)) e ty.fields.length (by rw[List.take_append_drop]; exact hnd) (by rw[List.take_append_drop]; exact hfr) (by rw[List.take_append_drop]; exact hok)
 rw[List.take_append_drop] at ft
 have hlen:(S.take (rawI (stOf l S) e)++newO e ty.fields.length id::S.drop (rawI (stOf l S) e)).length=S.length+1:=by simp; omega
 have hxs:tBx (S.take (rawI (stOf l S) e)++newO e ty.fields.length id::S.drop (rawI (stOf l S) e))=⟨(S.map eTn).take (rawI (stOf l S) e)++.agg [.int .i64 e.type,.int .i64 e.id,.bsl (id+1) 0 ty.fields.length]::(S.map eTn).drop (rawI (stOf l S) e),zT,false,false⟩:=by
  simp[tBx,List.map_take,List.map_drop,eTn,newO]
 refine⟨id,_,_,⟨?_,ft,?_⟩⟩
 ·rw[hlen,hxs]
  refine (Raw_make l S e T id (rawI (stOf l S) e) ty.fields.length (rawI (stOf l S) e) (by omega) hf0 a1 a2 a3 a4 fun D id hD=>?_).more fun q hq=>by
   simp only[List.mem_cons,List.not_mem_nil,or_false] at hq
   subst hq
   exact List.mem_cons_self ..
  have:=do_make l S e 0 ty D T id k1 hbf b2 htya a1 (by omega) (by omega) (fun e=>hD _ (List.mem_cons_self ..) e.symm)
  rw[hii] at this
  exact this
 ·unfold rawS
  rw[if_pos k1]
  simp[stOf,newO,List.map_take,List.map_drop,hfl]
theorem raw_drop(k2:e.kind=2)(h:rawE (stOf l S) e=0):∃T' S' wr,RawTo l S T e id T' S' wr:=by
 obtain⟨q1,q2,q3,q4⟩:=raw_lens hnd hfr hok hR
 obtain⟨h0,h⟩:=rawE_split h
 obtain⟨hf0,a1,a2,a3,a4,a5,a6⟩:=rawE0_zero h0
 have hll:(stOf l S).things.length=S.length:=List.length_map ..
 have k1:e.kind≠1:=by omega
 by_cases b:rawB (stOf l S) e=false
 ·have hE:doE (stOf l S) e=5:=by unfold doE; rw[if_neg k1,if_pos b]
  omega
 have b':rawB (stOf l S) e=true:=by simpa using b
 have hE:doE (stOf l S) e=if eachB (meantB l e) l (S.map OTg.t)=false then 4 else 0:=by unfold doE; rw[if_neg k1,if_neg b,if_pos k2]; rfl
 rw[hE] at h
 by_cases m:eachB (meantB l e) l (S.map OTg.t)=false
 ·rw[if_pos m] at h; omega
 have m':eachB (meantB l e) l (S.map OTg.t)=true:=by simpa using m
 have hlt:rawI (stOf l S) e<S.length:=hll▸find_lt b'
 obtain⟨o,ho⟩:∃o,S[rawI (stOf l S) e]?=some o:=⟨_,List.getElem?_eq_getElem hlt⟩
 have hs:=split_at ho
 have hii:fFindI (S.map OTg.t) e.type e.id=rawI (stOf l S) e:=rfl
 have hnd':=hnd
 rw[nmT,List.nodup_cons] at hnd'
 have dT:∀q∈restB S,q.1≠T:=fun q hq e=>hnd'.1 (e▸mem_nm hq)
 have ft:=tree_drop (id:=id) (T:=T) (A:=S.take (rawI (stOf l S) e)) (B:=S.drop (rawI (stOf l S) e+1)) (o:=o) (by rw[←hs]; exact hnd) (by rw[←hs]; exact hfr) (by rw[←hs]; exact hok)
 rw[←hs] at ft
 have hlen:(S.take (rawI (stOf l S) e)++S.drop (rawI (stOf l S) e+1)).length=S.length - 1:=by simp; omega
 have hxs:tBx (S.take (rawI (stOf l S) e)++S.drop (rawI (stOf l S) e+1))=⟨(S.map eTn).take (rawI (stOf l S) e)++(S.map eTn).drop (rawI (stOf l S) e+1),zT,false,false⟩:=by
  simp[tBx,List.map_take,List.map_drop]
 refine⟨id,_,_,⟨?_,ft,?_⟩⟩
 ·rw[hlen,hxs]
  refine Raw_drop l S e T id (rawI (stOf l S) e) (rawI (stOf l S) e) (restB S) hnd'.2 dT (by omega) hf0 a1 a2 a3 a4 fun D id hD=>?_
  have:=do_drop l S e 0 D T id k2 b' hok (by omega) (by omega) (fun e=>hD _ (List.mem_cons_self ..) e.symm) hnd'.2 (fun q hq=>hD q (List.mem_cons_of_mem _ hq)) dT q4 m'
  rw[hii] at this
  exact this
 ·unfold rawS
  rw[if_neg k1,if_pos k2]
  simp[stOf,List.map_take,List.map_drop]
end
end Go.Am
namespace Go.Am
set_option linter.all false
open Go Go.RowKit Go.Proofs
set_option maxRecDepth 100000
set_option linter.all false
theorem zip_set(c:Cl)(i:Option Nat):∀(cs:List Cl) (is:List (Option Nat)) (k:Nat),List.zipWith eCn (cs.set k c) (is.set k i)=(List.zipWith eCn cs is).set k (eCn c i)
 | [],_,_=>by simp
 | _::_,[],_=>by simp
 | _::cs,_::is,0=>by simp
 | _::cs,_::is,k+1=>by simp[zip_set c i cs is k]
theorem set_same{α:Type}{l:List α}{k:Nat}{x:α}(h:l[k]?=some x):l.set k x=l:=by
 obtain⟨h1,rfl⟩:=List.getElem?_eq_some_iff.1 h
 exact List.set_getElem_self h1
theorem bxs_split{c:Cl}{i:Option Nat}:∀{cs:List Cl} {is:List (Option Nat)} {k:Nat},cs[k]?=some c→is[k]?=some i→∃X Y,idsB cs is=X++(idB c i++Y)∧∀c' i',idsB (cs.set k c') (is.set k i')=X++(idB c' i'++Y)
 | [],_,_,h,_=>by simp at h
 | _::_,[],_,_,h=>by simp at h
 | c0::cs,i0::is,0,h1,h2=>by
  simp only[List.getElem?_cons_zero,Option.some.injEq] at h1 h2
  subst h1 h2
  exact⟨[],idsB cs is,rfl,fun _ _=>rfl⟩
 | c0::cs,i0::is,k+1,h1,h2=>by
  simp only[List.getElem?_cons_succ] at h1 h2
  obtain⟨X,Y,e1,e2⟩:=bxs_split h1 h2
  refine⟨idB c0 i0++X,Y,?_,fun c' i'=>?_⟩
  ·rw[idsB,e1,List.append_assoc]
  ·rw[List.set_cons_succ,List.set_cons_succ,idsB,e2,List.append_assoc]
def chgO(o:OTg)(k:Nat)(c:Cl)(io:Option Nat):OTg:=⟨⟨o.t.type,o.t.id,o.t.cells.set k c⟩,o.c,o.is.set k io⟩
theorem chgO_ok{o:OTg}{k:Nat}{c:Cl}{io:Option Nat}(h:o.Ok)(hn:io=none→c.ids=[]):(chgO o k c io).Ok:=by
 refine⟨by simpa [chgO] using h.len,fun j d h1 h2=>?_⟩
 simp only[chgO] at h1 h2
 rw[List.getElem?_set] at h1 h2
 by_cases hj:k=j
 ·subst hj
  rw[if_pos rfl] at h1 h2
  split at h1
  ·split at h2
   ·injection h1 with h1; injection h2 with h2; subst h1; exact hn h2
   ·cases h2
  ·cases h1
 ·rw[if_neg hj] at h1 h2
  exact h.nil _ _ h1 h2
theorem chgO_eTn(o:OTg)(k:Nat)(c:Cl)(io:Option Nat):eTn (chgO o k c io)=eTn o:=by simp[eTn,chgO]
theorem chgO_cBn(o:OTg)(k:Nat)(c:Cl)(io:Option Nat):cBn (chgO o k c io)=⟨(List.zipWith eCn o.t.cells o.is).set k (eCn c io),zC,false,false⟩:=by
 simp only[cBn,chgO,zip_set]
section
variable {l:List Ty} {S:List OTg} {T:Nat} {e:Ev} {id:Nat} (hnd:(nmT T S).Nodup) (hfr:∀z∈nmT T S,z<id∨id+1024≤z) (hok:∀o∈S,o.Ok) (hR:StR (stOf l S))
theorem raw_fin{i k:Nat}{o:OTg}(ho:S[i]?=some o){c:Cl}{io:Option Nat}{wr:List (Nat×Option Bx)}(hs:rawS (stOf l S) e=setC (stOf l S) i k c)
  (hf:FnOk Tryz.prog 69 [.agg [.sl (l.map eTy),.bsl T 0 S.length],eEv e] (trB T S) id (.tup [.agg [.sl (l.map eTy),.bsl T 0 S.length],.int .i64 0]) wr)
  (ht:TreeTo id T (S.take i++o::S.drop (i+1)) wr T (S.take i++chgO o k c io::S.drop (i+1))):∃T' S' wr,RawTo l S T e id T' S' wr:=by
 rw[←split_at ho] at ht
 have hi:=(List.getElem?_eq_some_iff.1 ho).1
 have hset:S.set i (chgO o k c io)=S.take i++chgO o k c io::S.drop (i+1):=by rw[List.set_eq_take_append_cons_drop,if_pos hi]
 rw[←hset] at ht
 refine⟨T,_,wr,⟨?_,ht,?_⟩⟩
 ·rw[List.length_set]; exact hf
 ·rw[hs]
  unfold setC
  have:(stOf l S).things[i]?=some o.t:=by simp only[stOf]; rw[List.getElem?_map,ho]; rfl
  rw[this]
  simp only[stOf,List.map_set]
  rfl
include hnd hfr hok hR
theorem raw_chg(k3:3≤e.kind)(h:rawE (stOf l S) e=0):∃T' S' wr,RawTo l S T e id T' S' wr:=by
 obtain⟨q1,q2,q3,q4⟩:=raw_lens hnd hfr hok hR
 obtain⟨h0,h⟩:=rawE_split h
 obtain⟨hf0,a1,a2,a3,a4,a5,a6⟩:=rawE0_zero h0
 have hty:e.type.toNat<l.length:=by omega
 obtain⟨ty,htya⟩:∃ty,l[e.type.toNat]?=some ty:=⟨_,List.getElem?_eq_getElem hty⟩
 have hfl:fldsAt l e.type=ty.fields:=by simp[fldsAt,htya]
 have hf6:ty.fields.length≤6:=q3 ty (List.mem_of_getElem? htya)
 have hll:(stOf l S).things.length=S.length:=List.length_map ..
 have k1:e.kind≠1:=by omega
 have k2:e.kind≠2:=by omega
 by_cases b:rawB (stOf l S) e=false
 ·have hE:doE (stOf l S) e=5:=by unfold doE; rw[if_neg k1,if_pos b]
  omega
 have b':rawB (stOf l S) e=true:=by simpa using b
 have hE:doE (stOf l S) e=chE (stOf l S) e:=by unfold doE; rw[if_neg k1,if_neg b,if_neg k2]
 rw[hE] at h
 have hlt:rawI (stOf l S) e<S.length:=hll▸find_lt b'
 obtain⟨o,ho⟩:∃o,S[rawI (stOf l S) e]?=some o:=⟨_,List.getElem?_eq_getElem hlt⟩
 have hs:=split_at ho
 have hoS:=List.mem_of_getElem? ho
 have hot:=q4 o.t (List.mem_map.2 ⟨o,hoS,rfl⟩)
 have hlen:=(raw_found hnd hfr hok hR (by omega) (by omega) b' ho htya).2.2
 have hbx:∀q∈o.bxs,q∈restB S:=fun q hq=>List.mem_flatMap.2 ⟨o,hoS,hq⟩
 have hnd':=hnd
 rw[nmT,List.nodup_cons] at hnd'
 have dT:∀q∈restB S,q.1≠T:=fun q hq e=>hnd'.1 (e▸mem_nm hq)
 have dc:T≠o.c:=fun e=>dT _ (hbx _ (List.mem_cons_self ..)) e.symm
 have his:=(hok o hoS).len
 have htS:(stOf l S).things[rawI (stOf l S) e]?=some o.t:=by simp only[stOf] at ho ⊢; rw[List.getElem?_map,ho]; rfl
 cases hfd:fdOf (stOf l S) e with
 | none =>
  have:chE (stOf l S) e=5:=by unfold chE; rw[hfd]
  omega
 | some f =>
 have hfd':=hfd
 unfold fdOf at hfd
 by_cases h5:e.field<0
 ·rw[if_pos h5] at hfd; cases hfd
 rw[if_neg h5] at hfd
 have hfd:(fldsAt l e.type)[e.field.toNat]?=some f:=hfd
 rw[hfl] at hfd
 have hkl:e.field.toNat<ty.fields.length:=(List.getElem?_eq_some_iff.1 hfd).1
 obtain⟨cl,hcl⟩:∃cl,o.t.cells[e.field.toNat]?=some cl:=⟨_,List.getElem?_eq_getElem (by omega)⟩
 obtain⟨io,hio⟩:∃io,o.is[e.field.toNat]?=some io:=⟨_,List.getElem?_eq_getElem (by omega)⟩
 have hclo:clOf (stOf l S) e=some cl:=by
  unfold clOf
  rw[htS]
  exact hcl
 have hchE:chE (stOf l S) e=if kindFits e.kind f=true then chgE (stOf l S) f cl e else 7:=by unfold chE; rw[hfd',hclo]
 rw[hchE] at h
 by_cases hkf:kindFits e.kind f=true
 case neg=>rw[if_neg hkf] at h; omega
 rw[if_pos hkf] at h
 have hrs:rawS (stOf l S) e=setC (stOf l S) (rawI (stOf l S) e) e.field.toNat (chgC f cl e):=by
  unfold rawS
  rw[if_neg k1,if_neg k2,hfd',hclo]
 have hc8:cl.ids.length≤1000:=by have:=hot.2.2.2.2 cl (List.mem_of_getElem? hcl); omega
 have hx:=zip_get hcl hio
 obtain⟨X,Y,hX1,hX2⟩:=bxs_split hcl hio
 have hn:io=none→cl.ids=[]:=fun hh=>(hok o hoS).nil _ _ hcl (hh▸hio)
 have hnd2:(nmT T (S.take (rawI (stOf l S) e)++o::S.drop (rawI (stOf l S) e+1))).Nodup:=by rw[←hs]; exact hnd
 have hfr2:∀z∈nmT T (S.take (rawI (stOf l S) e)++o::S.drop (rawI (stOf l S) e+1)),z<id∨id+1024≤z:=by rw[←hs]; exact hfr
 have hok2:∀x∈S.take (rawI (stOf l S) e)++o::S.drop (rawI (stOf l S) e+1),x.Ok:=by rw[←hs]; exact hok
 have hm2:∀q∈[(T,tBx S),(o.c,cBn o)],q∈trB T S:=fun q hq=>by
  simp only[List.mem_cons,List.not_mem_nil,or_false] at hq
  rcases hq with rfl|rfl
  ·exact List.mem_cons_self ..
  ·exact List.mem_cons_of_mem _ (hbx _ (List.mem_cons_self ..))
 have hII:∀I,io=some I→(∀D,(∀q∈[(T,tBx S),(o.c,cBn o),(I,iBx cl)],q.1≠D)→D≠I)∧T≠I∧o.c≠I∧∀q∈[(T,tBx S),(o.c,cBn o),(I,iBx cl)],q∈trB T S:=fun I hI=>by
  subst hI
  have hIm:(I,iBx cl)∈idsB o.t.cells o.is:=idsB_mem _ hcl hio _ (List.mem_cons_self ..)
  have hIr:=hbx _ (List.mem_cons_of_mem _ hIm)
  refine⟨fun D hD e=>hD (I,iBx cl) (by simp) e.symm,fun e=>dT _ hIr e.symm,raw_cI hnd hoS hIm,fun q hq=>?_⟩
  simp only[List.mem_cons,List.not_mem_nil,or_false] at hq
  rcases hq with rfl|rfl|rfl
  ·exact List.mem_cons_self ..
  ·exact List.mem_cons_of_mem _ (hbx _ (List.mem_cons_self ..))
  ·exact List.mem_cons_of_mem _ hIr
 by_cases k4:e.kind=3∨e.kind=4
 ·obtain⟨n',t',hc'⟩:∃n t,chgC f cl e=⟨n,t,cl.ids⟩:=by
   unfold chgC
   rcases k4 with k|k
   ·exact⟨e.n,cl.text,by rw[if_pos k]⟩
   ·exact⟨cl.n,e.text,by rw[if_neg (by omega),if_pos k]⟩
  rw[hc'] at hrs
  have hW:∀id,chgW (stOf l S) f cl e o.c e.field.toNat id (List.zipWith eCn o.t.cells o.is) io=[(o.c,some ⟨(List.zipWith eCn o.t.cells o.is).set e.field.toNat (eCn ⟨n',t',cl.ids⟩ io),zC,false,false⟩)]:=fun id=>by unfold chgW; rw[if_neg (by simp[h]),if_pos k4,hc']
  have hwr:[(o.c,some (cBn (chgO o e.field.toNat ⟨n',t',cl.ids⟩ io)))]=[(o.c,some (⟨(List.zipWith eCn o.t.cells o.is).set e.field.toNat (eCn ⟨n',t',cl.ids⟩ io),zC,false,false⟩:Bx))]:=by rw[chgO_cBn]
  refine raw_fin (io:=io) ho hrs (wr:=[(o.c,some (cBn (chgO o e.field.toNat ⟨n',t',cl.ids⟩ io)))]) ?_ ?_
  ·rw[hwr]
   cases io with
   | none =>
    refine (Raw_chgB l S e T id o.c (List.zipWith eCn o.t.cells o.is) e.field.toNat _ _ _ hx n' t' dc (rawI (stOf l S) e) (by omega) hf0 a1 a2 a3 a4 fun D id hD=>?_).more hm2
    have d1:D≠T:=fun e=>hD _ (List.mem_cons_self ..) e.symm
    have d2:D≠o.c:=fun e=>hD _ (List.mem_cons_of_mem _ (List.mem_cons_self ..)) e.symm
    refine do_chgB l S e 0 D T o.c id (List.zipWith eCn o.t.cells o.is) e.field.toNat _ _ _ hx n' t' k3 b' (by omega) d1 d2 dc fun id=>?_
    have:=change_none l S e (rawI (stOf l S) e) o ty f cl D T id k3 a6 (by omega) hfd hkf hcl hio htya a1 ho hlen his (hn rfl) (by omega) (by omega) (by omega) hc8 d1 d2 dc
    rw[hW,h] at this
    exact this
   | some I =>
    obtain⟨i1,i2,i3,i4⟩:=hII I rfl
    refine (Raw_chgB2 l S e T id o.c (List.zipWith eCn o.t.cells o.is) e.field.toNat _ _ _ hx n' t' I cl.ids dc i2 i3 (rawI (stOf l S) e) (by omega) hf0 a1 a2 a3 a4 fun D id hD=>?_).more i4
    have d1:D≠T:=fun e=>hD _ (List.mem_cons_self ..) e.symm
    have d2:D≠o.c:=fun e=>hD _ (List.mem_cons_of_mem _ (List.mem_cons_self ..)) e.symm
    have d4:=i1 D hD
    refine do_chgB2 l S e 0 D T o.c id (List.zipWith eCn o.t.cells o.is) e.field.toNat _ _ _ hx n' t' I cl.ids d4 i2 i3 k3 b' (by omega) d1 d2 dc fun id=>?_
    have:=change_some l S e (rawI (stOf l S) e) o ty f cl I D T id k3 a6 (by omega) hfd hkf hcl hio htya a1 ho hlen his (by omega) (by omega) (by omega) hc8 d1 d2 dc d4 i2 i3
    rw[hW,h] at this
    exact this
  ·refine tree_chgB (X:=idsB o.t.cells o.is) rfl ?_ (chgO_eTn ..) (chgO_ok (hok o hoS) hn) hnd2 hok2
   show (o.c,_)::idsB (o.t.cells.set e.field.toNat ⟨n',t',cl.ids⟩) (o.is.set e.field.toNat io)=_
   rw[hX2,hX1]
   cases io<;>rfl
 ·obtain⟨n',t',ys,hc'⟩:∃n t ys,chgC f cl e=⟨n,t,ys⟩:=⟨_,_,_,rfl⟩
  rw[hc'] at hrs
  have hW:∀id,chgW (stOf l S) f cl e o.c e.field.toNat id (List.zipWith eCn o.t.cells o.is) io=(if e.kind=5∧f.kind=3 then [] else goneI io)++[(o.c,some ⟨(List.zipWith eCn o.t.cells o.is).set e.field.toNat (eCn ⟨n',t',ys⟩ (some id)),zC,false,false⟩),(id,some ⟨ys.map eI,.int .i64 0,false,false⟩)]:=fun id=>by unfold chgW; rw[if_neg (by simp[h]),if_neg k4,hc']
  refine raw_fin (io:=some id) ho hrs (wr:=(if e.kind=5∧f.kind=3 then [] else goneI io)++[(o.c,some (cBn (chgO o e.field.toNat ⟨n',t',ys⟩ (some id)))),(id,some ⟨ys.map eI,.int .i64 0,false,false⟩)]) ?_ ?_
  ·rw[chgO_cBn]
   cases io with
   | none =>
    have hg:(if e.kind=5∧f.kind=3 then [] else goneI none)=[]:=by split<;>rfl
    rw[hg,List.nil_append]
    refine (Raw_chgC l S e T id o.c (List.zipWith eCn o.t.cells o.is) e.field.toNat n' t' ys dc (rawI (stOf l S) e) (by omega) hf0 a1 a2 a3 a4 fun D id hD=>?_).more hm2
    have d1:D≠T:=fun e=>hD _ (List.mem_cons_self ..) e.symm
    have d2:D≠o.c:=fun e=>hD _ (List.mem_cons_of_mem _ (List.mem_cons_self ..)) e.symm
    refine do_chgC l S e 0 D T o.c id (List.zipWith eCn o.t.cells o.is) e.field.toNat n' t' ys k3 b' (by omega) d1 d2 dc fun id=>?_
    have:=change_none l S e (rawI (stOf l S) e) o ty f cl D T id k3 a6 (by omega) hfd hkf hcl hio htya a1 ho hlen his (hn rfl) (by omega) (by omega) (by omega) hc8 d1 d2 dc
    rw[hW,h,hg] at this
    exact this
   | some I =>
    obtain⟨i1,i2,i3,i4⟩:=hII I rfl
    by_cases k5:e.kind=5∧f.kind=3
    ·rw[if_pos k5,List.nil_append]
     refine (Raw_chgC2 l S e T id o.c (List.zipWith eCn o.t.cells o.is) e.field.toNat n' t' ys I cl.ids dc i2 i3 (rawI (stOf l S) e) (by omega) hf0 a1 a2 a3 a4 fun D id hD=>?_).more i4
     have d1:D≠T:=fun e=>hD _ (List.mem_cons_self ..) e.symm
     have d2:D≠o.c:=fun e=>hD _ (List.mem_cons_of_mem _ (List.mem_cons_self ..)) e.symm
     have d4:=i1 D hD
     refine do_chgC2 l S e 0 D T o.c id (List.zipWith eCn o.t.cells o.is) e.field.toNat n' t' ys I cl.ids d4 i2 i3 k3 b' (by omega) d1 d2 dc fun id=>?_
     have:=change_some l S e (rawI (stOf l S) e) o ty f cl I D T id k3 a6 (by omega) hfd hkf hcl hio htya a1 ho hlen his (by omega) (by omega) (by omega) hc8 d1 d2 dc d4 i2 i3
     rw[hW,h,if_pos k5] at this
     exact this
    ·rw[if_neg k5]
     refine (Raw_chgD l S e T id o.c (List.zipWith eCn o.t.cells o.is) e.field.toNat n' t' ys I cl.ids dc i2 i3 (rawI (stOf l S) e) (by omega) hf0 a1 a2 a3 a4 fun D id hD=>?_).more i4
     have d1:D≠T:=fun e=>hD _ (List.mem_cons_self ..) e.symm
     have d2:D≠o.c:=fun e=>hD _ (List.mem_cons_of_mem _ (List.mem_cons_self ..)) e.symm
     have d4:=i1 D hD
     refine do_chgD l S e 0 D T o.c id (List.zipWith eCn o.t.cells o.is) e.field.toNat n' t' ys I cl.ids d4 i2 i3 k3 b' (by omega) d1 d2 dc fun id=>?_
     have:=change_some l S e (rawI (stOf l S) e) o ty f cl I D T id k3 a6 (by omega) hfd hkf hcl hio htya a1 ho hlen his (by omega) (by omega) (by omega) hc8 d1 d2 dc d4 i2 i3
     rw[hW,h,if_neg k5] at this
     exact this
  ·refine tree_chgC (X:=X) (I:=idB cl io) (Y:=Y) (b:=⟨ys.map eI,.int .i64 0,false,false⟩) ?_ ?_ ?_ (chgO_eTn ..) (chgO_ok (hok o hoS) (by simp)) hnd2 hfr2 hok2
   ·show (o.c,_)::idsB o.t.cells o.is=_
    rw[hX1]
   ·show (o.c,_)::idsB (o.t.cells.set e.field.toNat ⟨n',t',ys⟩) (o.is.set e.field.toNat (some id))=_
    rw[hX2]
    rfl
   ·intro p hp
    split at hp
    ·cases hp
    ·cases io with
     | none=>cases hp
     | some I=>simp only[goneI,List.mem_singleton] at hp; subst hp; simp[idB]
theorem raw_done(h:rawE (stOf l S) e=0):∃T' S' wr,RawTo l S T e id T' S' wr:=by
 have h6:=(rawE0_zero (rawE_split h).1).2.2.2.2.2.1
 by_cases k1:e.kind=1
 ·exact raw_make hnd hfr hok hR k1 h
 by_cases k2:e.kind=2
 ·exact raw_drop hnd hfr hok hR k2 h
 ·exact raw_chg hnd hfr hok hR (by omega) h
end
end Go.Am
