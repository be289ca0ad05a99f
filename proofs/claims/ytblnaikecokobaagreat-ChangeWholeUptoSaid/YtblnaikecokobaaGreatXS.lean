/- Parts of the proof: an abstract machine for Go functions, and what functions of the program give back (Ra1, Ra2, Ra3, Ra2b, Ra4). No condition. -/
import Derived.Test.YtblnaikecokobaaGreatXR
namespace Go.Am
set_option linter.all false
open Go Go.RowKit Go.Proofs
set_option maxRecDepth 100000
set_option linter.all false
theorem FnOk.setD{P:Program}{f:Nat}{args:List AV}{D:Nat}{x:Bx}{o:Option Bx}{rd:List (Nat×Bx)}{id:Nat}{res:AV}{wr:List (Nat×Option Bx)}(h:FnOk P f args ((D,x)::rd) id res ((D,o)::wr))(x':Bx)(h1:x'.xs=x.xs)(h2:x'.sz=x.sz)(h3:x'.ro=x.ro)(h4:x'.frz=x.frz)(hne:∀q∈rd,q.1≠D):
  FnOk P f args ((D,x')::rd) id res ((D,o)::wr):=by
 refine⟨h.1,fun C G bx w vs nb hs hv hh hnb hid=>?_⟩
 have hD:bx D=some x':=hh (D,x') (List.mem_cons_self ..)
 have s1:RS C G (upd bx D (some x)) w:=by
  refine⟨hs.below,hs.size,hs.fzok,hs.fzold,fun i y hy hn=>?_,fun i y hy hn=>?_,hs.nlu,hs.used,hs.inj,hs.rows⟩
  ·by_cases e:i=D
   ·subst e
    rw[upd_eq] at hy
    injection hy with hy
    subst hy
    have:=hs.box i x' hD hn
    rw[h1,h2,h3,h4] at this
    exact this
   ·rw[upd_ne _ _ _ e] at hy; exact hs.box i y hy hn
  ·by_cases e:i=D
   ·subst e
    rw[upd_eq] at hy
    injection hy with hy
    subst hy
    have:=hs.nil i x' hD hn
    rw[h1,h3] at this
    exact this
   ·rw[upd_ne _ _ _ e] at hy; exact hs.nil i y hy hn
 have:=h.2 C G _ w vs nb s1 hv (fun q hq=>by
  rcases List.mem_cons.1 hq with rfl|hq
  ·exact upd_eq ..
  ·rw[upd_ne _ _ _ (hne q hq)]; exact hh q (List.mem_cons_of_mem _ hq)) hnb hid
 refine Calls.mono this fun e w' hq=>?_
 obtain⟨v,G',q1,q2,q3⟩:=hq
 refine⟨v,G',q1,?_,q3⟩
 have e1:upd (upd bx D (some x)) D o=upd bx D o:=by
  funext y
  by_cases e:y=D
  ·subst e; rw[upd_eq,upd_eq]
  ·rw[upd_ne _ _ _ e,upd_ne _ _ _ e,upd_ne _ _ _ e]
 simp only[appl] at q2 ⊢
 rw[e1] at q2
 exact q2
def rawE0(l:List Ty)(e:Ev):Int:=if fForm e≠0 then fForm e else if ¬(0≤e.type∧e.type≤(l.length:Int) - 1) then 5 else if ¬(1≤e.id∧e.id≤999) then 3 else 0
def eS0:AV:=.agg [.nils,.nils]
theorem Raw_err0(l:List Ty)(e:Ev)(T n:Nat)(id:Nat)(hl8:l.length≤1000)(hw:rawE0 l e≠0):
  FnOk Tryz.prog 69 [.agg [.sl (l.map eTy),.bsl T 0 n],eEv e] [] id (.tup [eS0,.int .i64 (rawE0 l e)]) []:=by
 have hFm:=fun id=>sForm_ok e id
 have hw1:IntKind.i64.wrap ((l.length:Int) - 1)=(l.length:Int) - 1:=wrap64 (by omega)
 unfold eEv eS0 at *
 refine fn_okb Tryz.func69 hcc69 (by decide) hcr69 (by simp[Tryz.ntmps69]) fun E hP hR hl hid hB hu=>?_
 simp only[cr69] at hR
 refine w_go 4000 ?_
 simp[cc69]
 (refine w_call hP rfl (hFm _) (by simp) (by simp<;>rfl) ?_; refine w_go 4000 ?_; simp)
 refine goc (fun h=>?_) (fun h=>?_)<;>simp
 ·refine goc_true h ?_
  simp
  rw[hR]; exact rt_end (by simp<;>rfl) [] trivial (end_pure (by simp; unfold rawE0; simp at h; simp[h]) (by simp) (by simp))
 have hf:fForm e=0:=by simpa using h
 rw[hw1]
 (refine w_call hP rfl (stWithin_ok _ _ _ _) (by simp) (by simp<;>rfl) ?_; refine w_go 4000 ?_; simp)
 refine goc (fun h1=>?_) (fun h1=>?_)<;>simp
 ·rw[hR]; exact rt_end (by simp<;>rfl) [] trivial (end_pure (by simp; unfold rawE0; simp at h1; simp[hf]; omega) (by simp) (by simp))
 (refine w_call hP rfl (stWithin_ok _ _ _ _) (by simp) (by simp<;>rfl) ?_; refine w_go 4000 ?_; simp)
 refine goc (fun h2=>?_) (fun h2=>?_)<;>simp
 ·rw[hR]; exact rt_end (by simp<;>rfl) [] trivial (end_pure (by simp; unfold rawE0; simp at h1 h2; simp[hf]; omega) (by simp) (by simp))
 exfalso
 apply hw
 unfold rawE0
 simp at h1 h2
 rw[if_neg (by omega),if_neg (by omega),if_neg (by omega)]
end Go.Am
namespace Go.Am
set_option linter.all false
open Go Go.RowKit Go.Proofs
set_option maxRecDepth 100000
set_option linter.all false
set_option maxHeartbeats 1000000 in
theorem Raw_make(l:List Ty)(S:List OTg)(e:Ev)(T:Nat)(id:Nat)(k n:Nat)(m:Int)(hl8:l.length≤1000)(hf0:fForm e=0)(h0:0≤e.type)(h1:e.type≤(l.length:Int) - 1)(h2:1≤e.id)(h3:e.id≤999)
  (hDo:∀D id,(∀q∈[(T,tBx S)],q.1≠D)→FnOk Tryz.prog 95 [.ptr D 0 0] ((D,dBx l (.bsl T 0 S.length) e 0)::[(T,tBx S)]) id (.int .i64 0) ((D,some (dBx l (.bsl id 0 (S.length+1)) e m))::[(T,none),(id,some ⟨(S.map eTn).take k++.agg [.int .i64 e.type,.int .i64 e.id,.bsl (id+1) 0 n]::(S.map eTn).drop k,zT,false,false⟩),(id+1,some ⟨List.replicate n zC,zC,false,false⟩)])) :
  FnOk Tryz.prog 69 [.agg [.sl (l.map eTy),.bsl T 0 S.length],eEv e] [(T,tBx S)] id (.tup [.agg [.sl (l.map eTy),(.bsl id 0 (S.length+1))],.int .i64 0]) ([(T,none),(id,some ⟨(S.map eTn).take k++.agg [.int .i64 e.type,.int .i64 e.id,.bsl (id+1) 0 n]::(S.map eTn).drop k,zT,false,false⟩),(id+1,some ⟨List.replicate n zC,zC,false,false⟩)]):=by
 have hFm:=fun id=>sForm_ok e id
 have hw1:IntKind.i64.wrap ((l.length:Int) - 1)=(l.length:Int) - 1:=wrap64 (by omega)
 replace hDo:=fun D id hne=>(hDo D id hne).setD ⟨[eD l (.bsl T 0 S.length) e 0],eD l (.bsl T 0 S.length) e 0,false,false⟩ rfl rfl rfl rfl hne
 unfold tBx dBx eD eEv at *
 refine fn_okb Tryz.func69 hcc69 (by decide) hcr69 (by simp[Tryz.ntmps69]) fun E hP hR hl hid hB hu=>?_
 simp only[cr69] at hR
 refine w_go 4000 ?_
 simp[cc69,someL]
 have hT:=hl (T,_) (List.mem_cons_self ..)
 simp only at hT
 have T1:=lf hT
 have hTn:∀x∈S.map eTn,namesIn E.G0.used x:=old_names hB (List.mem_cons_self ..)
 (refine w_call hP rfl (hFm _) (by simp[T1]) (by simp[T1]<;>rfl) ?_; refine w_go 4000 ?_; simp[T1])
 refine goc_false (by simp[hf0]) ?_
 simp[T1]
 rw[hw1]
 (refine w_call hP rfl (stWithin_ok _ _ _ _) (by simp[T1]) (by simp[T1]<;>rfl) ?_; refine w_go 4000 ?_; simp[T1])
 refine goc_false (by simp; omega) ?_
 simp[T1]
 (refine w_call hP rfl (stWithin_ok _ _ _ _) (by simp[T1]) (by simp[T1]<;>rfl) ?_; refine w_go 4000 ?_; simp[T1])
 refine goc_false (by simp; omega) ?_
 simp[T1]
 refine goc_false (by simp[hf0]) ?_
 simp[T1]
 (refine w_call hP rfl (hDo _ _ (by exact fun q hq=>by have:=(hl q hq).1; omega)) (by simp[T1]) (by simp[T1]<;>rfl) ?_; refine w_go 4000 ?_; simp[T1])
 have hlk:∀z,z<E.n0→(z<id∨id+1024≤z)→lkN [(id,E.n0+32768),(id+1,E.n0+32769)] z=none:=fun z h1 h2=>by
  have a1:z≠id:=by omega
  have a2:z≠id+1:=by omega
  simp[lkN,a1,a2]
 have hp0:∀R S,RenL R S (List.replicate n zC) (List.replicate n zC):=fun R S=>renL_pure rfl (pureL_of fun i x hx=>by rw[List.getElem?_replicate] at hx; split at hx<;>simp at hx; subst hx; rfl)
 have hrn:rnOk [(id,E.n0+32768),(id+1,E.n0+32768+1)]:=by simp[hp0,id1_ne hT.2,id1_ne' hT.2,Nat.add_assoc,T1,idO hid,id1_lt hid,id1_own hid,id1_own' hid,id1_own0 hid,id1_own0' hid]
 rw[hR]
 refine rt_end (by simp<;>rfl) [(id,E.n0+32768),(id+1,E.n0+32768+1)] hrn ⟨?_,?_,?_,?_,?_,?_⟩<;>(try simp[hp0,id1_ne hT.2,id1_ne' hT.2,Nat.add_assoc,T1,idO hid,id1_lt hid,id1_own hid,id1_own' hid,id1_own0 hid,id1_own0' hid])
 exact renL_app (renL_old hu hlk fun x hx=>hTn x (List.mem_of_mem_take hx)) (.cons _ _ _ _ (by simp[idO hid,id1_lt hid,id1_own hid,id1_own' hid,id1_own0 hid,id1_own0' hid]) (renL_old hu hlk fun x hx=>hTn x (List.mem_of_mem_drop hx)))
set_option maxHeartbeats 1000000 in
theorem Raw_chgB(l:List Ty)(S:List OTg)(e:Ev)(T:Nat)(id:Nat)(c:Nat)(xs:List AV)(k:Nat)(a b io:AV)(hx:xs[k]?=some (.agg [a,b,io]))(n:Int)(t:List UInt8)(d3:T≠c)(m:Int)(hl8:l.length≤1000)(hf0:fForm e=0)(h0:0≤e.type)(h1:e.type≤(l.length:Int) - 1)(h2:1≤e.id)(h3:e.id≤999)
  (hDo:∀D id,(∀q∈[(T,tBx S),(c,⟨xs,zC,false,false⟩)],q.1≠D)→FnOk Tryz.prog 95 [.ptr D 0 0] ((D,dBx l (.bsl T 0 S.length) e 0)::[(T,tBx S),(c,⟨xs,zC,false,false⟩)]) id (.int .i64 0) ((D,some (dBx l (.bsl T 0 S.length) e m))::[(c,some ⟨xs.set k (.agg [.int .i64 n,.str t,io]),zC,false,false⟩)])) :
  FnOk Tryz.prog 69 [.agg [.sl (l.map eTy),.bsl T 0 S.length],eEv e] [(T,tBx S),(c,⟨xs,zC,false,false⟩)] id (.tup [.agg [.sl (l.map eTy),(.bsl T 0 S.length)],.int .i64 0]) ([(c,some ⟨xs.set k (.agg [.int .i64 n,.str t,io]),zC,false,false⟩)]):=by
 have hFm:=fun id=>sForm_ok e id
 have hw1:IntKind.i64.wrap ((l.length:Int) - 1)=(l.length:Int) - 1:=wrap64 (by omega)
 replace hDo:=fun D id hne=>(hDo D id hne).setD ⟨[eD l (.bsl T 0 S.length) e 0],eD l (.bsl T 0 S.length) e 0,false,false⟩ rfl rfl rfl rfl hne
 unfold tBx dBx eD eEv at *
 refine fn_okb Tryz.func69 hcc69 (by decide) hcr69 (by simp[Tryz.ntmps69]) fun E hP hR hl hid hB hu=>?_
 simp only[cr69] at hR
 refine w_go 4000 ?_
 simp[cc69,someL]
 have hT:=hl (T,_) (List.mem_cons_self ..)
 simp only at hT
 have T1:=lf hT
 have hTn:∀x∈S.map eTn,namesIn E.G0.used x:=old_names hB (List.mem_cons_self ..)
 have hc:=hl (c,_) (List.mem_cons_of_mem _ (List.mem_cons_self ..))
 simp only at hc
 have c1:=lf hc
 have hXn:∀x∈xs,namesIn E.G0.used x:=old_names hB (List.mem_cons_of_mem _ (List.mem_cons_self ..))
 (refine w_call hP rfl (hFm _) (by simp[T1,c1,d3,d3.symm]) (by simp[T1,c1,d3,d3.symm]<;>rfl) ?_; refine w_go 4000 ?_; simp[T1,c1,d3,d3.symm])
 refine goc_false (by simp[hf0]) ?_
 simp[T1,c1,d3,d3.symm]
 rw[hw1]
 (refine w_call hP rfl (stWithin_ok _ _ _ _) (by simp[T1,c1,d3,d3.symm]) (by simp[T1,c1,d3,d3.symm]<;>rfl) ?_; refine w_go 4000 ?_; simp[T1,c1,d3,d3.symm])
 refine goc_false (by simp; omega) ?_
 simp[T1,c1,d3,d3.symm]
 (refine w_call hP rfl (stWithin_ok _ _ _ _) (by simp[T1,c1,d3,d3.symm]) (by simp[T1,c1,d3,d3.symm]<;>rfl) ?_; refine w_go 4000 ?_; simp[T1,c1,d3,d3.symm])
 refine goc_false (by simp; omega) ?_
 simp[T1,c1,d3,d3.symm]
 refine goc_false (by simp[hf0]) ?_
 simp[T1,c1,d3,d3.symm]
 (refine w_call hP rfl (hDo _ _ (by exact fun q hq=>by have:=(hl q hq).1; omega)) (by simp[T1,c1,d3,d3.symm]) (by simp[T1,c1,d3,d3.symm]<;>rfl) ?_; refine w_go 4000 ?_; simp[T1,c1,d3,d3.symm])
 have hrn:rnOk []:=by simp[T1,c1,d3,d3.symm,idO hid]
 rw[hR]
 refine rt_end (by simp<;>rfl) [] hrn ⟨?_,?_,?_,?_,?_,?_⟩<;>(try simp[T1,c1,d3,d3.symm,idO hid])
 have hio:namesIn E.G0.used io:=by have:=hXn _ (List.mem_of_getElem? hx); simp[namesIn,namesL] at this; exact this.2.2
 refine⟨by (first|exact renL_old hu (by intro z h1 h2; (try simp[lkN]); try omega) hTn|exact renL_old hu (by intro z h1 h2; rfl) hTn),renL_set (renR_old hu (by simp[namesIn,namesL]; exact hio) fun z h1 h2=>rfl) k (by (first|exact renL_old hu (by intro z h1 h2; (try simp[lkN]); try omega) hXn|exact renL_old hu (by intro z h1 h2; rfl) hXn))⟩
set_option maxHeartbeats 1000000 in
theorem Raw_chgC(l:List Ty)(S:List OTg)(e:Ev)(T:Nat)(id:Nat)(c:Nat)(xs:List AV)(k:Nat)(n:Int)(t:List UInt8)(ys:List Int)(d3:T≠c)(m:Int)(hl8:l.length≤1000)(hf0:fForm e=0)(h0:0≤e.type)(h1:e.type≤(l.length:Int) - 1)(h2:1≤e.id)(h3:e.id≤999)
  (hDo:∀D id,(∀q∈[(T,tBx S),(c,⟨xs,zC,false,false⟩)],q.1≠D)→FnOk Tryz.prog 95 [.ptr D 0 0] ((D,dBx l (.bsl T 0 S.length) e 0)::[(T,tBx S),(c,⟨xs,zC,false,false⟩)]) id (.int .i64 0) ((D,some (dBx l (.bsl T 0 S.length) e m))::[(c,some ⟨xs.set k (.agg [.int .i64 n,.str t,.bsl id 0 ys.length]),zC,false,false⟩),(id,some ⟨ys.map eI,.int .i64 0,false,false⟩)])) :
  FnOk Tryz.prog 69 [.agg [.sl (l.map eTy),.bsl T 0 S.length],eEv e] [(T,tBx S),(c,⟨xs,zC,false,false⟩)] id (.tup [.agg [.sl (l.map eTy),(.bsl T 0 S.length)],.int .i64 0]) ([(c,some ⟨xs.set k (.agg [.int .i64 n,.str t,.bsl id 0 ys.length]),zC,false,false⟩),(id,some ⟨ys.map eI,.int .i64 0,false,false⟩)]):=by
 have hFm:=fun id=>sForm_ok e id
 have hw1:IntKind.i64.wrap ((l.length:Int) - 1)=(l.length:Int) - 1:=wrap64 (by omega)
 replace hDo:=fun D id hne=>(hDo D id hne).setD ⟨[eD l (.bsl T 0 S.length) e 0],eD l (.bsl T 0 S.length) e 0,false,false⟩ rfl rfl rfl rfl hne
 unfold tBx dBx eD eEv at *
 refine fn_okb Tryz.func69 hcc69 (by decide) hcr69 (by simp[Tryz.ntmps69]) fun E hP hR hl hid hB hu=>?_
 simp only[cr69] at hR
 refine w_go 4000 ?_
 simp[cc69,someL]
 have hT:=hl (T,_) (List.mem_cons_self ..)
 simp only at hT
 have T1:=lf hT
 have hTn:∀x∈S.map eTn,namesIn E.G0.used x:=old_names hB (List.mem_cons_self ..)
 have hc:=hl (c,_) (List.mem_cons_of_mem _ (List.mem_cons_self ..))
 simp only at hc
 have c1:=lf hc
 have hXn:∀x∈xs,namesIn E.G0.used x:=old_names hB (List.mem_cons_of_mem _ (List.mem_cons_self ..))
 (refine w_call hP rfl (hFm _) (by simp[T1,c1,d3,d3.symm]) (by simp[T1,c1,d3,d3.symm]<;>rfl) ?_; refine w_go 4000 ?_; simp[T1,c1,d3,d3.symm])
 refine goc_false (by simp[hf0]) ?_
 simp[T1,c1,d3,d3.symm]
 rw[hw1]
 (refine w_call hP rfl (stWithin_ok _ _ _ _) (by simp[T1,c1,d3,d3.symm]) (by simp[T1,c1,d3,d3.symm]<;>rfl) ?_; refine w_go 4000 ?_; simp[T1,c1,d3,d3.symm])
 refine goc_false (by simp; omega) ?_
 simp[T1,c1,d3,d3.symm]
 (refine w_call hP rfl (stWithin_ok _ _ _ _) (by simp[T1,c1,d3,d3.symm]) (by simp[T1,c1,d3,d3.symm]<;>rfl) ?_; refine w_go 4000 ?_; simp[T1,c1,d3,d3.symm])
 refine goc_false (by simp; omega) ?_
 simp[T1,c1,d3,d3.symm]
 refine goc_false (by simp[hf0]) ?_
 simp[T1,c1,d3,d3.symm]
 (refine w_call hP rfl (hDo _ _ (by exact fun q hq=>by have:=(hl q hq).1; omega)) (by simp[T1,c1,d3,d3.symm]) (by simp[T1,c1,d3,d3.symm]<;>rfl) ?_; refine w_go 4000 ?_; simp[T1,c1,d3,d3.symm])
 have hrn:rnOk [(id,E.n0+32768)]:=by simp[T1,c1,d3,d3.symm,idO hid]
 rw[hR]
 refine rt_end (by simp<;>rfl) [(id,E.n0+32768)] hrn ⟨?_,?_,?_,?_,?_,?_⟩<;>(try simp[T1,c1,d3,d3.symm,idO hid])
 exact⟨by (first|exact renL_old hu (by intro z h1 h2; (try simp[lkN]); try omega) hTn|exact renL_old hu (by intro z h1 h2; rfl) hTn),renL_set (by simp[idO hid]) k (by (first|exact renL_old hu (by intro z h1 h2; (try simp[lkN]); try omega) hXn|exact renL_old hu (by intro z h1 h2; rfl) hXn))⟩
set_option maxHeartbeats 1000000 in
theorem Raw_chgD(l:List Ty)(S:List OTg)(e:Ev)(T:Nat)(id:Nat)(c:Nat)(xs:List AV)(k:Nat)(n:Int)(t:List UInt8)(ys:List Int)(I:Nat)(BI:List Int)(d3:T≠c)(d5:T≠I)(d6:c≠I)(m:Int)(hl8:l.length≤1000)(hf0:fForm e=0)(h0:0≤e.type)(h1:e.type≤(l.length:Int) - 1)(h2:1≤e.id)(h3:e.id≤999)
  (hDo:∀D id,(∀q∈[(T,tBx S),(c,⟨xs,zC,false,false⟩),(I,⟨BI.map eI,.int .i64 0,false,false⟩)],q.1≠D)→FnOk Tryz.prog 95 [.ptr D 0 0] ((D,dBx l (.bsl T 0 S.length) e 0)::[(T,tBx S),(c,⟨xs,zC,false,false⟩),(I,⟨BI.map eI,.int .i64 0,false,false⟩)]) id (.int .i64 0) ((D,some (dBx l (.bsl T 0 S.length) e m))::[(I,none),(c,some ⟨xs.set k (.agg [.int .i64 n,.str t,.bsl id 0 ys.length]),zC,false,false⟩),(id,some ⟨ys.map eI,.int .i64 0,false,false⟩)])) :
  FnOk Tryz.prog 69 [.agg [.sl (l.map eTy),.bsl T 0 S.length],eEv e] [(T,tBx S),(c,⟨xs,zC,false,false⟩),(I,⟨BI.map eI,.int .i64 0,false,false⟩)] id (.tup [.agg [.sl (l.map eTy),(.bsl T 0 S.length)],.int .i64 0]) ([(I,none),(c,some ⟨xs.set k (.agg [.int .i64 n,.str t,.bsl id 0 ys.length]),zC,false,false⟩),(id,some ⟨ys.map eI,.int .i64 0,false,false⟩)]):=by
 have hFm:=fun id=>sForm_ok e id
 have hw1:IntKind.i64.wrap ((l.length:Int) - 1)=(l.length:Int) - 1:=wrap64 (by omega)
 replace hDo:=fun D id hne=>(hDo D id hne).setD ⟨[eD l (.bsl T 0 S.length) e 0],eD l (.bsl T 0 S.length) e 0,false,false⟩ rfl rfl rfl rfl hne
 unfold tBx dBx eD eEv at *
 refine fn_okb Tryz.func69 hcc69 (by decide) hcr69 (by simp[Tryz.ntmps69]) fun E hP hR hl hid hB hu=>?_
 simp only[cr69] at hR
 refine w_go 4000 ?_
 simp[cc69,someL]
 have hT:=hl (T,_) (List.mem_cons_self ..)
 simp only at hT
 have T1:=lf hT
 have hTn:∀x∈S.map eTn,namesIn E.G0.used x:=old_names hB (List.mem_cons_self ..)
 have hc:=hl (c,_) (List.mem_cons_of_mem _ (List.mem_cons_self ..))
 simp only at hc
 have c1:=lf hc
 have hXn:∀x∈xs,namesIn E.G0.used x:=old_names hB (List.mem_cons_of_mem _ (List.mem_cons_self ..))
 have hI:=hl (I,_) (List.mem_cons_of_mem _ (List.mem_cons_of_mem _ (List.mem_cons_self ..)))
 simp only at hI
 have I1:=lf hI
 (refine w_call hP rfl (hFm _) (by simp[T1,c1,I1,d3,d3.symm,d5,d5.symm,d6,d6.symm]) (by simp[T1,c1,I1,d3,d3.symm,d5,d5.symm,d6,d6.symm]<;>rfl) ?_; refine w_go 4000 ?_; simp[T1,c1,I1,d3,d3.symm,d5,d5.symm,d6,d6.symm])
 refine goc_false (by simp[hf0]) ?_
 simp[T1,c1,I1,d3,d3.symm,d5,d5.symm,d6,d6.symm]
 rw[hw1]
 (refine w_call hP rfl (stWithin_ok _ _ _ _) (by simp[T1,c1,I1,d3,d3.symm,d5,d5.symm,d6,d6.symm]) (by simp[T1,c1,I1,d3,d3.symm,d5,d5.symm,d6,d6.symm]<;>rfl) ?_; refine w_go 4000 ?_; simp[T1,c1,I1,d3,d3.symm,d5,d5.symm,d6,d6.symm])
 refine goc_false (by simp; omega) ?_
 simp[T1,c1,I1,d3,d3.symm,d5,d5.symm,d6,d6.symm]
 (refine w_call hP rfl (stWithin_ok _ _ _ _) (by simp[T1,c1,I1,d3,d3.symm,d5,d5.symm,d6,d6.symm]) (by simp[T1,c1,I1,d3,d3.symm,d5,d5.symm,d6,d6.symm]<;>rfl) ?_; refine w_go 4000 ?_; simp[T1,c1,I1,d3,d3.symm,d5,d5.symm,d6,d6.symm])
 refine goc_false (by simp; omega) ?_
 simp[T1,c1,I1,d3,d3.symm,d5,d5.symm,d6,d6.symm]
 refine goc_false (by simp[hf0]) ?_
 simp[T1,c1,I1,d3,d3.symm,d5,d5.symm,d6,d6.symm]
 (refine w_call hP rfl (hDo _ _ (by exact fun q hq=>by have:=(hl q hq).1; omega)) (by simp[T1,c1,I1,d3,d3.symm,d5,d5.symm,d6,d6.symm]) (by simp[T1,c1,I1,d3,d3.symm,d5,d5.symm,d6,d6.symm]<;>rfl) ?_; refine w_go 4000 ?_; simp[T1,c1,I1,d3,d3.symm,d5,d5.symm,d6,d6.symm])
 have hrn:rnOk [(id,E.n0+32768)]:=by simp[T1,c1,I1,d3,d3.symm,d5,d5.symm,d6,d6.symm,idO hid]
 rw[hR]
 refine rt_end (by simp<;>rfl) [(id,E.n0+32768)] hrn ⟨?_,?_,?_,?_,?_,?_⟩<;>(try simp[T1,c1,I1,d3,d3.symm,d5,d5.symm,d6,d6.symm,idO hid])
 exact⟨by (first|exact renL_old hu (by intro z h1 h2; (try simp[lkN]); try omega) hTn|exact renL_old hu (by intro z h1 h2; rfl) hTn),renL_set (by simp[idO hid]) k (by (first|exact renL_old hu (by intro z h1 h2; (try simp[lkN]); try omega) hXn|exact renL_old hu (by intro z h1 h2; rfl) hXn))⟩
end Go.Am
namespace Go.Am
set_option linter.all false
open Go Go.RowKit Go.Proofs
set_option maxRecDepth 100000
set_option linter.all false
set_option maxHeartbeats 1000000 in
theorem Raw_errD(l:List Ty)(S:List OTg)(e:Ev)(T:Nat)(id:Nat)(m w:Int)(rd:List (Nat×Bx))(hnd:(rd.map Prod.fst).Nodup)(hw:w≠0)(hl8:l.length≤1000)(hf0:fForm e=0)(h0:0≤e.type)(h1:e.type≤(l.length:Int) - 1)(h2:1≤e.id)(h3:e.id≤999)
  (hDo:∀D id,(∀q∈rd,q.1≠D)→FnOk Tryz.prog 95 [.ptr D 0 0] ((D,dBx l (.bsl T 0 S.length) e 0)::rd) id (.int .i64 w) [(D,some (dBx l (.bsl T 0 S.length) e m))]) :
  FnOk Tryz.prog 69 [.agg [.sl (l.map eTy),.bsl T 0 S.length],eEv e] rd id (.tup [eS0,.int .i64 w]) []:=by
 have hFm:=fun id=>sForm_ok e id
 have hw1:IntKind.i64.wrap ((l.length:Int) - 1)=(l.length:Int) - 1:=wrap64 (by omega)
 replace hDo:=fun D id hne=>(hDo D id hne).setD ⟨[eD l (.bsl T 0 S.length) e 0],eD l (.bsl T 0 S.length) e 0,false,false⟩ rfl rfl rfl rfl hne
 unfold dBx eD eEv at *
 refine fn_okb Tryz.func69 hcc69 (by decide) hcr69 (by simp[Tryz.ntmps69]) fun E hP hR hl hid hB hu=>?_
 simp only[cr69] at hR
 refine w_go 4000 ?_
 simp[cc69,someL]
 (refine w_call hP rfl (hFm _) (by simp) (by simp<;>rfl) ?_; refine w_go 4000 ?_; simp)
 refine goc_false (by simp[hf0]) ?_
 simp
 rw[hw1]
 (refine w_call hP rfl (stWithin_ok _ _ _ _) (by simp) (by simp<;>rfl) ?_; refine w_go 4000 ?_; simp)
 refine goc_false (by simp; omega) ?_
 simp
 (refine w_call hP rfl (stWithin_ok _ _ _ _) (by simp) (by simp<;>rfl) ?_; refine w_go 4000 ?_; simp)
 refine goc_false (by simp; omega) ?_
 simp
 refine goc_false (by simp[hf0]) ?_
 simp
 have hnk:∀q∈rd,q.1≠E.n0+29696∧q.1≠E.n0+2048∧q.1≠E.n0+1024∧q.1≠E.n0:=fun q hq=>by
  have:=(hl q hq).1; omega
 refine w_call hP rfl (hDo (E.n0+29696) _ fun q hq=>(hnk q hq).1) (by simp) ⟨by simp,?_⟩ ?_
 ·refine hasL_rest (pre:=[_,_,_,_]) hnd fun q hq p hp=>?_
  simp only[List.mem_cons,List.not_mem_nil,or_false] at hp
  obtain⟨n1,n2,n3,n4⟩:=hnk q hq
  rcases hp with rfl|rfl|rfl|rfl<;>assumption
 refine w_go 4000 ?_
 simp
 refine goc_true (by simpa using hw) ?_
 simp
 rw[hR]
 have hrn:rnOk []:=trivial
 refine rt_end (by simp<;>rfl) [] hrn ⟨?_,?_,?_,?_,?_,?_⟩
 ·simp[eS0]
 ·show FinB _ _ _ _ (rd.map (·.1)++[])
  refine finB_app (finB_old hB hu (fun z _ _=>rfl) (fun z _=>rfl) fun q hq=>⟨hq,?_,?_⟩) ?_
  ·exact bk_rest hnd hq
  ·refine bk_pre (pre:=[_,_,_,_,_,_]) hnd hq fun p hp=>?_
   simp only[List.mem_cons,List.not_mem_nil,or_false] at hp
   obtain⟨n1,n2,n3,n4⟩:=hnk q hq
   rcases hp with rfl|rfl|rfl|rfl|rfl|rfl<;>assumption
  ·simp
 ·show DropOk _ _ ([_,_,_,_,_,_]++someL rd)
  refine dropOk_app (by simp) (dropOk_someL fun q hq=>hasKey_someL.2 (List.mem_map.2 ⟨q,hq,rfl⟩))
 ·simp
 ·simp
 ·simp
set_option maxHeartbeats 1000000 in
theorem Raw_drop(l:List Ty)(S:List OTg)(e:Ev)(T:Nat)(id:Nat)(k:Nat)(m:Int)(rest:List (Nat×Bx))(hnd:(rest.map Prod.fst).Nodup)(dT:∀q∈rest,q.1≠T)(hl8:l.length≤1000)(hf0:fForm e=0)(h0:0≤e.type)(h1:e.type≤(l.length:Int) - 1)(h2:1≤e.id)(h3:e.id≤999)
  (hDo:∀D id,(∀q∈(T,tBx S)::rest,q.1≠D)→FnOk Tryz.prog 95 [.ptr D 0 0] ((D,dBx l (.bsl T 0 S.length) e 0)::(T,tBx S)::rest) id (.int .i64 0) [(D,some (dBx l (.bsl id 0 (S.length - 1)) e m)),(T,none),(id,some ⟨(S.map eTn).take k++(S.map eTn).drop (k+1),zT,false,false⟩)]) :
  FnOk Tryz.prog 69 [.agg [.sl (l.map eTy),.bsl T 0 S.length],eEv e] ((T,tBx S)::rest) id (.tup [.agg [.sl (l.map eTy),.bsl id 0 (S.length - 1)],.int .i64 0]) [(T,none),(id,some ⟨(S.map eTn).take k++(S.map eTn).drop (k+1),zT,false,false⟩)]:=by
 have hFm:=fun id=>sForm_ok e id
 have hw1:IntKind.i64.wrap ((l.length:Int) - 1)=(l.length:Int) - 1:=wrap64 (by omega)
 replace hDo:=fun D id hne=>(hDo D id hne).setD ⟨[eD l (.bsl T 0 S.length) e 0],eD l (.bsl T 0 S.length) e 0,false,false⟩ rfl rfl rfl rfl hne
 unfold tBx dBx eD eEv at *
 refine fn_okb Tryz.func69 hcc69 (by decide) hcr69 (by simp[Tryz.ntmps69]) fun E hP hR hl hid hB hu=>?_
 simp only[cr69] at hR
 refine w_go 4000 ?_
 simp[cc69,someL]
 have hT:=hl (T,_) (List.mem_cons_self ..)
 simp only at hT
 have T1:=lf hT
 have hTn:∀x∈S.map eTn,namesIn E.G0.used x:=old_names hB (List.mem_cons_self ..)
 (refine w_call hP rfl (hFm _) (by simp[T1]) (by simp[T1]<;>rfl) ?_; refine w_go 4000 ?_; simp[T1])
 refine goc_false (by simp[hf0]) ?_
 simp[T1]
 rw[hw1]
 (refine w_call hP rfl (stWithin_ok _ _ _ _) (by simp[T1]) (by simp[T1]<;>rfl) ?_; refine w_go 4000 ?_; simp[T1])
 refine goc_false (by simp; omega) ?_
 simp[T1]
 (refine w_call hP rfl (stWithin_ok _ _ _ _) (by simp[T1]) (by simp[T1]<;>rfl) ?_; refine w_go 4000 ?_; simp[T1])
 refine goc_false (by simp; omega) ?_
 simp[T1]
 refine goc_false (by simp[hf0]) ?_
 simp[T1]
 have hnk:∀q∈rest,q.1≠E.n0+29696∧q.1≠E.n0+2048∧q.1≠E.n0+1024∧q.1≠E.n0∧q.1≠T∧q.1≠E.n0+32768∧q.1≠id:=fun q hq=>by
  have:=hl q (List.mem_cons_of_mem _ hq)
  have h2:=dT q hq
  omega
 refine w_call hP rfl (hDo (E.n0+29696) _ fun q hq=>by have:=(hl q hq).1; omega) (by simp) ⟨by simp,by simp[T1],?_⟩ ?_
 ·refine hasL_rest (pre:=[_,_,_,_,_]) hnd fun q hq p hp=>?_
  simp only[List.mem_cons,List.not_mem_nil,or_false] at hp
  obtain⟨n1,n2,n3,n4,n5,n6,n7⟩:=hnk q hq
  rcases hp with rfl|rfl|rfl|rfl|rfl<;>assumption
 refine w_go 4000 ?_
 simp[T1]
 rw[hR]
 have hrn:rnOk [(id,E.n0+32768)]:=by simp
 have hlk:∀z,z<E.n0→(z<id∨id+1024≤z)→lkN [(id,E.n0+32768)] z=none:=fun z h1 h2=>by
  have a1:z≠id:=by omega
  simp[lkN,a1]
 have hgn:∀z,z<E.n0→goneN [(id,E.n0+32768)] z=false:=fun z h1=>by
  have a1:z≠E.n0+32768:=by omega
  simp[goneN,a1]
 refine rt_end (by simp<;>rfl) [(id,E.n0+32768)] hrn ⟨?_,?_,?_,?_,?_,?_⟩
 ·simp[idO hid]
 ·show FinB _ _ _ _ ([T]++(rest.map (·.1)++[T,id]))
  refine finB_app ?_ (finB_app (finB_old hB hu hlk hgn fun q hq=>⟨List.mem_cons_of_mem _ hq,?_,?_⟩) ?_)
  ·simp[someL,idO hid,T1]
  ·simp only[appl]
   obtain⟨n1,n2,n3,n4,n5,n6,n7⟩:=hnk q hq
   rw[upd_ne _ _ _ n7,upd_ne _ _ _ n5]
   refine bk_pre (pre:=[_]) hnd hq fun p hp=>?_
   simp only[List.mem_cons,List.not_mem_nil,or_false] at hp
   subst hp
   exact n5
  ·refine bk_pre (pre:=[_,_,_,_,_,_,_,_,_]) hnd hq fun p hp=>?_
   simp only[List.mem_cons,List.not_mem_nil,or_false] at hp
   obtain⟨n1,n2,n3,n4,n5,n6,n7⟩:=hnk q hq
   rcases hp with rfl|rfl|rfl|rfl|rfl|rfl|rfl|rfl|rfl<;>assumption
  ·simp[someL,idO hid,T1]
   all_goals exact renL_app (renL_old hu hlk fun x hx=>hTn x (List.mem_of_mem_take hx)) (renL_old hu hlk fun x hx=>hTn x (List.mem_of_mem_drop hx))
 ·show DropOk _ _ ([_,_,_,_,_,_,_,_,_]++someL rest)
  refine dropOk_app ?_ (dropOk_someL fun q hq=>hasKey_someL.2 (List.mem_map.2 ⟨q,List.mem_cons_of_mem _ hq,rfl⟩))
  simp[someL,T1]
 ·simp[someL]
 ·simp
 ·simp
end Go.Am
namespace Go.Am
set_option linter.all false
open Go Go.RowKit Go.Proofs
set_option maxRecDepth 100000
set_option linter.all false
set_option maxHeartbeats 1000000 in
theorem Raw_chgB2(l:List Ty)(S:List OTg)(e:Ev)(T:Nat)(id:Nat)(c:Nat)(xs:List AV)(k:Nat)(a b io:AV)(hx:xs[k]?=some (.agg [a,b,io]))(n:Int)(t:List UInt8)(I:Nat)(BI:List Int)(d3:T≠c)(d5:T≠I)(d6:c≠I)(m:Int)(hl8:l.length≤1000)(hf0:fForm e=0)(h0:0≤e.type)(h1:e.type≤(l.length:Int) - 1)(h2:1≤e.id)(h3:e.id≤999)
  (hDo:∀D id,(∀q∈[(T,tBx S),(c,⟨xs,zC,false,false⟩),(I,⟨BI.map eI,.int .i64 0,false,false⟩)],q.1≠D)→FnOk Tryz.prog 95 [.ptr D 0 0] ((D,dBx l (.bsl T 0 S.length) e 0)::[(T,tBx S),(c,⟨xs,zC,false,false⟩),(I,⟨BI.map eI,.int .i64 0,false,false⟩)]) id (.int .i64 0) ((D,some (dBx l (.bsl T 0 S.length) e m))::[(c,some ⟨xs.set k (.agg [.int .i64 n,.str t,io]),zC,false,false⟩)])) :
  FnOk Tryz.prog 69 [.agg [.sl (l.map eTy),.bsl T 0 S.length],eEv e] [(T,tBx S),(c,⟨xs,zC,false,false⟩),(I,⟨BI.map eI,.int .i64 0,false,false⟩)] id (.tup [.agg [.sl (l.map eTy),(.bsl T 0 S.length)],.int .i64 0]) ([(c,some ⟨xs.set k (.agg [.int .i64 n,.str t,io]),zC,false,false⟩)]):=by
 have hFm:=fun id=>sForm_ok e id
 have hw1:IntKind.i64.wrap ((l.length:Int) - 1)=(l.length:Int) - 1:=wrap64 (by omega)
 replace hDo:=fun D id hne=>(hDo D id hne).setD ⟨[eD l (.bsl T 0 S.length) e 0],eD l (.bsl T 0 S.length) e 0,false,false⟩ rfl rfl rfl rfl hne
 unfold tBx dBx eD eEv at *
 refine fn_okb Tryz.func69 hcc69 (by decide) hcr69 (by simp[Tryz.ntmps69]) fun E hP hR hl hid hB hu=>?_
 simp only[cr69] at hR
 refine w_go 4000 ?_
 simp[cc69,someL]
 have hT:=hl (T,_) (List.mem_cons_self ..)
 simp only at hT
 have T1:=lf hT
 have hTn:∀x∈S.map eTn,namesIn E.G0.used x:=old_names hB (List.mem_cons_self ..)
 have hc:=hl (c,_) (List.mem_cons_of_mem _ (List.mem_cons_self ..))
 simp only at hc
 have c1:=lf hc
 have hXn:∀x∈xs,namesIn E.G0.used x:=old_names hB (List.mem_cons_of_mem _ (List.mem_cons_self ..))
 have hI:=hl (I,_) (List.mem_cons_of_mem _ (List.mem_cons_of_mem _ (List.mem_cons_self ..)))
 simp only at hI
 have I1:=lf hI
 (refine w_call hP rfl (hFm _) (by simp[T1,c1,I1,d3,d3.symm,d5,d5.symm,d6,d6.symm]) (by simp[T1,c1,I1,d3,d3.symm,d5,d5.symm,d6,d6.symm]<;>rfl) ?_; refine w_go 4000 ?_; simp[T1,c1,I1,d3,d3.symm,d5,d5.symm,d6,d6.symm])
 refine goc_false (by simp[hf0]) ?_
 simp[T1,c1,I1,d3,d3.symm,d5,d5.symm,d6,d6.symm]
 rw[hw1]
 (refine w_call hP rfl (stWithin_ok _ _ _ _) (by simp[T1,c1,I1,d3,d3.symm,d5,d5.symm,d6,d6.symm]) (by simp[T1,c1,I1,d3,d3.symm,d5,d5.symm,d6,d6.symm]<;>rfl) ?_; refine w_go 4000 ?_; simp[T1,c1,I1,d3,d3.symm,d5,d5.symm,d6,d6.symm])
 refine goc_false (by simp; omega) ?_
 simp[T1,c1,I1,d3,d3.symm,d5,d5.symm,d6,d6.symm]
 (refine w_call hP rfl (stWithin_ok _ _ _ _) (by simp[T1,c1,I1,d3,d3.symm,d5,d5.symm,d6,d6.symm]) (by simp[T1,c1,I1,d3,d3.symm,d5,d5.symm,d6,d6.symm]<;>rfl) ?_; refine w_go 4000 ?_; simp[T1,c1,I1,d3,d3.symm,d5,d5.symm,d6,d6.symm])
 refine goc_false (by simp; omega) ?_
 simp[T1,c1,I1,d3,d3.symm,d5,d5.symm,d6,d6.symm]
 refine goc_false (by simp[hf0]) ?_
 simp[T1,c1,I1,d3,d3.symm,d5,d5.symm,d6,d6.symm]
 (refine w_call hP rfl (hDo _ _ (by exact fun q hq=>by have:=(hl q hq).1; omega)) (by simp[T1,c1,I1,d3,d3.symm,d5,d5.symm,d6,d6.symm]) (by simp[T1,c1,I1,d3,d3.symm,d5,d5.symm,d6,d6.symm]<;>rfl) ?_; refine w_go 4000 ?_; simp[T1,c1,I1,d3,d3.symm,d5,d5.symm,d6,d6.symm])
 have hrn:rnOk []:=by simp[T1,c1,I1,d3,d3.symm,d5,d5.symm,d6,d6.symm,idO hid]
 rw[hR]
 refine rt_end (by simp<;>rfl) [] hrn ⟨?_,?_,?_,?_,?_,?_⟩<;>(try simp[T1,c1,I1,d3,d3.symm,d5,d5.symm,d6,d6.symm,idO hid])
 have hio:namesIn E.G0.used io:=by have:=hXn _ (List.mem_of_getElem? hx); simp[namesIn,namesL] at this; exact this.2.2
 refine⟨by (first|exact renL_old hu (by intro z h1 h2; (try simp[lkN]); try omega) hTn|exact renL_old hu (by intro z h1 h2; rfl) hTn),renL_set (renR_old hu (by simp[namesIn,namesL]; exact hio) fun z h1 h2=>rfl) k (by (first|exact renL_old hu (by intro z h1 h2; (try simp[lkN]); try omega) hXn|exact renL_old hu (by intro z h1 h2; rfl) hXn))⟩
set_option maxHeartbeats 1000000 in
theorem Raw_chgC2(l:List Ty)(S:List OTg)(e:Ev)(T:Nat)(id:Nat)(c:Nat)(xs:List AV)(k:Nat)(n:Int)(t:List UInt8)(ys:List Int)(I:Nat)(BI:List Int)(d3:T≠c)(d5:T≠I)(d6:c≠I)(m:Int)(hl8:l.length≤1000)(hf0:fForm e=0)(h0:0≤e.type)(h1:e.type≤(l.length:Int) - 1)(h2:1≤e.id)(h3:e.id≤999)
  (hDo:∀D id,(∀q∈[(T,tBx S),(c,⟨xs,zC,false,false⟩),(I,⟨BI.map eI,.int .i64 0,false,false⟩)],q.1≠D)→FnOk Tryz.prog 95 [.ptr D 0 0] ((D,dBx l (.bsl T 0 S.length) e 0)::[(T,tBx S),(c,⟨xs,zC,false,false⟩),(I,⟨BI.map eI,.int .i64 0,false,false⟩)]) id (.int .i64 0) ((D,some (dBx l (.bsl T 0 S.length) e m))::[(c,some ⟨xs.set k (.agg [.int .i64 n,.str t,.bsl id 0 ys.length]),zC,false,false⟩),(id,some ⟨ys.map eI,.int .i64 0,false,false⟩)])) :
  FnOk Tryz.prog 69 [.agg [.sl (l.map eTy),.bsl T 0 S.length],eEv e] [(T,tBx S),(c,⟨xs,zC,false,false⟩),(I,⟨BI.map eI,.int .i64 0,false,false⟩)] id (.tup [.agg [.sl (l.map eTy),(.bsl T 0 S.length)],.int .i64 0]) ([(c,some ⟨xs.set k (.agg [.int .i64 n,.str t,.bsl id 0 ys.length]),zC,false,false⟩),(id,some ⟨ys.map eI,.int .i64 0,false,false⟩)]):=by
 have hFm:=fun id=>sForm_ok e id
 have hw1:IntKind.i64.wrap ((l.length:Int) - 1)=(l.length:Int) - 1:=wrap64 (by omega)
 replace hDo:=fun D id hne=>(hDo D id hne).setD ⟨[eD l (.bsl T 0 S.length) e 0],eD l (.bsl T 0 S.length) e 0,false,false⟩ rfl rfl rfl rfl hne
 unfold tBx dBx eD eEv at *
 refine fn_okb Tryz.func69 hcc69 (by decide) hcr69 (by simp[Tryz.ntmps69]) fun E hP hR hl hid hB hu=>?_
 simp only[cr69] at hR
 refine w_go 4000 ?_
 simp[cc69,someL]
 have hT:=hl (T,_) (List.mem_cons_self ..)
 simp only at hT
 have T1:=lf hT
 have hTn:∀x∈S.map eTn,namesIn E.G0.used x:=old_names hB (List.mem_cons_self ..)
 have hc:=hl (c,_) (List.mem_cons_of_mem _ (List.mem_cons_self ..))
 simp only at hc
 have c1:=lf hc
 have hXn:∀x∈xs,namesIn E.G0.used x:=old_names hB (List.mem_cons_of_mem _ (List.mem_cons_self ..))
 have hI:=hl (I,_) (List.mem_cons_of_mem _ (List.mem_cons_of_mem _ (List.mem_cons_self ..)))
 simp only at hI
 have I1:=lf hI
 (refine w_call hP rfl (hFm _) (by simp[T1,c1,I1,d3,d3.symm,d5,d5.symm,d6,d6.symm]) (by simp[T1,c1,I1,d3,d3.symm,d5,d5.symm,d6,d6.symm]<;>rfl) ?_; refine w_go 4000 ?_; simp[T1,c1,I1,d3,d3.symm,d5,d5.symm,d6,d6.symm])
 refine goc_false (by simp[hf0]) ?_
 simp[T1,c1,I1,d3,d3.symm,d5,d5.symm,d6,d6.symm]
 rw[hw1]
 (refine w_call hP rfl (stWithin_ok _ _ _ _) (by simp[T1,c1,I1,d3,d3.symm,d5,d5.symm,d6,d6.symm]) (by simp[T1,c1,I1,d3,d3.symm,d5,d5.symm,d6,d6.symm]<;>rfl) ?_; refine w_go 4000 ?_; simp[T1,c1,I1,d3,d3.symm,d5,d5.symm,d6,d6.symm])
 refine goc_false (by simp; omega) ?_
 simp[T1,c1,I1,d3,d3.symm,d5,d5.symm,d6,d6.symm]
 (refine w_call hP rfl (stWithin_ok _ _ _ _) (by simp[T1,c1,I1,d3,d3.symm,d5,d5.symm,d6,d6.symm]) (by simp[T1,c1,I1,d3,d3.symm,d5,d5.symm,d6,d6.symm]<;>rfl) ?_; refine w_go 4000 ?_; simp[T1,c1,I1,d3,d3.symm,d5,d5.symm,d6,d6.symm])
 refine goc_false (by simp; omega) ?_
 simp[T1,c1,I1,d3,d3.symm,d5,d5.symm,d6,d6.symm]
 refine goc_false (by simp[hf0]) ?_
 simp[T1,c1,I1,d3,d3.symm,d5,d5.symm,d6,d6.symm]
 (refine w_call hP rfl (hDo _ _ (by exact fun q hq=>by have:=(hl q hq).1; omega)) (by simp[T1,c1,I1,d3,d3.symm,d5,d5.symm,d6,d6.symm]) (by simp[T1,c1,I1,d3,d3.symm,d5,d5.symm,d6,d6.symm]<;>rfl) ?_; refine w_go 4000 ?_; simp[T1,c1,I1,d3,d3.symm,d5,d5.symm,d6,d6.symm])
 have hrn:rnOk [(id,E.n0+32768)]:=by simp[T1,c1,I1,d3,d3.symm,d5,d5.symm,d6,d6.symm,idO hid]
 rw[hR]
 refine rt_end (by simp<;>rfl) [(id,E.n0+32768)] hrn ⟨?_,?_,?_,?_,?_,?_⟩<;>(try simp[T1,c1,I1,d3,d3.symm,d5,d5.symm,d6,d6.symm,idO hid])
 exact⟨by (first|exact renL_old hu (by intro z h1 h2; (try simp[lkN]); try omega) hTn|exact renL_old hu (by intro z h1 h2; rfl) hTn),renL_set (by simp[idO hid]) k (by (first|exact renL_old hu (by intro z h1 h2; (try simp[lkN]); try omega) hXn|exact renL_old hu (by intro z h1 h2; rfl) hXn))⟩
end Go.Am
namespace Go.Am
set_option linter.all false
open Go Go.RowKit Go.Proofs
set_option maxRecDepth 100000
set_option linter.all false
def trB(T:Nat)(S:List OTg):List (Nat×Bx):=(T,tBx S)::restB S
def nmR(S:List OTg):List Nat:=(restB S).map Prod.fst
def nmT(T:Nat)(S:List OTg):List Nat:=T::nmR S
def nmO(o:OTg):List Nat:=o.bxs.map Prod.fst
theorem trB_names(T:Nat)(S:List OTg):(trB T S).map Prod.fst=nmT T S:=rfl
theorem restB_app(A B:List OTg):restB (A++B)=restB A++restB B:=List.flatMap_append
theorem restB_cons(o:OTg)(B:List OTg):restB (o::B)=o.bxs++restB B:=rfl
theorem nmR_app(A B:List OTg):nmR (A++B)=nmR A++nmR B:=by simp[nmR,restB_app]
theorem nmR_cons(o:OTg)(B:List OTg):nmR (o::B)=nmO o++nmR B:=by simp[nmR,nmO,restB_cons]
theorem mem_nm{q:Nat×Bx}{S:List OTg}(h:q∈restB S):q.1∈nmR S:=List.mem_map.2 ⟨q,h,rfl⟩
structure TreeTo(id T:Nat)(S:List OTg)(wr:List (Nat×Option Bx))(T':Nat)(S':List OTg):Prop where
 has:∀bx,Has bx (trB T S)→Has (appl bx wr) (trB T' S')
 nd:(nmT T' S').Nodup
 nm:∀z∈nmT T' S',z∈nmT T S∨(id≤z∧z<id+1024)
 ok:∀o∈S',o.Ok
 kw:∀q∈wr,q.1∈nmT T S∨(id≤q.1∧q.1<id+1024)
theorem idsB_none(n:Nat)(c:Cl):idsB (List.replicate n c) (List.replicate n none)=[]:=by
 induction n with
 | zero=>rfl
 | succ n ih=>simp only[List.replicate_succ,idsB,idB,ih]; rfl
def cl0:Cl:=⟨0,[],[]⟩
def newO(e:Ev)(n id:Nat):OTg:=⟨⟨e.type,e.id,List.replicate n cl0⟩,id+1,List.replicate n none⟩
theorem newO_bxs(e:Ev)(n id:Nat):(newO e n id).bxs=[(id+1,⟨List.replicate n zC,zC,false,false⟩)]:=by
 have h:List.zipWith eCn (List.replicate n cl0) (List.replicate n none)=List.replicate n zC:=by
  rw[List.zipWith_replicate,Nat.min_self]
  rfl
 simp only[OTg.bxs,newO,idsB_none,cBn,h]
theorem newO_ok(e:Ev)(n id:Nat):(newO e n id).Ok:=⟨by simp[newO],fun k c h1 h2=>by
 simp only[newO,List.getElem?_replicate] at h1
 split at h1
 ·injection h1 with h1; subst h1; rfl
 ·cases h1⟩
theorem tree_make{id T:Nat}{A B:List OTg}(e:Ev)(n:Nat)(hnd:(nmT T (A++B)).Nodup)(hfr:∀z∈nmT T (A++B),z<id∨id+1024≤z)(hok:∀o∈A++B,o.Ok):
  TreeTo id T (A++B) [(T,none),(id,some (tBx (A++newO e n id::B))),(id+1,some ⟨List.replicate n zC,zC,false,false⟩)] id (A++newO e n id::B):=by
 have hr:restB (A++newO e n id::B)=restB A++((id+1,⟨List.replicate n zC,zC,false,false⟩)::restB B):=by rw[restB_app,restB_cons,newO_bxs]; rfl
 have hn:nmR (A++newO e n id::B)=nmR A++(id+1)::nmR B:=by simp[nmR,hr]
 have hT:=hfr T (List.mem_cons_self ..)
 have hAB:∀z∈nmR A++nmR B,(z<id∨id+1024≤z)∧z≠T:=fun z hz=>by
  rw[←nmR_app] at hz
  exact⟨hfr z (List.mem_cons_of_mem _ hz),fun e=>by rw[nmT,List.nodup_cons] at hnd; exact hnd.1 (e▸hz)⟩
 refine⟨fun bx hb q hq=>?_,?_,fun z hz=>?_,fun o ho=>?_,fun q hq=>?_⟩
 ·simp only[appl]
  rcases List.mem_cons.1 hq with rfl|hq
  ·rw[upd_ne _ _ _ (by simp only; omega),upd_eq]
  ·rw[hr] at hq
   have key:q∈restB (A++B)→upd (upd (upd bx T none) id (some (tBx (A++newO e n id::B)))) (id+1) (some ⟨List.replicate n zC,zC,false,false⟩) q.1=some q.2:=fun hq=>by
    have:=hAB q.1 (by rw[←nmR_app]; exact mem_nm hq)
    rw[upd_ne _ _ _ (by omega),upd_ne _ _ _ (by omega),upd_ne _ _ _ this.2]
    exact hb q (List.mem_cons_of_mem _ hq)
   rcases List.mem_append.1 hq with hq|hq
   ·exact key (by rw[restB_app]; exact List.mem_append_left _ hq)
   ·rcases List.mem_cons.1 hq with rfl|hq
    ·rw[upd_eq]
    ·exact key (by rw[restB_app]; exact List.mem_append_right _ hq)
 ·rw[nmT,List.nodup_cons,hn]
  rw[nmT,nmR_app,List.nodup_cons,List.nodup_append] at hnd
  obtain⟨h0,h1,h2,h3⟩:=hnd
  refine⟨fun hm=>?_,List.nodup_append.2 ⟨h1,List.nodup_cons.2 ⟨fun hm=>?_,h2⟩,fun a ha b hb=>?_⟩⟩
  ·rcases List.mem_append.1 hm with hm|hm
   ·have:=hAB id (List.mem_append_left _ hm); omega
   ·rcases List.mem_cons.1 hm with hm|hm
    ·omega
    ·have:=hAB id (List.mem_append_right _ hm); omega
  ·have:=hAB (id+1) (List.mem_append_right _ hm); omega
  ·rcases List.mem_cons.1 hb with rfl|hb
   ·have:=hAB a (List.mem_append_left _ ha); omega
   ·exact h3 a ha b hb
 ·rcases List.mem_cons.1 hz with rfl|hz
  ·exact .inr ⟨Nat.le_refl _,by omega⟩
  ·rw[hn] at hz
   rcases List.mem_append.1 hz with hz|hz
   ·exact .inl (List.mem_cons_of_mem _ (by rw[nmR_app]; exact List.mem_append_left _ hz))
   ·rcases List.mem_cons.1 hz with rfl|hz
    ·exact .inr ⟨by omega,by omega⟩
    ·exact .inl (List.mem_cons_of_mem _ (by rw[nmR_app]; exact List.mem_append_right _ hz))
 ·rcases List.mem_append.1 ho with ho|ho
  ·exact hok o (List.mem_append_left _ ho)
  ·rcases List.mem_cons.1 ho with rfl|ho
   ·exact newO_ok e n id
   ·exact hok o (List.mem_append_right _ ho)
 ·simp only[List.mem_cons,List.not_mem_nil,or_false] at hq
  rcases hq with rfl|rfl|rfl
  ·exact .inl (List.mem_cons_self ..)
  ·exact .inr ⟨Nat.le_refl _,by simp only; omega⟩
  ·exact .inr ⟨by simp only; omega,by simp only; omega⟩
theorem tree_drop{id T:Nat}{A B:List OTg}{o:OTg}(hnd:(nmT T (A++o::B)).Nodup)(hfr:∀z∈nmT T (A++o::B),z<id∨id+1024≤z)(hok:∀x∈A++o::B,x.Ok):
  TreeTo id T (A++o::B) [(T,none),(id,some (tBx (A++B)))] id (A++B):=by
 have hT:=hfr T (List.mem_cons_self ..)
 have hsub:∀q∈restB (A++B),q∈restB (A++o::B):=fun q hq=>by
  rw[restB_app] at hq
  rw[restB_app,restB_cons]
  rcases List.mem_append.1 hq with h|h
  ·exact List.mem_append_left _ h
  ·exact List.mem_append_right _ (List.mem_append_right _ h)
 have hsubn:∀z∈nmR (A++B),z∈nmR (A++o::B):=fun z hz=>by
  obtain⟨q,hq,rfl⟩:=List.mem_map.1 hz
  exact mem_nm (hsub q hq)
 have hAB:∀z∈nmR (A++B),(z<id∨id+1024≤z)∧z≠T:=fun z hz =>
  ⟨hfr z (List.mem_cons_of_mem _ (hsubn z hz)),fun e=>by rw[nmT,List.nodup_cons] at hnd; exact hnd.1 (e▸hsubn z hz)⟩
 refine⟨fun bx hb q hq=>?_,?_,fun z hz=>?_,fun x ho=>?_,fun q hq=>?_⟩
 ·simp only[appl]
  rcases List.mem_cons.1 hq with rfl|hq
  ·rw[upd_eq]
  ·have:=hAB q.1 (mem_nm hq)
   rw[upd_ne _ _ _ (by omega),upd_ne _ _ _ this.2]
   exact hb q (List.mem_cons_of_mem _ (hsub q hq))
 ·rw[nmT,List.nodup_cons]
  refine⟨fun hm=>by have:=hAB id hm; omega,?_⟩
  rw[nmT,nmR_app,nmR_cons,List.nodup_cons,List.nodup_append,List.nodup_append] at hnd
  obtain⟨h0,h1,⟨h4,h5,h6⟩,h3⟩:=hnd
  rw[nmR_app]
  exact List.nodup_append.2 ⟨h1,h5,fun a ha b hb=>h3 a ha b (List.mem_append_right _ hb)⟩
 ·rcases List.mem_cons.1 hz with rfl|hz
  ·exact .inr ⟨Nat.le_refl _,by omega⟩
  ·exact .inl (List.mem_cons_of_mem _ (hsubn z hz))
 ·rcases List.mem_append.1 ho with ho|ho
  ·exact hok x (List.mem_append_left _ ho)
  ·exact hok x (List.mem_append_right _ (List.mem_cons_of_mem _ ho))
 ·simp only[List.mem_cons,List.not_mem_nil,or_false] at hq
  rcases hq with rfl|rfl
  ·exact .inl (List.mem_cons_self ..)
  ·exact .inr ⟨Nat.le_refl _,by simp only; omega⟩
end Go.Am
