/- Parts of the proof: an abstract machine for Go functions, and what functions of the program give back (Sa1, Rr1, Rr2, Rr3). No condition. -/
import Derived.Test.YtblnaikecokobaaGreatXY
namespace Go.Am
set_option linter.all false
open Go Go.RowKit Go.Proofs
set_option maxRecDepth 100000
set_option linter.all false
end Go.Am
namespace Go.Am
set_option linter.all false
open Go Go.RowKit Go.Proofs
set_option maxRecDepth 100000
set_option linter.all false
theorem hasId_ok(l:List Int)(y:Int)(id:Nat)(hl8:l.length<9223372036854775807):FnOk Tryz.prog 64 [.sl (l.map eI),.int .i64 y] [] id (.bool (hasI l y)) []:=by
 refine fn_okc Tryz.func64 hcc64 (by decide) hcr64 (by simp[Tryz.ntmps64]) fun E hP hR hl hid=>?_
 simp only[cr64] at hR
 refine w_go 4000 ?_
 simp[cc64]
 refine w_loop (X:=Nat) (fun i=>⟨[(0,true,.sl (l.map eI)),(1,true,.int .i64 y),(5,true,.int .i64 i)],[],0⟩) (fun i=>i≤l.length∧hasI (l.drop i) y=hasI l y) (fun i=>l.length - i) 0 ?_ ⟨by omega,rfl⟩ ?_
 ·have hrn:rnOk []:=by simp
  refine Conv.sub [] hrn ?_ ?_ ?_ ?_ ?_<;>(try simp)
 ·rintro i ⟨hi,hf⟩ p hp
  refine w_go 4000 ?_
  simp
  refine goc (fun h=>?_) (fun h=>?_)
  ·have h:=of_decide_eq_true h
   obtain⟨x,hx,hd⟩:=drop_cons h
   have hi1:IntKind.i64.wrap ((i:Int)+1)=((i+1:Nat):Int):=wrap64 (by omega)
   rw[hd] at hf
   simp only[hasI,List.any_cons] at hf
   simp[hx,eI]
   refine⟨h,?_⟩
   refine goc (fun h1=>?_) (fun h1=>?_)
   ·have h1:x=y:=by simpa using h1
    have ht:hasI l y=true:=by
     unfold hasI
     rw[←hf,h1]
     simp
    simp
    rw[ht] at hR
    rw[hR]; exact rt_end (by simp<;>rfl) [] trivial (end_pure (by simp) (by simp) (by simp))
   ·have h1:¬x=y:=by simpa using h1
    simp
    refine hp _ (i+1) ⟨h,?_⟩ (by omega) ?_
    ·unfold hasI
     rw[←hf]
     have:(y==x)=false:=by simp; exact fun e=>h1 e.symm
     rw[this]; rfl
    ·have hrn:rnOk []:=by simp[hi1]
     refine Conv.sub [] hrn ?_ ?_ ?_ ?_ ?_<;>(try simp[hi1])
  ·have h:=of_decide_eq_false h
   simp
   rw[List.drop_of_length_le (by omega)] at hf
   rw[←hf] at hR
   rw[hR]; exact rt_end (by simp<;>rfl) [] trivial (end_pure (by simp; simp[hasI]) (by simp) (by simp))
set_option maxHeartbeats 2000000 in
theorem isMeant_ok(s:Sta)(e:Ev)(id:Nat)(hz:s.things.length≤1000000)(hty:s.types.length≤1000000)(hkd:∀t∈s.types,∀f∈t.fields,1≤f.kind∧f.kind≤4)
  (hok:∀t∈s.things,0≤t.type∧t.type.toNat<s.types.length∧t.cells.length=(fldsAt s.types t.type).length∧t.cells.length≤1000000∧∀c∈t.cells,c.ids.length≤1000000) :
  FnOk Tryz.prog 63 [eSta s,.int .i64 e.type,.int .i64 e.id] [] id (.bool (!eachB (meantB s.types e) s.types s.things)) []:=by
 unfold eSta
 refine fn_okc Tryz.func63 hcc63 (by decide) hcr63 (by simp[Tryz.ntmps63]) fun E hP hR hl hid=>?_
 simp only[cr63] at hR
 refine w_go 4000 ?_
 simp[cc63]
 refine w_loop (X:=Nat) (fun i=>⟨[(1,true,.int .i64 e.type),(2,true,.int .i64 e.id),(3,true,.ptr E.n0 0 0),(7,true,.int .i64 i)],[(E.n0,some ⟨[.agg [.sl (s.types.map eTy),.sl (s.things.map eTg)]],.agg [.sl (s.types.map eTy),.sl (s.things.map eTg)],false,false⟩)],1⟩) (fun i=>i≤s.things.length∧eachB (meantB s.types e) s.types (s.things.drop i)=eachB (meantB s.types e) s.types s.things) (fun i=>s.things.length - i) 0 ?_ ⟨by omega,rfl⟩ ?_
 ·have hrn:rnOk [(E.n0,E.n0)]:=by simp
  refine Conv.sub [(E.n0,E.n0)] hrn ?_ ?_ ?_ ?_ ?_<;>(try simp)
 ·rintro i ⟨hi,hf⟩ p hp
  refine w_go 4000 ?_
  simp
  refine goc (fun h=>?_) (fun h=>?_)
  ·have h:=of_decide_eq_true h
   obtain⟨t,hx,hd⟩:=drop_cons h
   have hi1:IntKind.i64.wrap ((i:Int)+1)=((i+1:Nat):Int):=wrap64 (by omega)
   obtain⟨o1,o2,o3,o4,o5⟩:=hok t (List.mem_of_getElem? hx)
   obtain⟨ty,hty'⟩:∃ty,s.types[t.type.toNat]?=some ty:=⟨_,List.getElem?_eq_getElem o2⟩
   have hfl:fldsAt s.types t.type=ty.fields:=by simp[fldsAt,hty']
   rw[hfl] at o3
   rw[hd,eachB,List.all_cons,hfl] at hf
   simp[hx,eTg_eq t]
   refine⟨h,?_⟩
   refine w_loop (X:=Nat) (fun k=>⟨[(1,true,.int .i64 e.type),(2,true,.int .i64 e.id),(3,true,.ptr E.n0 0 0),(7,true,.int .i64 i),(8,true,.ptr (E.n0+1) 0 0),(9,true,.int .i64 k)],[(E.n0,some ⟨[.agg [.sl (s.types.map eTy),.sl (s.things.map eTg)]],.agg [.sl (s.types.map eTy),.sl (s.things.map eTg)],false,false⟩),(E.n0+1,some ⟨[.agg [.int .i64 t.type,.int .i64 t.id,.sl (t.cells.map eCl)]],.agg [.int .i64 0,.int .i64 0,.nils],false,false⟩)],2⟩)
    (fun k=>k≤t.cells.length∧cellsB (meantB s.types e) (ty.fields.drop k) (t.cells.drop k)=cellsB (meantB s.types e) ty.fields t.cells) (fun k=>t.cells.length - k) 0 ?_ ⟨by omega,rfl⟩ ?_
   ·have hrn:rnOk [(E.n0,E.n0),(E.n0+1,E.n0+10241)]:=by simp
    refine Conv.sub [(E.n0,E.n0),(E.n0+1,E.n0+10241)] hrn ?_ ?_ ?_ ?_ ?_<;>(try simp)
   ·rintro k ⟨hk,hg⟩ p2 hp2
    refine w_go 4000 ?_
    simp
    refine goc (fun g=>?_) (fun g=>?_)
    ·have g:=of_decide_eq_true g
     obtain⟨c,hcx,hcd⟩:=drop_cons g
     obtain⟨f,hfx,hfd⟩:=drop_cons (l:=ty.fields) (i:=k) (by omega)
     have hk1:IntKind.i64.wrap ((k:Int)+1)=((k+1:Nat):Int):=wrap64 (by omega)
     have hci:=o5 c (List.mem_of_getElem? hcx)
     rw[hcd,hfd,cellsB] at hg
     simp[hty',hfx,hcx,eTy,eFd,eCl]
     refine⟨⟨o1,o2⟩,?_⟩
     (repeat (refine And.intro (by first|assumption|omega|(simp; omega)|(simp_all; done)) ?_))
     have hkf:=hkd ty (List.mem_of_getElem? hty') f (List.mem_of_getElem? hfx)
     have hmb:meantB s.types e f c=!(decide (2<f.kind)&&(kindOf s.types f.of==e.type)&&hasI c.ids e.id):=by
      have:isLink f.kind=decide (2<f.kind):=by unfold isLink; rw[Bool.eq_iff_iff]; simp; omega
      unfold meantB
      rw[this]
      cases decide (2<f.kind)<;>cases (kindOf s.types f.of==e.type)<;>cases hasI c.ids e.id<;>rfl
     (refine w_callg hP (by simp[kindOf_eq,hcx,eCl]) rfl (fun hc=>⟨TypeAt_ok s.types f.of _ (by omega),by revert hc; simp[kindOf_eq,hcx,eCl]; try grind,by simp[kindOf_eq,hcx,eCl]⟩) ?_; refine w_go 4000 ?_; simp[kindOf_eq,hcx,eCl])
     refine⟨fun a b=>⟨⟨a,b⟩,g⟩,?_⟩
     (refine w_callg hP (by simp[kindOf_eq]) rfl (fun hc=>⟨hasId_ok c.ids e.id _ (by omega),by revert hc; simp[kindOf_eq]; try grind,by simp[kindOf_eq]⟩) ?_; refine w_go 4000 ?_; simp[kindOf_eq])
     refine goc (fun g1=>?_) (fun g1=>?_)
     ·have hm:meantB s.types e f c=false:=by rw[hmb,g1]; rfl
      rw[hm] at hg
      have:eachB (meantB s.types e) s.types s.things=false:=by rw[←hf,←hg]; rfl
      rw[this] at hR
      simp
      rw[hR]; exact rt_end (by simp<;>rfl) [] trivial (end_pure (by simp) (by simp) (by simp))
     ·have hm:meantB s.types e f c=true:=by rw[hmb,g1]; rfl
      rw[hm,Bool.true_and] at hg
      simp
      refine hp2 _ (k+1) ⟨g,hg⟩ (by omega) ?_
      have hrn:rnOk [(E.n0,E.n0),(E.n0+1,E.n0+1)]:=by simp[hk1]
      refine Conv.sub [(E.n0,E.n0),(E.n0+1,E.n0+1)] hrn ?_ ?_ ?_ ?_ ?_<;>(try simp[hk1])
    ·have g:=of_decide_eq_false g
     simp
     rw[List.drop_of_length_le (l:=t.cells) (by omega),List.drop_of_length_le (l:=ty.fields) (by omega)] at hg
     have hg:cellsB (meantB s.types e) ty.fields t.cells=true:=by rw[←hg]; rfl
     rw[hg,Bool.true_and] at hf
     refine hp _ (i+1) ⟨h,hf⟩ (by omega) ?_
     have hrn:rnOk [(E.n0,E.n0)]:=by simp[hi1]
     refine Conv.sub [(E.n0,E.n0)] hrn ?_ ?_ ?_ ?_ ?_<;>(try simp[hi1])
  ·have h:=of_decide_eq_false h
   simp
   rw[List.drop_of_length_le (by omega)] at hf
   rw[←hf] at hR
   rw[hR]; exact rt_end (by simp<;>rfl) [] trivial (end_pure (by simp; simp[eachB]) (by simp) (by simp))
end Go.Am
namespace Go.Am
set_option linter.all false
open Go Go.RowKit Go.Proofs
set_option maxRecDepth 100000
set_option linter.all false
theorem rd_flat{L:List (Nat×Bx)}{id n:Nat}{b:Bx}(h:(id,b)∈L)(hn:n=b.xs.length):Rd L (.bsl id 0 n) (.sl b.xs):=by
 subst hn
 refine .bsl id 0 _ b b.xs h (by omega) rfl (fun i x y h1 h2=>?_) fun i x y j c d h1 h2 h3 h4=>?_
 ·rw[Nat.zero_add,h2] at h1; injection h1 with h1; rw[h1]
 ·rw[Nat.zero_add,h2] at h1; injection h1 with h1; subst h1
  rw[h3] at h4; injection h4 with h4; subst h4; exact .same _
theorem pureL_set{x:AV}(hx:x.pureB=true):∀{l:List AV} (i:Nat),pureL l=true→pureL (l.set i x)=true
 | [],_,h=>h
 | _::l,0,h=>by
  simp only[pureL,Bool.and_eq_true,List.set_cons_zero] at h ⊢
  exact⟨hx,h.2⟩
 | _::l,i+1,h=>by
  simp only[pureL,Bool.and_eq_true,List.set_cons_succ] at h ⊢
  exact⟨h.1,pureL_set hx i h.2⟩
theorem rd_set{L:List (Nat×Bx)}{id n i:Nat}{xs:List AV}{z u v:AV}{r f:Bool}(h:(id,(⟨xs.set i u,z,r,f⟩:Bx))∈L)(hn:n=xs.length)(hl:u.cells.length=v.cells.length)(hr:∀(j:Nat) c d,u.cells[j]?=some c→v.cells[j]?=some d→Rd L c d):Rd L (.bsl id 0 n) (.sl (xs.set i v)):=by
 subst hn
 have key:∀(m:Nat) x y,(xs.set i u)[m]?=some x→(xs.set i v)[m]?=some y→(x=u∧y=v)∨x=y:=fun m x y h1 h2=>by
  rw[List.getElem?_set] at h1 h2
  by_cases hm:i=m
  ·rw[if_pos hm] at h1 h2
   split at h1
   ·injection h1 with h1
    rename_i hlt
    rw[if_pos hlt] at h2
    injection h2 with h2
    exact .inl ⟨h1.symm,h2.symm⟩
   ·cases h1
  ·rw[if_neg hm] at h1 h2
   rw[h1] at h2; injection h2 with h2; exact .inr h2
 refine .bsl id 0 _ _ (xs.set i v) h (by simp) (by simp) (fun m x y h1 h2=>?_) fun m x y j c d h1 h2 h3 h4=>?_
 ·rw[Nat.zero_add] at h1
  rcases key m x y h1 h2 with⟨rfl,rfl⟩|rfl
  ·exact hl
  ·rfl
 ·rw[Nat.zero_add] at h1
  rcases key m x y h1 h2 with⟨rfl,rfl⟩|rfl
  ·exact hr j c d h3 h4
  ·rw[h3] at h4; injection h4 with h4; subst h4; exact .same _
set_option maxHeartbeats 2000000 in
theorem withCell_ok(s:Sta)(i k:Nat)(n:Int)(tx:List UInt8)(x:AV)(hxp:x.pureB=true)(hxo:AV.one x=true)(t:Tg)(ht:s.things[i]?=some t)(c:Cl)(hc:t.cells[k]?=some c)(id:Nat)(hz:s.things.length≤1000000)(hc8:t.cells.length≤1000000):
  FnOk Tryz.prog 65 [eSta s,.int .i64 i,.int .i64 k,.agg [.int .i64 n,.str tx,x]] [] id (.agg [.sl (s.types.map eTy),.sl ((s.things.map eTg).set i (.agg [.int .i64 t.type,.int .i64 t.id,.sl ((t.cells.map eCl).set k (.agg [.int .i64 n,.str tx,x]))]))]) []:=by
 have hk:=(List.getElem?_eq_some_iff.1 hc).1
 have hi:=(List.getElem?_eq_some_iff.1 ht).1
 unfold eSta
 have hset:∀v:AV,((s.things.map eTg).set i v)[i]?=some v:=fun v=>List.getElem?_set_self (by simpa using hi)
 refine fn_okc Tryz.func65 hcc65 (by decide) hcr65 (by simp[Tryz.ntmps65]) fun E hP hR hl hid=>?_
 simp only[cr65] at hR
 refine w_go 166 ?_
 simp[cc65,ht,eTg_eq t,hset,hc,eCl_eq c]
 refine⟨⟨fun a _=>⟨rfl,fun y hy=>?_⟩,by omega,by omega⟩,hi,⟨fun a _=>⟨rfl,fun y hy=>?_⟩,by omega,by omega⟩,hi,hk,⟨hk,hxo⟩,?_⟩
 ·simp[eTg] at hy
  rcases hy with rfl|rfl|rfl<;>rfl
 ·simp[eCl] at hy
  rcases hy with rfl|rfl|rfl<;>rfl
 refine w_conv (Conv.deep 8 [(E.n0+2048,⟨[.agg [.sl (s.types.map eTy),.bsl (E.n0+6144) 0 s.things.length]],.agg [.nils,.nils],false,false⟩),
  (E.n0+6144,⟨(s.things.map eTg).set i (.agg [.int .i64 t.type,.int .i64 t.id,.bsl (E.n0+19456) 0 t.cells.length]),.agg [.int .i64 0,.int .i64 0,.nils],false,false⟩),
  (E.n0+19456,⟨(t.cells.map eCl).set k (.agg [.int .i64 n,.str tx,x]),.agg [.int .i64 0,.str [],.nils],false,false⟩)]
  (x:=.ptr (E.n0+2048) 0 0) (y:=.cptr [.sl (s.types.map eTy),.sl ((s.things.map eTg).set i (.agg [.int .i64 t.type,.int .i64 t.id,.sl ((t.cells.map eCl).set k (.agg [.int .i64 n,.str tx,x]))]))]) rfl (fun q hq=>?_) ?_ fun q hq=>?_) ?_
 ·simp only[List.mem_cons,List.not_mem_nil,or_false] at hq
  rcases hq with rfl|rfl|rfl<;>exact⟨by simp[bk],rfl⟩
 ·refine .ptr _ _ (.agg [.sl (s.types.map eTy),.bsl (E.n0+6144) 0 s.things.length]) _ (List.mem_cons_self ..) rfl rfl fun j c d h1 h2=>?_
  match j,h1,h2 with
  | 0,h1,h2 =>
   injection h1 with h1; injection h2 with h2
   subst h1 h2; exact .same _
  | 1,h1,h2 =>
   injection h1 with h1; injection h2 with h2
   subst h1 h2
   refine rd_set (List.mem_cons_of_mem _ (List.mem_cons_self ..)) (by simp) rfl fun j c d h1 h2=>?_
   match j,h1,h2 with
   | 0,h1,h2=>injection h1 with h1; injection h2 with h2; subst h1 h2; exact .same _
   | 1,h1,h2=>injection h1 with h1; injection h2 with h2; subst h1 h2; exact .same _
   | 2,h1,h2 =>
    injection h1 with h1; injection h2 with h2; subst h1 h2
    exact rd_flat (b:=⟨(t.cells.map eCl).set k (.agg [.int .i64 n,.str tx,x]),.agg [.int .i64 0,.str [],.nils],false,false⟩) (List.mem_cons_of_mem _ (List.mem_cons_of_mem _ (List.mem_cons_self ..))) (by simp)
   | j+3,h1,h2=>simp[AV.cells] at h1
  | j+2,h1,h2=>simp[AV.cells] at h1
 ·simp only[List.mem_cons,List.not_mem_nil,or_false] at hq
  rcases hq with rfl|rfl|rfl|rfl|rfl|rfl|rfl|rfl|rfl|rfl|rfl|rfl|rfl<;>simp only<;>omega
 ·refine w_go 5 ?_
  simp
  have hp1:pureL ((s.things.map eTg).set i (.agg [.int .i64 t.type,.int .i64 t.id,.sl ((t.cells.map eCl).set k (.agg [.int .i64 n,.str tx,x]))]))=true:=pureL_set (by have:=pureL_set (x:=.agg [.int .i64 n,.str tx,x]) (by simp[hxp]) k (pure_cls t.cells); simp[this]) i (pure_tgs _)
  rw[hR]; exact rt_end (by simp<;>rfl) [] trivial (end_pure (by simp) (by simp[hp1]) (by simp))
end Go.Am
namespace Go.Am
set_option linter.all false
open Go Go.RowKit Go.Proofs
set_option maxRecDepth 100000
set_option linter.all false
theorem DoOf_e0(s:Sta)(e:Ev)(id:Nat)(h:rawE0 s.types e≠0):FnOk Tryz.prog 32 [eSta s,eEv e] [] id (.tup [eS0,.int .i64 (rawE0 s.types e)]) []:=by
 have hCE:=fun id=>rCheckEvent_ok e id
 unfold eSta eEv eS0 at *
 by_cases h1:fForm e=0
 ·rw[h1] at hCE
  by_cases h2:0≤e.type∧e.type≤(s.types.length:Int) - 1
  ·have h3:¬(1≤e.id∧e.id≤999):=fun h3=>h (by unfold rawE0; rw[if_neg (by omega),if_neg (by omega),if_neg (by omega)])
   have hv:rawE0 s.types e=3:=by unfold rawE0; rw[if_neg (by omega),if_neg (by omega),if_pos h3]
   rw[hv]
   refine fn_okc Tryz.func32 hcc32 (by decide) hcr32 (by simp[Tryz.ntmps32]) fun E hP hR hl hid=>?_
   simp only[cr32] at hR
   refine w_go 4000 ?_
   simp[cc32]
   (refine w_call hP rfl (hCE _) (by simp) (by simp<;>rfl) ?_; refine w_go 4000 ?_; simp)
   refine goc_false (by simp; omega) ?_
   simp
   (refine w_callg hP (by simp) rfl (fun hc=>⟨between_ok _ _ _ _,by revert hc; simp; try grind,by simp⟩) ?_; refine w_go 4000 ?_; simp)
   refine goc_true (by simp; omega) ?_
   simp
   rw[hR]; exact rt_end (by simp<;>rfl) [] trivial (end_pure (by simp) (by simp) (by simp))
  ·have hv:rawE0 s.types e=5:=by unfold rawE0; rw[if_neg (by omega),if_pos h2]
   rw[hv]
   refine fn_okc Tryz.func32 hcc32 (by decide) hcr32 (by simp[Tryz.ntmps32]) fun E hP hR hl hid=>?_
   simp only[cr32] at hR
   refine w_go 4000 ?_
   simp[cc32]
   (refine w_call hP rfl (hCE _) (by simp) (by simp<;>rfl) ?_; refine w_go 4000 ?_; simp)
   refine goc_true (by simp; omega) ?_
   simp
   (refine w_callg hP (by simp) rfl (fun hc=>⟨between_ok _ _ _ _,by revert hc; simp; try grind,by simp⟩) ?_; refine w_go 4000 ?_; simp)
   rw[hR]; exact rt_end (by simp<;>rfl) [] trivial (end_pure (by simp) (by simp) (by simp))
 ·have hv:rawE0 s.types e=fForm e:=by unfold rawE0; rw[if_pos h1]
  rw[hv]
  refine fn_okc Tryz.func32 hcc32 (by decide) hcr32 (by simp[Tryz.ntmps32]) fun E hP hR hl hid=>?_
  simp only[cr32] at hR
  refine w_go 4000 ?_
  simp[cc32]
  (refine w_call hP rfl (hCE _) (by simp) (by simp<;>rfl) ?_; refine w_go 4000 ?_; simp)
  refine⟨fun e=>(h1 e).elim,?_⟩
  refine goc_false (by simp[h1]) ?_
  simp
  (refine w_callg hP (by simp[h1]) rfl (fun hc=>⟨between_ok _ _ _ _,by revert hc; simp[h1]; try grind,by simp[h1]⟩) ?_; refine w_go 4000 ?_; simp[h1])
  refine goc_false (by simp[h1]) ?_
  simp
  refine goc_true (by simp[h1]) ?_
  simp
  rw[hR]; exact rt_end (by simp<;>rfl) [] trivial (end_pure (by simp) (by simp) (by simp))
set_option maxHeartbeats 2000000 in
theorem DoOf_1a(s:Sta)(q:Nat)(i fd n:Int)(tx:List UInt8)(id:Nat)(ty:Ty)(hty:s.types[q]?=some ty)(hf:fForm ⟨1,q,i,fd,n,tx⟩=0)(hi:1≤i∧i≤999)(h12:s.things.length≤1000)(a:Int)(hta:tgAt s.things q i=a)(ha:0≤a):FnOk Tryz.prog 32 [eSta s,eEv ⟨1,q,i,fd,n,tx⟩] [] id (.tup [eS0,.int .i64 6]) []:=by
 have hwq:¬((s.types.length:Int)≤(q:Int)):=by have:=(List.getElem?_eq_some_iff.1 hty).1; omega
 have hq:=(List.getElem?_eq_some_iff.1 hty).1
 have hCE:=fun id=>rCheckEvent_ok ⟨1,q,i,fd,n,tx⟩ id
 rw[hf] at hCE
 have hTA:=fun id=>ThingAt_ok s q i id (by omega)
 rw[hta] at hTA
 unfold eSta eEv at *
 refine fn_okc Tryz.func32 hcc32 (by decide) hcr32 (by simp[Tryz.ntmps32]) fun E hP hR hl hid=>?_
 simp only[cr32] at hR
 refine w_go 4000 ?_
 simp[cc32]
 (refine w_call hP rfl (hCE _) (by simp) (by simp<;>rfl) ?_; refine w_go 4000 ?_; simp)
 refine goc_false (by simp; omega) ?_
 simp
 (refine w_callg hP (by simp) rfl (fun hc=>⟨between_ok _ _ _ _,by revert hc; simp; try grind,by simp⟩) ?_; refine w_go 4000 ?_; simp)
 refine goc_false (by simp; omega) ?_
 simp
 (refine w_call hP rfl (hTA _) (by simp[hty,eTy]) (by simp[hty,eTy]<;>rfl) ?_; refine w_go 4000 ?_; simp[hty,eTy])
 (repeat (refine And.intro (by first|assumption|omega|(simp; omega)|(simp_all; done)) ?_))
 unfold eS0 at hR
 refine goc_true (by simp; omega) ?_
 simp
 rw[hR]; exact rt_end (by simp<;>rfl) [] trivial (end_pure (by simp) (by simp) (by simp))
set_option maxHeartbeats 2000000 in
theorem DoOf_1b(s:Sta)(q:Nat)(i fd n:Int)(tx:List UInt8)(id:Nat)(ty:Ty)(hty:s.types[q]?=some ty)(hf:fForm ⟨1,q,i,fd,n,tx⟩=0)(hi:1≤i∧i≤999)(h12:s.things.length≤1000)(a:Int)(hta:tgAt s.things q i=a)(ha:a<0)(h:s.things.length=12):FnOk Tryz.prog 32 [eSta s,eEv ⟨1,q,i,fd,n,tx⟩] [] id (.tup [eS0,.int .i64 2]) []:=by
 have hwq:¬((s.types.length:Int)≤(q:Int)):=by have:=(List.getElem?_eq_some_iff.1 hty).1; omega
 have hq:=(List.getElem?_eq_some_iff.1 hty).1
 have hCE:=fun id=>rCheckEvent_ok ⟨1,q,i,fd,n,tx⟩ id
 rw[hf] at hCE
 have hTA:=fun id=>ThingAt_ok s q i id (by omega)
 rw[hta] at hTA
 unfold eSta eEv at *
 refine fn_okc Tryz.func32 hcc32 (by decide) hcr32 (by simp[Tryz.ntmps32]) fun E hP hR hl hid=>?_
 simp only[cr32] at hR
 refine w_go 4000 ?_
 simp[cc32]
 (refine w_call hP rfl (hCE _) (by simp) (by simp<;>rfl) ?_; refine w_go 4000 ?_; simp)
 refine goc_false (by simp; omega) ?_
 simp
 (refine w_callg hP (by simp) rfl (fun hc=>⟨between_ok _ _ _ _,by revert hc; simp; try grind,by simp⟩) ?_; refine w_go 4000 ?_; simp)
 refine goc_false (by simp; omega) ?_
 simp
 (refine w_call hP rfl (hTA _) (by simp[hty,eTy]) (by simp[hty,eTy]<;>rfl) ?_; refine w_go 4000 ?_; simp[hty,eTy])
 (repeat (refine And.intro (by first|assumption|omega|(simp; omega)|(simp_all; done)) ?_))
 unfold eS0 at hR
 refine goc_false (by simp; omega) ?_
 simp
 refine goc_true (by simp; omega) ?_
 simp
 rw[hR]; exact rt_end (by simp<;>rfl) [] trivial (end_pure (by simp) (by simp) (by simp))
end Go.Am
