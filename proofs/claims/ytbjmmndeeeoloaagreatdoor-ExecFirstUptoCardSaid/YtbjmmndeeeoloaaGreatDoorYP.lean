/- The law ExecFirst, the walk. No condition. -/
import Derived.Test.YtbjmmndeeeoloaaGreatDoorYO
import Derived.Test.YtbjmmndeeeoloaaGreatDoorYN
namespace Go.Am
set_option linter.all false
open Go Go.RowKit Go.Proofs
set_option maxRecDepth 100000
set_option linter.all false
def qFR(tn fn:List UInt8)(i n:Int):AV:=.sl [.agg [.str [],.str tn,.sl [.agg [.str [105,100],.bool false,.str [],.int .i64 i]],.sl [.agg [.str [115,111,109,101],.str fn,.sl [.agg [.str [102,105,114,115,116],.bool false,.str [],.int .i64 n]],.sl [.agg [.str [],.str [105,100],.nils,.nils]]],.agg [.str [97,108,108],.str fn,.nils,.sl [.agg [.str [],.str [105,100],.nils,.nils]]]]]]
theorem rtO_F(s:Sta)(tn fn:List UInt8)(i n:Int):rtO s (.mk [] tn [⟨tId,false,[],i⟩] [q1F fn n,q2F fn])=thO s [tSome,tAll] (oL s [q1F fn n,q2F fn]) (kindOf s.types tn) i:=by
 have e1:called (q1F fn n)=tSome:=by unfold called q1F; rfl
 have e2:called (q2F fn)=tAll:=by unfold called q2F; rfl
 simp[rtO,Sel.args,Sel.kids,Sel.name,e1,e2]
theorem sz_qF(tn fn:List UInt8)(i n:Int):szL (qF tn fn i n)=7:=by simp[qF,q1F,q2F,sId,szL,Sel.sz]
theorem qF_w{s:Sta}(hs:RtL s)(hc:fCheckT s.types=0){kd:Nat}{ty:Ty}(hty:s.types[kd]?=some ty){k:Nat}{f:Fd}(hf:ty.fields[k]?=some f)(h4:f.kind=4){i n:Int}(hi:1≤i∧i≤999)(hn:0≤n∧n≤999999999):qW s (qF ty.name f.name i n)≤2000:=by
 obtain⟨t1,t2,t3⟩:=ty_found hc hty
 obtain⟨g1,g2⟩:=fd_found t3 hf
 obtain⟨_,k1,k2⟩:=qF_fits hs hc hty hf h4 hi hn
 have hne:=(hs.r.sch.fnames ty (List.mem_of_getElem? hty) f (List.mem_of_getElem? hf)).2
 have hkk:=kindOf_rg s.types ty.name hs.r.sch.len
 have:thW s (wL s [q1F f.name n,q2F f.name]) (kindOf s.types ty.name) i≤27:=by
  unfold thW
  cases hA:thA s (kindOf s.types ty.name) i with
  | none=>simp
  | some u =>
   obtain⟨u1,u2,u3⟩:=thA_is hs hkk (by unfold I64; omega) hA
   have hu:s.types[u.type.toNat]?=some ty:=by rw[u2,t1]; simpa using hty
   obtain⟨_,_,_,_,_,w1⟩:=qF_at hs u1 hu (List.mem_of_getElem? hf) h4 g2 hne (x:=q1F f.name n) rfl rfl k1
   obtain⟨_,_,_,_,_,w2⟩:=qF_at hs u1 hu (List.mem_of_getElem? hf) h4 g2 hne (x:=q2F f.name) rfl rfl k2
   simp only[wL]
   omega
 simp only[qW,rtWs,qF,List.map_cons,List.map_nil,List.sum_cons,List.sum_nil]
 simp only[rtW,Sel.args,Sel.kids,Sel.name]
 omega
theorem QueryF_ok{s:Sta}(hs:RtL s)(h1:fSt s=0)(hc:fCheckT s.types=0){kd:Nat}{ty:Ty}(hty:s.types[kd]?=some ty){k:Nat}{f:Fd}(hf:ty.fields[k]?=some f)(h4:f.kind=4){i n:Int}(hi:1≤i∧i≤999)(hn:0≤n∧n≤999999999)(id:Nat):
  FnOk Tryz.prog 9 [eSta s,qFR ty.name f.name i n] [] id (.tup [.agg [.int .i64 5,.int .i64 0,.str [],.sl [.str ty.name],.sl [eO (thO s [tSome,tAll] (oL s [q1F f.name n,q2F f.name]) (kd:Int) i)]],.int .i64 0]) []:=by
 obtain⟨t1,t2,t3⟩:=ty_found hc hty
 have hfn:=hs.r.sch.fnames ty (List.mem_of_getElem? hty) f (List.mem_of_getElem? hf)
 have hq:=qF_query (hs.r.sch.names ty (List.mem_of_getElem? hty)) hfn.1 hi hn
 have hff:=(qF_fits hs hc hty hf h4 hi hn).1
 have hv:fValid s.types (qF ty.name f.name i n)=0:=by
  unfold fValid
  rw[if_neg (by simp[hc]),if_neg (by simp[hq])]
  exact hff
 have he:fExec s (qF ty.name f.name i n)=0:=by
  unfold fExec
  rw[if_neg (by simp[h1]),if_neg (by simp[hv]),if_pos (qF_w hs hc hty hf h4 hi hn)]
 have h:=Query_ok s (qF ty.name f.name i n) id (by rw[sz_qF]; omega)
 rw[show execO s (qF ty.name f.name i n)=eO (qO s (qF ty.name f.name i n)) by unfold execO; rw[if_pos he],he] at h
 have e1:called (Sel.mk [] ty.name [⟨tId,false,[],i⟩] [q1F f.name n,q2F f.name])=ty.name:=by simp[called,Sel.alias,Sel.name]
 have e2:eO (qO s (qF ty.name f.name i n)) = .agg [.int .i64 5,.int .i64 0,.str [],.sl [.str ty.name],.sl [eO (thO s [tSome,tAll] (oL s [q1F f.name n,q2F f.name]) (kd:Int) i)]]:=by
  unfold qO oMap
  rw[eO_eq]
  simp only[qF,List.map_cons,List.map_nil,e1,rtO_F,t1]
 rw[e2] at h
 refine FnOk.nrmA ?_
 have e3:nrmL [eSta s,qFR ty.name f.name i n]=[eSta s,.sl ((qF ty.name f.name i n).map eSel)]:=by
  simp only[nrmL,nrmE_eSta]
  rfl
 rw[e3]
 exact h
set_option maxHeartbeats 8000000 in
theorem ExecFirst_ok(s:Sta)(kind i field n:Int)(id:Nat)(hI:IdsE s):FnOk Tryz.prog 3 [eSta s,.int .i64 kind,.int .i64 i,.int .i64 field,.int .i64 n] [] id (.bool true) []:=by
 have hSt:=fun id=>CheckState_ok s id hI
 have hSe:eSta s = .agg [.sl (s.types.map eTy),.sl (s.things.map eTg)]:=rfl
 rw[hSe] at hSt ⊢
 cases hty:s.types[kind.toNat]? with
 | none =>
  have hn:=List.getElem?_eq_none_iff.1 hty
  refine fn_okc Tryz.func3 hcc3 (by decide) hcr3 (by simp[Tryz.ntmps3]) fun E hP hR hl hid=>?_
  simp only[cr3] at hR
  refine w_go 4000 ?_
  simp[cc3]
  (refine w_call hP rfl (execBegun_ok _) (by simp) (by simp<;>rfl) ?_; refine w_go 4000 ?_; simp)
  (refine w_call hP rfl (hSt _) (by simp[hty]) (by simp[hty]<;>rfl) ?_; refine w_go 4000 ?_; simp[hty])
  refine⟨fun _ _ h _=>by omega,?_⟩
  refine goc_true (by
   have:kind<0∨(s.types.length:Int)≤kind:=by omega
   rcases this with h|h<;>simp[h]) ?_
  simp
  rw[hR]; exact rt_end (by simp<;>rfl) [] trivial (end_pure (by simp) (by simp) (by simp))
 | some ty =>
 have hql:=(List.getElem?_eq_some_iff.1 hty).1
 have hTy:eTy ty = .agg [.str ty.name,.sl (ty.fields.map eFd)]:=rfl
 by_cases hk1:¬(fSt s=0∧0≤kind∧0≤field∧field<ty.fields.length∧1≤i∧i≤999∧0≤n∧n≤999999999)
 ·refine fn_okc Tryz.func3 hcc3 (by decide) hcr3 (by simp[Tryz.ntmps3]) fun E hP hR hl hid=>?_
  simp only[cr3] at hR
  refine w_go 4000 ?_
  simp[cc3]
  (refine w_call hP rfl (execBegun_ok _) (by simp) (by simp<;>rfl) ?_; refine w_go 4000 ?_; simp)
  (refine w_call hP rfl (hSt _) (by simp[hty,hTy]) (by simp[hty,hTy]<;>rfl) ?_; refine w_go 4000 ?_; simp[hty,hTy])
  refine⟨fun a b c d=>⟨⟨⟨⟨a,b⟩,c⟩,d⟩,b,by omega⟩,?_⟩
  refine goc_true (by simp; omega) ?_
  simp
  rw[hR]; exact rt_end (by simp<;>rfl) [] trivial (end_pure (by simp) (by simp) (by simp))
 obtain⟨h1,hk0,hfl,hf0,hi1,hi2,hn1,hn2⟩:=Classical.not_not.1 hk1
 obtain⟨q,rfl⟩:∃q:Nat,kind=q:=⟨kind.toNat,by omega⟩
 have hs:=rtL_of h1
 have hl5:=hs.r.sch.len
 rw[h1] at hSt
 simp only[Int.toNat_natCast] at hty hql
 have hf6:=hs.r.sch.fields ty (List.mem_of_getElem? hty)
 obtain⟨k,rfl⟩:∃k:Nat,field=k:=⟨field.toNat,by omega⟩
 have hkl:k<ty.fields.length:=by omega
 obtain⟨f,hf⟩:∃f,ty.fields[k]?=some f:=⟨_,List.getElem?_eq_getElem hkl⟩
 have hFd:eFd f = .agg [.str f.name,.int .i64 f.kind,.str f.of]:=rfl
 refine fn_okc Tryz.func3 hcc3 (by decide) hcr3 (by simp[Tryz.ntmps3]) fun E hP hR hl hid=>?_
 simp only[cr3] at hR
 refine w_go 4000 ?_
 simp[cc3]
 (refine w_call hP rfl (execBegun_ok _) (by simp) (by simp<;>rfl) ?_; refine w_go 4000 ?_; simp)
 (refine w_call hP rfl (hSt _) (by simp[hty,hTy,hf,hFd]) (by simp[hty,hTy,hf,hFd]<;>rfl) ?_; refine w_go 4000 ?_; simp[hty,hTy,hf,hFd])
 refine goc_false (by simp; omega) ?_
 simp[hty,hTy,hf,hFd]
 refine⟨hql,hkl,?_⟩
 refine goc (fun h4=>?_) (fun h4=>?_)
 ·simp
  rw[hR]; exact rt_end (by simp<;>rfl) [] trivial (end_pure (by simp) (by simp) (by simp))
 have h4:f.kind=4:=by simpa using h4
 have hct:fCheckT s.types=0:=by
  unfold fSt at h1
  split at h1
  ·rename_i g; exact (g h1).elim
  ·rename_i g; exact Classical.byContradiction g
 have hQ:=fun id=>QueryF_ok hs h1 hct hty hf h4 (i:=i) (n:=n) ⟨hi1,hi2⟩ ⟨hn1,hn2⟩ id
 obtain⟨X,hX⟩:∃X,X=thO s [tSome,tAll] (oL s [q1F f.name n,q2F f.name]) (q:Int) i:=⟨_,rfl⟩
 rw[←hX,eO_of X,hSe] at hQ
 unfold qFR at hQ
 have hTh:=fun id=>ThingAt_ok s (q:Int) i id (by have:=hs.r.len; omega)
 rw[hSe] at hTh
 simp[hty,hTy,hf,hFd]
 refine⟨hql,?_⟩
 (refine w_callR hP rfl (hQ _) (by simp<;>rfl) (by simp) (by simp<;>rfl) (by simp) ?_; refine w_go 4000 ?_; simp)
 (refine w_call hP rfl (hTh _) (by simp) (by simp<;>rfl) ?_; refine w_go 4000 ?_; simp)
 obtain⟨t1,t2,t3⟩:=ty_found hct hty
 obtain⟨g1,g2⟩:=fd_found t3 hf
 have hne:=(hs.r.sch.fnames ty (List.mem_of_getElem? hty) f (List.mem_of_getElem? hf)).2
 have hkk : -1≤(q:Int)∧(q:Int)≤5:=by omega
 have hi64:I64 i:=by unfold I64; omega
 refine goc (fun g=>?_) (fun g=>?_)
 ·have g:tgAt s.things q i<0:=of_decide_eq_true g
  have hA:thA s q i=none:=by
   cases hA:thA s q i with
   | none=>rfl
   | some u =>
    obtain⟨u1,u2,u3⟩:=thA_is hs hkk hi64 hA
    obtain⟨_,z,z1,_⟩:=thA_some hs hkk hi64 u1 u2 u3
    omega
  have hXk:X.kind=1:=by rw[hX]; unfold thO; rw[hA]; rfl
  simp[hXk]
  rw[hR]; exact rt_end (by simp<;>rfl) [] trivial (end_pure (by simp) (by simp) (by simp))
 have g:¬tgAt s.things q i<0:=of_decide_eq_false g
 cases hA:thA s q i with
 | none =>
  exfalso
  have hno:=thA_none hs hkk hi64 hA
  unfold tgAt at g
  rcases findJ_spec (isTg (q:Int) i) s.things 0 with⟨_,r2⟩|⟨z,t,r1,_,r3⟩
  ·omega
  ·have ho:=List.find?_some r3
   simp[isTg] at ho
   exact hno t (List.mem_of_getElem? r1) ho
 | some u =>
 obtain⟨u1,u2,u3⟩:=thA_is hs hkk hi64 hA
 have hu:s.types[u.type.toNat]?=some ty:=by rw[u2]; simpa using hty
 obtain⟨_,k1,k2⟩:=qF_fits hs hct hty hf h4 ⟨hi1,hi2⟩ ⟨hn1,hn2⟩
 obtain⟨c,c1,_,c3,c4,_⟩:=qF_at hs u1 hu (List.mem_of_getElem? hf) h4 g2 hne (x:=q1F f.name n) rfl rfl k1
 obtain⟨c',_,_,c3',c4',_⟩:=qF_at hs u1 hu (List.mem_of_getElem? hf) h4 g2 hne (x:=q2F f.name) rfl rfl k2
 rw[c3] at c3'
 injection c3' with c3'
 injection c3' with _ c3'
 subst c3'
 obtain⟨L,hL⟩:∃L,L=c.ids.map (thO s [tId] (oL s [sId]) (kindOf s.types f.of)):=⟨_,rfl⟩
 have hL6:L.length≤6:=by rw[hL]; simpa using c1
 have hLz:∀e∈L,e.sz≤100:=fun e he=>by
  rw[hL] at he
  obtain⟨y,_,rfl⟩:=List.mem_map.1 he
  have h1:=sz_thO (s:=s) (kids:=[sId]) (sz_oL s [sId]) (kindOf s.types f.of) y
  have h2:=thW_id s (kindOf s.types f.of) y
  have h3:[sId].map called=[tId]:=by decide
  rw[h3] at h1
  omega
 have hm:(takeA (q1F f.name n).args c.ids).map (thO s [tId] (oL s [sId]) (kindOf s.types f.of))=L.take n.toNat:=by
  rw[hL,←List.map_take]; rfl
 have hm2:(takeA (q2F f.name).args c.ids).map (thO s [tId] (oL s [sId]) (kindOf s.types f.of))=L:=by rw[hL]; rfl
 rw[hm] at c4
 rw[hm2] at c4'
 have hXk:X.kids=[oList (L.take n.toNat),oList L]:=by
  rw[hX]; unfold thO; rw[hA]
  simp only[oMap,Out.kids,oL,c4,c4']
 have o1:eO (oList (L.take n.toNat)) = .agg [.int .i64 4,.int .i64 0,.str [],.sl [],.sl ((L.take n.toNat).map eO)]:=by unfold oList; rw[eO_eq]; rfl
 have o2:eO (oList L) = .agg [.int .i64 4,.int .i64 0,.str [],.sl [],.sl (L.map eO)]:=by unfold oList; rw[eO_eq]; rfl
 have hmn:(n<(L.length:Int)→((min n.toNat L.length:Nat):Int)=n)∧((L.length:Int)≤n→((min n.toNat L.length:Nat):Int)=L.length):=⟨fun z=>by omega,fun z=>by omega⟩
 simp[hXk,o1,o2]
 refine⟨fun z=>⟨z,fun y=>⟨z,y⟩⟩,fun z=>by
  by_cases y:n<(L.length:Int)
  ·exact .inr (z y)
  ·exact .inl (by omega),?_⟩
 refine goc_false (by
  by_cases y:n<(L.length:Int)
  ·have:=hmn.1 y
   have y2:¬(L.length:Int)≤n:=by omega
   simp[this,y,y2]
  ·have:=hmn.2 (by omega)
   simp[this,y]) ?_
 simp
 refine w_loop (X:=Nat) (fun j=>⟨[(16,true,.ptr E.n0 0 0),(17,true,.int .i64 j)],[(E.n0,some ⟨[.agg [.int .i64 X.kind,.int .i64 X.n,.str X.text,.sl (X.keys.map .str),.sl [.agg [.int .i64 4,.int .i64 0,.str [],.sl [],.sl ((L.take n.toNat).map eO)],.agg [.int .i64 4,.int .i64 0,.str [],.sl [],.sl (L.map eO)]]]],.agg [.int .i64 0,.int .i64 0,.str [],.nils,.nils],false,false⟩)],1⟩)
  (fun j=>j≤(L.take n.toNat).length) (fun j=>(L.take n.toNat).length - j) 0 ?_ (by omega) ?_
 ·have hrn:rnOk [(E.n0,E.n0+113664)]:=by simp
  refine Conv.sub [(E.n0,E.n0+113664)] hrn ?_ ?_ ?_ ?_ ?_<;>(try simp)
  exact namesL_pure _ (by simp[pureL_tk (pure_outs L) n.toNat,pure_outs])
 rintro j hj p hp
 refine w_go 4000 ?_
 simp
 refine goc (fun h=>?_) (fun h=>?_)
 ·have h:j<min n.toNat L.length:=by simp at h; omega
  obtain⟨e,he⟩:∃e,L[j]?=some e:=⟨_,List.getElem?_eq_getElem (by omega)⟩
  have he2:(L.take n.toNat)[j]?=some e:=by rw[List.getElem?_take_of_lt (by omega)]; exact he
  have hj1:IntKind.i64.wrap ((j:Int)+1)=((j+1:Nat):Int):=wrap64 (by omega)
  have hez:=hLz e (List.mem_of_getElem? he)
  have hS:=fun id=>Same_ok (e.sz+1) e e id (by omega) (by omega)
  rw[decide_eq_true rfl,eO_of e] at hS
  have hjn:j<n.toNat:=by omega
  have hjL:j<L.length:=by omega
  simp[he,hjn,eO_of e]
  refine⟨h,hjL,?_⟩
  (refine w_call hP rfl (hS _) (by simp) (by simp<;>rfl) ?_; refine w_go 4000 ?_; simp)
  refine hp _ (j+1) (by simp; omega) (by simp; omega) ?_
  have hrn:rnOk [(E.n0,E.n0)]:=by simp[hj1]
  refine Conv.sub [(E.n0,E.n0)] hrn ?_ ?_ ?_ ?_ ?_<;>(try simp[hj1])
  exact namesL_pure _ (by simp[pureL_tk (pure_outs L) n.toNat,pure_outs])
 ·simp
  rw[hR]; exact rt_end (by simp<;>rfl) [] trivial (end_pure (by simp) (by simp) (by simp))
end Go.Am
