/- Parts of the proof: an abstract machine for Go functions, and what functions of the program give back (Ex7, Ex8, Ex9, Ex10). No condition. -/
import Derived.Test.YtbjmmndeeeoloaaDoorYA
namespace Go.Am
set_option linter.all false
open Go Go.RowKit Go.Proofs
set_option maxRecDepth 100000
set_option linter.all false
structure RtS(s:Sta):Prop where
 sch:SchOk s.types
 len:s.things.length≤12
 tg:∀t∈s.things,TgOk s t
theorem rtS_of{s:Sta}(h:fSt s=0):RtS s:=by
 unfold fSt at h
 split at h
 ·exact (by assumption:fCheckT s.types≠0) h |>.elim
 rename_i h1
 split at h
 ·omega
 rename_i h2
 split at h
 ·exact (by assumption:firstIx _ _ _≠0) h |>.elim
 rename_i h3
 refine⟨schOk (Classical.byContradiction h1),by omega,fun t ht=>?_⟩
 obtain⟨i,hi⟩:=List.mem_iff_getElem?.1 ht
 have h0:=firstIx_zero _ _ _ (Classical.byContradiction h3) i t hi
 unfold fTh1 at h0
 refine tgOk (Classical.byContradiction fun hn=>?_)
 rw[if_pos hn] at h0
 exact hn h0
theorem thA_mem{s:Sta}{kd id:Int}{u:Tg}(hs:RtS s)(hk : -1≤kd∧kd≤5)(h:thA s kd id=some u):u∈s.things∧u.type=kd:=by
 unfold thA at h
 split at h
 ·rename_i hb
  have hm:=List.mem_of_getElem? h
  refine⟨hm,?_⟩
  unfold fFindB at hb
  simp only[Bool.and_eq_true,decide_eq_true_eq] at hb
  have h2:=hb.2
  have ht:=hs.tg u hm
  have a1:=ht.ty0
  have a2:=ht.ty1
  have a3:=hs.sch.len
  unfold fOrdAt at h2
  rw[h] at h2
  simp only[ordI] at h2
  split at h2
  ·rw[wrap64 (by omega)] at h2; omega
  ·omega
 ·cases h
theorem kindOf_rg(l:List Ty)(n:List UInt8)(h:l.length≤5): -1≤kindOf l n∧kindOf l n≤5:=by
 unfold kindOf
 rcases findJ_spec (fun t=>t.name==n) l 0 with⟨q1,q2⟩|⟨j,t',q1,q2,q3⟩
 ·omega
 ·have:=(List.getElem?_eq_some_iff.1 q1).1; omega
theorem fKids_mem{l:List Ty}{t:Ty}:∀{q:List Sel},fKids l t q=0→∀x∈q,fKid l t x=0
 | [],_,x,hx=>by cases hx
 | a::r,h,x,hx=>by
  simp only[fKids] at h
  split at h
  ·rename_i h0; exact (h0 h).elim
  ·rename_i h0
   rcases List.mem_cons.1 hx with rfl|hx
   ·exact Classical.byContradiction h0
   ·exact fKids_mem h x hx
theorem argsV_head{name:List UInt8}{may:Bool}{a b:Int}{x:Ag}{r:List Ag}(h:fArgsV (x::r) name may a b=0):a≤x.n∧x.n≤b:=by
 unfold fArgsV firstE at h
 split at h
 ·rename_i h0; exact (h0 h).elim
 ·rename_i h0
  have h0:=Classical.byContradiction h0
  unfold fArgV at h0
  repeat' split at h0
  all_goals first|(exfalso; omega)|omega
theorem xField_ok{s:Sta}(hs:RtS s):∀(n:Nat) (x:Sel) (u:Tg) (ty:Ty) (J m id:Nat),x.sz<n→x.sz≤1000000→TgOk s u→s.types[u.type.toNat]?=some ty→fKid s.types ty x=0→m≤2000 →
  FnE Tryd.prog 108 [.ptr J 0 0,eTg u,eSel x] [(J,bR s m)] id (rnR s J m (wS s x u) (eO (oS s x u)))
 | 0,x,u,ty,J,m,id,hn,_,_,_,_,_=>by omega
 | n+1,x,u,ty,J,m,id,hn,h8,hu,hty,hk,hm=>by
  by_cases hid:x.name=tId
  ·exact field_id id hm hid
  rw[fKid_eq] at hk
  unfold fieldAt at hk
  rw[if_neg hid] at hk
  have hsz:=sz_eq x
  have hkl:=szL_len x.kids
  have hl5:=hs.sch.len
  have hf6:=hs.sch.fields ty (List.mem_of_getElem? hty)
  have hfl:fldsAt s.types u.type=ty.fields:=by unfold fldsAt; rw[hty]; rfl
  rcases findJ_spec (fun g=>g.name==x.name) ty.fields 0 with⟨r1,r2⟩|⟨k,f,r1,r2,r3⟩
  ·rw[r1] at hk; simp at hk
  rw[r3] at hk
  simp only at hk
  rw[Nat.zero_add] at r2
  have hkd:=hs.sch.kinds ty (List.mem_of_getElem? hty) f (List.mem_of_getElem? r1)
  have hlen:=hu.len
  rw[hfl] at hlen
  have hk6:=(List.getElem?_eq_some_iff.1 r1).1
  obtain⟨c,hc⟩:∃c,u.cells[k]?=some c:=⟨_,List.getElem?_eq_getElem (by omega)⟩
  obtain⟨f',hf',hcl⟩:=hu.cellOk hc
  rw[hfl,r1] at hf'
  obtain rfl:f=f':=by simpa using hf'
  split at hk
  ·rename_i h0; exact (h0 hk).elim
  rename_i hA
  have hA:=Classical.byContradiction hA
  split at hk
  ·simp at hk
  have hi6:=hcl.i1
  refine field_fc id hm hid (q:=u.type.toNat) (by have:=hu.ty0; omega) hty (by omega) (by omega) r2 r1 hc hkd (by omega) (fun a r e=>argsV_head (by rw[e] at hA; exact hA)) fun y hy m id hm=>?_
  have hk34:f.kind=3∨f.kind=4:=by
   refine Classical.byContradiction fun hn=>?_
   have:c.ids=[]:=hcl.i0 (by unfold isLink; simp; omega)
   rw[this] at hy; cases hy
  rw[if_neg (by simp; omega)] at hk
  refine thing_of id hm (by have:=hs.len; omega) (by omega) fun v hv z hz m id hm=>?_
  obtain⟨hv1,hv2⟩:=thA_mem hs (kindOf_rg _ _ hl5) hv
  have hz1:=szL_mem hz
  have hv4:=hs.tg v hv1
  have htyp:∃ty',s.types[v.type.toNat]?=some ty'∧typeAt s.types f.of=some ty':=by
   rcases findJ_spec (fun t=>t.name==f.of) s.types 0 with⟨q1,q2⟩|⟨j,t',q1,q2,q3⟩
   ·have:=hv4.ty0
    rw[hv2] at this
    unfold kindOf at this
    omega
   ·refine⟨t',?_,q3⟩
    rw[hv2]
    unfold kindOf
    rw[q2]
    simpa using q1
  obtain⟨ty',ht1,ht2⟩:=htyp
  rw[ht2] at hk
  exact xField_ok hs n z v ty' J m id (by omega) (by omega) hv4 ht1 (fKids_mem hk z hz) hm
end Go.Am
namespace Go.Am
set_option linter.all false
open Go Go.RowKit Go.Proofs
set_option maxRecDepth 100000
set_option linter.all false
def idsOf(s:Sta)(kd:Int)(l:List Tg):List Int:=(l.filter fun t=>t.type==kd).map Tg.id
def rtW(s:Sta)(x:Sel):Nat:=match x.args with
 | []=>1+((idsOf s (kindOf s.types x.name) s.things).map (thW s (wL s x.kids) (kindOf s.types x.name))).sum
 | a::_=>thW s (wL s x.kids) (kindOf s.types x.name) a.n
def rtO(s:Sta)(x:Sel):Out:=match x.args with
 | []=>oList ((idsOf s (kindOf s.types x.name) s.things).map (thO s (x.kids.map called) (oL s x.kids) (kindOf s.types x.name)))
 | a::_=>thO s (x.kids.map called) (oL s x.kids) (kindOf s.types x.name) a.n
theorem idsOf_len(s:Sta)(kd:Int)(l:List Tg):(idsOf s kd l).length≤l.length:=by
 unfold idsOf; rw[List.length_map]; exact List.length_filter_le ..
theorem tg_eq(t:Tg):eTg t = .agg [.int .i64 t.type,.int .i64 t.id,.sl (t.cells.map eCl)]:=rfl
set_option maxHeartbeats 4000000 in
theorem root_of{s:Sta}{x:Sel}{J m:Nat}(id:Nat)(hm:m≤2000)(hl8:s.types.length≤1000)(h12:s.things.length≤1000)
  (hT:∀y m id,m≤2000→FnE Tryd.prog 87 [.ptr J 0 0,.int .i64 (kindOf s.types x.name),.int .i64 y,.sl (x.kids.map eSel)] [(J,bR s m)] id (rnR s J m (thW s (wL s x.kids) (kindOf s.types x.name) y) (eO (thO s (x.kids.map called) (oL s x.kids) (kindOf s.types x.name) y)))) :
  FnE Tryd.prog 59 [.ptr J 0 0,eSel x] [(J,bR s m)] id (rnR s J m (rtW s x) (eO (rtO s x))):=by
 have hFn:=fun id=>Find_ok s.types x.name id (by omega)
 rw[show findJ (fun z:Ty=>z.name==x.name) s.types 0=kindOf s.types x.name from rfl] at hFn
 have hVa:=fun id=>vArg_ok x id
 rw[eSel_eq] at hVa
 obtain⟨ok,on,ot,oks,ols,hoe⟩:∃(a b:Int) (c:List UInt8) (d:List (List UInt8)) (e:List Out),eO (rtO s x) = .agg [.int .i64 a,.int .i64 b,.str c,.sl (d.map .str),.sl (e.map eO)]:=by
  cases rtO s x with|mk a b c d e=>exact⟨a,b,c,d,e,eO_eq a b c d e⟩
 rw[eSel_eq,bR_eq]
 cases hx:x.args with
 | cons a r =>
  have hw:rtW s x=thW s (wL s x.kids) (kindOf s.types x.name) a.n:=by unfold rtW; rw[hx]
  have ho:rtO s x=thO s (x.kids.map called) (oL s x.kids) (kindOf s.types x.name) a.n:=by unfold rtO; rw[hx]
  have hTy:=fun id=>hT a.n m id hm
  rw[←hw,←ho,hoe] at hTy
  rw[hx] at hVa
  rw[hoe]
  refine fn_okE Tryd.func59 hcc59 (by decide) hcr59 (by simp[Tryd.ntmps59]) fun E hP hR hPn hl hid hB hu=>?_
  simp only[cr59] at hR
  refine w_go 4000 ?_
  simp[cc59]
  have hJ:=hl (J,_) (List.mem_cons_self ..)
  simp only at hJ
  have J1:=lf hJ
  simp[J1]
  (refine w_call hP rfl (hFn _) (by simp[J1]) (by simp[J1]<;>rfl) ?_; refine w_go 4000 ?_; simp[J1])
  (refine w_call hP rfl (hVa _) (by simp[J1]) (by simp[J1]<;>rfl) ?_; refine w_go 4000 ?_; simp[J1])
  by_cases h1:m+rtW s x≤2000
  rotate_left
  ·simp only[rnR_no h1] at hTy
   rw[bR_eq] at hTy
   refine w_callE hP rfl (hTy _) (by simp[J1]) (by simp[J1]<;>rfl) (fun pv hpv=>⟨by simp[J1],by injection hpv with hpv; subst hpv; exact hPn _ _ (rnR_no h1) rfl (by simp[J1])⟩) (fun v wr h=>by cases h)
  have hT1:∀id,FnOk Tryd.prog 87 _ _ id _ _:=fun id=>by
   have:=hTy id
   rw[rnR_ok h1] at this; exact this
  rw[bR_eq s m] at hT1
  (refine w_call hP rfl (hT1 _) (by simp[J1]) (by simp[J1]<;>rfl) ?_; refine w_go 4000 ?_; simp[J1])
  have hrn:rnOk []:=by simp[bR,J1,idO hid]
  refine hR _ _ _ (rnR_ok h1) ?_
  refine rt_end (by simp[bR,J1,idO hid]<;>rfl) [] hrn ⟨?_,?_,?_,?_,?_,?_⟩<;>(try simp[bR,J1,idO hid])
 | nil =>
  have hw:rtW s x=1+((idsOf s (kindOf s.types x.name) s.things).map (thW s (wL s x.kids) (kindOf s.types x.name))).sum:=by unfold rtW; rw[hx]
  have ho:rtO s x=oList ((idsOf s (kindOf s.types x.name) s.things).map (thO s (x.kids.map called) (oL s x.kids) (kindOf s.types x.name))):=by unfold rtO; rw[hx]
  have hil:=idsOf_len s (kindOf s.types x.name) s.things
  have hL:=fun id=>list_of (s:=s) (kids:=x.kids) (ids:=idsOf s (kindOf s.types x.name) s.things) (J:=J) (kd:=kindOf s.types x.name) (W:=thW s (wL s x.kids) (kindOf s.types x.name)) (O:=thO s (x.kids.map called) (oL s x.kids) (kindOf s.types x.name)) id hm (by omega) (fun y _=>hT y)
  rw[←hw,←ho,hoe] at hL
  rw[hx] at hVa
  rw[hoe]
  generalize hkd:kindOf s.types x.name=kd at *
  refine fn_okE Tryd.func59 hcc59 (by decide) hcr59 (by simp[Tryd.ntmps59]) fun E hP hR hPn hl hid hB hu=>?_
  simp only[cr59] at hR
  refine w_go 4000 ?_
  simp[cc59]
  have hJ:=hl (J,_) (List.mem_cons_self ..)
  simp only at hJ
  have J1:=lf hJ
  simp[J1]
  (refine w_call hP rfl (hFn _) (by simp[J1]) (by simp[J1]<;>rfl) ?_; refine w_go 4000 ?_; simp[J1])
  (refine w_call hP rfl (hVa _) (by simp[J1]) (by simp[J1]<;>rfl) ?_; refine w_go 4000 ?_; simp[J1])
  refine w_loop (X:=Nat) (fun i=>⟨[(0,true,.ptr J 0 0),(3,true,.ptr E.n0 0 0),(4,true,.ptr (E.n0+1) 0 0),(5,true,.int .i64 kd),(8,true,.bsl (E.n0+2) 0 (idsOf s kd (s.things.take i)).length),(35,true,.sl (s.things.map eTg)),(36,true,.int .i64 s.things.length),(37,true,.int .i64 i)],
   [(J,some (bR s m)),(E.n0,some ⟨[.agg [.str x.alias,.str x.name,.sl [],.sl (x.kids.map eSel)]],.agg [.str x.alias,.str x.name,.sl [],.sl (x.kids.map eSel)],false,false⟩),(E.n0+1,some ⟨[.agg [.int .i64 0,.int .i64 0,.str [],.nils,.nils]],.agg [.int .i64 0,.int .i64 0,.str [],.nils,.nils],false,false⟩),(E.n0+2,some ⟨(idsOf s kd (s.things.take i)).map eI,.int .i64 0,false,false⟩)],3⟩)
   (fun i=>i≤s.things.length) (fun i=>s.things.length - i) 0 ?_ (by omega) ?_
  ·refine Conv.trans (Conv.voidSlot 8 (x:=.nils) (y:=.bsl (E.n0+27648) 0 0) (by simp) .nils (.int .i64 0)) ?_
   have hi0:idsOf s kd []=[]:=rfl
   have hrn:rnOk [(E.n0,E.n0),(E.n0+1,E.n0+1024),(E.n0+2,E.n0+27648)]:=by simp[hi0,bR,J1]
   refine Conv.sub [(E.n0,E.n0),(E.n0+1,E.n0+1024),(E.n0+2,E.n0+27648)] hrn ?_ ?_ ?_ ?_ ?_<;>(try simp[hi0,bR,J1])
  ·rintro i hi p hp
   refine w_go 4000 ?_
   simp
   refine goc (fun h=>?_) (fun h=>?_)
   ·have h:=of_decide_eq_true h
    obtain⟨t,ht⟩:∃t,s.things[i]?=some t:=⟨_,List.getElem?_eq_getElem h⟩
    have hi1:IntKind.i64.wrap ((i:Int)+1)=((i+1:Nat):Int):=wrap64 (by omega)
    have hfl:=idsOf_len s kd (s.things.take i)
    rw[List.length_take] at hfl
    simp[ht,tg_eq t,J1]
    refine⟨h,?_⟩
    refine goc (fun g=>?_) (fun g=>?_)
    ·have g:t.type=kd:=by simpa using g
     have hts:idsOf s kd (s.things.take (i+1))=idsOf s kd (s.things.take i)++[t.id]:=by unfold idsOf; rw[List.take_succ,ht]; simp[g]
     simp[J1]
     refine⟨⟨by omega,by omega⟩,?_⟩
     refine hp _ (i+1) (by omega) (by omega) ?_
     have hrn:rnOk [(E.n0,E.n0),(E.n0+1,E.n0+1),(E.n0+2,E.n0+13315)]:=by simp[hi1,hts,bR,J1]
     refine Conv.sub [(E.n0,E.n0),(E.n0+1,E.n0+1),(E.n0+2,E.n0+13315)] hrn ?_ ?_ ?_ ?_ ?_<;>(try simp[hi1,hts,bR,J1])
     exact renL_pure rfl (pureL_append (pure_ints _) rfl)
    ·have g:¬t.type=kd:=by simpa using g
     have hts:idsOf s kd (s.things.take (i+1))=idsOf s kd (s.things.take i):=by unfold idsOf; rw[List.take_succ,ht]; simp[g]
     simp[J1]
     refine hp _ (i+1) (by omega) (by omega) ?_
     have hrn:rnOk [(E.n0,E.n0),(E.n0+1,E.n0+1),(E.n0+2,E.n0+2)]:=by simp[hi1,hts,bR,J1]
     refine Conv.sub [(E.n0,E.n0),(E.n0+1,E.n0+1),(E.n0+2,E.n0+2)] hrn ?_ ?_ ?_ ?_ ?_<;>(try simp[hi1,hts,bR,J1])
   ·have h:=of_decide_eq_false h
    have hall:s.things.take i=s.things:=List.take_of_length_le (by omega)
    rw[hall]
    simp[J1]
    by_cases h1:m+rtW s x≤2000
    rotate_left
    ·simp only[rnR_no h1] at hL
     refine w_callRE hP rfl (hL _) (by simp[bR,J1]<;>rfl) (by simp[bR,J1]) (by simp[bR,J1]<;>rfl) (by simp[bR,J1]) (fun pv hpv=>⟨by simp[bR,J1],by injection hpv with hpv; subst hpv; exact hPn _ _ (rnR_no h1) rfl (by simp[bR,J1])⟩) (fun v wr h=>by cases h)
    have hL1:∀id,FnOk Tryd.prog 88 _ _ id _ _:=fun id=>by
     have:=hL id
     rw[rnR_ok h1] at this; exact this
    (refine w_callR hP rfl (hL1 _) (by simp[bR,J1]<;>rfl) (by simp[bR,J1]) (by simp[bR,J1]<;>rfl) (by simp[bR,J1]) ?_; refine w_go 4000 ?_; simp[bR,J1])
    have hrn:rnOk []:=by simp[bR,J1,idO hid]
    refine hR _ _ _ (rnR_ok h1) ?_
    refine rt_end (by simp[bR,J1,idO hid]<;>rfl) [] hrn ⟨?_,?_,?_,?_,?_,?_⟩<;>(try simp[bR,J1,idO hid])
end Go.Am
namespace Go.Am
set_option linter.all false
open Go Go.RowKit Go.Proofs
set_option maxRecDepth 100000
set_option linter.all false
def rtWs(s:Sta)(l:List Sel):Nat:=(l.map fun x=>rtW s x).sum
set_option maxHeartbeats 4000000 in
theorem pairsR_ok(s:Sta)(l:List Sel)(J m:Nat)(id:Nat)(hm:m≤2000)(hl8:l.length≤1000000)
  (hdo:∀x∈l,∀m id,m≤2000→FnE Tryd.prog 59 [.ptr J 0 0,eSel x] [(J,bR s m)] id (rnR s J m (rtW s x) (eO (rtO s x)))) :
  FnE Tryd.prog 58 [.ptr J 0 0,.sl (l.map eSel),.fnb 59 [.ptr J 0 0]] [(J,bR s m)] id (rnR s J m (1+rtWs s l) (eO (oMap (l.map called) (l.map (rtO s))))):=by
 have hsum:rtWs s l=(l.map fun x=>rtW s x).sum:=rfl
 refine fn_okE Tryd.func58 hcc58 (by decide) hcr58 (by simp[Tryd.ntmps58]) fun E hP hR hPn hl hid hB hu=>?_
 simp only[cr58] at hR
 refine w_go 4000 ?_
 simp[cc58]
 have hJ:=hl (J,_) (List.mem_cons_self ..)
 simp only at hJ
 have J1:=lf hJ
 by_cases h1:m+1≤2000
 rotate_left
 ·refine w_callE hP rfl (rOut_up 5 0 [] _ hm h1) (by simp[J1]) (by simp[J1]<;>rfl) (fun pv hpv=>⟨by simp[J1],by injection hpv with hpv; subst hpv; exact hPn _ _ (rnR_no (by omega)) rfl (by simp[J1])⟩) (fun v wr h=>by cases h)
 (refine w_call hP rfl (rOut_done 5 0 [] _ h1) (by simp[J1]) (by simp[J1]<;>rfl) ?_; refine w_go 4000 ?_; simp[J1])
 refine w_loop (X:=Nat) (fun i=>⟨[(2,true,.fnb 59 [.ptr J 0 0]),(6,true,.ptr E.n0 0 0),(7,true,.ptr (E.n0+1) 0 0),(13,true,.sl (l.map eSel)),(14,true,.int .i64 l.length),(15,true,.int .i64 i)],
   [(J,some (bR s (m+1+((l.take i).map fun x=>rtW s x).sum))),(E.n0,some ⟨[.agg [.int .i64 0,.int .i64 0,.str [],.nils,.nils]],.agg [.int .i64 0,.int .i64 0,.str [],.nils,.nils],false,false⟩),(E.n0+1,some ⟨[.agg [.int .i64 5,.int .i64 0,.str [],.bsl (E.n0+2) 0 i,.bsl (E.n0+3) 0 i]],.agg [.int .i64 0,.int .i64 0,.str [],.nils,.nils],false,false⟩),(E.n0+2,some ⟨((l.map called).map .str).take i,.str [],false,false⟩),(E.n0+3,some ⟨((l.map (rtO s)).map eO).take i,.agg [.int .i64 0,.int .i64 0,.str [],.nils,.nils],false,false⟩)],4⟩)
  (fun i=>i≤l.length∧m+1+((l.take i).map fun x=>rtW s x).sum≤2000) (fun i=>l.length - i) 0 ?_ ⟨by omega,by simp; omega⟩ ?_
 ·refine Conv.trans (Conv.voidBox (E.n0+4096) (by simp; rfl) rfl (.agg [.int .i64 5,.int .i64 0,.str [],.nils,.nils] [.int .i64 5,.int .i64 0,.str [],.bsl (E.n0+9216) 0 0,.nils] rfl (fun m x y h1 h2=>?_)) (.str [])) (Conv.trans (Conv.voidBox (E.n0+4096) (by simp; rfl) rfl (.agg [.int .i64 5,.int .i64 0,.str [],.bsl (E.n0+9216) 0 0,.nils] [.int .i64 5,.int .i64 0,.str [],.bsl (E.n0+9216) 0 0,.bsl (E.n0+9217) 0 0] rfl (fun m x y h1 h2=>?_)) (.agg [.int .i64 0,.int .i64 0,.str [],.nils,.nils])) ?_)
  ·match m,h1,h2 with
   | 0,h1,h2|1,h1,h2|2,h1,h2|4,h1,h2=>simp at h1 h2; exact .inl (h1.symm.trans h2)
   | 3,h1,h2=>simp at h1 h2; exact .inr ⟨h1.symm,h2.symm⟩
   | m+5,h1,h2=>simp at h1
  ·match m,h1,h2 with
   | 0,h1,h2|1,h1,h2|2,h1,h2|3,h1,h2=>simp at h1 h2; exact .inl (h1.symm.trans h2)
   | 4,h1,h2=>simp at h1 h2; exact .inr ⟨h1.symm,h2.symm⟩
   | m+5,h1,h2=>simp at h1
  ·have hrn:rnOk [(E.n0,E.n0),(E.n0+1,E.n0+4096),(E.n0+2,E.n0+9216),(E.n0+3,E.n0+9217)]:=by simp[bR,J1]
   refine Conv.sub [(E.n0,E.n0),(E.n0+1,E.n0+4096),(E.n0+2,E.n0+9216),(E.n0+3,E.n0+9217)] hrn ?_ ?_ ?_ ?_ ?_<;>(try simp[bR,J1])
 ·rintro i ⟨hi,hm2⟩ p hp
  refine w_go 4000 ?_
  simp
  refine goc (fun h=>?_) (fun h=>?_)
  ·have h:=of_decide_eq_true h
   obtain⟨x,hx,hd⟩:=drop_cons h
   have hi1:IntKind.i64.wrap ((i:Int)+1)=((i+1:Nat):Int):=wrap64 (by omega)
   have hxm:=List.mem_of_getElem? hx
   have hst:=sum_take_succ (fun x=>rtW s x) hx
   have hCa:=Called_ok x
   rw[eSel_eq] at hCa
   have hdx:=hdo x hxm
   have hk1:((l.map called).map AV.str).take (i+1)=((l.map called).map AV.str).take i++[.str (called x)]:=take_snoc (by simp[hx])
   have ho1:((l.map (rtO s)).map eO).take (i+1)=((l.map (rtO s)).map eO).take i++[eO (rtO s x)]:=take_snoc (by simp[hx])
   have hlo:(l.map (rtO s)).length=l.length:=by simp
   obtain⟨ok,on,ot,oks,ols,hoe⟩:∃(a b:Int) (c:List UInt8) (d:List (List UInt8)) (e:List Out),eO (rtO s x) = .agg [.int .i64 a,.int .i64 b,.str c,.sl (d.map .str),.sl (e.map eO)]:=by
    cases rtO s x with|mk a b c d e=>exact⟨a,b,c,d,e,eO_eq a b c d e⟩
   rw[hoe,eSel_eq] at hdx
   rw[hoe] at ho1
   simp only[List.map_map] at *
   simp[hx,eSel_eq x,J1]
   refine⟨h,?_⟩
   (refine w_call hP rfl (hCa _) (by simp[J1]) (by simp[J1]<;>rfl) ?_; refine w_go 4000 ?_; simp[J1])
   refine⟨⟨by omega,by omega,by omega⟩,?_⟩
   have hsl:=sum_at_le (l:=l) (i:=i+1) (fun x=>rtW s x)
   by_cases h2:m+1+((l.take i).map fun x=>rtW s x).sum+rtW s x≤2000
   ·have hd2:∀id,FnOk Tryd.prog 59 _ _ id _ _:=fun id=>by
     have:=hdx (m+1+((l.take i).map fun x=>rtW s x).sum) id hm2
     rw[rnR_ok h2] at this; exact this
    simp only[List.map_take] at *
    refine w_callb hP rfl rfl (hd2 _) (by simp) (by simp[J1]<;>rfl) ?_
    refine w_go 4000 ?_
    simp[J1]
    refine⟨⟨by omega,by omega,by omega⟩,?_⟩
    have hst2:(List.take (i+1) (List.map (fun x=>rtW s x) l)).sum=(List.take i (List.map (fun x=>rtW s x) l)).sum+rtW s x:=by simpa only[List.map_take] using hst
    refine hp _ (i+1) ⟨h,by omega⟩ (by omega) ?_
    have hrn:rnOk [(E.n0,E.n0),(E.n0+1,E.n0+1),(E.n0+2,E.n0+10244),(E.n0+3,E.n0+19460)]:=by simp[hi1,bR,hst2,hk1,ho1,J1]
    refine Conv.sub [(E.n0,E.n0),(E.n0+1,E.n0+1),(E.n0+2,E.n0+10244),(E.n0+3,E.n0+19460)] hrn ?_ ?_ ?_ ?_ ?_<;>(try simp[hi1,bR,hst2,hk1,ho1,J1])
    refine⟨by omega,renL_pure rfl (pureL_append (by rw[←List.map_take]; exact pureL_map (fun _=>rfl) _) rfl),renL_pure rfl (pureL_append (by rw[←List.map_take]; exact pureL_map (fun _=>pure_eO _) _) (by simp[pure_strs,pure_outs]))⟩
   ·have hd2:∀id,FnE Tryd.prog 59 _ _ id _:=fun id=>by
     have:=hdx (m+1+((l.take i).map fun x=>rtW s x).sum) id hm2
     rw[rnR_no h2] at this; exact this
    simp only[List.map_take] at *
    refine w_callbE hP rfl rfl (hd2 _) (by simp) (by simp[J1]<;>rfl) (fun pv hpv=>⟨by simp[J1],by injection hpv with hpv; subst hpv; exact hPn _ _ (rnR_no (by omega)) rfl (by simp[J1])⟩) (fun v wr h=>by cases h)
  ·have h:¬i<l.length:=of_decide_eq_false h
   have hil:i=l.length:=by omega
   subst hil
   simp[J1]
   have hlo:(l.map (rtO s)).length=l.length:=by simp
   have hsa:(List.take l.length (List.map (fun x=>rtW s x) l)).sum=rtWs s l:=by rw[hsum,List.take_of_length_le (by simp)]
   have hka:List.take l.length (List.map (AV.str∘called) l)=List.map (AV.str∘called) l:=List.take_of_length_le (by simp)
   have hoa:List.take l.length (List.map (eO∘rtO s) l)=List.map (eO∘rtO s) l:=List.take_of_length_le (by simp)
   simp only[List.map_take] at hm2
   rw[hsa] at hm2
   unfold oMap at hR
   rw[eO_eq,List.map_map,List.map_map] at hR
   have hrn:rnOk []:=by simp[bR,hsa,hka,hoa,hlo,J1,idO hid]
   refine hR _ _ _ (rnR_ok (by omega)) ?_
   refine rt_endR (by simp[bR,hsa,hka,hoa,hlo,J1,idO hid]<;>rfl) (by simp[bR,hsa,hka,hoa,hlo,J1,idO hid]<;>exact⟨rfl,rfl⟩) [] hrn ⟨?_,?_,?_,?_,?_,?_⟩<;>(try simp[bR,hsa,hka,hoa,hlo,J1,idO hid])
   ·exact namesL_pure _ (pureL_map (fun _=>pure_eO _) _)
   ·omega
end Go.Am
namespace Go.Am
set_option linter.all false
open Go Go.RowKit Go.Proofs
set_option maxRecDepth 100000
set_option linter.all false
def qO(s:Sta)(q:List Sel):Out:=oMap (q.map called) (q.map (rtO s))
def qW(s:Sta)(q:List Sel):Nat:=1+rtWs s q
theorem fRoot_kids{l:List Ty}{x:Sel}(h:fRoot l x=0):∃t,typeAt l x.name=some t∧fKids l t x.kids=0∧∀a r,x.args=a::r→1≤a.n∧a.n≤999:=by
 unfold fRoot at h
 split at h
 ·cases h
 rename_i t ht
 split at h
 ·rename_i h0; exact (h0 h).elim
 rename_i h0
 have h0:=Classical.byContradiction h0
 split at h
 ·cases h
 exact⟨t,ht,h,fun a r e=>argsV_head (by rw[e] at h0; exact h0)⟩
theorem runQ_ok{s:Sta}(hs:RtS s)(q:List Sel)(hf:fFits s.types q=0)(hq8:szL q≤1000000)(J m:Nat)(id:Nat)(hm:m≤2000):
  FnE Tryd.prog 58 [.ptr J 0 0,.sl (q.map eSel),.fnb 59 [.ptr J 0 0]] [(J,bR s m)] id (rnR s J m (qW s q) (eO (qO s q))):=by
 have hl5:=hs.sch.len
 have hlen:=szL_len q
 refine pairsR_ok s q J m id hm (by omega) fun x hx m id hm=>root_of id hm (by omega) (by have:=hs.len; omega) fun y m id hm=>?_
 obtain⟨t,h1,h2,h3⟩:=fRoot_kids (firstE_zero.1 hf x hx)
 have hsx:=szL_mem hx
 have hsz:=sz_eq x
 have hkl:=szL_len x.kids
 refine thing_of id hm (by have:=hs.len; omega) (by omega) fun u hu z hz m id hm=>?_
 obtain⟨u1,u2⟩:=thA_mem hs (kindOf_rg _ _ hl5) hu
 have hu4:=hs.tg u u1
 have hz1:=szL_mem hz
 have hty:s.types[u.type.toNat]?=some t:=by
  rcases findJ_spec (fun t=>t.name==x.name) s.types 0 with⟨q1,q2⟩|⟨j,t',q1,q2,q3⟩
  ·have:=hu4.ty0
   rw[u2] at this
   unfold kindOf at this
   omega
  ·rw[u2]
   unfold kindOf
   rw[q2]
   unfold typeAt at h1
   rw[h1] at q3
   obtain rfl:t=t':=by simpa using q3
   simpa using q1
 exact xField_ok hs _ z u t J m id (Nat.lt_succ_self _) (by omega) hu4 hty (fKids_mem h2 z hz) hm
end Go.Am
