/- Parts of the proof: an abstract machine for Go functions, and what functions of the program give back (Ex25, Ex26). No condition. -/
import Derived.Test.YtbjmmndeeeoloaaGreatDoorYF
import Derived.Test.YtbjmmndeeeoloaaGreatDoorYB
namespace Go.Am
set_option linter.all false
open Go Go.RowKit Go.Proofs
set_option maxRecDepth 100000
set_option linter.all false
def okT(kd:Int)(args:List Ag)(t:Tg):Bool:=t.type==kd&&match args with
 | []=>true
 | a::_=>t.id==a.n
def dArg(args:List Ag):Nat:=if args=[] then 0 else 1
def exT(kd:Int)(args:List Ag)(g:Tg→Nat)(r:Option Nat)(t:Tg):Option Nat:=match r with
 | none=>none
 | some n=>if okT kd args t=true then (if 2000<n+g t - dArg args then none else some (n+g t - dArg args)) else some n
def exS(s:Sta)(x:Sel)(n:Nat):Option Nat:=s.things.foldl (exT (kindOf s.types x.name) x.args (wrL s x.kids 1)) (some (n+1))
def exL(s:Sta):List Sel→Nat→Option Nat
 | [],n=>some n
 | x::r,n=>match exS s x n with
  | none=>none
  | some m=>exL s r m
def CapO(T:Nat)(r:Option Nat):Prop:=(T≤2000→r=some T)∧(2000<T→r=none∨∃n,r=some n∧2000<n)
theorem wrL_cap{s:Sta}(hs:RtL s)(hI:IdsE s){u:Tg}{ty:Ty}(hu:u∈s.things)(hty:s.types[u.type.toNat]?=some ty):∀(l:List Sel) (n T:Nat),(∀z∈l,fKid s.types ty z=0)→Cap T n→Cap (T+wL s l u) (wrL s l n u)
 | [],n,T,_,h=>by simpa [wL,wrL] using h
 | a::r,n,T,hf,h=>by
  simp only[wL,wrL]
  rw[←Nat.add_assoc]
  exact wrL_cap hs hI hu hty r _ _ (fun z hz=>hf z (List.mem_cons_of_mem _ hz)) (wr_cap hs hI (a.sz+1) a u ty n T (Nat.lt_succ_self _) hu hty (hf a (List.mem_cons_self ..)) h)
theorem exT_none{kd:Int}{args:List Ag}{g:Tg→Nat}:∀(l:List Tg),l.foldl (exT kd args g) none=none
 | []=>rfl
 | t::r=>by simp only[List.foldl_cons,exT]; exact exT_none r
theorem exT_skip{kd:Int}{args:List Ag}{g:Tg→Nat}:∀(l:List Tg) (r:Option Nat),(∀t∈l,okT kd args t=false)→l.foldl (exT kd args g) r=r
 | [],r,_=>rfl
 | t::l,r,h=>by
  have h1:=h t (List.mem_cons_self ..)
  have e:exT kd args g r t=r:=by
   unfold exT
   cases r with
   | none=>rfl
   | some n=>simp[h1]
  rw[List.foldl_cons,e]
  exact exT_skip l r fun t ht=>h t (List.mem_cons_of_mem _ ht)
theorem capO_one{kd:Int}{args:List Ag}{g:Tg→Nat}{t:Tg}{T W:Nat}{r:Option Nat}(hT1:1≤T)(h:CapO T r)(ho:okT kd args t=true)(hW:1≤W)(hc:Cap W (g t)):CapO (T+W - dArg args) (exT kd args g r t):=by
 have hd:dArg args≤1:=by unfold dArg; split<;>omega
 unfold exT
 cases r with
 | none =>
  have:2000<T:=Nat.lt_of_not_le fun hn=>by cases h.1 hn
  exact⟨fun hn=>by omega,fun _=>.inl rfl⟩
 | some n =>
  simp only[ho,if_true]
  unfold Cap at hc
  by_cases hT:T≤2000
  ·have e:=h.1 hT
   injection e with e
   subst e
   by_cases hw:W≤2000
   ·rw[hc.1 hw]
    split
    ·exact⟨fun hn=>by omega,fun _=>.inl rfl⟩
    ·exact⟨fun _=>rfl,fun hn=>by omega⟩
   ·have:=hc.2 (by omega)
    rw[if_pos (by omega)]
    exact⟨fun hn=>by omega,fun _=>.inl rfl⟩
  ·rcases h.2 (by omega) with e|⟨m,e,hm⟩
   ·cases e
   ·injection e with e
    subst e
    have hg:1≤g t:=by
     by_cases hw:W≤2000
     ·have:=hc.1 hw; omega
     ·have:=hc.2 (by omega); omega
    rw[if_pos (by omega)]
    exact⟨fun hn=>by omega,fun _=>.inl rfl⟩
theorem capO_all{s:Sta}{kd:Int}{g:Tg→Nat}{W:Tg→Nat}:∀(l:List Tg) (T:Nat) (r:Option Nat),1≤T→CapO T r→(∀t∈l,t.type=kd→Cap (1+W t) (g t)∧thA s kd t.id=some t)→CapO (T+((idsOf s kd l).map (thW s W kd)).sum) (l.foldl (exT kd [] g) r)
 | [],T,r,_,h,_=>by simpa [idsOf] using h
 | t::l,T,r,hT1,h,hc=>by
  rw[List.foldl_cons]
  by_cases ht:t.type=kd
  ·have ho:okT kd [] t=true:=by simp[okT,ht]
   obtain⟨h1,h2⟩:=hc t (List.mem_cons_self ..) ht
   have hi:idsOf s kd (t::l)=t.id::idsOf s kd l:=by simp[idsOf,ht]
   have h3:=capO_one hT1 h ho (by omega) h1
   rw[hi]
   simp only[List.map_cons,List.sum_cons]
   have h4:thW s W kd t.id=1+W t:=by unfold thW; rw[h2]
   rw[h4,←Nat.add_assoc]
   exact capO_all l _ _ (by omega) (by simpa [dArg] using h3) fun t ht=>hc t (List.mem_cons_of_mem _ ht)
  ·have hi:idsOf s kd (t::l)=idsOf s kd l:=by simp[idsOf,ht]
   have e:exT kd [] g r t=r:=by
    have:=exT_skip (kd:=kd) (args:=[]) (g:=g) [t] r (fun z hz=>by simp at hz; subst hz; simp[okT,ht])
    simpa using this
   rw[hi,e]
   exact capO_all l _ _ hT1 h fun t ht=>hc t (List.mem_cons_of_mem _ ht)
theorem thA_none{s:Sta}(hs:RtL s){kd x:Int}(hk : -1≤kd∧kd≤5)(hx:I64 x)(h:thA s kd x=none):∀t∈s.things,¬(t.type=kd∧t.id=x):=fun t ht ⟨h1,h2⟩=>by
 rw[(thA_some hs hk hx ht h1 h2).1] at h; cases h
theorem thA_is{s:Sta}(hs:RtL s){kd x:Int}(hk : -1≤kd∧kd≤5)(hx:I64 x){u:Tg}(h:thA s kd x=some u):u∈s.things∧u.type=kd∧u.id=x:=by
 unfold thA at h
 split at h
 ·rename_i hb
  rw[hs.srt.findB (by omega) hx,List.any_eq_true] at hb
  obtain⟨v,hv,hi⟩:=hb
  simp[isTg] at hi
  have:=(thA_some hs hk hx hv hi.1 hi.2).1
  unfold thA at this
  rw[if_pos (by rw[hs.srt.findB (by omega) hx,List.any_eq_true]; exact⟨v,hv,by simp[isTg,hi]⟩),h] at this
  injection this with this
  subst this
  exact⟨hv,hi.1,hi.2⟩
 ·cases h
theorem capO_arg{s:Sta}(hs:RtL s){kd:Int}{a:Ag}{ar:List Ag}{g:Tg→Nat}{W:Tg→Nat}(hk : -1≤kd∧kd≤5)(hx:I64 a.n)(T:Nat)(n:Nat)(h:CapO (T+1) (some (n+1)))(hc:∀t∈s.things,t.type=kd→Cap (1+W t) (g t)):
  CapO (T+thW s W kd a.n) (s.things.foldl (exT kd (a::ar) g) (some (n+1))):=by
 unfold thW
 cases hA:thA s kd a.n with
 | none =>
  rw[exT_skip _ _ fun t ht=>by
   have:=thA_none hs hk hx hA t ht
   simp only[okT,Bool.and_eq_false_iff,beq_eq_false_iff_ne]
   by_cases h1:t.type=kd
   ·exact .inr fun h2=>this ⟨h1,h2⟩
   ·exact .inl h1]
  exact h
 | some u =>
  obtain⟨u1,u2,u3⟩:=thA_is hs hk hx hA
  obtain⟨p,q,hpq⟩:=List.append_of_mem u1
  have hno:∀t∈s.things,okT kd (a::ar) t=true→t=u:=fun t ht ho=>by
   simp[okT] at ho
   exact srt_one hs.srt ht u1 (by omega) (by omega)
  have hnd:u∉p∧u∉q:=by
   have key:∀(i j:Nat),s.things[i]?=some u→s.things[j]?=some u→i=j:=fun i j hi hj=>by
    rcases Nat.lt_trichotomy i j with z|z|z
    ·have:=hs.srt.asc i j u u z hi hj; simp[aheadB] at this
    ·exact z
    ·have:=hs.srt.asc j i u u z hj hi; simp[aheadB] at this
   have hm:s.things[p.length]?=some u:=by rw[hpq]; simp
   refine⟨fun hp=>?_,fun hq=>?_⟩
   ·obtain⟨i,hi⟩:=List.mem_iff_getElem?.1 hp
    have hl:=(List.getElem?_eq_some_iff.1 hi).1
    have:=key i p.length (by rw[hpq,List.getElem?_append_left hl]; exact hi) hm
    omega
   ·obtain⟨i,hi⟩:=List.mem_iff_getElem?.1 hq
    have:=key (p.length+(i+1)) p.length (by rw[hpq,List.getElem?_append_right (by omega),show p.length+(i+1) - p.length=i+1 by omega]; simpa using hi) hm
    omega
  have hp:∀t∈p,okT kd (a::ar) t=false:=fun t ht=>Bool.eq_false_iff.2 fun ho=>hnd.1 (by rw[←hno t (by rw[hpq]; simp[ht]) ho]; exact ht)
  have hq:∀t∈q,okT kd (a::ar) t=false:=fun t ht=>Bool.eq_false_iff.2 fun ho=>hnd.2 (by rw[←hno t (by rw[hpq]; simp[ht]) ho]; exact ht)
  rw[hpq,List.foldl_append,List.foldl_cons,exT_skip p _ hp,exT_skip q _ hq]
  have:=capO_one (W:=1+W u) (by omega) h (show okT kd (a::ar) u=true by simp[okT,u2,u3]) (by omega) (hc u u1 u2)
  simp only[dArg] at this
  rw[if_neg (by simp)] at this
  rw[show T+(1+W u)=T+1+(1+W u) - 1 by omega]
  exact this
theorem root_ty{s:Sta}{x:Sel}{ty:Ty}(hty:typeAt s.types x.name=some ty){t:Tg}(ht:t.type=kindOf s.types x.name)(h0:0≤t.type):s.types[t.type.toNat]?=some ty:=by
 rcases findJ_spec (fun t=>t.name==x.name) s.types 0 with⟨q1,q2⟩|⟨j,t',q1,q2,q3⟩
 ·rw[ht] at h0
  unfold kindOf at h0
  omega
 ·rw[ht]
  unfold kindOf
  rw[q2]
  unfold typeAt at hty
  rw[hty] at q3
  obtain rfl:ty=t':=by simpa using q3
  simpa using q1
theorem exS_cap{s:Sta}(hs:RtL s)(hI:IdsE s){x:Sel}(hf:fRoot s.types x=0)(T n:Nat)(hT1:1≤T)(h:CapO T (some n)):CapO (T+rtW s x) (exS s x n):=by
 obtain⟨ty,h1,h2,h3⟩:=fRoot_kids hf
 have hl5:=hs.r.sch.len
 have hk:=kindOf_rg s.types x.name hl5
 have hc1:CapO (T+1) (some (n+1)):=by
  unfold CapO at *
  refine⟨fun hn=>by have:=h.1 (by omega); injection this with this; rw[this],fun hn=>?_⟩
  by_cases hT:T≤2000
  ·have:=h.1 hT; injection this with this; exact .inr ⟨_,rfl,by omega⟩
  ·rcases h.2 (by omega) with e|⟨m,e,hm⟩
   ·cases e
   ·injection e with e; exact .inr ⟨_,rfl,by omega⟩
 have hcap:∀t∈s.things,t.type=kindOf s.types x.name→Cap (1+wL s x.kids t) (wrL s x.kids 1 t):=fun t ht htt =>
  wrL_cap hs hI ht (root_ty h1 htt (hs.r.tg t ht).ty0) x.kids 1 1 (fKids_mem h2) ⟨fun _=>rfl,fun h=>by omega⟩
 unfold exS rtW
 cases hx:x.args with
 | nil =>
  simp only
  rw[←Nat.add_assoc]
  exact capO_all _ _ _ (by omega) hc1 fun t ht htt=>⟨hcap t ht htt,by
   have:=(thA_some hs hk (show I64 t.id by have:=hs.srt.id t ht; unfold I64; omega) ht htt rfl).1
   exact this⟩
 | cons a r =>
  simp only
  have ha:=h3 a r hx
  exact capO_arg hs hk (by unfold I64; omega) T n hc1 hcap
theorem exL_cap{s:Sta}(hs:RtL s)(hI:IdsE s):∀(l:List Sel) (T n:Nat),(∀x∈l,fRoot s.types x=0)→1≤T→CapO T (some n)→CapO (T+rtWs s l) (exL s l n)
 | [],T,n,_,_,h=>by simpa [rtWs,exL] using h
 | x::r,T,n,hf,hT1,h=>by
  have h1:=exS_cap hs hI (hf x (List.mem_cons_self ..)) T n hT1 h
  have e:rtWs s (x::r)=rtW s x+rtWs s r:=by simp[rtWs]
  rw[e,←Nat.add_assoc]
  simp only[exL]
  cases hx:exS s x n with
  | none =>
   rw[hx] at h1
   have:2000<T+rtW s x:=Nat.lt_of_not_le fun hn=>by cases h1.1 hn
   exact⟨fun hn=>by omega,fun _=>.inl rfl⟩
  | some m =>
   rw[hx] at h1
   exact exL_cap hs hI r _ m (fun y hy=>hf y (List.mem_cons_of_mem _ hy)) (by omega) h1
end Go.Am
namespace Go.Am
set_option linter.all false
open Go Go.RowKit Go.Proofs
set_option maxRecDepth 100000
set_option linter.all false
def rtRw(s:Sta)(x:Sel):AV:=match x.args with
 | []=>.agg [.int .i64 4,.int .i64 0,.str [],.nils,.sl ((idsOf s (kindOf s.types x.name) s.things).map fun y=>eO (thO s (x.kids.map called) (oL s x.kids) (kindOf s.types x.name) y))]
 | a::_=>match thA s (kindOf s.types x.name) a.n with
  | none=>rw0 1 0 []
  | some u=>eO (oMap (x.kids.map called) (oL s x.kids u))
theorem rtRw_nrm(s:Sta)(x:Sel):(rtRw s x).nrm=eO (rtO s x):=by
 unfold rtRw rtO
 cases x.args with
 | nil =>
  simp only[AV.nrm,nrmL,nrmL_map,oList,eO_eq,List.map_nil,List.map_map]
  simp[Function.comp_def,nrm_eO]
 | cons a r =>
  simp only
  unfold thO
  cases thA s (kindOf s.types x.name) a.n with
  | none=>exact rw0_nrm ..
  | some u=>exact nrm_eO _
theorem pure_rtRw(s:Sta)(x:Sel):(rtRw s x).pureB=true:=by
 unfold rtRw rw0
 cases x.args with
 | nil=>simp; exact pureL_map (fun _=>pure_eO _) _
 | cons a r =>
  simp only
  cases thA s (kindOf s.types x.name) a.n with
  | none=>rfl
  | some u=>exact pure_eO _
def exV(s:Sta)(l:List Sel):AV:=match exL s l 1 with
 | none=>.agg [.int .i64 0,.int .i64 0,.str [],.nils,.nils]
 | some _=>.agg [.int .i64 5,.int .i64 0,.str [],.sl ((l.map called).map .str),.sl (l.map (rtRw s))]
def exB(s:Sta)(l:List Sel):Bool:=match exL s l 1 with
 | none=>false
 | some n=>decide (n≤2000)
def xArg(s:Sta)(kd:Int)(args:List Ag)(kids:List Sel)(j:Nat):AV:=match (s.things.take j).find? (okT kd args) with
 | none=>rw0 1 0 []
 | some u=>eO (oMap (kids.map called) (oL s kids u))
theorem pure_xArg(s:Sta)(kd:Int)(args:List Ag)(kids:List Sel)(j:Nat):(xArg s kd args kids j).pureB=true:=by
 unfold xArg
 split
 ·rfl
 ·exact pure_eO _
theorem xArg_end{s:Sta}(hs:RtL s){kd:Int}(hk : -1≤kd∧kd≤5){ag:Ag}{rg:List Ag}(hx:I64 ag.n)(kids:List Sel){j:Nat}(hj:s.things.length≤j):xArg s kd (ag::rg) kids j=match thA s kd ag.n with
  | none=>rw0 1 0 []
  | some u=>eO (oMap (kids.map called) (oL s kids u)):=by
 unfold xArg
 rw[List.take_of_length_le hj]
 cases hA:thA s kd ag.n with
 | none =>
  have:s.things.find? (okT kd (ag::rg))=none:=by
   rw[List.find?_eq_none]
   intro t ht ho
   simp[okT] at ho
   exact thA_none hs hk hx hA t ht ho
  rw[this]
 | some u =>
  obtain⟨u1,u2,u3⟩:=thA_is hs hk hx hA
  cases hf:s.things.find? (okT kd (ag::rg)) with
  | none =>
   have:=List.find?_eq_none.1 hf u u1
   simp[okT,u2,u3] at this
  | some v =>
   have h1:=List.mem_of_find?_eq_some hf
   have h2:=List.find?_some hf
   simp[okT] at h2
   obtain rfl:=srt_one hs.srt h1 u1 (by omega) (by omega)
   rfl
set_option maxHeartbeats 8000000 in
theorem ExecOf_raw{s:Sta}(hs:RtL s)(hI:IdsE s)(l:List Sel)(id:Nat)(h8:szL l≤1000000)(hf:∀x∈l,fRoot s.types x=0):
  FnOk Tryz.prog 13 [eSta s,.sl (l.map eSel)] [] id (.tup [exV s l,.bool (exB s l)]) []:=by
 have hlen:=szL_len l
 have hl5:=hs.r.sch.len
 have h12:=hs.r.len
 have hSe:eSta s = .agg [.sl (s.types.map eTy),.sl (s.things.map eTg)]:=rfl
 rw[hSe]
 refine fn_okc Tryz.func13 hcc13 (by decide) hcr13 (by simp[Tryz.ntmps13]) fun E hP hR hl hid=>?_
 simp only[cr13] at hR
 refine w_go 4000 ?_
 simp[cc13]
 refine w_loop (X:=Nat×Nat) (fun i=>⟨[(1,true,.sl (l.map eSel)),(2,true,.ptr E.n0 0 0),(4,true,.ptr (E.n0+1) 0 0),(5,true,.bool false),(6,true,.ptr (E.n0+2) 0 0),(7,true,.int .i64 i.2),(8,true,.int .i64 i.1)],
  [(E.n0,some ⟨[.agg [.sl (s.types.map eTy),.sl (s.things.map eTg)]],.agg [.sl (s.types.map eTy),.sl (s.things.map eTg)],false,false⟩),
   (E.n0+1,some ⟨[.agg [.int .i64 0,.int .i64 0,.str [],.nils,.nils]],.agg [.int .i64 0,.int .i64 0,.str [],.nils,.nils],false,false⟩),(E.n0+2,some ⟨[.agg [.int .i64 5,.int .i64 0,.str [],.bsl (E.n0+3) 0 i.1,.bsl (E.n0+4) 0 i.1]],.agg [.int .i64 0,.int .i64 0,.str [],.nils,.nils],false,false⟩),
   (E.n0+3,some ⟨((l.map called).map .str).take i.1,.str [],false,false⟩),(E.n0+4,some ⟨(l.map (rtRw s)).take i.1,.agg [.int .i64 0,.int .i64 0,.str [],.nils,.nils],false,false⟩)],5⟩)
  (fun i=>i.1≤l.length∧exL s (l.drop i.1) i.2=exL s l 1∧i.2≤2001+i.1) (fun i=>l.length - i.1) (0,1) ?_ ⟨by omega,rfl,by simp⟩ ?_
 ·refine Conv.trans (Conv.voidBox (E.n0+4096) (by simp; rfl) rfl (.agg [.int .i64 5,.int .i64 0,.str [],.nils,.nils] [.int .i64 5,.int .i64 0,.str [],.bsl (E.n0+8192) 0 0,.nils] rfl (fun m x y h1 h2=>?_)) (.str [])) (Conv.trans (Conv.voidBox (E.n0+4096) (by simp; rfl) rfl (.agg [.int .i64 5,.int .i64 0,.str [],.bsl (E.n0+8192) 0 0,.nils] [.int .i64 5,.int .i64 0,.str [],.bsl (E.n0+8192) 0 0,.bsl (E.n0+8193) 0 0] rfl (fun m x y h1 h2=>?_)) (.agg [.int .i64 0,.int .i64 0,.str [],.nils,.nils])) ?_)
  ·match m,h1,h2 with
   | 0,h1,h2|1,h1,h2|2,h1,h2|4,h1,h2=>simp at h1 h2; exact .inl (h1.symm.trans h2)
   | 3,h1,h2=>simp at h1 h2; exact .inr ⟨h1.symm,h2.symm⟩
   | m+5,h1,h2=>simp at h1
  ·match m,h1,h2 with
   | 0,h1,h2|1,h1,h2|2,h1,h2|3,h1,h2=>simp at h1 h2; exact .inl (h1.symm.trans h2)
   | 4,h1,h2=>simp at h1 h2; exact .inr ⟨h1.symm,h2.symm⟩
   | m+5,h1,h2=>simp at h1
  ·have hrn:rnOk [(E.n0,E.n0),(E.n0+1,E.n0+1024),(E.n0+2,E.n0+4096),(E.n0+3,E.n0+8192),(E.n0+4,E.n0+8193)]:=by simp
   refine Conv.sub [(E.n0,E.n0),(E.n0+1,E.n0+1024),(E.n0+2,E.n0+4096),(E.n0+3,E.n0+8192),(E.n0+4,E.n0+8193)] hrn ?_ ?_ ?_ ?_ ?_<;>(try simp)
 rintro⟨i,n⟩ ⟨hi,hx0,hn8⟩ p hp
 simp only at hi hx0 hn8 hp
 refine w_go 4000 ?_
 simp
 refine goc (fun h=>?_) (fun h=>?_)
 ·have h:=of_decide_eq_true h
  obtain⟨x,hx,hd⟩:=drop_cons h
  have hxm:=List.mem_of_getElem? hx
  have hsx:=szL_mem hxm
  have hsk:=szL_kids hxm
  rw[hd] at hx0
  simp only[exL] at hx0
  have hi1:IntKind.i64.wrap ((i:Int)+1)=((i+1:Nat):Int):=wrap64 (by omega)
  have hn1:IntKind.i64.wrap ((n:Int)+1)=((n+1:Nat):Int):=wrap64 (by omega)
  have hCa:=CalledOf_ok x
  rw[eSel_eq] at hCa
  have hk1:((l.map called).map AV.str).take (i+1)=((l.map called).map AV.str).take i++[.str (called x)]:=take_snoc (by simp[hx])
  have ho1:(l.map (rtRw s)).take (i+1)=(l.map (rtRw s)).take i++[rtRw s x]:=take_snoc (by simp[hx])
  simp only[List.map_map] at *
  have hpK:=fun n=>pureL_take (pureL_map (f:=AV.str∘called) (fun _=>rfl) l) n
  have hpO:=fun n=>pureL_take (pureL_map (f:=rtRw s) (fun _=>pure_rtRw _ _) l) n
  obtain⟨ty,f1,f2,f3⟩:=fRoot_kids (hf x hxm)
  have hTA:=fun id=>TypeAt_ok s.types x.name id (by omega)
  rw[show findJ (fun z:Ty=>z.name==x.name) s.types 0=kindOf s.types x.name from rfl] at hTA
  have hkd:=kindOf_rg s.types x.name hl5
  generalize hkdd:kindOf s.types x.name=kd at *
  simp[hx,eSel_eq x]
  refine⟨h,?_⟩
  cases hxa:x.args with
  | nil =>
   (refine w_call hP rfl (hTA _) (by simp[hx,eSel_eq x,hxa,hn1]) (by simp[hx,eSel_eq x,hxa,hn1]<;>rfl) ?_; refine w_go 4000 ?_; simp[hx,eSel_eq x,hxa,hn1])
   have hpS:=fun m=>pureL_map (f:=fun z=>eO (thO s (x.kids.map called) (oL s x.kids) kd z)) (fun _=>pure_eO _) (idsOf s kd (s.things.take m))
   have hxs:exS s x n=s.things.foldl (exT kd [] (wrL s x.kids 1)) (some (n+1)):=by unfold exS; rw[hkdd,hxa]
   refine⟨h,?_⟩
   refine w_loop (X:=Nat×Nat) (fun y=>⟨[(1,true,.sl (l.map eSel)),(2,true,.ptr E.n0 0 0),(4,true,.ptr (E.n0+1) 0 0),(5,true,.bool false),(6,true,.ptr (E.n0+2) 0 0),(7,true,.int .i64 y.2),(8,true,.int .i64 i),(9,true,.int .i64 kd),(10,true,.ptr (E.n0+5) 0 0),(11,true,.int .i64 y.1)],
    [(E.n0,some ⟨[.agg [.sl (s.types.map eTy),.sl (s.things.map eTg)]],.agg [.sl (s.types.map eTy),.sl (s.things.map eTg)],false,false⟩),
     (E.n0+1,some ⟨[.agg [.int .i64 0,.int .i64 0,.str [],.nils,.nils]],.agg [.int .i64 0,.int .i64 0,.str [],.nils,.nils],false,false⟩),(E.n0+2,some ⟨[.agg [.int .i64 5,.int .i64 0,.str [],.bsl (E.n0+3) 0 i,.bsl (E.n0+4) 0 i]],.agg [.int .i64 0,.int .i64 0,.str [],.nils,.nils],false,false⟩),
     (E.n0+3,some ⟨(l.map (AV.str∘called)).take i,.str [],false,false⟩),(E.n0+4,some ⟨(l.map (rtRw s)).take i,.agg [.int .i64 0,.int .i64 0,.str [],.nils,.nils],false,false⟩),(E.n0+5,some ⟨[.agg [.int .i64 4,.int .i64 0,.str [],.nils,.bsl (E.n0+6) 0 (idsOf s kd (s.things.take y.1)).length]],.agg [.int .i64 0,.int .i64 0,.str [],.nils,.nils],false,false⟩),(E.n0+6,some ⟨(idsOf s kd (s.things.take y.1)).map fun z=>eO (thO s (x.kids.map called) (oL s x.kids) kd z),.agg [.int .i64 0,.int .i64 0,.str [],.nils,.nils],false,false⟩)],7⟩)
    (fun y=>y.1≤s.things.length∧(s.things.drop y.1).foldl (exT kd [] (wrL s x.kids 1)) (some y.2)=exS s x n∧y.2≤2002+i) (fun y=>s.things.length - y.1) (0,n+1) ?_ ⟨by omega,by rw[hxs]; rfl,by simp only; omega⟩ ?_
   ·refine Conv.trans (Conv.voidBox (E.n0+14341) (by simp; rfl) rfl (.agg [.int .i64 4,.int .i64 0,.str [],.nils,.nils] [.int .i64 4,.int .i64 0,.str [],.nils,.bsl (E.n0+29701) 0 0] rfl (fun m x y h1 h2=>?_)) (.agg [.int .i64 0,.int .i64 0,.str [],.nils,.nils])) ?_
    ·match m,h1,h2 with
     | 0,h1,h2|1,h1,h2|2,h1,h2|3,h1,h2=>simp at h1 h2; exact .inl (h1.symm.trans h2)
     | 4,h1,h2=>simp at h1 h2; exact .inr ⟨h1.symm,h2.symm⟩
     | m+5,h1,h2=>simp at h1
    ·have hi0:idsOf s kd []=[]:=rfl
     have hrn:rnOk [(E.n0,E.n0),(E.n0+1,E.n0+1),(E.n0+2,E.n0+2),(E.n0+3,E.n0+3),(E.n0+4,E.n0+4),(E.n0+5,E.n0+14341),(E.n0+6,E.n0+29701)]:=by simp[hi0]
     refine Conv.sub [(E.n0,E.n0),(E.n0+1,E.n0+1),(E.n0+2,E.n0+2),(E.n0+3,E.n0+3),(E.n0+4,E.n0+4),(E.n0+5,E.n0+14341),(E.n0+6,E.n0+29701)] hrn ?_ ?_ ?_ ?_ ?_<;>(try simp[hi0])
     exact⟨renL_pure rfl (hpK _),renL_pure rfl (hpO _)⟩
   rintro⟨j,n2⟩ ⟨hj,hw,hn2⟩ p2 hp2
   simp only at hj hw hn2 hp2
   refine w_go 4000 ?_
   simp
   refine goc (fun h2=>?_) (fun h2=>?_)
   ·have h2:j<s.things.length:=by simpa using h2
    obtain⟨t,ht,htd⟩:=drop_cons h2
    have htm:=List.mem_of_getElem? ht
    rw[htd] at hw
    simp only[List.foldl_cons] at hw
    have hj1:IntKind.i64.wrap ((j:Int)+1)=((j+1:Nat):Int):=wrap64 (by omega)
    have hkt:t.type=kd→s.types[t.type.toNat]?=some ty:=fun e=>root_ty f1 (by rw[hkdd]; exact e) (hs.r.tg t htm).ty0
    have hWt:=fun (e:t.type=kd) id=>weight_ok hs hI (szL x.kids+1) x.kids t ty id (by omega) (by omega) htm (hkt e) (fKids_mem f2)
    have hMp:=fun (e:t.type=kd) id=>mapOf_ok hs hI (szL x.kids+1) x.kids t ty id (by omega) (by omega) htm (hkt e) (fKids_mem f2)
    have hoe:eO (oMap (x.kids.map called) (oL s x.kids t)) = .agg [.int .i64 5,.int .i64 0,.str [],.sl ((x.kids.map called).map .str),.sl ((oL s x.kids t).map eO)]:=by unfold oMap; rw[eO_eq]
    rw[hoe,hSe,tg_eq t] at hMp
    rw[hSe,tg_eq t] at hWt
    have hb2:=wrL_le s x.kids 1 t
    have hn3:IntKind.i64.wrap ((n2:Int)+wrL s x.kids 1 t)=((n2+wrL s x.kids 1 t:Nat):Int):=wrap64 (by omega)
    simp[ht,tg_eq t,hx,eSel_eq x,hxa]
    refine⟨h2,fun h3=>⟨h3,h⟩,?_⟩
    refine goc (fun h3=>?_) (fun h3=>?_)
    ·have h3:t.type≠kd:=by simpa using h3
     have hts:idsOf s kd (s.things.take (j+1))=idsOf s kd (s.things.take j):=by unfold idsOf; rw[List.take_succ,ht]; simp[h3]
     have hno:okT kd [] t=false:=by simp[okT,h3]
     simp
     refine hp2 _ (j+1,n2) ⟨h2,by rw[←hw]; simp[exT,hno],hn2⟩ (by simp; omega) ?_
     have hrn:rnOk [(E.n0,E.n0),(E.n0+1,E.n0+1),(E.n0+2,E.n0+2),(E.n0+3,E.n0+3),(E.n0+4,E.n0+4),(E.n0+5,E.n0+5),(E.n0+6,E.n0+6)]:=by simp[hj1,hts]
     refine Conv.sub [(E.n0,E.n0),(E.n0+1,E.n0+1),(E.n0+2,E.n0+2),(E.n0+3,E.n0+3),(E.n0+4,E.n0+4),(E.n0+5,E.n0+5),(E.n0+6,E.n0+6)] hrn ?_ ?_ ?_ ?_ ?_<;>(try simp[hj1,hts])
     exact⟨renL_pure rfl (hpK _),renL_pure rfl (hpO _),renL_pure rfl (hpS _)⟩
    have h3:t.type=kd:=by simpa using h3
    have hyes:okT kd [] t=true:=by simp[okT,h3]
    have hW1:=hWt h3
    have hM1:=hMp h3
    have hd0:dArg []=0:=rfl
    have hthd:eO (thO s (x.kids.map called) (oL s x.kids) kd t.id) = .agg [.int .i64 5,.int .i64 0,.str [],.sl ((x.kids.map called).map .str),.sl ((oL s x.kids t).map eO)]:=by
     unfold thO
     rw[(thA_some hs hkd (show I64 t.id by have:=hs.srt.id t htm; unfold I64; omega) htm h3 rfl).1]
     exact hoe
    have hts:idsOf s kd (s.things.take (j+1))=idsOf s kd (s.things.take j)++[t.id]:=by unfold idsOf; rw[List.take_succ,ht]; simp[h3]
    have hid1:=idsOf_len s kd (s.things.take j)
    rw[List.length_take] at hid1
    simp[hx,eSel_eq x,hxa]
    refine⟨h,?_⟩
    (refine w_call hP rfl (hW1 _) (by simp[hn3,hx,eSel_eq x,hxa]) (by simp[hn3,hx,eSel_eq x,hxa]<;>rfl) ?_; refine w_go 4000 ?_; simp[hn3,hx,eSel_eq x,hxa])
    refine⟨h,?_⟩
    refine goc (fun h4=>?_) (fun h4=>?_)
    ·have h4:2000<n2+wrL s x.kids 1 t:=by simp at h4; omega
     simp
     have hnn:exT kd [] (wrL s x.kids 1) (some n2) t=none:=by simp only[exT]; rw[if_pos hyes,hd0,if_pos (by omega)]
     rw[hnn,exT_none] at hw
     rw[←hw] at hx0
     simp only at hx0
     have hv:exV s l = .agg [.int .i64 0,.int .i64 0,.str [],.nils,.nils]:=by unfold exV; rw[←hx0]
     have hb:exB s l=false:=by unfold exB; rw[←hx0]
     rw[hv,hb] at hR
     rw[hR]; exact rt_end (by simp<;>rfl) [] trivial (end_pure (by simp) (by simp) (by simp))
    have h4:¬2000<n2+wrL s x.kids 1 t:=by simp at h4; omega
    have hnn:exT kd [] (wrL s x.kids 1) (some n2) t=some (n2+wrL s x.kids 1 t):=by simp only[exT]; rw[if_pos hyes,hd0,if_neg (by omega)]; rfl
    rw[hnn] at hw
    simp[hx,eSel_eq x,hxa]
    refine⟨h,?_⟩
    (refine w_call hP rfl (hM1 _) (by simp[hx,eSel_eq x,hxa]) (by simp[hx,eSel_eq x,hxa]<;>rfl) ?_; refine w_go 4000 ?_; simp[hx,eSel_eq x,hxa])
    refine⟨h,⟨by omega,by omega⟩,?_⟩
    refine hp2 _ (j+1,n2+wrL s x.kids 1 t) ⟨h2,hw,by simp only; omega⟩ (by simp; omega) ?_
    have hrn:rnOk [(E.n0,E.n0),(E.n0+1,E.n0+1),(E.n0+2,E.n0+2),(E.n0+3,E.n0+3),(E.n0+4,E.n0+4),(E.n0+5,E.n0+5),(E.n0+6,E.n0+80903)]:=by simp[hj1,hts,hthd,hn3]
    refine Conv.sub [(E.n0,E.n0),(E.n0+1,E.n0+1),(E.n0+2,E.n0+2),(E.n0+3,E.n0+3),(E.n0+4,E.n0+4),(E.n0+5,E.n0+5),(E.n0+6,E.n0+80903)] hrn ?_ ?_ ?_ ?_ ?_<;>(try simp[hj1,hts,hthd,hn3])
    exact⟨renL_pure rfl (hpK _),renL_pure rfl (hpO _),renL_pure rfl (pureL_append (hpS _) (by simp[pure_outs]; exact pureL_map (fun _=>rfl) _))⟩
   have h2:¬j<s.things.length:=by simpa using h2
   have hta:s.things.take j=s.things:=List.take_of_length_le (by omega)
   rw[List.drop_of_length_le (by omega),List.foldl_nil] at hw
   rw[←hw] at hx0
   simp only at hx0
   simp only[hta]
   have hrt:rtRw s x = .agg [.int .i64 4,.int .i64 0,.str [],.nils,.sl ((idsOf s kd s.things).map fun z=>eO (thO s (x.kids.map called) (oL s x.kids) kd z))]:=by unfold rtRw; rw[hxa]; simp only[hkdd]
   simp[hx,eSel_eq x]
   refine⟨h,?_⟩
   (refine w_call hP rfl (hCa _) (by simp[hx,eSel_eq x]) (by simp[hx,eSel_eq x]<;>rfl) ?_; refine w_go 4000 ?_; simp[hx,eSel_eq x])
   refine⟨⟨by omega,by omega,by omega⟩,⟨by omega,by omega,by omega⟩,?_⟩
   rw[hrt] at ho1
   refine hp _ (i+1,n2) ⟨h,hx0,by simp only; omega⟩ (by simp; omega) ?_
   have hrn:rnOk [(E.n0,E.n0),(E.n0+1,E.n0+1),(E.n0+2,E.n0+2),(E.n0+3,E.n0+13319),(E.n0+4,E.n0+20487)]:=by simp[hi1,hk1,ho1]
   refine Conv.sub [(E.n0,E.n0),(E.n0+1,E.n0+1),(E.n0+2,E.n0+2),(E.n0+3,E.n0+13319),(E.n0+4,E.n0+20487)] hrn ?_ ?_ ?_ ?_ ?_<;>(try simp[hi1,hk1,ho1])
   exact⟨renL_pure rfl (pureL_append (hpK _) rfl),renL_pure rfl (pureL_append (hpO _) (by simp; exact pureL_map (fun _=>pure_eO _) _))⟩
  | cons ag rg =>
   have hr0:((rg.length:Int)+1==0)=false:=by simp; omega
   have hi64:I64 ag.n:=by have:=f3 ag rg hxa; unfold I64; omega
   (refine w_call hP rfl (hTA _) (by simp[hx,eSel_eq x,hxa,hr0,hn1]) (by simp[hx,eSel_eq x,hxa,hr0,hn1]<;>rfl) ?_; refine w_go 4000 ?_; simp[hx,eSel_eq x,hxa,hr0,hn1])
   have hxs:exS s x n=s.things.foldl (exT kd (ag::rg) (wrL s x.kids 1)) (some (n+1)):=by unfold exS; rw[hkdd,hxa]
   refine⟨h,?_⟩
   refine w_loop (X:=Nat×Nat) (fun y=>⟨[(1,true,.sl (l.map eSel)),(2,true,.ptr E.n0 0 0),(4,true,.ptr (E.n0+1) 0 0),(5,true,.bool false),(6,true,.ptr (E.n0+2) 0 0),(7,true,.int .i64 y.2),(8,true,.int .i64 i),(9,true,.int .i64 kd),(10,true,.ptr (E.n0+5) 0 0),(11,true,.int .i64 y.1)],
    [(E.n0,some ⟨[.agg [.sl (s.types.map eTy),.sl (s.things.map eTg)]],.agg [.sl (s.types.map eTy),.sl (s.things.map eTg)],false,false⟩),
     (E.n0+1,some ⟨[.agg [.int .i64 0,.int .i64 0,.str [],.nils,.nils]],.agg [.int .i64 0,.int .i64 0,.str [],.nils,.nils],false,false⟩),(E.n0+2,some ⟨[.agg [.int .i64 5,.int .i64 0,.str [],.bsl (E.n0+3) 0 i,.bsl (E.n0+4) 0 i]],.agg [.int .i64 0,.int .i64 0,.str [],.nils,.nils],false,false⟩),
     (E.n0+3,some ⟨(l.map (AV.str∘called)).take i,.str [],false,false⟩),(E.n0+4,some ⟨(l.map (rtRw s)).take i,.agg [.int .i64 0,.int .i64 0,.str [],.nils,.nils],false,false⟩),(E.n0+5,some ⟨[xArg s kd (ag::rg) x.kids y.1],.agg [.int .i64 0,.int .i64 0,.str [],.nils,.nils],false,false⟩)],6⟩)
    (fun y=>y.1≤s.things.length∧(s.things.drop y.1).foldl (exT kd (ag::rg) (wrL s x.kids 1)) (some y.2)=exS s x n∧y.2≤2002+i) (fun y=>s.things.length - y.1) (0,n+1) ?_ ⟨by omega,by rw[hxs]; rfl,by simp only; omega⟩ ?_
   ·have hx00:xArg s kd (ag::rg) x.kids 0 = .agg [.int .i64 1,.int .i64 0,.str [],.nils,.nils]:=rfl
    have hrn:rnOk [(E.n0,E.n0),(E.n0+1,E.n0+1),(E.n0+2,E.n0+2),(E.n0+3,E.n0+3),(E.n0+4,E.n0+4),(E.n0+5,E.n0+14341)]:=by simp[hx00]
    refine Conv.sub [(E.n0,E.n0),(E.n0+1,E.n0+1),(E.n0+2,E.n0+2),(E.n0+3,E.n0+3),(E.n0+4,E.n0+4),(E.n0+5,E.n0+14341)] hrn ?_ ?_ ?_ ?_ ?_<;>(try simp[hx00])
    exact⟨renL_pure rfl (hpK _),renL_pure rfl (hpO _)⟩
   rintro⟨j,n2⟩ ⟨hj,hw,hn2⟩ p2 hp2
   simp only at hj hw hn2 hp2
   refine w_go 4000 ?_
   simp
   refine goc (fun h2=>?_) (fun h2=>?_)
   ·have h2:j<s.things.length:=by simpa using h2
    obtain⟨t,ht,htd⟩:=drop_cons h2
    have htm:=List.mem_of_getElem? ht
    rw[htd] at hw
    simp only[List.foldl_cons] at hw
    have hj1:IntKind.i64.wrap ((j:Int)+1)=((j+1:Nat):Int):=wrap64 (by omega)
    have hkt:t.type=kd→s.types[t.type.toNat]?=some ty:=fun e=>root_ty f1 (by rw[hkdd]; exact e) (hs.r.tg t htm).ty0
    have hWt:=fun (e:t.type=kd) id=>weight_ok hs hI (szL x.kids+1) x.kids t ty id (by omega) (by omega) htm (hkt e) (fKids_mem f2)
    have hMp:=fun (e:t.type=kd) id=>mapOf_ok hs hI (szL x.kids+1) x.kids t ty id (by omega) (by omega) htm (hkt e) (fKids_mem f2)
    have hoe:eO (oMap (x.kids.map called) (oL s x.kids t)) = .agg [.int .i64 5,.int .i64 0,.str [],.sl ((x.kids.map called).map .str),.sl ((oL s x.kids t).map eO)]:=by unfold oMap; rw[eO_eq]
    rw[hoe,hSe,tg_eq t] at hMp
    rw[hSe,tg_eq t] at hWt
    have hb2:=wrL_le s x.kids 1 t
    have hn3:IntKind.i64.wrap ((n2:Int)+wrL s x.kids 1 t)=((n2+wrL s x.kids 1 t:Nat):Int):=wrap64 (by omega)
    have hw1:1≤wrL s x.kids 1 t∨t.type≠kd:=by
     by_cases e:t.type=kd
     ·have hc:=wrL_cap hs hI htm (hkt e) x.kids 1 1 (fKids_mem f2) ⟨fun _=>rfl,fun h=>by omega⟩
      unfold Cap at hc
      by_cases g:1+wL s x.kids t≤2000
      ·have:=hc.1 g; exact .inl (by omega)
      ·have:=hc.2 (by omega); exact .inl (by omega)
     ·exact .inr e
    simp[ht,tg_eq t,hx,eSel_eq x,hxa,eAg_eq ag]
    refine⟨h2,fun h3=>⟨h3,h⟩,?_⟩
    have htk:s.things.take (j+1)=s.things.take j++[t]:=take_snoc ht
    refine goc (fun h3=>?_) (fun h3=>?_)
    ·have hno:okT kd (ag::rg) t=false:=by
      simp at h3
      simp[okT]
      intro e
      rcases h3 with h3|h3
      ·exact (h3 e).elim
      ·exact h3
     have hts:xArg s kd (ag::rg) x.kids (j+1)=xArg s kd (ag::rg) x.kids j:=by
      unfold xArg
      rw[htk,List.find?_append,List.find?_cons,hno]
      cases (s.things.take j).find? (okT kd (ag::rg))<;>rfl
     simp
     refine hp2 _ (j+1,n2) ⟨h2,by rw[←hw]; simp[exT,hno],hn2⟩ (by simp; omega) ?_
     have hrn:rnOk [(E.n0,E.n0),(E.n0+1,E.n0+1),(E.n0+2,E.n0+2),(E.n0+3,E.n0+3),(E.n0+4,E.n0+4),(E.n0+5,E.n0+5)]:=by simp[hj1,hts]
     refine Conv.sub [(E.n0,E.n0),(E.n0+1,E.n0+1),(E.n0+2,E.n0+2),(E.n0+3,E.n0+3),(E.n0+4,E.n0+4),(E.n0+5,E.n0+5)] hrn ?_ ?_ ?_ ?_ ?_<;>(try simp[hj1,hts])
     exact⟨renL_pure rfl (hpK _),renL_pure rfl (hpO _),.same _ (namesIn_pure _ (pure_xArg ..))⟩
    have h3:t.type=kd∧t.id=ag.n:=by simp at h3; exact h3
    have hyes:okT kd (ag::rg) t=true:=by simp[okT,h3.1,h3.2]
    have hW1:=hWt h3.1
    have hM1:=hMp h3.1
    have hw1:1≤wrL s x.kids 1 t:=hw1.resolve_right fun e=>e h3.1
    have hd1:dArg (ag::rg)=1:=by unfold dArg; rw[if_neg (by simp)]
    obtain⟨m,hm⟩:∃m,n2+wrL s x.kids 1 t=m+1:=⟨n2+wrL s x.kids 1 t - 1,by omega⟩
    have hn4:IntKind.i64.wrap ((n2:Int)+wrL s x.kids 1 t - 1)=(m:Int):=by rw[wrap64 (by omega)]; omega
    have hnon:(s.things.take j).find? (okT kd (ag::rg))=none:=by
     rw[List.find?_eq_none]
     intro v hv ho
     simp[okT] at ho
     obtain⟨i',hi'⟩:=List.mem_iff_getElem?.1 hv
     have hi'':=(List.getElem?_eq_some_iff.1 hi').1
     rw[List.length_take] at hi''
     rw[List.getElem?_take_of_lt (by omega)] at hi'
     have:=hs.srt.asc i' j v t (by omega) hi' ht
     simp[aheadB,ho.1,ho.2,h3.1,h3.2] at this
    have hts:xArg s kd (ag::rg) x.kids (j+1) = .agg [.int .i64 5,.int .i64 0,.str [],.sl ((x.kids.map called).map .str),.sl ((oL s x.kids t).map eO)]:=by
     unfold xArg
     rw[htk,List.find?_append,List.find?_cons,hyes,hnon]
     exact hoe
    have hxj:xArg s kd (ag::rg) x.kids j = .agg [.int .i64 1,.int .i64 0,.str [],.nils,.nils]:=by
     unfold xArg; rw[hnon]; rfl
    simp[hx,eSel_eq x,hxa]
    refine⟨h,?_⟩
    (refine w_call hP rfl (hW1 _) (by simp[hn3,hn4,hx,eSel_eq x,hxa,hr0]) (by simp[hn3,hn4,hx,eSel_eq x,hxa,hr0]<;>rfl) ?_; refine w_go 4000 ?_; simp[hn3,hn4,hx,eSel_eq x,hxa,hr0])
    refine⟨h,?_⟩
    refine goc (fun h4=>?_) (fun h4=>?_)
    ·have h4:2000<m:=by simp at h4; omega
     simp
     have hnn:exT kd (ag::rg) (wrL s x.kids 1) (some n2) t=none:=by simp only[exT]; rw[if_pos hyes,hd1,if_pos (by omega)]
     rw[hnn,exT_none] at hw
     rw[←hw] at hx0
     simp only at hx0
     have hv:exV s l = .agg [.int .i64 0,.int .i64 0,.str [],.nils,.nils]:=by unfold exV; rw[←hx0]
     have hb:exB s l=false:=by unfold exB; rw[←hx0]
     rw[hv,hb] at hR
     rw[hR]; exact rt_end (by simp<;>rfl) [] trivial (end_pure (by simp) (by simp) (by simp))
    have h4:¬2000<m:=by simp at h4; omega
    have hnn:exT kd (ag::rg) (wrL s x.kids 1) (some n2) t=some m:=by simp only[exT]; rw[if_pos hyes,hd1,if_neg (by omega)]; congr 1; omega
    rw[hnn] at hw
    simp[hx,eSel_eq x,hxa]
    refine⟨h,?_⟩
    (refine w_call hP rfl (hM1 _) (by simp[hx,eSel_eq x,hxa,hr0]) (by simp[hx,eSel_eq x,hxa,hr0]<;>rfl) ?_; refine w_go 4000 ?_; simp[hx,eSel_eq x,hxa,hr0])
    refine⟨h,by rw[hxj]; simp,?_⟩
    refine hp2 _ (j+1,m) ⟨h2,hw,by simp only; omega⟩ (by simp; omega) ?_
    have hrn:rnOk [(E.n0,E.n0),(E.n0+1,E.n0+1),(E.n0+2,E.n0+2),(E.n0+3,E.n0+3),(E.n0+4,E.n0+4),(E.n0+5,E.n0+5)]:=by simp[hj1,hts,hxj]
    refine Conv.sub [(E.n0,E.n0),(E.n0+1,E.n0+1),(E.n0+2,E.n0+2),(E.n0+3,E.n0+3),(E.n0+4,E.n0+4),(E.n0+5,E.n0+5)] hrn ?_ ?_ ?_ ?_ ?_<;>(try simp[hj1,hts,hxj])
    exact⟨renL_pure rfl (hpK _),renL_pure rfl (hpO _)⟩
   have h2:¬j<s.things.length:=by simpa using h2
   have hta:s.things.take j=s.things:=List.take_of_length_le (by omega)
   rw[List.drop_of_length_le (by omega),List.foldl_nil] at hw
   rw[←hw] at hx0
   simp only at hx0
   have hend:=xArg_end hs hkd hi64 x.kids (rg:=rg) (show s.things.length≤j by omega)
   have hrt0:rtRw s x=match thA s kd ag.n with
    | none=>rw0 1 0 []
    | some u=>eO (oMap (x.kids.map called) (oL s x.kids u)):=by unfold rtRw; rw[hxa]; simp only[hkdd]
   cases hA:thA s kd ag.n with
   | none =>
    rw[hA] at hend hrt0
    have hend:xArg s kd (ag::rg) x.kids j = .agg [.int .i64 1,.int .i64 0,.str [],.nils,.nils]:=hend
    have hrt:rtRw s x = .agg [.int .i64 1,.int .i64 0,.str [],.nils,.nils]:=hrt0
    rw[hend]
    simp[hx,eSel_eq x]
    refine⟨h,?_⟩
    (refine w_call hP rfl (hCa _) (by simp[hx,eSel_eq x]) (by simp[hx,eSel_eq x]<;>rfl) ?_; refine w_go 4000 ?_; simp[hx,eSel_eq x])
    refine⟨⟨by omega,by omega,by omega⟩,⟨by omega,by omega,by omega⟩,?_⟩
    rw[hrt] at ho1
    refine hp _ (i+1,n2) ⟨h,hx0,by simp only; omega⟩ (by simp; omega) ?_
    have hrn:rnOk [(E.n0,E.n0),(E.n0+1,E.n0+1),(E.n0+2,E.n0+2),(E.n0+3,E.n0+13318),(E.n0+4,E.n0+20486)]:=by simp[hi1,hk1,ho1]
    refine Conv.sub [(E.n0,E.n0),(E.n0+1,E.n0+1),(E.n0+2,E.n0+2),(E.n0+3,E.n0+13318),(E.n0+4,E.n0+20486)] hrn ?_ ?_ ?_ ?_ ?_<;>(try simp[hi1,hk1,ho1])
    exact⟨renL_pure rfl (pureL_append (hpK _) rfl),renL_pure rfl (pureL_append (hpO _) rfl)⟩
   | some u =>
    rw[hA] at hend hrt0
    have hoe:eO (oMap (x.kids.map called) (oL s x.kids u)) = .agg [.int .i64 5,.int .i64 0,.str [],.sl ((x.kids.map called).map .str),.sl ((oL s x.kids u).map eO)]:=by unfold oMap; rw[eO_eq]
    have hend:xArg s kd (ag::rg) x.kids j = .agg [.int .i64 5,.int .i64 0,.str [],.sl ((x.kids.map called).map .str),.sl ((oL s x.kids u).map eO)]:=by rw[hend]; exact hoe
    have hrt:rtRw s x = .agg [.int .i64 5,.int .i64 0,.str [],.sl ((x.kids.map called).map .str),.sl ((oL s x.kids u).map eO)]:=by rw[hrt0]; exact hoe
    rw[hend]
    simp[hx,eSel_eq x]
    refine⟨h,?_⟩
    (refine w_call hP rfl (hCa _) (by simp[hx,eSel_eq x]) (by simp[hx,eSel_eq x]<;>rfl) ?_; refine w_go 4000 ?_; simp[hx,eSel_eq x])
    refine⟨⟨by omega,by omega,by omega⟩,⟨by omega,by omega,by omega⟩,?_⟩
    rw[hrt] at ho1
    refine hp _ (i+1,n2) ⟨h,hx0,by simp only; omega⟩ (by simp; omega) ?_
    have hrn:rnOk [(E.n0,E.n0),(E.n0+1,E.n0+1),(E.n0+2,E.n0+2),(E.n0+3,E.n0+13318),(E.n0+4,E.n0+20486)]:=by simp[hi1,hk1,ho1]
    refine Conv.sub [(E.n0,E.n0),(E.n0+1,E.n0+1),(E.n0+2,E.n0+2),(E.n0+3,E.n0+13318),(E.n0+4,E.n0+20486)] hrn ?_ ?_ ?_ ?_ ?_<;>(try simp[hi1,hk1,ho1])
    exact⟨renL_pure rfl (pureL_append (hpK _) rfl),renL_pure rfl (pureL_append (hpO _) (by simp[pure_outs]; exact pureL_map (fun _=>rfl) _))⟩
 ·have h:¬i<l.length:=of_decide_eq_false h
  have hil:i=l.length:=by omega
  subst hil
  rw[List.drop_of_length_le (by omega)] at hx0
  simp only[exL] at hx0
  have hv:exV s l = .agg [.int .i64 5,.int .i64 0,.str [],.sl ((l.map called).map .str),.sl (l.map (rtRw s))]:=by unfold exV; rw[←hx0]
  have hb:exB s l=decide (n≤2000):=by unfold exB; rw[←hx0]
  have hb1:decide ((n:Int)≤2000)=decide (n≤2000):=by by_cases g:n≤2000<;>simp[g]<;>omega
  rw[hv,hb,List.map_map] at hR
  have hka:List.take l.length (List.map (AV.str∘called) l)=List.map (AV.str∘called) l:=List.take_of_length_le (by simp)
  have hoa:List.take l.length (l.map (rtRw s))=l.map (rtRw s):=List.take_of_length_le (by simp)
  simp
  have hrn:rnOk []:=by simp[hka,hoa,hb1,idO hid]
  rw[hR]
  refine rt_endR (by simp<;>rfl) (by simp[hka,hoa,hb1,idO hid]<;>exact⟨rfl,rfl⟩) [] hrn ⟨?_,?_,?_,?_,?_,?_⟩<;>(try simp[hka,hoa,hb1,idO hid])
  exact namesL_pure _ (pureL_map (fun _=>pure_rtRw _ _) _)
theorem CapO_one:CapO 1 (some 1):=⟨fun _=>rfl,fun h=>by omega⟩
theorem ExecOf_ok{s:Sta}(hs:RtL s)(hI:IdsE s)(q:List Sel)(hf:fFits s.types q=0)(h8:szL q≤1000000):∃v:Out,(qW s q≤2000→v=qO s q)∧∀id,FnOk Tryz.prog 13 [eSta s,.sl (q.map eSel)] [] id (.tup [eO v,.bool (decide (qW s q≤2000))]) []:=by
 have hfr:=firstE_zero.1 hf
 have hc:=exL_cap hs hI q 1 1 hfr (Nat.le_refl _) CapO_one
 rw[show 1+rtWs s q=qW s q from rfl] at hc
 have hb:exB s q=decide (qW s q≤2000):=by
  unfold exB
  by_cases g:qW s q≤2000
  ·rw[hc.1 g]
  ·rw[decide_eq_false g]
   rcases hc.2 (by omega) with e|⟨n,e,hn⟩
   ·rw[e]
   ·rw[e]; simp; omega
 have hw:=fun id=>(ExecOf_raw hs hI q id h8 hfr).nrm
 rw[hb] at hw
 have hv:(exV s q).nrm=eO (match exL s q 1 with
   | none=>.mk 0 0 [] [] []
   | some _=>qO s q):=by
  unfold exV
  cases exL s q 1 with
  | none=>rfl
  | some n =>
   simp only[AV.nrm,nrmL,nrmL_map,List.map_map]
   unfold qO oMap
   rw[eO_eq]
   simp[Function.comp_def,AV.nrm,rtRw_nrm]
 refine⟨_,fun g=>?_,fun id=>by rw[←hv]; simpa [AV.nrm,nrmL] using hw id⟩
 rw[hc.1 g]
end Go.Am
