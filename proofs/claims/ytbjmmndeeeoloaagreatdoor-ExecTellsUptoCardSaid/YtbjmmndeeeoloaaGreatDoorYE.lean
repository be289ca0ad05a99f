/- Parts of the proof: an abstract machine for Go functions, and what functions of the program give back (Ex17, Ex18, Ex19). No condition. -/
import Derived.Test.YtbjmmndeeeoloaaGreatDoorYD
import Derived.Test.YtbjmmndeeeoloaaGreatDoorXJ
namespace Go.Am
set_option linter.all false
open Go Go.RowKit Go.Proofs
set_option maxRecDepth 100000
set_option linter.all false
theorem cellsB_iffE{p:Fd→Cl→Bool}:∀{fs:List Fd} {cs:List Cl},cellsB p fs cs=true→∀(k:Nat) f c,fs[k]?=some f→cs[k]?=some c→p f c=true
 | [],cs,_=>by simp
 | f::fs,[],_=>by simp
 | f::fs,c::cs,h=>by
  rw[cellsB,Bool.and_eq_true] at h
  obtain⟨h1,h2⟩:=h
  intro k f' c' hf hc
  cases k with
  | zero=>simp at hf hc; subst hf hc; exact h1
  | succ k=>exact cellsB_iffE h2 k f' c' (by simpa using hf) (by simpa using hc)
structure RtL(s:Sta):Prop where
 r:RtS s
 srt:Srt s.things
 lnk:∀t∈s.things,∀(k:Nat) f c,(fldsAt s.types t.type)[k]?=some f→t.cells[k]?=some c→∀x∈c.ids,I64 x→isThere s f x=true
theorem rtL_of{s:Sta}(h:fSt s=0):RtL s:=by
 have hs:=rtS_of h
 unfold fSt at h
 split at h
 ·rename_i g; exact (g h).elim
 split at h
 ·cases h
 split at h
 ·rename_i g; exact (g h).elim
 rename_i g
 split at h
 ·rename_i g2
  refine⟨hs,(srt_of hs.sch (Classical.byContradiction g)).2,fun t ht k f c hf hc x hx _=>?_⟩
  simp only[eachB,List.all_eq_true] at g2
  have:=cellsB_iffE (g2 t ht) k f c hf hc
  simp only[Bool.not_eq_true',List.any_eq_false] at this
  simpa using this x hx
 ·cases h
theorem srt_one{l:List Tg}(h:Srt l){u v:Tg}(hu:u∈l)(hv:v∈l)(h1:u.type=v.type)(h2:u.id=v.id):u=v:=by
 obtain⟨i,hi⟩:=List.mem_iff_getElem?.1 hu
 obtain⟨j,hj⟩:=List.mem_iff_getElem?.1 hv
 rcases Nat.lt_trichotomy i j with g|g|g
 ·have:=h.asc i j u v g hi hj
  simp[aheadB,h1,h2] at this
 ·subst g; rw[hi] at hj; simpa using hj
 ·have:=h.asc j i v u g hj hi
  simp[aheadB,h1,h2] at this
theorem thA_some{s:Sta}(hs:RtL s){kd x:Int}(hk : -1≤kd∧kd≤5)(hx:I64 x){u:Tg}(hu:u∈s.things)(h1:u.type=kd)(h2:u.id=x):thA s kd x=some u∧∃k:Nat,tgAt s.things kd x=(k:Int)∧s.things[k]?=some u:=by
 obtain⟨j,hj⟩:=List.mem_iff_getElem?.1 hu
 have hf:=hs.srt.found hj
 rw[h1,h2] at hf
 have hi:isTg kd x u=true:=by simp[isTg,h1,h2]
 have hb:fFindB s.things kd x=true:=by
  rw[hs.srt.findB (by omega) hx,List.any_eq_true]
  exact⟨u,hu,hi⟩
 refine⟨by unfold thA; rw[if_pos hb,hf,hj],?_⟩
 rcases findJ_spec (isTg kd x) s.things 0 with⟨r1,r2⟩|⟨k,t,r1,r2,r3⟩
 ·have:=List.find?_eq_none.1 r1 u hu
  exact (this hi).elim
 ·have ht:=List.find?_some r3
  simp[isTg] at ht
  have:=srt_one hs.srt (List.mem_of_getElem? r1) hu (by rw[ht.1,h1]) (by rw[ht.2,h2])
  subst this
  exact⟨k,by unfold tgAt; rw[r2]; simp,r1⟩
theorem link_there{s:Sta}(hs:RtL s){t:Tg}(ht:t∈s.things){k:Nat}{f:Fd}{c:Cl}(hf:(fldsAt s.types t.type)[k]?=some f)(hc:t.cells[k]?=some c){x:Int}(hx:x∈c.ids)(h8:I64 x):
  ∃u,u∈s.things∧u.type=kindOf s.types f.of∧u.id=x∧thA s (kindOf s.types f.of) x=some u∧∃k:Nat,tgAt s.things (kindOf s.types f.of) x=(k:Int)∧s.things[k]?=some u:=by
 have hk:=kindOf_rg s.types f.of hs.r.sch.len
 have h:=hs.lnk t ht k f c hf hc x hx h8
 unfold isThere at h
 rw[hs.srt.findB (by omega) h8,List.any_eq_true] at h
 obtain⟨u,hu,hi⟩:=h
 simp[isTg] at hi
 exact⟨u,hu,hi.1,hi.2,thA_some hs hk h8 hu hi.1 hi.2⟩
end Go.Am
namespace Go.Am
set_option linter.all false
open Go Go.RowKit Go.Proofs
set_option maxRecDepth 100000
set_option linter.all false
def wStep(s:Sta)(kd:Int)(g:Tg→Nat)(n:Nat)(x:Int):Nat:=if n≤2000 then n+(match thA s kd x with
 | none=>0
 | some u=>g u) else n
mutual
def wrS(s:Sta):Sel→Nat→Tg→Nat
 | .mk _ name args kids,n,t=>if name=tId then n+1 else match fcOf s t name with
  | none=>n
  | some (f,c)=>(takeA args c.ids).foldl (wStep s (kindOf s.types f.of) (wrL s kids 1)) (n+if (f.kind<4∧c.ids=[])∨f.kind=4 then 1 else 0)
def wrL(s:Sta):List Sel→Nat→Tg→Nat
 | [],n,_=>n
 | a::r,n,t=>wrL s r (wrS s a n t) t
end
theorem wrS_eq(s:Sta)(x:Sel)(n:Nat)(t:Tg):wrS s x n t=if x.name=tId then n+1 else match fcOf s t x.name with
  | none=>n
  | some (f,c)=>(takeA x.args c.ids).foldl (wStep s (kindOf s.types f.of) (wrL s x.kids 1)) (n+if (f.kind<4∧c.ids=[])∨f.kind=4 then 1 else 0):=by cases x; rfl
theorem wStep_stop{s:Sta}{kd:Int}{g:Tg→Nat}:∀(l:List Int) (n:Nat),2000<n→l.foldl (wStep s kd g) n=n
 | [],n,_=>rfl
 | x::r,n,h=>by
  simp only[List.foldl_cons]
  rw[show wStep s kd g n x=n by unfold wStep; rw[if_neg (by omega)]]
  exact wStep_stop r n h
theorem wStep_le{s:Sta}{kd:Int}{g:Tg→Nat}{b:Nat}(hg:∀u,g u≤b):∀(l:List Int) (n:Nat),l.foldl (wStep s kd g) n≤max n (2000+b)
 | [],n=>by simp; omega
 | x::r,n=>by
  simp only[List.foldl_cons]
  have h1:=wStep_le (s:=s) (kd:=kd) hg r (wStep s kd g n x)
  have h2:wStep s kd g n x≤max n (2000+b):=by
   unfold wStep
   split
   ·split
    ·omega
    ·rename_i u _; have:=hg u; omega
   ·omega
  omega
mutual
theorem wrS_le(s:Sta):∀(x:Sel) (n:Nat) (t:Tg),wrS s x n t≤max n 2000+4001*x.sz
 | .mk al name args kids,n,t=>by
  have hk:=fun u=>wrL_le s kids 1 u
  simp only[wrS,Sel.sz]
  split
  ·omega
  split
  ·omega
  rename_i f c _
  have:=wStep_le (s:=s) (kd:=kindOf s.types f.of) (g:=wrL s kids 1) (b:=2000+4001*szL kids) (fun u=>by have:=hk u; omega) (takeA args c.ids) (n+if (f.kind<4∧c.ids=[])∨f.kind=4 then 1 else 0)
  have h1:(if (f.kind<4∧c.ids=[])∨f.kind=4 then 1 else 0)≤1:=by split<;>omega
  omega
theorem wrL_le(s:Sta):∀(l:List Sel) (n:Nat) (t:Tg),wrL s l n t≤max n 2000+4001*szL l
 | [],n,t=>by simp[wrL]; omega
 | a::r,n,t=>by
  have h1:=wrS_le s a n t
  have h2:=wrL_le s r (wrS s a n t) t
  simp only[wrL,szL]
  omega
end
def Cap(T r:Nat):Prop:=(T≤2000→r=T)∧(2000<T→2000<r)
theorem Cap.one{T r:Nat}(h:Cap T r):Cap (T+1) (r+1):=by unfold Cap at *; omega
theorem cap_step{s:Sta}{kd:Int}{g W:Tg→Nat}:∀(l:List Int) (n T:Nat),Cap T n→(∀x∈l,∃u,thA s kd x=some u∧Cap (1+W u) (g u))→Cap (T+(l.map (thW s W kd)).sum) (l.foldl (wStep s kd g) n)
 | [],n,T,h,_=>by simpa using h
 | x::r,n,T,h,hx=>by
  obtain⟨u,hu,hc⟩:=hx x (List.mem_cons_self ..)
  have h2:=cap_step r (wStep s kd g n x) (T+thW s W kd x) (by
   unfold thW wStep
   rw[hu]
   unfold Cap at *
   simp only
   split<;>omega) (fun y hy=>hx y (List.mem_cons_of_mem _ hy))
  simp only[List.foldl_cons,List.map_cons,List.sum_cons]
  rw[←Nat.add_assoc]
  exact h2
def IdsE(s:Sta):Prop:=∀t∈s.things,∀c∈t.cells,∀x∈c.ids,I64 x
theorem takeA_mem{args:List Ag}{ids:List Int}{x:Int}(h:x∈takeA args ids):x∈ids:=by
 unfold takeA at h
 split at h
 ·exact h
 ·exact List.mem_of_mem_take h
theorem fits_at{s:Sta}(hs:RtL s){t:Tg}(ht:t∈s.things){ty:Ty}(hty:s.types[t.type.toNat]?=some ty){x:Sel}(hk:fKid s.types ty x=0)(hid:x.name≠tId):
  ∃(k:Nat) (f:Fd) (c:Cl),findJ (fun g=>g.name==x.name) ty.fields 0=(k:Int)∧ty.fields[k]?=some f∧t.cells[k]?=some c∧fcOf s t x.name=some (f,c)∧(fldsAt s.types t.type)[k]?=some f∧(1≤f.kind∧f.kind≤4)∧ClOk f c∧(f.kind≠4→x.args=[]) ∧
   (∀a r,x.args=a::r→0≤a.n∧a.n≤999999999)∧(c.ids≠[]→∃ty',typeAt s.types f.of=some ty'∧fKids s.types ty' x.kids=0∧∀v∈s.things,v.type=kindOf s.types f.of→s.types[v.type.toNat]?=some ty'):=by
 rw[fKid_eq] at hk
 unfold fieldAt at hk
 rw[if_neg hid] at hk
 have hu:=hs.r.tg t ht
 have hfl:fldsAt s.types t.type=ty.fields:=by unfold fldsAt; rw[hty]; rfl
 rcases findJ_spec (fun g=>g.name==x.name) ty.fields 0 with⟨r1,r2⟩|⟨k,f,r1,r2,r3⟩
 ·rw[r1] at hk; simp at hk
 rw[r3] at hk
 simp only at hk
 rw[Nat.zero_add] at r2
 have hkd:=hs.r.sch.kinds ty (List.mem_of_getElem? hty) f (List.mem_of_getElem? r1)
 have hlen:=hu.len
 rw[hfl] at hlen
 have hk6:=(List.getElem?_eq_some_iff.1 r1).1
 obtain⟨c,hc⟩:∃c,t.cells[k]?=some c:=⟨_,List.getElem?_eq_getElem (by omega)⟩
 obtain⟨f',hf',hcl⟩:=hu.cellOk hc
 rw[hfl,r1] at hf'
 obtain rfl:f=f':=by simpa using hf'
 split at hk
 ·rename_i h0; exact (h0 hk).elim
 rename_i hA
 have hA:=Classical.byContradiction hA
 split at hk
 ·simp at hk
 have hfc:fcOf s t x.name=some (f,c):=by
  unfold fcOf
  rw[hfl,r2]
  simp[r1,hc]
 refine⟨k,f,c,r2,r1,hc,hfc,by rw[hfl,r1],hkd,hcl,fun h4=>?_,fun a r e=>argsV_head (by rw[e] at hA; exact hA),fun hne=>?_⟩
 ·cases hx:x.args with
  | nil=>rfl
  | cons a r =>
   rw[hx,show (f.kind==4)=false by simpa using h4] at hA
   unfold fArgsV firstE at hA
   simp[fArgV] at hA
 ·have hk34:f.kind=3∨f.kind=4:=by
   refine Classical.byContradiction fun hn=>hne (hcl.i0 (by unfold isLink; simp; omega))
  rw[if_neg (by simp; omega)] at hk
  rcases findJ_spec (fun t=>t.name==f.of) s.types 0 with⟨q1,q2⟩|⟨j,t',q1,q2,q3⟩
  ·exfalso
   have:=hs.r.sch.linked ty (List.mem_of_getElem? hty) f (List.mem_of_getElem? r1) hk34
   unfold hasT at this
   rw[List.any_eq_true] at this
   obtain⟨z,hz1,hz2⟩:=this
   exact List.find?_eq_none.1 q1 z hz1 hz2
  ·have h':typeAt s.types f.of=some t':=q3
   rw[h'] at hk
   refine⟨t',h',hk,fun v hv hvt=>?_⟩
   rw[hvt]; unfold kindOf; rw[q2]
   simpa using q1
theorem wr_cap{s:Sta}(hs:RtL s)(hI:IdsE s):∀(m:Nat) (x:Sel) (t:Tg) (ty:Ty) (n T:Nat),x.sz<m→t∈s.things→s.types[t.type.toNat]?=some ty→fKid s.types ty x=0→Cap T n→Cap (T+wS s x t) (wrS s x n t)
 | 0,x,t,ty,n,T,hm,_,_,_,_=>by omega
 | m+1,x,t,ty,n,T,hm,ht,hty,hk,hc=>by
  have hsz:=sz_eq x
  rw[wS_eq,wrS_eq]
  by_cases hid:x.name=tId
  ·rw[if_pos hid,if_pos hid]; exact hc.one
  rw[if_neg hid,if_neg hid]
  obtain⟨k,f,c,e1,e2,e3,e4,e5,hkd,hcl,h4,h5,h6⟩:=fits_at hs ht hty hk hid
  rw[e4]
  simp only
  have hl:∀y∈c.ids,∃u,thA s (kindOf s.types f.of) y=some u∧Cap (1+wL s x.kids u) (wrL s x.kids 1 u):=fun y hy=>by
   obtain⟨u,u1,u2,u3,u4,_⟩:=link_there hs ht e5 e3 hy (hI t ht c (List.mem_of_getElem? e3) y hy)
   obtain⟨ty',g1,g2,g3⟩:=h6 (fun e=>by rw[e] at hy; cases hy)
   have key:∀(l:List Sel) (n T:Nat),szL l<m→(∀z∈l,fKid s.types ty' z=0)→Cap T n→Cap (T+wL s l u) (wrL s l n u):=fun l=>by
    induction l with
    | nil=>intro n T _ _ h; simpa [wL,wrL] using h
    | cons a r ih =>
     intro n T h8 hf h
     simp only[szL] at h8
     simp only[wL,wrL]
     rw[←Nat.add_assoc]
     exact ih _ _ (by omega) (fun z hz=>hf z (List.mem_cons_of_mem _ hz)) (wr_cap hs hI m a u ty' n T (by omega) u1 (g3 u u1 u2) (hf a (List.mem_cons_self ..)) h)
   exact⟨u,u4,key x.kids 1 1 (by omega) (fKids_mem g2) ⟨fun _=>rfl,fun h=>by omega⟩⟩
  by_cases k12:f.kind=1∨f.kind=2
  ·have hi:c.ids=[]:=hcl.i0 (by unfold isLink; simp; omega)
   have ht0:takeA x.args []=[]:=by unfold takeA; split<;>simp
   rw[if_pos k12,hi,ht0,if_pos (.inl ⟨by omega,rfl⟩)]
   exact hc.one
  rw[if_neg k12]
  by_cases k4:f.kind=4
  ·rw[if_pos k4,if_pos (.inr k4),←Nat.add_assoc]
   exact cap_step _ _ _ hc.one fun y hy=>hl y (takeA_mem hy)
  rw[if_neg k4]
  have ha:takeA x.args c.ids=c.ids:=by unfold takeA; rw[h4 k4]
  rw[ha]
  cases hi:c.ids with
  | nil =>
   rw[if_pos (.inl ⟨by omega,rfl⟩)]
   exact hc.one
  | cons y r =>
   have hr:r=[]:=by
    have:=hcl.i3 (by omega)
    rw[hi] at this
    simpa using this
   subst hr
   rw[if_neg (by rintro (⟨_,h⟩|h); cases h; exact k4 h)]
   have:=cap_step (W:=wL s x.kids) [y] n T hc (fun z hz=>hl z (by rw[hi]; exact hz))
   simpa using this
end Go.Am
namespace Go.Am
set_option linter.all false
open Go Go.RowKit Go.Proofs
set_option maxRecDepth 100000
set_option linter.all false
theorem fold_next{α β:Type}{f:β→α→β}{A:List α}{j:Nat}{y:α}{n n' R:β}(hA:A[j]?=some y)(hs:f n y=n')(h:(A.drop j).foldl f n=R):(A.drop (j+1)).foldl f n'=R:=by
 obtain⟨z,h1,h2⟩:=drop_cons (List.getElem?_eq_some_iff.1 hA).1
 rw[hA] at h1
 injection h1 with h1
 subst h1
 rw[h2,List.foldl_cons,hs] at h
 exact h
set_option maxHeartbeats 4000000 in
theorem weight_ok{s:Sta}(hs:RtL s)(hI:IdsE s):∀(m:Nat) (l:List Sel) (t:Tg) (ty:Ty) (id:Nat),szL l<m→szL l≤1000000→t∈s.things→s.types[t.type.toNat]?=some ty→(∀x∈l,fKid s.types ty x=0) →
  FnOk Tryz.prog 31 [eSta s,eTg t,.sl (l.map eSel)] [] id (.int .i64 (wrL s l 1 t)) []
 | 0,l,t,ty,id,hm,_,_,_,_=>by omega
 | m+1,l,t,ty,id,hm,h8,ht,hty,hf=>by
  have hlen:=szL_len l
  have hl5:=hs.r.sch.len
  have hf6:=hs.r.sch.fields ty (List.mem_of_getElem? hty)
  have hu:=hs.r.tg t ht
  have hSe:eSta s = .agg [.sl (s.types.map eTy),.sl (s.things.map eTg)]:=rfl
  have hTe:eTg t = .agg [.int .i64 t.type,.int .i64 t.id,.sl (t.cells.map eCl)]:=rfl
  rw[hSe,hTe]
  refine fn_okc Tryz.func31 hcc31 (by decide) hcr31 (by simp[Tryz.ntmps31]) fun E hP hR hl hid=>?_
  simp only[cr31] at hR
  refine w_go 4000 ?_
  simp[cc31]
  refine w_loop (X:=Nat×Nat) (fun x=>⟨[(2,true,.sl (l.map eSel)),(3,true,.ptr E.n0 0 0),(4,true,.ptr (E.n0+1) 0 0),(7,true,.int .i64 x.2),(8,true,.int .i64 x.1)],
   [(E.n0,some ⟨[.agg [.sl (s.types.map eTy),.sl (s.things.map eTg)]],.agg [.sl (s.types.map eTy),.sl (s.things.map eTg)],false,false⟩),(E.n0+1,some ⟨[.agg [.int .i64 t.type,.int .i64 t.id,.sl (t.cells.map eCl)]],.agg [.int .i64 t.type,.int .i64 t.id,.sl (t.cells.map eCl)],false,false⟩)],2⟩)
   (fun x=>x.1≤l.length∧wrL s (l.drop x.1) x.2 t=wrL s l 1 t∧x.2≤8000000000+x.1) (fun x=>l.length - x.1) (0,1) ?_ ⟨by omega,rfl,by simp⟩ ?_
  ·have hrn:rnOk [(E.n0,E.n0),(E.n0+1,E.n0+1024)]:=by simp
   refine Conv.sub [(E.n0,E.n0),(E.n0+1,E.n0+1024)] hrn ?_ ?_ ?_ ?_ ?_<;>(try simp)
  rintro⟨i,n⟩ ⟨hi,hw,hn8⟩ p hp
  simp only at hi hw hn8 hp
  refine w_go 4000 ?_
  simp
  refine goc (fun h=>?_) (fun h=>?_)
  ·have h:=of_decide_eq_true h
   obtain⟨x,hx,hd⟩:=drop_cons h
   have hxm:=List.mem_of_getElem? hx
   have hsx:=szL_mem hxm
   have hsk:=szL_kids hxm
   have hi1:IntKind.i64.wrap ((i:Int)+1)=((i+1:Nat):Int):=wrap64 (by omega)
   have hn1:IntKind.i64.wrap ((n:Int)+1)=((n+1:Nat):Int):=wrap64 (by omega)
   rw[hd] at hw
   simp only[wrL] at hw
   rw[wrS_eq] at hw
   simp[hx,eSel_eq x]
   refine⟨h,?_⟩
   refine goc (fun hid=>?_) (fun hid=>?_)
   ·have hid:x.name=tId:=by simpa [tId] using hid
    rw[if_pos hid] at hw
    simp
    refine hp _ (i+1,n+1) ⟨h,hw,by omega⟩ (by simp; omega) ?_
    have hrn:rnOk [(E.n0,E.n0),(E.n0+1,E.n0+1)]:=by simp[hi1,hn1]
    refine Conv.sub [(E.n0,E.n0),(E.n0+1,E.n0+1)] hrn ?_ ?_ ?_ ?_ ?_<;>(try simp[hi1,hn1])
   have hid:x.name≠tId:=by simpa [tId] using hid
   rw[if_neg hid] at hw
   obtain⟨k,f,c,e1,e2,e3,e4,e5,hkd,hcl,h4,h5,h6⟩:=fits_at hs ht hty (hf x hxm) hid
   rw[e4] at hw
   simp only at hw
   have hFa:=fun id=>FieldAt_ok ty.fields x.name id (by omega)
   rw[e1] at hFa
   have hTy:eTy ty = .agg [.str ty.name,.sl (ty.fields.map eFd)]:=rfl
   have hFd:eFd f = .agg [.str f.name,.int .i64 f.kind,.str f.of]:=rfl
   have hCl:eCl c = .agg [.int .i64 c.n,.str c.text,.sl (c.ids.map eI)]:=rfl
   have hq:t.type=(t.type.toNat:Int):=by have:=hu.ty0; omega
   have hql:=(List.getElem?_eq_some_iff.1 hty).1
   have hkl:=(List.getElem?_eq_some_iff.1 e2).1
   have hcl8:=(List.getElem?_eq_some_iff.1 e3).1
   generalize t.type.toNat=q at hq hty hql
   simp only[hq] at hp ⊢
   have hi6:=hcl.i1
   simp[hx,eSel_eq x,hty,hTy]
   refine⟨hql,h,?_⟩
   (refine w_call hP rfl (hFa _) (by simp[hty,hTy,e2,e3,hFd,hCl,hx,eSel_eq x]) (by simp[hty,hTy,e2,e3,hFd,hCl,hx,eSel_eq x]<;>rfl) ?_; refine w_go 4000 ?_; simp[hty,hTy,e2,e3,hFd,hCl,hx,eSel_eq x])
   refine⟨hql,hkl,hcl8,fun g=>?_,?_⟩
   ·by_cases g4:f.kind<4
    ·exact .inr (g g4)
    ·exact .inl (by omega)
   refine goc (fun g=>?_) (fun g=>?_)
   ·have hb:(f.kind<4∧c.ids=[])∨f.kind=4:=by
     simp at g
     rcases g with⟨g1,g2⟩|g
     ·exact .inl ⟨g1,by simpa using g2⟩
     ·exact .inr g
    rw[if_pos hb] at hw
    simp
    refine w_loop (X:=Nat×Nat) (fun y=>⟨[(2,true,.sl (l.map eSel)),(3,true,.ptr E.n0 0 0),(4,true,.ptr (E.n0+1) 0 0),(7,true,.int .i64 y.2),(8,true,.int .i64 i),(10,true,.ptr (E.n0+2) 0 0),(11,true,.ptr (E.n0+3) 0 0),(12,true,.int .i64 y.1)],
     [(E.n0,some ⟨[.agg [.sl (s.types.map eTy),.sl (s.things.map eTg)]],.agg [.sl (s.types.map eTy),.sl (s.things.map eTg)],false,false⟩),(E.n0+1,some ⟨[.agg [.int .i64 q,.int .i64 t.id,.sl (t.cells.map eCl)]],.agg [.int .i64 q,.int .i64 t.id,.sl (t.cells.map eCl)],false,false⟩),(E.n0+2,some ⟨[.agg [.str f.name,.int .i64 f.kind,.str f.of]],.agg [.str [],.int .i64 0,.str []],false,false⟩),(E.n0+3,some ⟨[.agg [.int .i64 c.n,.str c.text,.sl (c.ids.map eI)]],.agg [.int .i64 0,.str [],.nils],false,false⟩)],4⟩)
     (fun y=>y.1≤c.ids.length∧((takeA x.args c.ids).drop y.1).foldl (wStep s (kindOf s.types f.of) (wrL s x.kids 1)) y.2=(takeA x.args c.ids).foldl (wStep s (kindOf s.types f.of) (wrL s x.kids 1)) (n+1)∧y.2≤8000000000+i+1) (fun y=>c.ids.length - y.1) (0,n+1) ?_ ⟨by omega,rfl,by simp; omega⟩ ?_
    ·have hrn:rnOk [(E.n0,E.n0),(E.n0+1,E.n0+1),(E.n0+2,E.n0+39938),(E.n0+3,E.n0+40962)]:=by simp[hn1]
     refine Conv.sub [(E.n0,E.n0),(E.n0+1,E.n0+1),(E.n0+2,E.n0+39938),(E.n0+3,E.n0+40962)] hrn ?_ ?_ ?_ ?_ ?_<;>(try simp[hn1])
    rintro⟨j,n2⟩ ⟨hj,hw2,hn2⟩ p2 hp2
    simp only at hj hw2 hn2 hp2
    refine w_go 4000 ?_
    simp
    refine goc (fun h2=>?_) (fun h2=>?_)
    ·have h2:j<c.ids.length∧n2≤2000:=by simp at h2; omega
     obtain⟨y,hy⟩:∃y,c.ids[j]?=some y:=⟨_,List.getElem?_eq_getElem h2.1⟩
     have hj1:IntKind.i64.wrap ((j:Int)+1)=((j+1:Nat):Int):=wrap64 (by omega)
     obtain⟨u,u1,u2,u3,u4,k',u5,u6⟩:=link_there hs ht e5 e3 (List.mem_of_getElem? hy) (hI t ht c (List.mem_of_getElem? e3) y (List.mem_of_getElem? hy))
     obtain⟨ty',g1,g2,g3⟩:=h6 (fun e=>by rw[e] at hy; cases hy)
     have hTA:=fun id=>TypeAt_ok s.types f.of id (by omega)
     rw[show findJ (fun z:Ty=>z.name==f.of) s.types 0=kindOf s.types f.of from rfl] at hTA
     have hTh:=fun id=>ThingAt_ok s (kindOf s.types f.of) y id (by have:=hs.r.len; omega)
     rw[u5,hSe] at hTh
     have hWt:=fun id=>weight_ok hs hI m x.kids u ty' id (by omega) (by omega) u1 (g3 u u1 u2) (fKids_mem g2)
     rw[hSe,tg_eq u] at hWt
     have hu6:=(List.getElem?_eq_some_iff.1 u6).1
     have hb2:=wrL_le s x.kids 1 u
     have hn3:IntKind.i64.wrap ((n2:Int)+wrL s x.kids 1 u)=((n2+wrL s x.kids 1 u:Nat):Int):=wrap64 (by omega)
     cases hxa:x.args with
     | nil =>
      simp[hx,eSel_eq x,hxa]
      refine⟨h,?_⟩
      (refine w_call hP rfl (hTA _) (by simp[hx,eSel_eq x,hy,eI]) (by simp[hx,eSel_eq x,hy,eI]<;>rfl) ?_; refine w_go 4000 ?_; simp[hx,eSel_eq x,hy,eI])
      refine⟨h2.1,?_⟩
      (refine w_call hP rfl (hTh _) (by simp[hx,eSel_eq x,hy,eI,u6,tg_eq u]) (by simp[hx,eSel_eq x,hy,eI,u6,tg_eq u]<;>rfl) ?_; refine w_go 4000 ?_; simp[hx,eSel_eq x,hy,eI,u6,tg_eq u])
      refine⟨hu6,h,?_⟩
      (refine w_call hP rfl (hWt _) (by simp[hn3]) (by simp[hn3]<;>rfl) ?_; refine w_go 4000 ?_; simp[hn3])
      refine hp2 _ (j+1,n2+wrL s x.kids 1 u) ⟨h2.1,fold_next (by unfold takeA; rw[hxa]; exact hy) (by unfold wStep; rw[if_pos h2.2,u4]) hw2,by simp only; omega⟩ (by simp; omega) ?_
      have hrn:rnOk [(E.n0,E.n0),(E.n0+1,E.n0+1),(E.n0+2,E.n0+2),(E.n0+3,E.n0+3)]:=by simp[hj1,hn3]
      refine Conv.sub [(E.n0,E.n0),(E.n0+1,E.n0+1),(E.n0+2,E.n0+2),(E.n0+3,E.n0+3)] hrn ?_ ?_ ?_ ?_ ?_<;>(try simp[hj1,hn3])
     | cons ag rg =>
      have hr0:((rg.length:Int)+1==0)=false:=by simp; omega
      obtain⟨ag0,ag1⟩:=h5 ag rg hxa
      simp[hx,eSel_eq x,hxa,eAg_eq ag,hr0]
      refine⟨h,?_⟩
      refine goc (fun h3=>?_) (fun h3=>?_)
      ·have h3:(j:Int)<ag.n:=by simpa using h3
       simp[hx,eSel_eq x]
       (refine w_call hP rfl (hTA _) (by simp[hx,eSel_eq x,hy,eI]) (by simp[hx,eSel_eq x,hy,eI]<;>rfl) ?_; refine w_go 4000 ?_; simp[hx,eSel_eq x,hy,eI])
       refine⟨h2.1,?_⟩
       (refine w_call hP rfl (hTh _) (by simp[hx,eSel_eq x,hy,eI,u6,tg_eq u]) (by simp[hx,eSel_eq x,hy,eI,u6,tg_eq u]<;>rfl) ?_; refine w_go 4000 ?_; simp[hx,eSel_eq x,hy,eI,u6,tg_eq u])
       refine⟨hu6,h,?_⟩
       (refine w_call hP rfl (hWt _) (by simp[hn3]) (by simp[hn3]<;>rfl) ?_; refine w_go 4000 ?_; simp[hn3])
       refine hp2 _ (j+1,n2+wrL s x.kids 1 u) ⟨h2.1,fold_next (by unfold takeA; rw[hxa]; simp only; rw[List.getElem?_take_of_lt (by omega)]; exact hy) (by unfold wStep; rw[if_pos h2.2,u4]) hw2,by simp only; omega⟩ (by simp; omega) ?_
       have hrn:rnOk [(E.n0,E.n0),(E.n0+1,E.n0+1),(E.n0+2,E.n0+2),(E.n0+3,E.n0+3)]:=by simp[hj1,hn3]
       refine Conv.sub [(E.n0,E.n0),(E.n0+1,E.n0+1),(E.n0+2,E.n0+2),(E.n0+3,E.n0+3)] hrn ?_ ?_ ?_ ?_ ?_<;>(try simp[hj1,hn3])
      ·have h3:¬(j:Int)<ag.n:=by simpa using h3
       have hd0:∀k,j≤k→(takeA x.args c.ids).drop k=[]:=fun k hk=>List.drop_of_length_le (by unfold takeA; rw[hxa]; simp only[List.length_take]; omega)
       rw[hd0 j (Nat.le_refl _)] at hw2
       simp
       refine hp2 _ (j+1,n2) ⟨h2.1,by rw[hd0 (j+1) (by omega)]; exact hw2,hn2⟩ (by simp; omega) ?_
       have hrn:rnOk [(E.n0,E.n0),(E.n0+1,E.n0+1),(E.n0+2,E.n0+2),(E.n0+3,E.n0+3)]:=by simp[hj1]
       refine Conv.sub [(E.n0,E.n0),(E.n0+1,E.n0+1),(E.n0+2,E.n0+2),(E.n0+3,E.n0+3)] hrn ?_ ?_ ?_ ?_ ?_<;>(try simp[hj1])
    ·simp
     have hend:n2=(takeA x.args c.ids).foldl (wStep s (kindOf s.types f.of) (wrL s x.kids 1)) (n+1):=by
      rw[←hw2]
      by_cases hjl:j<c.ids.length
      ·rw[wStep_stop _ _ (by simp[hjl] at h2; omega)]
      ·have hd0:(takeA x.args c.ids).drop j=[]:=List.drop_of_length_le (by
        have:(takeA x.args c.ids).length≤c.ids.length:=by
         unfold takeA
         split
         ·omega
         ·rw[List.length_take]; omega
        omega)
       rw[hd0]; rfl
     rw[←hend] at hw
     refine hp _ (i+1,n2) ⟨h,hw,by omega⟩ (by simp; omega) ?_
     have hrn:rnOk [(E.n0,E.n0),(E.n0+1,E.n0+1)]:=by simp[hi1]
     refine Conv.sub [(E.n0,E.n0),(E.n0+1,E.n0+1)] hrn ?_ ?_ ?_ ?_ ?_<;>(try simp[hi1])
   ·have hb:¬((f.kind<4∧c.ids=[])∨f.kind=4):=by
     simp at g
     rintro (⟨g1,g2⟩|g3)
     ·exact absurd g2 (by simpa using g.1 g1)
     ·exact g.2 g3
    rw[if_neg hb] at hw
    simp only[Nat.add_zero] at hw
    simp
    refine w_loop (X:=Nat×Nat) (fun y=>⟨[(2,true,.sl (l.map eSel)),(3,true,.ptr E.n0 0 0),(4,true,.ptr (E.n0+1) 0 0),(7,true,.int .i64 y.2),(8,true,.int .i64 i),(10,true,.ptr (E.n0+2) 0 0),(11,true,.ptr (E.n0+3) 0 0),(12,true,.int .i64 y.1)],
     [(E.n0,some ⟨[.agg [.sl (s.types.map eTy),.sl (s.things.map eTg)]],.agg [.sl (s.types.map eTy),.sl (s.things.map eTg)],false,false⟩),(E.n0+1,some ⟨[.agg [.int .i64 q,.int .i64 t.id,.sl (t.cells.map eCl)]],.agg [.int .i64 q,.int .i64 t.id,.sl (t.cells.map eCl)],false,false⟩),(E.n0+2,some ⟨[.agg [.str f.name,.int .i64 f.kind,.str f.of]],.agg [.str [],.int .i64 0,.str []],false,false⟩),(E.n0+3,some ⟨[.agg [.int .i64 c.n,.str c.text,.sl (c.ids.map eI)]],.agg [.int .i64 0,.str [],.nils],false,false⟩)],4⟩)
     (fun y=>y.1≤c.ids.length∧((takeA x.args c.ids).drop y.1).foldl (wStep s (kindOf s.types f.of) (wrL s x.kids 1)) y.2=(takeA x.args c.ids).foldl (wStep s (kindOf s.types f.of) (wrL s x.kids 1)) (n)∧y.2≤8000000000+i+1) (fun y=>c.ids.length - y.1) (0,n) ?_ ⟨by omega,rfl,by simp; omega⟩ ?_
    ·have hrn:rnOk [(E.n0,E.n0),(E.n0+1,E.n0+1),(E.n0+2,E.n0+39938),(E.n0+3,E.n0+40962)]:=by simp[hn1]
     refine Conv.sub [(E.n0,E.n0),(E.n0+1,E.n0+1),(E.n0+2,E.n0+39938),(E.n0+3,E.n0+40962)] hrn ?_ ?_ ?_ ?_ ?_<;>(try simp[hn1])
    rintro⟨j,n2⟩ ⟨hj,hw2,hn2⟩ p2 hp2
    simp only at hj hw2 hn2 hp2
    refine w_go 4000 ?_
    simp
    refine goc (fun h2=>?_) (fun h2=>?_)
    ·have h2:j<c.ids.length∧n2≤2000:=by simp at h2; omega
     obtain⟨y,hy⟩:∃y,c.ids[j]?=some y:=⟨_,List.getElem?_eq_getElem h2.1⟩
     have hj1:IntKind.i64.wrap ((j:Int)+1)=((j+1:Nat):Int):=wrap64 (by omega)
     obtain⟨u,u1,u2,u3,u4,k',u5,u6⟩:=link_there hs ht e5 e3 (List.mem_of_getElem? hy) (hI t ht c (List.mem_of_getElem? e3) y (List.mem_of_getElem? hy))
     obtain⟨ty',g1,g2,g3⟩:=h6 (fun e=>by rw[e] at hy; cases hy)
     have hTA:=fun id=>TypeAt_ok s.types f.of id (by omega)
     rw[show findJ (fun z:Ty=>z.name==f.of) s.types 0=kindOf s.types f.of from rfl] at hTA
     have hTh:=fun id=>ThingAt_ok s (kindOf s.types f.of) y id (by have:=hs.r.len; omega)
     rw[u5,hSe] at hTh
     have hWt:=fun id=>weight_ok hs hI m x.kids u ty' id (by omega) (by omega) u1 (g3 u u1 u2) (fKids_mem g2)
     rw[hSe,tg_eq u] at hWt
     have hu6:=(List.getElem?_eq_some_iff.1 u6).1
     have hb2:=wrL_le s x.kids 1 u
     have hn3:IntKind.i64.wrap ((n2:Int)+wrL s x.kids 1 u)=((n2+wrL s x.kids 1 u:Nat):Int):=wrap64 (by omega)
     cases hxa:x.args with
     | nil =>
      simp[hx,eSel_eq x,hxa]
      refine⟨h,?_⟩
      (refine w_call hP rfl (hTA _) (by simp[hx,eSel_eq x,hy,eI]) (by simp[hx,eSel_eq x,hy,eI]<;>rfl) ?_; refine w_go 4000 ?_; simp[hx,eSel_eq x,hy,eI])
      refine⟨h2.1,?_⟩
      (refine w_call hP rfl (hTh _) (by simp[hx,eSel_eq x,hy,eI,u6,tg_eq u]) (by simp[hx,eSel_eq x,hy,eI,u6,tg_eq u]<;>rfl) ?_; refine w_go 4000 ?_; simp[hx,eSel_eq x,hy,eI,u6,tg_eq u])
      refine⟨hu6,h,?_⟩
      (refine w_call hP rfl (hWt _) (by simp[hn3]) (by simp[hn3]<;>rfl) ?_; refine w_go 4000 ?_; simp[hn3])
      refine hp2 _ (j+1,n2+wrL s x.kids 1 u) ⟨h2.1,fold_next (by unfold takeA; rw[hxa]; exact hy) (by unfold wStep; rw[if_pos h2.2,u4]) hw2,by simp only; omega⟩ (by simp; omega) ?_
      have hrn:rnOk [(E.n0,E.n0),(E.n0+1,E.n0+1),(E.n0+2,E.n0+2),(E.n0+3,E.n0+3)]:=by simp[hj1,hn3]
      refine Conv.sub [(E.n0,E.n0),(E.n0+1,E.n0+1),(E.n0+2,E.n0+2),(E.n0+3,E.n0+3)] hrn ?_ ?_ ?_ ?_ ?_<;>(try simp[hj1,hn3])
     | cons ag rg =>
      have hr0:((rg.length:Int)+1==0)=false:=by simp; omega
      obtain⟨ag0,ag1⟩:=h5 ag rg hxa
      simp[hx,eSel_eq x,hxa,eAg_eq ag,hr0]
      refine⟨h,?_⟩
      refine goc (fun h3=>?_) (fun h3=>?_)
      ·have h3:(j:Int)<ag.n:=by simpa using h3
       simp[hx,eSel_eq x]
       (refine w_call hP rfl (hTA _) (by simp[hx,eSel_eq x,hy,eI]) (by simp[hx,eSel_eq x,hy,eI]<;>rfl) ?_; refine w_go 4000 ?_; simp[hx,eSel_eq x,hy,eI])
       refine⟨h2.1,?_⟩
       (refine w_call hP rfl (hTh _) (by simp[hx,eSel_eq x,hy,eI,u6,tg_eq u]) (by simp[hx,eSel_eq x,hy,eI,u6,tg_eq u]<;>rfl) ?_; refine w_go 4000 ?_; simp[hx,eSel_eq x,hy,eI,u6,tg_eq u])
       refine⟨hu6,h,?_⟩
       (refine w_call hP rfl (hWt _) (by simp[hn3]) (by simp[hn3]<;>rfl) ?_; refine w_go 4000 ?_; simp[hn3])
       refine hp2 _ (j+1,n2+wrL s x.kids 1 u) ⟨h2.1,fold_next (by unfold takeA; rw[hxa]; simp only; rw[List.getElem?_take_of_lt (by omega)]; exact hy) (by unfold wStep; rw[if_pos h2.2,u4]) hw2,by simp only; omega⟩ (by simp; omega) ?_
       have hrn:rnOk [(E.n0,E.n0),(E.n0+1,E.n0+1),(E.n0+2,E.n0+2),(E.n0+3,E.n0+3)]:=by simp[hj1,hn3]
       refine Conv.sub [(E.n0,E.n0),(E.n0+1,E.n0+1),(E.n0+2,E.n0+2),(E.n0+3,E.n0+3)] hrn ?_ ?_ ?_ ?_ ?_<;>(try simp[hj1,hn3])
      ·have h3:¬(j:Int)<ag.n:=by simpa using h3
       have hd0:∀k,j≤k→(takeA x.args c.ids).drop k=[]:=fun k hk=>List.drop_of_length_le (by unfold takeA; rw[hxa]; simp only[List.length_take]; omega)
       rw[hd0 j (Nat.le_refl _)] at hw2
       simp
       refine hp2 _ (j+1,n2) ⟨h2.1,by rw[hd0 (j+1) (by omega)]; exact hw2,hn2⟩ (by simp; omega) ?_
       have hrn:rnOk [(E.n0,E.n0),(E.n0+1,E.n0+1),(E.n0+2,E.n0+2),(E.n0+3,E.n0+3)]:=by simp[hj1]
       refine Conv.sub [(E.n0,E.n0),(E.n0+1,E.n0+1),(E.n0+2,E.n0+2),(E.n0+3,E.n0+3)] hrn ?_ ?_ ?_ ?_ ?_<;>(try simp[hj1])
    ·simp
     have hend:n2=(takeA x.args c.ids).foldl (wStep s (kindOf s.types f.of) (wrL s x.kids 1)) (n):=by
      rw[←hw2]
      by_cases hjl:j<c.ids.length
      ·rw[wStep_stop _ _ (by simp[hjl] at h2; omega)]
      ·have hd0:(takeA x.args c.ids).drop j=[]:=List.drop_of_length_le (by
        have:(takeA x.args c.ids).length≤c.ids.length:=by
         unfold takeA
         split
         ·omega
         ·rw[List.length_take]; omega
        omega)
       rw[hd0]; rfl
     rw[←hend] at hw
     refine hp _ (i+1,n2) ⟨h,hw,by omega⟩ (by simp; omega) ?_
     have hrn:rnOk [(E.n0,E.n0),(E.n0+1,E.n0+1)]:=by simp[hi1]
     refine Conv.sub [(E.n0,E.n0),(E.n0+1,E.n0+1)] hrn ?_ ?_ ?_ ?_ ?_<;>(try simp[hi1])
  ·have h:=of_decide_eq_false h
   simp
   rw[List.drop_of_length_le (by omega)] at hw
   simp only[wrL] at hw
   rw[←hw] at hR
   rw[hR]; exact rt_end (by simp<;>rfl) [] trivial (end_pure (by simp) (by simp) (by simp))
end Go.Am
