/- Parts of the proof: an abstract machine for Go functions, and what functions of the program give back (Ex17, Ex18, Ex19). No condition. -/
import Derived.Test.YtbjmmndeeeoloaaGreatDoorYD
import Derived.Test.YtbjmmndeeeoloaaGreatDoorXJ
namespace Go.Am
set_option linter.all false
open Go Go.RowKit Go.Proofs
set_option maxRecDepth 100000
set_option linter.all false
theorem cellsB_iffE{p:Fd→Cl→Bool}:∀{fs:List Fd} {cs:List Cl},cellsB p fs cs=true→∀(k:Nat) f c,fs[k]?=some f→cs[k]?=some c→p f c=true
 | [],cs,_=>by simp
 | f::fs,[],_=>by simp
 | f::fs,c::cs,h=>by
  rw[cellsB,Bool.and_eq_true] at h
  obtain⟨h1,h2⟩:=h
  intro k f' c' hf hc
  cases k with
  | zero=>simp at hf hc; subst hf hc; exact h1
  | succ k=>exact cellsB_iffE h2 k f' c' (by simpa using hf) (by simpa using hc)
structure RtL(s:Sta):Prop where
 r:RtS s
 srt:Srt s.things
 lnk:∀t∈s.things,∀(k:Nat) f c,(fldsAt s.types t.type)[k]?=some f→t.cells[k]?=some c→∀x∈c.ids,I64 x→isThere s f x=true
theorem rtL_of{s:Sta}(h:fSt s=0):RtL s:=by
 have hs:=rtS_of h
 unfold fSt at h
 split at h
 ·rename_i g; exact (g h).elim
 split at h
 ·cases h
 split at h
 ·rename_i g; exact (g h).elim
 rename_i g
 split at h
 ·rename_i g2
  refine⟨hs,(srt_of hs.sch (Classical.byContradiction g)).2,fun t ht k f c hf hc x hx _=>?_⟩
  simp only[eachB,List.all_eq_true] at g2
  have:=cellsB_iffE (g2 t ht) k f c hf hc
  simp only[Bool.not_eq_true',List.any_eq_false] at this
  simpa using this x hx
 ·cases h
theorem srt_one{l:List Tg}(h:Srt l){u v:Tg}(hu:u∈l)(hv:v∈l)(h1:u.type=v.type)(h2:u.id=v.id):u=v:=by
 obtain⟨i,hi⟩:=List.mem_iff_getElem?.1 hu
 obtain⟨j,hj⟩:=List.mem_iff_getElem?.1 hv
 rcases Nat.lt_trichotomy i j with g|g|g
 ·have:=h.asc i j u v g hi hj
  simp[aheadB,h1,h2] at this
 ·subst g; rw[hi] at hj; simpa using hj
 ·have:=h.asc j i v u g hj hi
  simp[aheadB,h1,h2] at this
theorem thA_some{s:Sta}(hs:RtL s){kd x:Int}(hk : -1≤kd∧kd≤5)(hx:I64 x){u:Tg}(hu:u∈s.things)(h1:u.type=kd)(h2:u.id=x):thA s kd x=some u∧∃k:Nat,tgAt s.things kd x=(k:Int)∧s.things[k]?=some u:=by
 obtain⟨j,hj⟩:=List.mem_iff_getElem?.1 hu
 have hf:=hs.srt.found hj
 rw[h1,h2] at hf
 have hi:isTg kd x u=true:=by simp[isTg,h1,h2]
 have hb:fFindB s.things kd x=true:=by
  rw[hs.srt.findB (by omega) hx,List.any_eq_true]
  exact⟨u,hu,hi⟩
 refine⟨by unfold thA; rw[if_pos hb,hf,hj],?_⟩
 rcases findJ_spec (isTg kd x) s.things 0 with⟨r1,r2⟩|⟨k,t,r1,r2,r3⟩
 ·have:=List.find?_eq_none.1 r1 u hu
  exact (this hi).elim
 ·have ht:=List.find?_some r3
  simp[isTg] at ht
  have:=srt_one hs.srt (List.mem_of_getElem? r1) hu (by rw[ht.1,h1]) (by rw[ht.2,h2])
  subst this
  exact⟨k,by unfold tgAt; rw[r2]; simp,r1⟩
end Go.Am
namespace Go.Am
set_option linter.all false
open Go Go.RowKit Go.Proofs
set_option maxRecDepth 100000
set_option linter.all false
def Cap(T r:Nat):Prop:=(T≤2000→r=T)∧(2000<T→2000<r)
theorem Cap.one{T r:Nat}(h:Cap T r):Cap (T+1) (r+1):=by unfold Cap at *; omega
def IdsE(s:Sta):Prop:=∀t∈s.things,∀c∈t.cells,∀x∈c.ids,I64 x
theorem fits_at{s:Sta}(hs:RtL s){t:Tg}(ht:t∈s.things){ty:Ty}(hty:s.types[t.type.toNat]?=some ty){x:Sel}(hk:fKid s.types ty x=0)(hid:x.name≠tId):
  ∃(k:Nat) (f:Fd) (c:Cl),findJ (fun g=>g.name==x.name) ty.fields 0=(k:Int)∧ty.fields[k]?=some f∧t.cells[k]?=some c∧fcOf s t x.name=some (f,c)∧(fldsAt s.types t.type)[k]?=some f∧(1≤f.kind∧f.kind≤4)∧ClOk f c∧(f.kind≠4→x.args=[]) ∧
   (∀a r,x.args=a::r→0≤a.n∧a.n≤999999999)∧(c.ids≠[]→∃ty',typeAt s.types f.of=some ty'∧fKids s.types ty' x.kids=0∧∀v∈s.things,v.type=kindOf s.types f.of→s.types[v.type.toNat]?=some ty'):=by
 rw[fKid_eq] at hk
 unfold fieldAt at hk
 rw[if_neg hid] at hk
 have hu:=hs.r.tg t ht
 have hfl:fldsAt s.types t.type=ty.fields:=by unfold fldsAt; rw[hty]; rfl
 rcases findJ_spec (fun g=>g.name==x.name) ty.fields 0 with⟨r1,r2⟩|⟨k,f,r1,r2,r3⟩
 ·rw[r1] at hk; simp at hk
 rw[r3] at hk
 simp only at hk
 rw[Nat.zero_add] at r2
 have hkd:=hs.r.sch.kinds ty (List.mem_of_getElem? hty) f (List.mem_of_getElem? r1)
 have hlen:=hu.len
 rw[hfl] at hlen
 have hk6:=(List.getElem?_eq_some_iff.1 r1).1
 obtain⟨c,hc⟩:∃c,t.cells[k]?=some c:=⟨_,List.getElem?_eq_getElem (by omega)⟩
 obtain⟨f',hf',hcl⟩:=hu.cellOk hc
 rw[hfl,r1] at hf'
 obtain rfl:f=f':=by simpa using hf'
 split at hk
 ·rename_i h0; exact (h0 hk).elim
 rename_i hA
 have hA:=Classical.byContradiction hA
 split at hk
 ·simp at hk
 have hfc:fcOf s t x.name=some (f,c):=by
  unfold fcOf
  rw[hfl,r2]
  simp[r1,hc]
 refine⟨k,f,c,r2,r1,hc,hfc,by rw[hfl,r1],hkd,hcl,fun h4=>?_,fun a r e=>argsV_head (by rw[e] at hA; exact hA),fun hne=>?_⟩
 ·cases hx:x.args with
  | nil=>rfl
  | cons a r =>
   rw[hx,show (f.kind==4)=false by simpa using h4] at hA
   unfold fArgsV firstE at hA
   simp[fArgV] at hA
 ·have hk34:f.kind=3∨f.kind=4:=by
   refine Classical.byContradiction fun hn=>hne (hcl.i0 (by unfold isLink; simp; omega))
  rw[if_neg (by simp; omega)] at hk
  rcases findJ_spec (fun t=>t.name==f.of) s.types 0 with⟨q1,q2⟩|⟨j,t',q1,q2,q3⟩
  ·exfalso
   have:=hs.r.sch.linked ty (List.mem_of_getElem? hty) f (List.mem_of_getElem? r1) hk34
   unfold hasT at this
   rw[List.any_eq_true] at this
   obtain⟨z,hz1,hz2⟩:=this
   exact List.find?_eq_none.1 q1 z hz1 hz2
  ·have h':typeAt s.types f.of=some t':=q3
   rw[h'] at hk
   refine⟨t',h',hk,fun v hv hvt=>?_⟩
   rw[hvt]; unfold kindOf; rw[q2]
   simpa using q1
end Go.Am
namespace Go.Am
set_option linter.all false
open Go Go.RowKit Go.Proofs
set_option maxRecDepth 100000
set_option linter.all false
end Go.Am
