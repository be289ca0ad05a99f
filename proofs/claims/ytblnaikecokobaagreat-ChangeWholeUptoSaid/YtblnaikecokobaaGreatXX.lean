/- Parts of the proof: an abstract machine for Go functions, and what functions of the program give back (Pu1, Pu2, Pu3, Pu4). No condition. -/
import Derived.Test.YtblnaikecokobaaGreatXV
import Derived.Test.YtblnaikecokobaaGreatXW
namespace Go.Am
set_option linter.all false
open Go Go.RowKit Go.Proofs
set_option maxRecDepth 100000
set_option linter.all false
theorem bs_mono(f:Nat→Int)(n:Nat)(hm:∀k m,k≤m→m<n→f m<0→f k<0):∀a b,a≤b→b≤n→(∀k,k<a→f k<0)→(∀k,b≤k→k<n→¬f k<0)→(∀k,k<bs f a b→f k<0)∧(∀k,bs f a b≤k→k<n→¬f k<0):=fun a b=>by
 fun_induction bs f a b with
 | case1 i j h hf ih =>
  intro h1 h2 h3 h4
  exact ih (by omega) h2 (fun k hk=>hm k ((i+j) / 2) (by omega) (by omega) hf) h4
 | case2 i j h hf ih =>
  intro h1 h2 h3 h4
  refine ih (by omega) (by omega) h3 fun k hk hkn h5=>hf (hm _ k hk hkn h5)
 | case3 i j h =>
  intro h1 h2 h3 h4
  exact⟨h3,fun k hk=>h4 k (by omega)⟩
abbrev tLt(a b:Tg):Prop:=aheadB a.type a.id b.type b.id=true
theorem Srt.pw{l:List Tg}(h:Srt l):l.Pairwise tLt:=by
 rw[List.pairwise_iff_getElem]
 exact fun i j hi hj hij=>h.asc i j _ _ hij (List.getElem?_eq_getElem hi) (List.getElem?_eq_getElem hj)
theorem srtPw{l:List Tg}(h1:∀t∈l,0≤t.type∧t.type≤1000)(h2:∀t∈l,1≤t.id∧t.id≤999)(h:l.Pairwise tLt):Srt l:=by
 refine⟨h1,h2,fun i j a b hij ha hb=>?_⟩
 rw[List.pairwise_iff_getElem] at h
 obtain⟨hi,rfl⟩:=List.getElem?_eq_some_iff.1 ha
 obtain⟨hj,rfl⟩:=List.getElem?_eq_some_iff.1 hb
 exact h i j hi hj hij
theorem mem_take_get{α:Type}{l:List α}{i:Nat}{x:α}(h:x∈l.take i):∃j,j<i∧l[j]?=some x:=by
 obtain⟨j,hj⟩:=List.mem_iff_getElem?.1 h
 rw[List.getElem?_take] at hj
 split at hj
 ·exact⟨j,by assumption,hj⟩
 ·cases hj
theorem mem_drop_get{α:Type}{l:List α}{i:Nat}{x:α}(h:x∈l.drop i):∃j,i≤j∧l[j]?=some x:=by
 obtain⟨j,hj⟩:=List.mem_iff_getElem?.1 h
 rw[List.getElem?_drop] at hj
 exact⟨i+j,by omega,hj⟩
section
variable {l:List Tg} (hl:Srt l) {kind tid:Int} (h2:0≤kind∧kind≤1000) (h4:1≤tid∧tid≤999)
include hl h2 h4
theorem Srt.part:(∀t∈l.take (fFindI l kind tid),aheadB t.type t.id kind tid=true)∧(∀t∈l.drop (fFindI l kind tid),aheadB t.type t.id kind tid=false):=by
 have hb:=bs_mono (fOrdAt l kind tid) l.length (fun k m hkm hm hf=>by
  obtain⟨a,ha⟩:∃a,l[k]?=some a:=⟨_,List.getElem?_eq_getElem (by omega)⟩
  obtain⟨b,hb⟩:∃b,l[m]?=some b:=⟨_,List.getElem?_eq_getElem (by omega)⟩
  have ham:=List.mem_of_getElem? ha
  have hbm:=List.mem_of_getElem? hb
  simp only[fOrdAt,hb] at hf
  simp only[fOrdAt,ha]
  rw[ord_ahead2 (hl.ty b hbm) h2 (hl.id b hbm) h4] at hf
  rw[ord_ahead2 (hl.ty a ham) h2 (hl.id a ham) h4]
  rcases Nat.lt_or_ge k m with h|h
  ·exact ahead_trans (hl.asc k m a b h ha hb) hf
  ·obtain rfl:k=m:=by omega
   rw[ha] at hb; injection hb with hb; subst hb; exact hf) 0 l.length (by omega) (by omega) (by omega) (by omega)
 refine⟨fun t ht=>?_,fun t ht=>?_⟩
 ·obtain⟨j,hj,hjt⟩:=mem_take_get ht
  have:=hb.1 j hj
  have htm:=List.mem_of_getElem? hjt
  simp only[fOrdAt,hjt] at this
  rwa [ord_ahead2 (hl.ty t htm) h2 (hl.id t htm) h4] at this
 ·obtain⟨j,hj,hjt⟩:=mem_drop_get ht
  have:=hb.2 j hj (List.getElem?_eq_some_iff.1 hjt).1
  have htm:=List.mem_of_getElem? hjt
  simp only[fOrdAt,hjt] at this
  rw[ord_ahead2 (hl.ty t htm) h2 (hl.id t htm) h4] at this
  simpa using this
theorem Srt.notThere(h:fFindB l kind tid=false):∀t∈l,¬(t.type=kind∧t.id=tid):=by
 rw[hl.findB (by omega) (by unfold I64; omega)] at h
 intro t ht ⟨e1,e2⟩
 have:l.any (isTg kind tid)=true:=List.any_eq_true.2 ⟨t,ht,by simp[isTg,e1,e2]⟩
 rw[h] at this; cases this
theorem Srt.insert(h:fFindB l kind tid=false){x:Tg}(hx:x.type=kind∧x.id=tid):Srt (l.take (fFindI l kind tid)++x::l.drop (fFindI l kind tid)):=by
 obtain⟨p1,p2⟩:=hl.part h2 h4
 have hno:=hl.notThere h2 h4 h
 have hm:∀t∈l.take (fFindI l kind tid)++x::l.drop (fFindI l kind tid),t∈l∨t=x:=fun t ht=>by
  rcases List.mem_append.1 ht with ht|ht
  ·exact .inl (List.mem_of_mem_take ht)
  ·rcases List.mem_cons.1 ht with ht|ht
   ·exact .inr ht
   ·exact .inl (List.mem_of_mem_drop ht)
 have hpw:=hl.pw
 have hsp:l.Pairwise tLt:=hpw
 rw[←List.take_append_drop (fFindI l kind tid) l,List.pairwise_append] at hsp
 refine srtPw (fun t ht=>?_) (fun t ht=>?_) (List.pairwise_append.2 ⟨hsp.1,List.pairwise_cons.2 ⟨fun b hb=>?_,hsp.2.1⟩,fun a ha b hb=>?_⟩)
 ·rcases hm t ht with h|rfl
  ·exact hl.ty t h
  ·omega
 ·rcases hm t ht with h|rfl
  ·exact hl.id t h
  ·omega
 ·have h5:=p2 b hb
  have h6:=hno b (List.mem_of_mem_drop hb)
  show aheadB _ _ _ _=true
  rw[hx.1,hx.2]
  simp[aheadB] at h5 ⊢
  omega
 ·rcases List.mem_cons.1 hb with rfl|hb
  ·show aheadB _ _ _ _=true
   rw[hx.1,hx.2]; exact p1 a ha
  ·exact hsp.2.2 a ha b hb
theorem Srt.thereAt(h:fFindB l kind tid=true):∃t,l[fFindI l kind tid]?=some t∧t.type=kind∧t.id=tid:=by
 simp only[fFindB,Bool.and_eq_true,decide_eq_true_eq] at h
 obtain⟨hlt,hz⟩:=h
 obtain⟨u,hu⟩:∃u,l[fFindI l kind tid]?=some u:=⟨_,List.getElem?_eq_getElem hlt⟩
 have hum:=List.mem_of_getElem? hu
 simp only[fOrdAt,hu] at hz
 rw[ord_zero (hl.ty u hum) (by omega) (hl.id u hum) (by unfold I64; omega)] at hz
 exact⟨u,hu,hz⟩
end
theorem Srt.sub{l l':List Tg}(h:Srt l)(hs:l'.Sublist l):Srt l' :=
 srtPw (fun t ht=>h.ty t (hs.subset ht)) (fun t ht=>h.id t (hs.subset ht)) (h.pw.sublist hs)
theorem cut_sub{α:Type}(l:List α)(i:Nat):(l.take i++l.drop (i+1)).Sublist l:=by
 conv=>rhs; rw[←List.take_append_drop i l]
 refine (List.Sublist.refl _).append ?_
 rw[←List.tail_drop]
 exact List.tail_sublist _
theorem fOrdAt_key{l l':List Tg}(h:l.map (fun t=>(t.type,t.id))=l'.map (fun t=>(t.type,t.id)))(kind tid:Int):fOrdAt l kind tid=fOrdAt l' kind tid:=by
 funext k
 have:(l.map (fun t=>(t.type,t.id)))[k]?=(l'.map (fun t=>(t.type,t.id)))[k]?:=by rw[h]
 rw[List.getElem?_map,List.getElem?_map] at this
 unfold fOrdAt
 cases h1:l[k]?<;>cases h2:l'[k]?<;>simp[h1,h2] at this ⊢
 rw[this.1,this.2]
theorem find_key{l l':List Tg}(h:l.map (fun t=>(t.type,t.id))=l'.map (fun t=>(t.type,t.id)))(kind tid:Int):fFindI l kind tid=fFindI l' kind tid∧fFindB l kind tid=fFindB l' kind tid:=by
 have hl:l.length=l'.length:=by have:=congrArg List.length h; simpa using this
 unfold fFindB fFindI
 rw[fOrdAt_key h,hl]
 exact⟨rfl,rfl⟩
theorem Srt.key{l l':List Tg}(hl:Srt l)(h:l.map (fun t=>(t.type,t.id))=l'.map (fun t=>(t.type,t.id))):Srt l':=by
 have hg:∀(k:Nat) t,l'[k]?=some t→∃u,l[k]?=some u∧u.type=t.type∧u.id=t.id:=fun k t hk=>by
  have:(l.map (fun t=>(t.type,t.id)))[k]?=(l'.map (fun t=>(t.type,t.id)))[k]?:=by rw[h]
  rw[List.getElem?_map,List.getElem?_map,hk] at this
  cases h1:l[k]?<;>simp[h1] at this
  exact⟨_,rfl,this.1,this.2⟩
 refine⟨fun t ht=>?_,fun t ht=>?_,fun i j a b hij ha hb=>?_⟩
 ·obtain⟨k,hk⟩:=List.mem_iff_getElem?.1 ht
  obtain⟨u,hu,e1,e2⟩:=hg k t hk
  rw[←e1]; exact hl.ty u (List.mem_of_getElem? hu)
 ·obtain⟨k,hk⟩:=List.mem_iff_getElem?.1 ht
  obtain⟨u,hu,e1,e2⟩:=hg k t hk
  rw[←e2]; exact hl.id u (List.mem_of_getElem? hu)
 ·obtain⟨u,hu,e1,e2⟩:=hg i a ha
  obtain⟨v,hv,e3,e4⟩:=hg j b hb
  rw[←e1,←e2,←e3,←e4]
  exact hl.asc i j u v hij hu hv
/-! Numbers in order. -/
theorem ascB_pw:∀{l:List Int},ascB l=true↔l.Pairwise (· < ·)
 | []=>by simp[ascB]
 | [a]=>by simp[ascB]
 | a::b::r=>by
  have ih:=ascB_pw (l:=b::r)
  simp only[ascB,Bool.and_eq_true,decide_eq_true_eq]
  rw[ih,List.pairwise_cons (a:=a)]
  constructor
  ·rintro⟨h1,h2⟩
   refine⟨fun x hx=>?_,h2⟩
   rcases List.mem_cons.1 hx with rfl|hx
   ·exact h1
   ·have:=(List.pairwise_cons.1 h2).1 x hx
    omega
  ·rintro⟨h1,h2⟩
   exact⟨h1 b (List.mem_cons_self ..),h2⟩
section
variable {l:List Int} (hl:l.Pairwise (· < ·))
include hl
theorem i_part(x:Int):(∀y∈l.take (iFind l x),y<x)∧(∀y∈l.drop (iFind l x),x≤y):=by
 have hb:=bs_mono (fLt l x) l.length (fun k m hkm hm hf=>by
  obtain⟨a,ha⟩:∃a,l[k]?=some a:=⟨_,List.getElem?_eq_getElem (by omega)⟩
  obtain⟨b,hb⟩:∃b,l[m]?=some b:=⟨_,List.getElem?_eq_getElem (by omega)⟩
  simp only[fLt,hb] at hf
  simp only[fLt,ha]
  rcases Nat.lt_or_ge k m with h|h
  ·rw[List.pairwise_iff_getElem] at hl
   have:=hl k m (by omega) hm h
   rw[List.getElem?_eq_getElem (by omega)] at ha hb
   injection ha with ha; injection hb with hb
   omega
  ·obtain rfl:k=m:=by omega
   rw[ha] at hb; injection hb with hb; subst hb; exact hf) 0 l.length (by omega) (by omega) (by omega) (by omega)
 refine⟨fun t ht=>?_,fun t ht=>?_⟩
 ·obtain⟨j,hj,hjt⟩:=mem_take_get ht
  have:=hb.1 j hj
  simp only[fLt,hjt] at this
  omega
 ·obtain⟨j,hj,hjt⟩:=mem_drop_get ht
  have:=hb.2 j hj (List.getElem?_eq_some_iff.1 hjt).1
  simp only[fLt,hjt] at this
  omega
theorem i_found{j:Nat}{x:Int}(h:l[j]?=some x):iFind l x=j:=by
 have hlt:=(List.getElem?_eq_some_iff.1 h).1
 unfold iFind
 refine bs_spec _ j (l.length+1) 0 l.length (by omega) (by omega) (by omega) (fun k _ hk=>?_) (fun k hk hkl=>?_)
 ·have:=(List.pairwise_iff_getElem.1 hl) k j (by omega) hlt hk
  rw[List.getElem?_eq_getElem hlt] at h
  injection h with h
  simp only[fLt,List.getElem?_eq_getElem (show k<l.length by omega)]
  omega
 ·rw[List.getElem?_eq_getElem hlt] at h
  injection h with h
  simp only[fLt,List.getElem?_eq_getElem hkl]
  rcases Nat.lt_or_ge j k with hjk|hjk
  ·have:=(List.pairwise_iff_getElem.1 hl) j k hlt hkl hjk
   omega
  ·obtain rfl:k=j:=by omega
   omega
theorem i_there(x:Int):iFindB l x=true↔x∈l:=by
 constructor
 ·intro h
  simp only[iFindB,Bool.and_eq_true,decide_eq_true_eq] at h
  obtain⟨h1,h2⟩:=h
  obtain⟨a,ha⟩:∃a,l[iFind l x]?=some a:=⟨_,List.getElem?_eq_getElem h1⟩
  simp only[fLt,ha] at h2
  have:a=x:=by omega
  subst this
  exact List.mem_of_getElem? ha
 ·intro h
  obtain⟨j,hj⟩:=List.mem_iff_getElem?.1 h
  have:=i_found hl hj
  simp only[iFindB,this,Bool.and_eq_true,decide_eq_true_eq,fLt,hj]
  exact⟨(List.getElem?_eq_some_iff.1 hj).1,by omega⟩
theorem i_insert{x:Int}(h:iFindB l x=false):(l.take (iFind l x)++x::l.drop (iFind l x)).Pairwise (· < ·):=by
 obtain⟨p1,p2⟩:=i_part hl x
 have hn:x∉l:=fun hm=>by rw[(i_there hl x).2 hm] at h; cases h
 have hsp:=hl
 rw[←List.take_append_drop (iFind l x) l,List.pairwise_append] at hsp
 refine List.pairwise_append.2 ⟨hsp.1,List.pairwise_cons.2 ⟨fun b hb=>?_,hsp.2.1⟩,fun a ha b hb=>?_⟩
 ·have:=p2 b hb
  have:x≠b:=fun e=>hn (e▸List.mem_of_mem_drop hb)
  omega
 ·rcases List.mem_cons.1 hb with rfl|hb
  ·exact p1 a ha
  ·exact hsp.2.2 a ha b hb
end
end Go.Am
namespace Go.Am
set_option linter.all false
open Go Go.RowKit Go.Proofs
set_option maxRecDepth 100000
set_option linter.all false
theorem clOk_of{f:Fd}{c:Cl}(h:ClOk f c):fCell f c=0:=by
 unfold fCell
 rw[if_neg (by
  rintro (⟨h1,h2⟩|⟨h1,h2⟩|⟨h1,h2⟩)
  ·exact h2 (h.n0 h1)
  ·exact h2 (h.t0 h1)
  ·exact h2 (h.i0 h1)),if_neg (by have:=h.n1; omega),if_neg (by
  have:=h.t1
  have:=h.i1
  have:=h.i3
  unfold mostI
  split<;>omega),if_pos h.asc]
theorem firstIx_of{α:Type}(f:Nat→α→Int):∀(l:List α) (i:Nat),(∀k x,l[k]?=some x→f (i+k) x=0)→firstIx f l i=0
 | [],i,_=>rfl
 | y::r,i,h=>by
  simp only[firstIx]
  have h0:=h 0 y rfl
  rw[if_neg (by simpa using h0)]
  exact firstIx_of f r (i+1) fun k x hk=>by have:=h (k+1) x (by simpa using hk); rwa [show i+(k+1)=i+1+k by omega] at this
theorem tgOk_of{s:Sta}{t:Tg}(h:TgOk s t):fThing s.types t=0:=by
 unfold fThing
 have h1:=h.ty0
 have h2:=h.ty1
 have h3:=h.id1
 have h4:=h.id2
 rw[if_neg (by omega),if_neg (by omega),if_neg (by rw[h.len]; omega)]
 exact firstIx_of _ _ _ fun k c hc=>by rw[Nat.zero_add]; exact h.cell k c hc
theorem cellsB_iff{p:Fd→Cl→Bool}:∀{fs:List Fd} {cs:List Cl},cellsB p fs cs=true↔∀(k:Nat) f c,fs[k]?=some f→cs[k]?=some c→p f c=true
 | [],cs=>by simp[cellsB]
 | f::fs,[]=>by simp[cellsB]
 | f::fs,c::cs=>by
  rw[cellsB,Bool.and_eq_true,cellsB_iff]
  constructor
  ·rintro⟨h1,h2⟩ k f' c' hf hc
   cases k with
   | zero=>simp at hf hc; subst hf hc; exact h1
   | succ k=>exact h2 k f' c' (by simpa using hf) (by simpa using hc)
  ·intro h
   exact⟨h 0 f c rfl rfl,fun k f' c' hf hc=>h (k+1) f' c' (by simpa using hf) (by simpa using hc)⟩
theorem eachB_iff{p:Fd→Cl→Bool}{l:List Ty}{ts:List Tg}:eachB p l ts=true↔∀t∈ts,∀(k:Nat) f c,(fldsAt l t.type)[k]?=some f→t.cells[k]?=some c→p f c=true:=by
 simp only[eachB,List.all_eq_true,cellsB_iff]
structure Rt(s:Sta):Prop where
 chk:fCheckT s.types=0
 r:StR s
 srt:Srt s.things
 lnk:∀t∈s.things,∀(k:Nat) f c,(fldsAt s.types t.type)[k]?=some f→t.cells[k]?=some c→∀x∈c.ids,∃u∈s.things,u.type=kindOf s.types f.of∧u.id=x
def IdsI(s:Sta):Prop:=∀t∈s.things,∀c∈t.cells,∀x∈c.ids,I64 x
theorem isThere_iff{s:Sta}(hS:SchOk s.types)(hl:Srt s.things){f:Fd}{x:Int}(hx:I64 x):isThere s f x=true↔∃u∈s.things,u.type=kindOf s.types f.of∧u.id=x:=by
 unfold isThere
 rw[hl.findB (kindOf_lt hS _) hx,List.any_eq_true]
 simp[isTg]
theorem Rt.idsI{s:Sta}(h:Rt s):IdsI s:=fun t ht c hc x hx=>by
 obtain⟨k,hk⟩:=List.mem_iff_getElem?.1 hc
 obtain⟨f,hf,_⟩:=(h.r.tg t ht).cellOk hk
 obtain⟨u,hu,_,rfl⟩:=h.lnk t ht k f c hf hk x hx
 have:=h.srt.id u hu
 unfold I64; omega
theorem rt_of{s:Sta}(h:fSt s=0)(hI:IdsI s):Rt s:=by
 obtain⟨h1,h2,h3⟩:=stR_of h
 have hc:fCheckT s.types=0:=by
  unfold fSt at h
  split at h
  ·rename_i g; exact (g h).elim
  ·rename_i g; exact Classical.byContradiction g
 refine⟨hc,h1,h2,fun t ht k f c hf hk x hx=>?_⟩
 have:=eachB_iff.1 h3 t ht k f c hf hk
 simp only[Bool.not_eq_true',List.any_eq_false] at this
 have:=this x hx
 rw[←isThere_iff h1.sch h2 (hI t ht c (List.mem_of_getElem? hk) x hx)]
 simpa using this
theorem Rt.st{s:Sta}(h:Rt s):fSt s=0:=by
 have hI:=h.idsI
 unfold fSt
 have h12:=h.r.len
 have h1:firstIx (fun i t=>fTh1 s i t) s.things 0=0:=firstIx_of _ _ _ fun k t hk=>by
  have htm:=List.mem_of_getElem? hk
  rw[Nat.zero_add]
  unfold fTh1
  rw[if_neg (by rw[tgOk_of (h.r.tg t htm)]; omega),if_neg]
  rintro⟨h2,h3⟩
  obtain⟨u,hu⟩:∃u,s.things[k - 1]?=some u:=⟨_,List.getElem?_eq_getElem (by have:=(List.getElem?_eq_some_iff.1 hk).1; omega)⟩
  have hum:=List.mem_of_getElem? hu
  simp only[fOrdAt,hu] at h3
  have h4:=h.srt.asc (k - 1) k u t (by omega) hu hk
  rw[←ord_ahead2 (h.srt.ty u hum) (h.srt.ty t htm) (h.srt.id u hum) (h.srt.id t htm)] at h4
  omega
 rw[if_neg (by rw[h.chk]; omega),if_neg (by omega),if_neg (by rw[h1]; omega),if_pos]
 rw[eachB_iff]
 intro t ht k f c hf hk
 simp only[Bool.not_eq_true',List.any_eq_false]
 intro x hx
 rw[(isThere_iff h.r.sch h.srt (hI t ht c (List.mem_of_getElem? hk) x hx)).2 (h.lnk t ht k f c hf hk x hx)]
 simp
/-! Events. -/
theorem meant_iff{l:List Ty}{ts:List Tg}{e:Ev}:eachB (meantB l e) l ts=true↔∀t∈ts,∀(k:Nat) f c,(fldsAt l t.type)[k]?=some f→t.cells[k]?=some c→isLink f.kind=true→kindOf l f.of=e.type→e.id∉c.ids:=by
 rw[eachB_iff]
 constructor
 ·intro h t ht k f c hf hc hk ho hm
  have:=h t ht k f c hf hc
  simp only[meantB,hk,ho,hasI,Bool.or_eq_true,Bool.not_eq_true',beq_eq_false_iff_ne,List.any_eq_false] at this
  rcases this with (h1|h1)|h1
  ·cases h1
  ·exact h1 rfl
  ·exact h1 _ hm (by simp)
 ·intro h t ht k f c hf hc
  have:=h t ht k f c hf hc
  simp only[meantB,hasI,Bool.or_eq_true,Bool.not_eq_true',beq_eq_false_iff_ne,List.any_eq_false]
  by_cases h1:isLink f.kind=true
  ·by_cases h2:kindOf l f.of=e.type
   ·right
    have:=this h1 h2
    intro x hx he
    simp at he
    exact this (he▸hx)
   ·left; right; exact h2
  ·left; left; simpa using h1
theorem fldsAt_mem{s:Sta}{k:Int}{j:Nat}{f:Fd}(hS:SchOk s.types)(h:(fldsAt s.types k)[j]?=some f):1≤f.kind∧f.kind≤4:=by
 unfold fldsAt at h
 cases hk:s.types[k.toNat]? with
 | none=>simp[hk] at h
 | some ty =>
  simp[hk] at h
  exact hS.kinds ty (List.mem_of_getElem? hk) f (List.mem_of_getElem? h)
structure EvOk(s:Sta)(e:Ev):Prop where
 form:fForm e=0
 ty0:0≤e.type
 ty1:e.type.toNat<s.types.length
 ty2:e.type≤1000
 id1:1≤e.id
 id2:e.id≤999
 k1:1≤e.kind
 k2:e.kind≤6
 don:doE s e=0
theorem evOk{s:Sta}(h:Rt s){e:Ev}(he:rawE s e=0):EvOk s e:=by
 unfold rawE at he
 by_cases h0:rawE0 s.types e=0
 ·rw[if_neg (by simpa using h0)] at he
  obtain⟨a1,a2,a3,a4,a5,a6,a7⟩:=rawE0_zero h0
  have:=h.r.sch.len
  exact⟨a1,a2,by omega,by omega,a4,a5,a6,a7,he⟩
 ·rw[if_pos h0] at he; exact (h0 he).elim
theorem rawE_of{s:Sta}{e:Ev}(h1:fForm e=0)(h2:0≤e.type)(h3:e.type.toNat<s.types.length)(h4:1≤e.id)(h5:e.id≤999):rawE s e=doE s e:=by
 have:rawE0 s.types e=0:=by
  unfold rawE0
  rw[if_neg (by omega),if_neg (by omega),if_neg (by omega)]
 unfold rawE
 rw[if_neg (by omega)]
structure ChOk(s:Sta)(e:Ev)(t:Tg)(f:Fd)(c:Cl):Prop where
 tt:s.things[rawI s e]?=some t
 ty:t.type=e.type
 idn:t.id=e.id
 f0:0≤e.field
 ff:(fldsAt s.types e.type)[e.field.toNat]?=some f
 cc:t.cells[e.field.toNat]?=some c
 fits:kindFits e.kind f=true
 che:chgE s f c e=0
 st:rawS s e=setC s (rawI s e) e.field.toNat (chgC f c e)
theorem there_of{s:Sta}{e:Ev}(he:EvOk s e)(hk:e.kind≠1):rawB s e=true:=by
 have hd:=he.don
 unfold doE at hd
 rw[if_neg hk] at hd
 by_cases b:rawB s e=false
 ·rw[if_pos b] at hd; omega
 ·simpa using b
theorem chOk{s:Sta}(h:Rt s){e:Ev}(he:EvOk s e)(hk:3≤e.kind):∃t f c,ChOk s e t f c:=by
 have hb:=there_of he (by omega)
 obtain⟨t,ht,e1,e2⟩:=h.srt.thereAt ⟨he.ty0,he.ty2⟩ ⟨he.id1,he.id2⟩ hb
 have hd:=he.don
 unfold doE at hd
 rw[if_neg (by omega),if_neg (by simp[hb]),if_neg (by omega)] at hd
 unfold chE at hd
 have ht':s.things[rawI s e]?=some t:=ht
 split at hd
 ·rename_i f c hf hc
  by_cases hkf:kindFits e.kind f=true
  ·rw[if_pos hkf] at hd
   have hst:rawS s e=setC s (rawI s e) e.field.toNat (chgC f c e):=by
    unfold rawS
    rw[if_neg (by omega),if_neg (by omega),hf,hc]
   unfold fdOf at hf
   by_cases h0:e.field<0
   ·rw[if_pos h0] at hf; cases hf
   rw[if_neg h0] at hf
   unfold clOf at hc
   rw[ht'] at hc
   exact⟨t,f,c,ht',e1,e2,by omega,hf,hc,hkf,hd,hst⟩
  ·rw[if_neg hkf] at hd; omega
 ·omega
theorem chgE_of{s:Sta}{e:Ev}{t:Tg}{f:Fd}{c:Cl}(h1:s.things[rawI s e]?=some t)(hb:rawB s e=true)(hk:3≤e.kind)(h2:0≤e.field)(h3:(fldsAt s.types e.type)[e.field.toNat]?=some f)(h4:t.cells[e.field.toNat]?=some c)(h5:kindFits e.kind f=true):doE s e=chgE s f c e∧rawS s e=setC s (rawI s e) e.field.toNat (chgC f c e):=by
 have hf:fdOf s e=some f:=by unfold fdOf; rw[if_neg (by omega)]; exact h3
 have hc:clOf s e=some c:=by unfold clOf; rw[h1]; exact h4
 constructor
 ·unfold doE chE
  rw[if_neg (by omega),if_neg (by simp[hb]),if_neg (by omega),hf,hc]
  simp only
  rw[if_pos h5]
 ·unfold rawS
  rw[if_neg (by omega),if_neg (by omega),hf,hc]
theorem setC_eq{s:Sta}{i k:Nat}{t:Tg}{c:Cl}(h:s.things[i]?=some t):setC s i k c=⟨s.types,s.things.set i ⟨t.type,t.id,t.cells.set k c⟩⟩:=by unfold setC; rw[h]
theorem setC_key{s:Sta}{i k:Nat}{c:Cl}:s.things.map (fun t=>(t.type,t.id))=(setC s i k c).things.map (fun t=>(t.type,t.id)):=by
 unfold setC
 cases h:s.things[i]? with
 | none=>rfl
 | some t =>
  simp only[List.map_set]
  refine (set_same ?_).symm
  rw[List.getElem?_map,h]; rfl
theorem setC_types{s:Sta}{i k:Nat}{c:Cl}:(setC s i k c).types=s.types:=rfl
theorem key_mem{l l':List Tg}(h:l.map (fun t=>(t.type,t.id))=l'.map (fun t=>(t.type,t.id))){u:Tg}(hu:u∈l):∃v∈l',v.type=u.type∧v.id=u.id:=by
 have:(u.type,u.id)∈l.map (fun t=>(t.type,t.id)):=List.mem_map.2 ⟨u,hu,rfl⟩
 rw[h] at this
 obtain⟨v,hv,e⟩:=List.mem_map.1 this
 injection e with e1 e2
 exact⟨v,hv,e1,e2⟩
theorem chgC_ok{s:Sta}(h:Rt s){e:Ev}(hn:I64 e.n)(hk:3≤e.kind∧e.kind≤6){f:Fd}{c:Cl}(hf:1≤f.kind∧f.kind≤4)(hc:ClOk f c)(hfit:kindFits e.kind f=true)(he:chgE s f c e=0):
  ClOk f (chgC f c e)∧∀x∈(chgC f c e).ids,x∈c.ids∨∃u∈s.things,u.type=kindOf s.types f.of∧u.id=x:=by
 have hpw:=ascB_pw.1 hc.asc
 unfold chgE at he
 unfold kindFits at hfit
 unfold chgC
 by_cases k3:e.kind=3
 ·rw[if_pos k3] at he hfit ⊢
  simp only[decide_eq_true_eq] at hfit
  split at he
  ·exact⟨⟨(fun hh=>(hh hfit).elim),hc.t0,hc.i0,by assumption,hc.t1,hc.i1,hc.i3,hc.asc⟩,fun x hx=>.inl hx⟩
  ·omega
 rw[if_neg k3] at he hfit ⊢
 by_cases k4:e.kind=4
 ·rw[if_pos k4] at he hfit ⊢
  simp only[decide_eq_true_eq] at hfit
  split at he
  ·omega
  ·exact⟨⟨hc.n0,(fun hh=>(hh hfit).elim),hc.i0,hc.n1,by simp only; omega,hc.i1,hc.i3,hc.asc⟩,fun x hx=>.inl hx⟩
 rw[if_neg k4] at he hfit ⊢
 by_cases k5:e.kind=5
 ·rw[if_pos k5] at he ⊢
  unfold linkE at he
  by_cases ht:isThere s f e.n=false
  ·rw[if_pos ht] at he; omega
  rw[if_neg ht] at he
  have ht:isThere s f e.n=true:=by simpa using ht
  have hu:=(isThere_iff h.r.sch h.srt hn).1 ht
  by_cases hb:iFindB c.ids e.n=true
  ·rw[if_pos hb] at he; omega
  rw[if_neg hb] at he
  have hb:iFindB c.ids e.n=false:=by simpa using hb
  unfold linkL
  by_cases g3:f.kind=3
  ·rw[if_pos g3]
   refine⟨⟨hc.n0,hc.t0,(fun hh=>by rw[hfit] at hh; cases hh),hc.n1,hc.t1,by simp,fun _=>by simp,rfl⟩,fun x hx=>.inr ?_⟩
   simp at hx
   subst hx
   exact hu
  ·rw[if_neg g3] at he ⊢
   have h6:=hc.i1
   refine⟨⟨hc.n0,hc.t0,(fun hh=>by rw[hfit] at hh; cases hh),hc.n1,hc.t1,?_,fun hh=>(g3 hh).elim,ascB_pw.2 (i_insert hpw hb)⟩,fun x hx=>?_⟩
   ·have:c.ids.length≠6:=fun hh=>by rw[if_pos hh] at he; omega
    simp only[List.length_append,List.length_take,List.length_cons,List.length_drop]
    omega
   ·rcases List.mem_append.1 hx with hx|hx
    ·exact .inl (List.mem_of_mem_take hx)
    ·rcases List.mem_cons.1 hx with rfl|hx
     ·exact .inr hu
     ·exact .inl (List.mem_of_mem_drop hx)
 ·rw[if_neg k5] at he ⊢
  have hsub:(cutL c e.n).Sublist c.ids:=cut_sub _ _
  have hle:=hsub.length_le
  refine⟨⟨hc.n0,hc.t0,(fun hh=>by rw[hfit] at hh; cases hh),hc.n1,hc.t1,by have:=hc.i1; simp only; omega,fun hh=>by have:=hc.i3 hh; simp only; omega,ascB_pw.2 (hpw.sublist hsub)⟩,fun x hx=>.inl (hsub.subset hx)⟩
theorem tgOk_types{s s':Sta}(h:s'.types=s.types){t:Tg}(ht:TgOk s t):TgOk s' t:=by
 refine⟨ht.ty0,by rw[h]; exact ht.ty1,ht.id1,ht.id2,by rw[h]; exact ht.len,by rw[h]; exact ht.cell⟩
theorem cl0_ok(f:Fd):ClOk f cl0:=by
 refine⟨fun _=>rfl,fun _=>rfl,fun _=>rfl,?_,?_,?_,fun _=>?_,rfl⟩<;>simp[cl0]
theorem rt_raw{s:Sta}(h:Rt s){e:Ev}(hn:I64 e.n)(he:rawE s e=0):Rt (rawS s e)∧(rawS s e).types=s.types:=by
 have ho:=evOk h he
 have h2:0≤e.type∧e.type≤1000:=⟨ho.ty0,ho.ty2⟩
 have h4:1≤e.id∧e.id≤999:=⟨ho.id1,ho.id2⟩
 have hd:=ho.don
 by_cases k1:e.kind=1
 ·unfold doE at hd
  rw[if_pos k1] at hd
  by_cases b:rawB s e=true
  ·rw[if_pos b] at hd; omega
  rw[if_neg b] at hd
  by_cases b2:s.things.length=12
  ·rw[if_pos b2] at hd; omega
  have hb:fFindB s.things e.type e.id=false:=eq_false_of_ne_true b
  have hS:rawS s e=⟨s.types,s.things.take (rawI s e)++⟨e.type,e.id,List.replicate (fldsAt s.types e.type).length cl0⟩::s.things.drop (rawI s e)⟩:=by unfold rawS; rw[if_pos k1]
  rw[hS]
  have hm:∀t∈s.things.take (rawI s e)++⟨e.type,e.id,List.replicate (fldsAt s.types e.type).length cl0⟩::s.things.drop (rawI s e),t∈s.things∨t=⟨e.type,e.id,List.replicate (fldsAt s.types e.type).length cl0⟩:=fun t ht=>by
   rcases List.mem_append.1 ht with ht|ht
   ·exact .inl (List.mem_of_mem_take ht)
   ·rcases List.mem_cons.1 ht with ht|ht
    ·exact .inr ht
    ·exact .inl (List.mem_of_mem_drop ht)
  have hm':∀t∈s.things,t∈s.things.take (rawI s e)++⟨e.type,e.id,List.replicate (fldsAt s.types e.type).length cl0⟩::s.things.drop (rawI s e):=fun t ht=>by
   rw[←List.take_append_drop (rawI s e) s.things] at ht
   rcases List.mem_append.1 ht with ht|ht
   ·exact List.mem_append_left _ ht
   ·exact List.mem_append_right _ (List.mem_cons_of_mem _ ht)
  refine⟨⟨h.chk,⟨h.r.sch,?_,fun t ht=>?_⟩,h.srt.insert h2 h4 hb ⟨rfl,rfl⟩,fun t ht k f c hf hc x hx=>?_⟩,rfl⟩
  ·have:=h.r.len
   have:=find_le s.things e.type e.id
   simp only[List.length_append,List.length_take,List.length_cons,List.length_drop]
   unfold rawI
   omega
  ·rcases hm t ht with ht|rfl
   ·exact tgOk_types (s:=s) (by rfl) (h.r.tg t ht)
   ·refine⟨ho.ty0,ho.ty1,ho.id1,ho.id2,by simp,fun k c hc=>?_⟩
    simp only[List.getElem?_replicate] at hc
    split at hc
    ·injection hc with hc
     subst hc
     unfold cellAt
     split
     ·exact clOk_of (cl0_ok _)
     ·rfl
    ·cases hc
  ·rcases hm t ht with ht|rfl
   ·obtain⟨u,hu,e1,e2⟩:=h.lnk t ht k f c hf hc x hx
    exact⟨u,hm' u hu,e1,e2⟩
   ·simp only[List.getElem?_replicate] at hc
    split at hc
    ·injection hc with hc
     subst hc
     simp[cl0] at hx
    ·cases hc
 have hb:=there_of ho k1
 by_cases k2:e.kind=2
 ·obtain⟨t0,ht0,e1,e2⟩:=h.srt.thereAt h2 h4 hb
  have ht0':s.things[rawI s e]?=some t0:=ht0
  unfold doE at hd
  rw[if_neg k1,if_neg (by simp[hb]),if_pos k2] at hd
  by_cases m:eachB (meantB s.types e) s.types s.things=false
  ·rw[if_pos m] at hd; omega
  have m:eachB (meantB s.types e) s.types s.things=true:=by simpa using m
  rw[meant_iff] at m
  have hS:rawS s e=⟨s.types,s.things.take (rawI s e)++s.things.drop (rawI s e+1)⟩:=by unfold rawS; rw[if_neg k1,if_pos k2]
  rw[hS]
  have hsub:(s.things.take (rawI s e)++s.things.drop (rawI s e+1)).Sublist s.things:=cut_sub _ _
  refine⟨⟨h.chk,⟨h.r.sch,by have:=hsub.length_le; have:=h.r.len; simp only; omega,fun t ht=>tgOk_types (s:=s) (by rfl) (h.r.tg t (hsub.subset ht))⟩,h.srt.sub hsub,fun t ht k f c hf hc x hx=>?_⟩,rfl⟩
  have htm:=hsub.subset ht
  obtain⟨u,hu,e3,e4⟩:=h.lnk t htm k f c hf hc x hx
  refine⟨u,?_,e3,e4⟩
  have hs:=split_at ht0'
  rw[hs] at hu
  rcases List.mem_append.1 hu with hu|hu
  ·exact List.mem_append_left _ hu
  ·rcases List.mem_cons.1 hu with rfl|hu
   ·exfalso
    obtain⟨f',hf',hco⟩:=(h.r.tg t htm).cellOk hc
    have hf:(fldsAt s.types t.type)[k]?=some f:=hf
    rw[hf] at hf'; injection hf' with hf'; subst hf'
    have hlk:isLink f.kind=true:=by
     cases hh:isLink f.kind with
     | true=>rfl
     | false=>rw[hco.i0 hh] at hx; cases hx
    exact m t htm k f c hf hc hlk (by rw[←e1]; exact e3.symm) (by rw[←e2,e4]; exact hx)
   ·exact List.mem_append_right _ hu
 ·have hk3:3≤e.kind:=by have:=ho.k1; omega
  obtain⟨t,f,c,hh⟩:=chOk h ho hk3
  rw[hh.st]
  have htm:=List.mem_of_getElem? hh.tt
  have htg:=h.r.tg t htm
  obtain⟨f',hf',hco⟩:=htg.cellOk hh.cc
  have hff:=hh.ff
  rw[←hh.ty,hf'] at hff
  injection hff with hff
  subst hff
  obtain⟨g1,g2⟩:=chgC_ok h hn ⟨hk3,ho.k2⟩ (fldsAt_mem h.r.sch hf') hco hh.fits hh.che
  have hkey:=setC_key (s:=s) (i:=rawI s e) (k:=e.field.toNat) (c:=chgC f' c e)
  have heq:=setC_eq (k:=e.field.toNat) (c:=chgC f' c e) hh.tt
  have hmem:∀x∈(setC s (rawI s e) e.field.toNat (chgC f' c e)).things,x∈s.things∨x=⟨t.type,t.id,t.cells.set e.field.toNat (chgC f' c e)⟩:=fun x hx=>by
   rw[heq] at hx
   exact List.mem_or_eq_of_mem_set hx
  refine⟨⟨h.chk,⟨h.r.sch,by rw[heq]; simpa using h.r.len,fun x hx=>?_⟩,h.srt.key hkey,fun x hx k f c2 hf hc y hy=>?_⟩,rfl⟩
  ·rcases hmem x hx with hx|rfl
   ·exact tgOk_types (s:=s) (by rfl) (h.r.tg x hx)
   ·refine⟨htg.ty0,htg.ty1,htg.id1,htg.id2,by rw[List.length_set]; exact htg.len,fun k c2 hc2=>?_⟩
    simp only[List.getElem?_set] at hc2
    by_cases hk:e.field.toNat=k
    ·subst hk
     rw[if_pos rfl] at hc2
     split at hc2
     ·injection hc2 with hc2
      subst hc2
      show cellAt (fldsAt s.types t.type) _ _=0
      unfold cellAt
      rw[hf']
      exact clOk_of g1
     ·cases hc2
    ·rw[if_neg hk] at hc2
     exact htg.cell k c2 hc2
  ·have key:(∃u∈s.things,u.type=kindOf s.types f.of∧u.id=y)→∃u∈(setC s (rawI s e) e.field.toNat (chgC f' c e)).things,u.type=kindOf s.types f.of∧u.id=y:=fun⟨u,hu,e1,e2⟩=>by
    obtain⟨v,hv,e3,e4⟩:=key_mem hkey hu
    exact⟨v,hv,e3.trans e1,e4.trans e2⟩
   refine key ?_
   rcases hmem x hx with hx|rfl
   ·exact h.lnk x hx k f c2 hf hc y hy
   ·simp only[List.getElem?_set] at hc
    by_cases hk:e.field.toNat=k
    ·subst hk
     rw[if_pos rfl] at hc
     split at hc
     ·injection hc with hc
      subst hc
      have hf:(fldsAt s.types t.type)[e.field.toNat]?=some f:=hf
      rw[hf'] at hf
      injection hf with hf
      subst hf
      rcases g2 y hy with h1|h1
      ·exact h.lnk t htm _ _ c hf' hh.cc y h1
      ·exact h1
     ·cases hc
    ·rw[if_neg hk] at hc
     exact h.lnk t htm k f c2 hf hc y hy
end Go.Am
namespace Go.Am
set_option linter.all false
open Go Go.RowKit Go.Proofs
set_option maxRecDepth 100000
set_option linter.all false
def befE(s:Sta)(e:Ev):Int:=if e.kind=2 then (match s.things[rawI s e]? with
 | some t=>if firstB t.cells=true then 0 else 4
 | none=>0) else 0
def befV(s:Sta)(e:Ev):Ev :=
 if e.kind=1 then ⟨2,e.type,e.id,e.field,0,[]⟩ else if e.kind=2 then ⟨1,e.type,e.id,e.field,0,[]⟩
 else match clOf s e,fdOf s e with
  | some c,some f =>
   if e.kind=3 then ⟨3,e.type,e.id,e.field,c.n,[]⟩ else if e.kind=4 then ⟨4,e.type,e.id,e.field,0,c.text⟩
   else if e.kind=5 then (if f.kind=3∧c.ids≠[] then ⟨5,e.type,e.id,e.field,c.ids.headD 0,[]⟩ else ⟨6,e.type,e.id,e.field,e.n,[]⟩)
   else ⟨5,e.type,e.id,e.field,e.n,[]⟩
  | _,_=>e
theorem chg_back{s:Sta}(h:Rt s){e e':Ev}{t:Tg}{f:Fd}{c c':Cl}(hh:ChOk s e t f c)(hk:3≤e.kind)(hb:rawB s e=true)(g1:e'.type=e.type)(g2:e'.id=e.id)(g3:e'.field=e.field)(g4:3≤e'.kind)(g5:kindFits e'.kind f=true)
  (hs':rawS s e=setC s (rawI s e) e.field.toNat c'):doE (rawS s e) e'=chgE (rawS s e) f c' e'∧rawS (rawS s e) e'=setC s (rawI s e) e.field.toNat (chgC f c' e'):=by
 have hkey:=setC_key (s:=s) (i:=rawI s e) (k:=e.field.toNat) (c:=c')
 have heq:=setC_eq (k:=e.field.toNat) (c:=c') hh.tt
 rw[hs']
 obtain⟨f1,f2⟩:=find_key hkey e.type e.id
 have hi:rawI (setC s (rawI s e) e.field.toNat c') e'=rawI s e:=by unfold rawI; rw[g1,g2]; exact f1.symm
 have hb':rawB (setC s (rawI s e) e.field.toNat c') e'=true:=by unfold rawB; rw[g1,g2,←f2]; exact hb
 have hlt:=(List.getElem?_eq_some_iff.1 hh.tt).1
 have hkl:=(List.getElem?_eq_some_iff.1 hh.cc).1
 have ht:(setC s (rawI s e) e.field.toNat c').things[rawI (setC s (rawI s e) e.field.toNat c') e']?=some ⟨t.type,t.id,t.cells.set e.field.toNat c'⟩:=by
  rw[hi,heq]
  simp[hlt]
 obtain⟨r1,r2⟩:=chgE_of (s:=setC s (rawI s e) e.field.toNat c') (e:=e') (f:=f) (c:=c') ht hb' g4 (by rw[g3]; exact hh.f0) (by rw[g1,g3,setC_types]; exact hh.ff) (by rw[g3]; exact List.getElem?_set_self hkl) g5
 refine⟨r1,?_⟩
 rw[r2,hi,g3]
 have e1:=setC_eq (s:=setC s (rawI s e) e.field.toNat c') (i:=rawI s e) (k:=e.field.toNat) (c:=chgC f c' e') (t:=⟨t.type,t.id,t.cells.set e.field.toNat c'⟩) (by rw[hi] at ht; exact ht)
 rw[e1,setC_eq (k:=e.field.toNat) (c:=chgC f c' e') hh.tt,heq]
 simp
theorem isThere_key{s s':Sta}(ht:s'.types=s.types)(hk:s.things.map (fun t=>(t.type,t.id))=s'.things.map (fun t=>(t.type,t.id)))(f:Fd)(x:Int):isThere s' f x=isThere s f x:=by
 unfold isThere
 rw[ht,(find_key hk _ _).2]
theorem rawS1{s:Sta}{e:Ev}(k1:e.kind=1):rawS s e=⟨s.types,s.things.take (rawI s e)++⟨e.type,e.id,List.replicate (fldsAt s.types e.type).length cl0⟩::s.things.drop (rawI s e)⟩:=by unfold rawS; rw[if_pos k1]
end Go.Am
namespace Go.Am
set_option linter.all false
open Go Go.RowKit Go.Proofs
set_option maxRecDepth 100000
set_option linter.all false
/-! An event of one thing leaves all others. -/
theorem chg_field{s:Sta}(h:Rt s){x y:Ev}(hn:I64 x.n)(hx:rawE s x=0)(kx:3≤x.kind)(ky:3≤y.kind)(hne:¬(x.type=y.type∧x.id=y.id∧x.field=y.field)):rawE (rawS s x) y=rawE s y:=by
 have ho:=evOk h hx
 obtain⟨t,f,c,hh⟩:=chOk h ho kx
 obtain⟨hr',ht'⟩:=rt_raw h hn hx
 have hkey:s.things.map (fun t=>(t.type,t.id))=(rawS s x).things.map (fun t=>(t.type,t.id)):=by rw[hh.st]; exact setC_key
 have hfi:=find_key hkey y.type y.id
 unfold rawE
 rw[ht']
 by_cases h0:rawE0 s.types y=0
 case neg=>rw[if_pos h0,if_pos h0]
 rw[if_neg (by simpa using h0),if_neg (by simpa using h0)]
 obtain⟨a1,a2,a3,a4,a5,a6,a7⟩:=rawE0_zero h0
 have hs5:=h.r.sch.len
 have y1:y.kind≠1:=by omega
 have y2:y.kind≠2:=by omega
 unfold doE
 rw[if_neg y1,if_neg y1]
 have hb:rawB (rawS s x) y=rawB s y:=hfi.2.symm
 rw[hb]
 by_cases b:rawB s y=false
 ·rw[if_pos b,if_pos b]
 rw[if_neg b,if_neg b,if_neg y2,if_neg y2]
 have b:fFindB s.things y.type y.id=true:=eq_true_of_ne_false b
 obtain⟨u,hu,e1,e2⟩:=h.srt.thereAt (by omega) (by omega) b
 have hi:rawI (rawS s x) y=rawI s y:=hfi.1.symm
 have hfd:fdOf (rawS s x) y=fdOf s y:=by unfold fdOf; rw[ht']
 have hcl:fdOf s y≠none→clOf (rawS s x) y=clOf s y:=fun hfn=>by
  have hy0:0≤y.field:=by
   unfold fdOf at hfn
   by_cases h5:y.field<0
   ·rw[if_pos h5] at hfn; exact (hfn rfl).elim
   ·omega
  unfold clOf
  rw[hi,hh.st,setC_eq hh.tt]
  simp only
  by_cases hii:rawI s x=rawI s y
  ·have hu':s.things[rawI s y]?=some u:=hu
   rw[←hii,hh.tt] at hu'
   injection hu' with hu'
   subst hu'
   have hlt:=(List.getElem?_eq_some_iff.1 hh.tt).1
   rw[←hii,List.getElem?_set_self hlt,hh.tt]
   simp only
   rw[List.getElem?_set_ne]
   intro e
   refine hne ⟨by rw[←e1,hh.ty],by rw[←e2,hh.idn],?_⟩
   have:=hh.f0
   omega
  ·rw[List.getElem?_set_ne hii]
 unfold chE
 rw[hfd]
 cases hfc:fdOf s y with
 | none=>rfl
 | some g =>
  rw[hcl (by rw[hfc]; simp)]
  cases hc:clOf s y with
  | none=>rfl
  | some c2 =>
   simp only
   have:chgE (rawS s x) g c2 y=chgE s g c2 y:=by
    unfold chgE linkE
    rw[isThere_key ht' hkey]
   rw[this]
theorem apart_two{s:Sta}(h:Rt s){x y:Ev}(hn:I64 x.n)(hm:I64 y.n)(hx:rawE s x=0)(hy:rawE s y=0)(kx:3≤x.kind)(ky:3≤y.kind)(hne:¬(x.type=y.type∧x.id=y.id∧x.field=y.field)):
  rawE (rawS s x) y=0∧rawE (rawS s y) x=0∧rawS (rawS s x) y=rawS (rawS s y) x:=by
 have hxy:rawE (rawS s x) y=0:=by rw[chg_field h hn hx kx ky hne,hy]
 have hyx:rawE (rawS s y) x=0:=by rw[chg_field h hm hy ky kx (fun⟨a,b,c⟩=>hne ⟨a.symm,b.symm,c.symm⟩),hx]
 refine⟨hxy,hyx,?_⟩
 obtain⟨hrx,htx⟩:=rt_raw h hn hx
 obtain⟨hry,hty⟩:=rt_raw h hm hy
 obtain⟨t,f,c,hh⟩:=chOk h (evOk h hx) kx
 obtain⟨u,g,d,gg⟩:=chOk h (evOk h hy) ky
 obtain⟨u',g',d',gg'⟩:=chOk hrx (evOk hrx hxy) ky
 obtain⟨t',f',c',hh'⟩:=chOk hry (evOk hry hyx) kx
 have hkx:s.things.map (fun t=>(t.type,t.id))=(rawS s x).things.map (fun t=>(t.type,t.id)):=by rw[hh.st]; exact setC_key
 have hky:s.things.map (fun t=>(t.type,t.id))=(rawS s y).things.map (fun t=>(t.type,t.id)):=by rw[gg.st]; exact setC_key
 have iy:rawI (rawS s x) y=rawI s y:=(find_key hkx y.type y.id).1.symm
 have ix:rawI (rawS s y) x=rawI s x:=(find_key hky x.type x.id).1.symm
 have hgg:g'=g:=by
  have h1:=gg'.ff
  rw[htx,gg.ff] at h1
  injection h1 with h1; exact h1.symm
 have hff:f'=f:=by
  have h1:=hh'.ff
  rw[hty,hh.ff] at h1
  injection h1 with h1; exact h1.symm
 subst hgg hff
 rw[gg'.st,hh'.st,iy,ix]
 have tt':=gg'.tt
 have uu':=hh'.tt
 rw[iy,hh.st,setC_eq hh.tt] at tt'
 rw[ix,gg.st,setC_eq gg.tt] at uu'
 rw[hh.st,gg.st,setC_eq hh.tt,setC_eq gg.tt]
 have hlx:=(List.getElem?_eq_some_iff.1 hh.tt).1
 have hly:=(List.getElem?_eq_some_iff.1 gg.tt).1
 have hcx:=hh'.cc
 have hcy:=gg'.cc
 by_cases hii:rawI s x=rawI s y
 ·have htu:=hh.tt
  rw[hii,gg.tt] at htu
  injection htu with htu
  subst htu
  have hk:x.field.toNat≠y.field.toNat:=fun e=>hne ⟨by rw[←hh.ty,gg.ty],by rw[←hh.idn,gg.idn],by have:=hh.f0; have:=gg.f0; omega⟩
  rw[←hii] at tt' uu' ⊢
  simp only[List.getElem?_set_self hlx,Option.some.injEq] at tt' uu'
  subst tt' uu'
  simp only at hcx hcy
  rw[List.getElem?_set_ne hk,gg.cc] at hcy
  rw[List.getElem?_set_ne (Ne.symm hk),hh.cc] at hcx
  injection hcy with hcy; injection hcx with hcx
  subst hcy hcx
  unfold setC
  simp only[List.getElem?_set_self hlx]
  simp only[List.set_set]
  congr 2
  congr 1
  exact List.set_comm _ _ hk
 ·simp only[List.getElem?_set_ne hii,gg.tt,Option.some.injEq] at tt'
  simp only[List.getElem?_set_ne (Ne.symm hii),hh.tt,Option.some.injEq] at uu'
  subst tt' uu'
  rw[gg.cc] at hcy
  rw[hh.cc] at hcx
  injection hcy with hcy; injection hcx with hcx
  subst hcy hcx
  unfold setC
  simp only[List.getElem?_set_ne hii,List.getElem?_set_ne (Ne.symm hii),gg.tt,hh.tt]
  congr 1
  exact List.set_comm _ _ hii
end Go.Am
