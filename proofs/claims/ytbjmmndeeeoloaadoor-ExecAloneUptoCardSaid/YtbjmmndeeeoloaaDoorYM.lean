/- What a query answers is right: how deep, how many, each out by itself; each select alone. No condition. -/
import Derived.Test.YtbjmmndeeeoloaaDoorYL
import Derived.Test.YtbjmmndeeeoloaaDoorYJ
namespace Go.Am
set_option linter.all false
open Go Go.RowKit Go.Proofs
set_option maxRecDepth 100000
set_option linter.all false
def HsL:Nat→List Sel→Prop
 | 0,l=>l=[]
 | k+1,l=>∀x∈l,HsL k x.kids
def HoL:Nat→List Out→Prop
 | 0,l=>l=[]
 | k+1,l=>∀x∈l,HoL k x.kids
theorem HoL.nil:∀k,HoL k []
 | 0=>rfl
 | k+1=>fun x hx=>by cases hx
theorem HoL.mono:∀{k:Nat} {l:List Out},HoL k l→HoL (k+1) l
 | 0,l,h=>by subst h; exact HoL.nil 1
 | k+1,l,h=>fun x hx=>HoL.mono (h x hx)
theorem foldl_max_le{α:Type}(f:α→Nat):∀(l:List α) (a k:Nat),l.foldl (fun d s=>max d (f s)) a≤k↔a≤k∧∀x∈l,f x≤k
 | [],a,k=>by simp
 | y::l,a,k=>by
  simp only[List.foldl_cons,List.mem_cons,forall_eq_or_imp]
  rw[foldl_max_le f l]
  exact⟨fun h=>⟨by omega,by omega,h.2⟩,fun h=>⟨by omega,h.2.2⟩⟩
theorem deepL_Hs:∀(m:Nat) (l:List Sel),deepL m l≤m→HsL m l
 | 0,l,h=>by
  simp only[deepL] at h
  exact List.length_eq_zero_iff.1 (by omega)
 | m+1,l,h=>by
  simp only[deepL] at h
  intro x hx
  exact deepL_Hs m _ (by have:=((foldl_max_le _ _ _ _).1 h).2 x hx; omega)
theorem Ho_deep:∀(k m:Nat) (l:List Out),HoL k l→deepO m l≤k
 | 0,m,l,h=>by
  simp only[HoL] at h
  subst h
  cases m<;>simp[deepO]
 | k+1,0,l,h=>by simp only[deepO]; omega
 | k+1,m+1,l,h=>by
  simp only[deepO]
  refine (foldl_max_le _ _ _ _).2 ⟨by omega,fun x hx=>?_⟩
  have:=Ho_deep k m _ (h x hx)
  omega
theorem Ho_thO{s:Sta}{k:Nat}{ks:List (List UInt8)}{g:Tg→List Out}(h:∀u,HoL k (g u))(kd y:Int):HoL k (thO s ks g kd y).kids:=by
 unfold thO
 split
 ·exact HoL.nil k
 ·exact h _
theorem Ho_oS(s:Sta):∀(k:Nat) (l:List Sel) (t:Tg),HsL k l→HoL (2*k) (oL s l t)
 | 0,l,t,h=>by
  simp only[HsL] at h
  subst h
  simp[oL,HoL]
 | k+1,l,t,h=>by
  rw[oL_map,show 2*(k+1)=2*k+1+1 by omega]
  intro o ho
  obtain⟨x,hx,rfl⟩:=List.mem_map.1 ho
  have hk:∀u,HoL (2*k) (oL s x.kids u):=fun u=>Ho_oS s k x.kids u (h x hx)
  rw[oS_eq']
  split
  ·exact HoL.nil _
  split
  ·exact HoL.nil _
  split
  ·exact HoL.nil _
  split
  ·exact HoL.nil _
  split
  ·intro o ho
   obtain⟨y,hy,rfl⟩:=List.mem_map.1 ho
   exact Ho_thO hk _ _
  split
  ·exact HoL.nil _
  ·exact HoL.mono (Ho_thO hk _ _)
theorem Ho_qO(s:Sta)(k:Nat)(q:List Sel)(h:HsL (k+1) q):HoL (2*k+3) [qO s q]:=by
 intro o ho
 obtain rfl:o=qO s q:=by simpa using ho
 intro o ho
 obtain⟨x,hx,rfl⟩:=List.mem_map.1 (show o∈q.map (rtO s) from ho)
 have hk:∀u,HoL (2*k) (oL s x.kids u):=fun u=>Ho_oS s k x.kids u (h x hx)
 unfold rtO
 split
 ·intro o ho
  obtain⟨y,hy,rfl⟩:=List.mem_map.1 ho
  exact Ho_thO hk _ _
 ·exact HoL.mono (Ho_thO hk _ _)
theorem many_map{α:Type}(f:α→Out)(w:α→Nat)(l:List α)(h:∀x∈l,∀m,manyO m (f x).kids+1≤w x)(m:Nat):manyO m (l.map f)≤(l.map w).sum:=by
 have h0:∀l:List α,(∀x∈l,∀m,manyO m (f x).kids+1≤w x)→l.length+((l.map f).map fun s=>manyO (m - 1) s.kids).sum≤(l.map w).sum:=fun l=>by
  induction l with
  | nil=>intro _; simp
  | cons x r ih =>
   intro h
   have h1:=h x (List.mem_cons_self ..) (m - 1)
   have h2:=ih fun y hy=>h y (List.mem_cons_of_mem _ hy)
   simp only[List.length_cons,List.map_cons,List.sum_cons]
   omega
 have h1:=h0 l h
 cases m with
 | zero=>simp only[manyO,List.length_map]; omega
 | succ m=>simp only[manyO,List.length_map]; simpa using h1
theorem manyO_nil(m:Nat):manyO m []=0:=by cases m<;>simp[manyO]
theorem many_thO{s:Sta}{ks:List (List UInt8)}{g:Tg→List Out}{w:Tg→Nat}(h:∀u m,manyO m (g u)≤w u)(kd y:Int)(m:Nat):manyO m (thO s ks g kd y).kids+1≤thW s w kd y:=by
 unfold thO thW
 cases thA s kd y with
 | none=>simp[oNone,Out.kids,manyO_nil]
 | some u=>have:=h u m; simp only[oMap,Out.kids]; omega
theorem many_oS(s:Sta):∀(n:Nat) (x:Sel) (t:Tg),x.sz<n→∀m,manyO m (oS s x t).kids+1≤wS s x t
 | 0,x,t,h,m=>by omega
 | n+1,x,t,h,m=>by
  have hz:=sz_eq x
  have hk:∀u m,manyO m (oL s x.kids u)≤wL s x.kids u:=fun u m=>by
   rw[oL_map,wL_map]
   exact many_map _ _ _ (fun z hz' m=>many_oS s n z u (by have:=szL_mem hz'; omega) m) m
  rw[oS_eq',wS_eq]
  split
  ·simp[oNum,Out.kids,manyO_nil]
  cases hfc:fcOf s t x.name with
  | none=>simp[oNone,Out.kids,manyO_nil]
  | some fc =>
  obtain⟨f,c⟩:=fc
  simp only
  by_cases h1:f.kind=1
  ·rw[if_pos h1,if_pos (.inl h1)]; simp[oNum,Out.kids,manyO_nil]
  rw[if_neg h1]
  by_cases h2:f.kind=2
  ·rw[if_pos h2,if_pos (.inr h2)]; simp[oText,Out.kids,manyO_nil]
  have h12:¬(f.kind=1∨f.kind=2):=by omega
  rw[if_neg h2,if_neg h12]
  split
  ·have:=many_map (thO s (x.kids.map called) (oL s x.kids) (kindOf s.types f.of)) (thW s (wL s x.kids) (kindOf s.types f.of)) (takeA x.args c.ids) (fun y _ m=>many_thO hk _ _ m) m
   simp only[oList,Out.kids]
   omega
  cases hci:c.ids with
  | nil=>simp[oNone,Out.kids,manyO_nil]
  | cons y r=>exact many_thO hk _ _ m
theorem many_rtO(s:Sta)(x:Sel)(m:Nat):manyO m (rtO s x).kids+1≤rtW s x:=by
 have hk:∀u m,manyO m (oL s x.kids u)≤wL s x.kids u:=fun u m=>by
  rw[oL_map,wL_map]
  exact many_map _ _ _ (fun z hz' m=>many_oS s (z.sz+1) z u (Nat.lt_succ_self _) m) m
 unfold rtO rtW
 cases x.args with
 | nil =>
  have:=many_map (thO s (x.kids.map called) (oL s x.kids) (kindOf s.types x.name)) (thW s (wL s x.kids) (kindOf s.types x.name)) (idsOf s (kindOf s.types x.name) s.things) (fun y _ m=>many_thO hk _ _ m) m
  simp only[oList,Out.kids]
  omega
 | cons a r=>exact many_thO hk _ _ m
theorem many_qO(s:Sta)(q:List Sel)(m:Nat):manyO m [qO s q]≤qW s q:=by
 have h:=fun m=>many_map (rtO s) (fun x=>rtW s x) q (fun x _ m=>many_rtO s x m) m
 unfold qW rtWs
 cases m with
 | zero=>simp[manyO]
 | succ m =>
  have:=h m
  simp only[manyO,List.map_cons,List.map_nil,List.sum_cons,List.sum_nil,List.length_cons,List.length_nil,qO,oMap,Out.kids]
  omega
theorem fChkOs_of{l:List Out}(h:∀o∈l,fChkO o=0):fChkOs l=0:=by
 induction l with
 | nil=>rfl
 | cons x r ih =>
  simp only[fChkOs]
  rw[if_neg (by simp[h x (List.mem_cons_self ..)])]
  exact ih fun o ho=>h o (List.mem_cons_of_mem _ ho)
theorem fChkO_of{o:Out}(h1:fOne o=0)(h2:∀x∈o.kids,fChkO x=0):fChkO o=0:=by
 rw[fChkO_eq,if_neg (by simp[h1])]
 exact fChkOs_of h2
theorem one_of{o:Out}(h1:¬(o.kind<1∨5<o.kind))(h2:¬((o.kind≠2∧o.n≠0)∨(o.kind≠3∧o.text≠[])∨(o.kind≠5∧o.keys≠[])∨(o.kind<4∧o.kids≠[])))
  (h3:¬¬(-999999999≤o.n∧o.n≤999999999)) (h4:¬40<o.text.length) (h5:¬(o.kind=5∧o.keys.length≠o.kids.length)) (h6:fKeys o.keys=0):fOne o=0:=by
 unfold fOne
 rw[if_neg h1,if_neg h2,if_neg h3,if_neg h4,if_neg h5]
 exact h6
theorem chk_none:fChkO oNone=0:=fChkO_of (one_of (by decide) (by decide) (by decide) (by decide) (by decide) rfl) fun x hx=>by cases hx
theorem chk_num{n:Int}(h : -999999999≤n∧n≤999999999):fChkO (oNum n)=0 :=
 fChkO_of (one_of (by simp[oNum,oText,oList,oMap,Out.kind,Out.n,Out.text,Out.keys,Out.kids]) (by simp[oNum,Out.kind,Out.n,Out.text,Out.keys,Out.kids]) (by simpa [oNum,Out.n] using h) (by simp[oNum,oText,oList,oMap,Out.kind,Out.n,Out.text,Out.keys,Out.kids]) (by simp[oNum,oText,oList,oMap,Out.kind,Out.n,Out.text,Out.keys,Out.kids]) rfl) fun x hx=>by cases hx
theorem chk_text{t:List UInt8}(h:t.length≤40):fChkO (oText t)=0 :=
 fChkO_of (one_of (by simp[oNum,oText,oList,oMap,Out.kind,Out.n,Out.text,Out.keys,Out.kids]) (by simp[oText,Out.kind,Out.n,Out.text,Out.keys,Out.kids]) (by simp[oNum,oText,oList,oMap,Out.kind,Out.n,Out.text,Out.keys,Out.kids]) (by simpa [oText,Out.text] using h) (by simp[oNum,oText,oList,oMap,Out.kind,Out.n,Out.text,Out.keys,Out.kids]) rfl) fun x hx=>by cases hx
theorem chk_list{l:List Out}(h:∀o∈l,fChkO o=0):fChkO (oList l)=0 :=
 fChkO_of (one_of (by simp[oNum,oText,oList,oMap,Out.kind,Out.n,Out.text,Out.keys,Out.kids]) (by simp[oList,Out.kind,Out.n,Out.text,Out.keys,Out.kids]) (by simp[oNum,oText,oList,oMap,Out.kind,Out.n,Out.text,Out.keys,Out.kids]) (by simp[oNum,oText,oList,oMap,Out.kind,Out.n,Out.text,Out.keys,Out.kids]) (by simp[oList,Out.kind]) rfl) h
theorem chk_map{ks:List (List UInt8)}{l:List Out}(h0:fKeys ks=0)(h1:ks.length=l.length)(h:∀o∈l,fChkO o=0):fChkO (oMap ks l)=0 :=
 fChkO_of (one_of (by simp[oNum,oText,oList,oMap,Out.kind,Out.n,Out.text,Out.keys,Out.kids]) (by simp[oMap,Out.kind,Out.n,Out.text,Out.keys,Out.kids]) (by simp[oNum,oText,oList,oMap,Out.kind,Out.n,Out.text,Out.keys,Out.kids]) (by simp[oNum,oText,oList,oMap,Out.kind,Out.n,Out.text,Out.keys,Out.kids]) (by simp[oMap,Out.kind,Out.keys,Out.kids,h1]) h0) h
theorem firstIx_of{α:Type}{f:Nat→α→Int}:∀{l:List α} {i:Nat},(∀(k:Nat) x,l[k]?=some x→f (i+k) x=0)→firstIx f l i=0
 | [],i,_=>rfl
 | y::l,i,h=>by
  simp only[firstIx]
  rw[if_neg (by simpa using h 0 y rfl)]
  exact firstIx_of fun k x hx=>by have:=h (k+1) x (by simpa using hx); rwa [show i+(k+1)=i+1+k by omega] at this
theorem chkL_at:∀{l ah:List Sel},fChkL l ah=0→∀(i:Nat) x,l[i]?=some x→fSel1 x (ah++l.take i)=0∧fChkL x.kids []=0
 | [],ah,_,i,x,hx=>by simp at hx
 | y::l,ah,h,i,x,hx=>by
  simp only[fChkL] at h
  split at h
  ·rename_i g; exact (g h).elim
  rename_i g1
  split at h
  ·rename_i g; exact (g h).elim
  rename_i g2
  cases i with
  | zero =>
   simp at hx
   subst hx
   refine⟨?_,?_⟩
   ·simpa using g1
   ·rw[←fChkK_eq]; exact Classical.byContradiction g2
  | succ i =>
   have:=chkL_at h i x (by simpa using hx)
   simpa using this
theorem selKeys_of{l:List Sel}(h:fChkL l []=0):fKeys (l.map called)=0:=by
 refine firstIx_of fun k s hs=>?_
 rw[List.getElem?_map] at hs
 obtain⟨x,hx,rfl⟩:=Option.map_eq_some_iff.1 hs
 have h1:=(chkL_at h k x hx).1
 rw[List.nil_append,fSel1_nm] at h1
 split at h1
 ·rename_i g; exact (g h1).elim
 rename_i g
 have g:fNm x=0:=Classical.byContradiction g
 split at h1
 ·rename_i g; exact (g h1).elim
 split at h1
 ·cases h1
 rename_i g3
 unfold fKeyAt fDup
 have hn:fName (called x)=0:=by
  unfold fNm at g
  split at g
  ·rename_i g4; exact (g4 g).elim
  rename_i g4
  unfold called
  split
  ·rename_i ha; rwa [if_pos ha] at g
  ·exact Classical.byContradiction g4
 rw[if_neg (by simp[hn]),Nat.zero_add,←List.map_take,List.any_map]
 rw[if_neg (by simpa using g3)]
theorem fcOf_cell{s:Sta}{t:Tg}{name:List UInt8}{f:Fd}{c:Cl}(ht:TgOk s t)(h:fcOf s t name=some (f,c)):fCell f c=0:=by
 unfold fcOf at h
 split at h
 ·rename_i f' c' hf hc
  have h0:=ht.cell _ c' hc
  unfold cellAt at h0
  rw[hf] at h0
  simp only[Option.some.injEq,Prod.mk.injEq] at h
  obtain⟨rfl,rfl⟩:=h
  exact h0
 ·cases h
theorem chk_thO{s:Sta}(hs:RtS s){l:List Sel}(hl:fChkL l []=0)(h:∀u∈s.things,∀x∈l,fChkO (oS s x u)=0){kd:Int}(hk : -1≤kd∧kd≤5)(y:Int):fChkO (thO s (l.map called) (oL s l) kd y)=0:=by
 unfold thO
 cases hu:thA s kd y with
 | none=>exact chk_none
 | some u =>
  have hm:=(thA_mem hs hk hu).1
  refine chk_map (selKeys_of hl) (by rw[oL_map]; simp) fun o ho=>?_
  rw[oL_map] at ho
  obtain⟨x,hx,rfl⟩:=List.mem_map.1 ho
  exact h u hm x hx
theorem chk_oS{s:Sta}(hs:RtS s):∀(n:Nat) (x:Sel) (t:Tg),x.sz<n→t∈s.things→fChkL x.kids []=0→fChkO (oS s x t)=0
 | 0,x,t,h,_,_=>by omega
 | n+1,x,t,h,ht,hx=>by
  have hz:=sz_eq x
  have hto:=hs.tg t ht
  have hkid:∀u∈s.things,∀z∈x.kids,fChkO (oS s z u)=0:=fun u hu z hz'=>by
   obtain⟨i,hi⟩:=List.mem_iff_getElem?.1 hz'
   exact chk_oS hs n z u (by have:=szL_mem hz'; omega) hu (chkL_at hx i z hi).2
  rw[oS_eq']
  split
  ·have:=hto.id1; have:=hto.id2; exact chk_num (by omega)
  cases hfc:fcOf s t x.name with
  | none=>exact chk_none
  | some fc =>
  obtain⟨f,c⟩:=fc
  simp only
  have hc:=fcOf_cell hto hfc
  unfold fCell at hc
  split at hc
  ·cases hc
  split at hc
  ·cases hc
  rename_i c2
  split at hc
  ·cases hc
  rename_i c3
  split
  ·exact chk_num (Classical.byContradiction c2)
  split
  ·exact chk_text (by omega)
  split
  ·refine chk_list fun o ho=>?_
   obtain⟨y,hy,rfl⟩:=List.mem_map.1 ho
   exact chk_thO hs hx hkid (kindOf_rg _ _ hs.sch.len) y
  split
  ·exact chk_none
  ·exact chk_thO hs hx hkid (kindOf_rg _ _ hs.sch.len) _
theorem chk_qO{s:Sta}(hs:RtS s){q:List Sel}(hq:fChkL q []=0):fChkO (qO s q)=0:=by
 refine chk_map (selKeys_of hq) (by simp) fun o ho=>?_
 obtain⟨x,hx,rfl⟩:=List.mem_map.1 ho
 obtain⟨i,hi⟩:=List.mem_iff_getElem?.1 hx
 have hl:=(chkL_at hq i x hi).2
 have hkid:∀u∈s.things,∀z∈x.kids,fChkO (oS s z u)=0:=fun u hu z hz'=>by
  obtain⟨i,hi⟩:=List.mem_iff_getElem?.1 hz'
  exact chk_oS hs (z.sz+1) z u (Nat.lt_succ_self _) hu (chkL_at hl i z hi).2
 unfold rtO
 split
 ·refine chk_list fun o ho=>?_
  obtain⟨y,hy,rfl⟩:=List.mem_map.1 ho
  exact chk_thO hs hl hkid (kindOf_rg _ _ hs.sch.len) y
 ·exact chk_thO hs hl hkid (kindOf_rg _ _ hs.sch.len) _
theorem okO_chk:∀(n:Nat) (o:Out),o.sz<n→fChkO o=0→okO o
 | 0,o,h,_=>by omega
 | n+1,o,h,hc=>by
  obtain⟨h1,h2⟩:=chkO_zero hc
  have hz:=szO_eq o
  rw[okO_eq]
  refine⟨fun k hk=>by have:=jName_len (h1.ks k hk); omega,?_⟩
  have:∀l:List Out,(∀x∈l,okO x)→okOs l:=fun l=>by
   induction l with
   | nil=>intro _; trivial
   | cons x r ih=>intro h; exact⟨h x (List.mem_cons_self ..),ih fun y hy=>h y (List.mem_cons_of_mem _ hy)⟩
  exact this _ fun x hx=>okO_chk n x (by have:=szOL_mem hx; omega) (h2 x hx)
theorem fQuery_parts{q:List Sel}(h:fQuery q=0):q≠[]∧manyL 5 q≤40∧deepL 5 q≤5∧fChkL q []=0:=by
 unfold fQuery at h
 split at h
 ·cases h
 rename_i h1
 split at h
 ·cases h
 rename_i h2
 exact⟨h1,by omega,by omega,h⟩
theorem qO_right{s:Sta}{q:List Sel}(h:fExec s q=0):fOut (qO s q)=0∧okO (qO s q):=by
 unfold fExec at h
 split at h
 ·rename_i g; exact (g h).elim
 rename_i h1
 split at h
 ·rename_i g; exact (g h).elim
 rename_i h2
 split at h
 ·rename_i h3
  have hs:=rtS_of (Classical.byContradiction h1)
  obtain⟨q1,q2,q3,q4⟩:=fQuery_parts (fValid_fits (Classical.byContradiction h2)).2.1
  have hc:=chk_qO hs q4
  refine⟨?_,okO_chk ((qO s q).sz+1) _ (Nat.lt_succ_self _) hc⟩
  unfold fOut
  have a1:=many_qO s q 11
  have a2:=Ho_deep 11 11 _ (Ho_qO s 4 q (deepL_Hs 5 q q3))
  rw[if_neg (by omega)]
  exact hc
 ·cases h
theorem fExec_one{s:Sta}{q:List Sel}(h:fExec s q=0){i:Nat}{x:Sel}(hx:q[i]?=some x):fExec s [x]=0:=by
 unfold fExec at h ⊢
 split at h
 ·rename_i g; exact (g h).elim
 rename_i h1
 rw[if_neg h1]
 split at h
 ·rename_i g; exact (g h).elim
 rename_i h2
 split at h
 ·rename_i h3
  obtain⟨v1,v2,v3⟩:=fValid_fits (Classical.byContradiction h2)
  obtain⟨q1,q2,q3,q4⟩:=fQuery_parts v2
  have hm:=List.mem_of_getElem? hx
  have hle:∀(f:Sel→Nat),f x≤(q.map f).sum:=fun f=>by
   clear h h1 h2 h3 v1 v2 v3 q1 q2 q3 q4 hx
   induction q with
   | nil=>cases hm
   | cons y r ih =>
    simp only[List.map_cons,List.sum_cons]
    rcases List.mem_cons.1 hm with rfl|hm
    ·omega
    ·have:=ih hm; omega
  have hv:fValid s.types [x]=0:=by
   unfold fValid
   rw[if_neg (by simp[v1])]
   have hq:fQuery [x]=0:=by
    unfold fQuery
    rw[if_neg (by simp)]
    have hl:1≤q.length:=by cases q with
     | nil=>exact (q1 rfl).elim
     | cons=>simp
    have b1:manyL 5 [x]≤manyL 5 q:=by
     have:=hle fun s=>manyL 4 s.kids
     simp only[manyL,List.map_cons,List.map_nil,List.sum_cons,List.sum_nil,List.length_cons,List.length_nil] at *
     omega
    have b2:deepL 5 [x]≤5:=by
     clear b1 hle
     have:=((foldl_max_le _ _ _ _).1 (show deepL 5 q≤5 from q3)).2 x hm
     exact (foldl_max_le _ _ _ _).2 ⟨by simp,fun y hy=>(List.mem_singleton.1 hy)▸this⟩
    rw[if_neg (by omega)]
    obtain⟨c1,c2⟩:=chkL_at q4 i x hx
    rw[List.nil_append,fSel1_nm] at c1
    split at c1
    ·rename_i g; exact (g c1).elim
    rename_i g1
    split at c1
    ·rename_i g; exact (g c1).elim
    rename_i g2
    have c3:fSel1 x []=0:=by rw[fSel1_nm,if_neg g1,if_neg g2]; rfl
    simp only[fChkL]
    rw[if_neg (by simp[c3]),fChkK_eq,if_neg (by simp[c2])]
   rw[if_neg (by simp[hq])]
   have:=firstE_zero.1 v3 x hm
   simp only[fFits,firstE]
   rw[if_neg (by simp[this])]
  rw[if_neg (by simp[hv]),if_pos]
  have:=hle fun x=>rtW s x
  unfold qW rtWs at h3 ⊢
  simp only[List.map_cons,List.map_nil,List.sum_cons,List.sum_nil]
  omega
 ·cases h
end Go.Am
