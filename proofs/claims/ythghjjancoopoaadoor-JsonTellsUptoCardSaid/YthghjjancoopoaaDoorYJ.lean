/- Parts of the proof: an abstract machine for Go functions, and what functions of the program give back (Ex27, Ex28). No condition. -/
import Derived.Test.YthghjjancoopoaaDoorYH
import Derived.Test.YthghjjancoopoaaDoorXT
import Derived.Test.YthghjjancoopoaaDoorYI
import Derived.Lib.ItoaLen
namespace Go.Am
set_option linter.all false
open Go Go.RowKit Go.Proofs
set_option maxRecDepth 100000
set_option linter.all false
def hexT:List UInt8:=[48,49,50,51,52,53,54,55,56,57,97,98,99,100,101,102]
def hexD(n:Nat):UInt8:=hexT.getD n 0
def qB(c:UInt8):List UInt8:=if c=34∨c=92 then [92,c] else if c=10 then [92,110] else if c.toNat<32 then [92,117,48,48,hexD (c.toNat / 16),hexD (c.toNat % 16)] else [c]
def qL(s:List UInt8):List UInt8:=s.flatMap qB
def quoted(s:List UInt8):List UInt8:=34::qL s++[34]
theorem qB_len(c:UInt8):1≤(qB c).length∧(qB c).length≤6:=by
 unfold qB
 repeat' split
 all_goals simp
theorem qL_len(s:List UInt8):s.length≤(qL s).length∧(qL s).length≤6*s.length:=by
 induction s with
 | nil=>simp[qL]
 | cons c r ih =>
  have:=qB_len c
  simp only[qL,List.flatMap_cons,List.length_append,List.length_cons] at *
  omega
theorem qL_take{s:List UInt8}{i:Nat}{c:UInt8}(h:s[i]?=some c):qL (s.take (i+1))=qL (s.take i)++qB c:=by
 unfold qL; rw[take_snoc h]; simp
theorem and15:∀n:Fin 32,Go.bits .and .u8 (n.val:Int) 15=((n.val % 16:Nat):Int):=by decide
theorem and15'{n:Nat}(h:n<32):Go.bits .and .u8 (n:Int) 15=((n % 16:Nat):Int):=and15 ⟨n,h⟩
theorem hexD_at{n:Nat}(h:n<16):hexT[n]?=some (hexD n):=by
 unfold hexD
 rw[List.getD,List.getElem?_eq_getElem (by simpa [hexT] using h)]
 rfl
theorem ren_app{R:Rn}{S:Nat→Prop}{l:List UInt8}{r:List AV}(h:pureL r=true):RenL R S (eB l++r) (eB l++r):=renL_pure rfl (pureL_append (pure_eB l) h)
set_option maxHeartbeats 8000000 in
theorem quoted_ok(s:List UInt8)(id:Nat)(h8:s.length≤1099511627776):FnOk Tryd.prog 33 [.str s] [] id (.str (quoted s)) []:=by
 refine fn_okc Tryd.func33 hcc33 (by decide) hcr33 (by simp[Tryd.ntmps33]) fun E hP hR hl hid=>?_
 simp only[cr33] at hR
 refine w_go 4000 ?_
 simp[cc33]
 refine w_loop (X:=Nat) (fun i=>⟨[(0,true,.str s),(3,true,.bsl E.n0 0 (34::qL (s.take i)).length),(8,true,.int .i64 s.length),(9,true,.int .i64 i)],[(E.n0,some ⟨eB (34::qL (s.take i)),.int .u8 0,false,false⟩)],1⟩)
  (fun i=>i≤s.length) (fun i=>s.length - i) 0 ?_ (by omega) ?_
 ·have h0:eB (34::qL (s.take 0))=[.int .u8 34]:=by simp[qL,eB]
  have h1:qL []=[]:=rfl
  have hrn:rnOk [(E.n0,E.n0+1024)]:=by simp[h0,h1]
  refine Conv.sub [(E.n0,E.n0+1024)] hrn ?_ ?_ ?_ ?_ ?_<;>(try simp[h0,h1])
  exact renL_pure (by simp[eB]) rfl
 rintro i hi p hp
 have hcv:∀(U:List UInt8),s.take i=s.take i→True:=fun _ _=>trivial
 have h34:∀(c:UInt8) (n:Nat),n<256→(((c.toNat:Int)==(n:Int))=true↔c=UInt8.ofNat n):=fun c n hn=>by
  rw[beq_iff_eq]
  constructor
  ·intro h
   have h:c.toNat=n:=by omega
   rw[←h]; simp
  ·intro h
   subst h
   simp; omega
 refine w_go 4000 ?_
 simp
 refine goc (fun h=>?_) (fun h=>?_)
 ·have h:=of_decide_eq_true h
  obtain⟨c,hc,hd⟩:=drop_cons h
  have hi1:IntKind.i64.wrap ((i:Int)+1)=((i+1:Nat):Int):=wrap64 (by omega)
  have hql:=qL_len (s.take i)
  rw[List.length_take] at hql
  have hst:=qL_take hc
  have hb:=qB_len c
  have hpU:=pure_eB (34::qL (s.take i))
  simp[hc]
  refine⟨h,?_⟩
  refine goc (fun g=>?_) (fun g=>?_)<;>simp
  ·have g:c=34∨c=92:=by
    rw[Bool.or_eq_true] at g
    exact g.imp (h34 c 34 (by omega)).1 (h34 c 92 (by omega)).1
   have hq:qB c=[92,c]:=by unfold qB; rw[if_pos g]
   rw[hq] at hst
   have hex:eB (34::(qL (s.take i)++[92,c]))=eB (34::qL (s.take i))++[.int .u8 92,.int .u8 c.toNat]:=by rw[←List.cons_append,eB_append]; rfl
   refine⟨⟨by omega,by omega⟩,?_⟩
   refine hp _ (i+1) h (by omega) ?_
   have hrn:rnOk [(E.n0,E.n0+17409)]:=by simp[hi1,hst,hex]
   refine Conv.sub [(E.n0,E.n0+17409)] hrn ?_ ?_ ?_ ?_ ?_<;>(try simp[hi1,hst,hex])
   exact ren_app (by rfl)
  have g:¬(c=34∨c=92):=by
   rw[Bool.or_eq_false_iff] at g
   rintro (e|e)
   ·exact absurd ((h34 c 34 (by omega)).2 e) (by rw[Bool.not_eq_true]; exact g.1)
   ·exact absurd ((h34 c 92 (by omega)).2 e) (by rw[Bool.not_eq_true]; exact g.2)
  refine goc (fun g2=>?_) (fun g2=>?_)<;>simp
  ·have g2:c=10:=(h34 c 10 (by omega)).1 g2
   have hq:qB c=[92,110]:=by unfold qB; rw[if_neg g,if_pos g2]
   rw[hq] at hst
   have hex:eB (34::(qL (s.take i)++[92,110]))=eB (34::qL (s.take i))++[.int .u8 92,.int .u8 110]:=by rw[←List.cons_append,eB_append]; rfl
   refine⟨⟨by omega,by omega⟩,?_⟩
   refine hp _ (i+1) h (by omega) ?_
   have hrn:rnOk [(E.n0,E.n0+19457)]:=by simp[hi1,hst,hex]
   refine Conv.sub [(E.n0,E.n0+19457)] hrn ?_ ?_ ?_ ?_ ?_<;>(try simp[hi1,hst,hex])
   exact ren_app (by rfl)
  have g2:c≠10:=fun e=>absurd ((h34 c 10 (by omega)).2 e) (by rw[Bool.not_eq_true]; exact g2)
  refine goc (fun g3=>?_) (fun g3=>?_)
  ·have g3:c.toNat<32:=by simp at g3; omega
   obtain⟨a,ha⟩:∃a,a=c.toNat / 16:=⟨_,rfl⟩
   obtain⟨b,hb0⟩:∃b,b=c.toNat % 16:=⟨_,rfl⟩
   have hA:Go.bits .and .u8 (c.toNat:Int) 15=(b:Int):=by rw[and15' g3,hb0]
   have hD:(c.toNat:Int) / 16=(a:Int):=by omega
   have ha16:=hexD_at (n:=a) (by omega)
   have hb16:=hexD_at (n:=b) (by omega)
   unfold hexT at ha16 hb16
   have hq:qB c=[92,117,48,48,hexD (c.toNat / 16),hexD (c.toNat % 16)]:=by unfold qB; rw[if_neg g,if_neg g2,if_pos g3]
   rw[←ha,←hb0] at hq
   rw[hq] at hst
   have hex:eB (34::(qL (s.take i)++[92,117,48,48,hexD a,hexD b]))=eB (34::qL (s.take i))++[.int .u8 92,.int .u8 117,.int .u8 48,.int .u8 48,.int .u8 (hexD a).toNat,.int .u8 (hexD b).toNat]:=by rw[←List.cons_append,eB_append]; rfl
   simp[hA,hD,ha16,hb16]
   refine⟨by decide,by omega,by omega,⟨by omega,by omega⟩,?_⟩
   refine hp _ (i+1) h (by omega) ?_
   have hrn:rnOk [(E.n0,E.n0+28673)]:=by simp[hi1,hst,hex]
   refine Conv.sub [(E.n0,E.n0+28673)] hrn ?_ ?_ ?_ ?_ ?_<;>(try simp[hi1,hst,hex])
   exact ren_app (by rfl)
  have g3:¬c.toNat<32:=by simp at g3; omega
  simp
  have hq:qB c=[c]:=by unfold qB; rw[if_neg g,if_neg g2,if_neg g3]
  rw[hq] at hst
  have hex:eB (34::(qL (s.take i)++[c]))=eB (34::qL (s.take i))++[.int .u8 c.toNat]:=by rw[←List.cons_append,eB_append]; rfl
  refine⟨⟨by omega,by omega⟩,?_⟩
  refine hp _ (i+1) h (by omega) ?_
  have hrn:rnOk [(E.n0,E.n0+23553)]:=by simp[hi1,hst,hex]
  refine Conv.sub [(E.n0,E.n0+23553)] hrn ?_ ?_ ?_ ?_ ?_<;>(try simp[hi1,hst,hex])
  exact ren_app (by rfl)
 ·have h:¬i<s.length:=of_decide_eq_false h
  rw[List.take_of_length_le (show s.length≤i by omega)]
  have hql:=qL_len s
  have hfin:List.take ((qL s).length+1+1) (List.map toU8 (eB (34::qL s))++[toU8 (.int .u8 34)])=quoted s:=by
   rw[eB_toU8,List.take_of_length_le (by simp)]
   unfold quoted
   simp[toU8]
  simp
  refine⟨⟨by omega,by omega⟩,fun x hx=>?_,?_⟩
  ·have hx:=List.mem_of_mem_take hx
   rcases List.mem_append.1 hx with hx|hx
   ·obtain⟨b,rfl⟩:=mem_eB hx
    have:=b.toNat_lt
    simp[isU8]
    try omega
   ·simp at hx; subst hx; decide
  rw[hfin]
  rw[hR]; exact rt_end (by simp<;>rfl) [] trivial (end_pure (by simp) (by simp) (by simp))
end Go.Am
namespace Go.Am
set_option linter.all false
open Go Go.RowKit Go.Proofs
set_option maxRecDepth 100000
set_option linter.all false
mutual
def jS:Out→List UInt8
 | .mk k n t ks l=>if k=2 then Lib.itoa n else if k=3 then quoted t else if k=1 then [110,117,108,108]
  else if k=5 then 123::Lib.join (jM ks l) [44]++[125] else 91::Lib.join (jL l) [44]++[93]
def jL:List Out→List (List UInt8)
 | []=>[]
 | o::r=>jS o::jL r
def jM:List (List UInt8)→List Out→List (List UInt8)
 | _,[]=>[]
 | ks,o::r=>(quoted (ks.headD [])++[58]++jS o)::jM ks.tail r
end
theorem jL_map:∀l:List Out,jL l=l.map jS
 | []=>rfl
 | o::r=>by simp[jL,jL_map r]
theorem jM_get:∀(l:List Out) (ks:List (List UInt8)) (i:Nat) (o:Out) (k:List UInt8),l[i]?=some o→ks[i]?=some k→(jM ks l)[i]?=some (quoted k++[58]++jS o)
 | [],ks,i,o,k,h,_=>by simp at h
 | x::r,[],i,o,k,_,h=>by simp at h
 | x::r,y::ks,0,o,k,h1,h2=>by simp at h1 h2; subst h1 h2; simp[jM]
 | x::r,y::ks,i+1,o,k,h1,h2=>by simp at h1 h2; simp[jM]; simpa using jM_get r ks i o k h1 h2
theorem jM_len:∀(l:List Out) (ks:List (List UInt8)),(jM ks l).length=l.length
 | [],ks=>by simp[jM]
 | x::r,ks=>by simp[jM,jM_len r]
theorem jS_eq(o:Out):jS o=if o.kind=2 then Lib.itoa o.n else if o.kind=3 then quoted o.text else if o.kind=1 then [110,117,108,108]
  else if o.kind=5 then 123::Lib.join (jM o.keys o.kids) [44]++[125] else 91::Lib.join (jL o.kids) [44]++[93]:=by cases o; rfl
def jP(o:Out):List (List UInt8):=if o.kind=5 then jM o.keys o.kids else jL o.kids
theorem jP_len(o:Out):(jP o).length=o.kids.length:=by
 unfold jP; split
 ·exact jM_len _ _
 ·rw[jL_map]; simp
theorem firstIx_z{α:Type}{f:Nat→α→Int}:∀{l:List α} {i:Nat},firstIx f l i=0→∀(k:Nat) x,l[k]?=some x→f (i+k) x=0
 | [],i,_,k,x,h=>by simp at h
 | y::l,i,h,k,x,hx=>by
  simp only[firstIx] at h
  split at h
  ·rename_i h0; exact (h0 h).elim
  rename_i h0
  cases k with
  | zero=>simp at hx; subst hx; exact Classical.byContradiction h0
  | succ k=>rw[show i+(k+1)=i+1+k by omega]; exact firstIx_z h k x (by simpa using hx)
theorem jName_len{s:List UInt8}(h:fName s=0):s.length≤12:=by
 unfold fName at h
 split at h
 ·cases h
 ·omega
structure OneOk(o:Out):Prop where
 k1:1≤o.kind∧o.kind≤5
 n0:o.kind≠2→o.n=0
 t0:o.kind≠3→o.text=[]
 m0:o.kind≠5→o.keys=[]
 l0:o.kind<4→o.kids=[]
 ni : -999999999≤o.n∧o.n≤999999999
 tl:o.text.length≤40
 ml:o.kind=5→o.keys.length=o.kids.length
 ks:∀k∈o.keys,fName k=0
 nd:fKeys o.keys=0
theorem oneOk{o:Out}(h:fOne o=0):OneOk o:=by
 unfold fOne at h
 split at h
 ·cases h
 rename_i h1
 split at h
 ·cases h
 rename_i h2
 split at h
 ·cases h
 rename_i h3
 split at h
 ·cases h
 rename_i h4
 split at h
 ·cases h
 rename_i h5
 have hn:∀{p q:Prop},¬(p∧¬q)→p→q:=fun h hp=>Classical.byContradiction fun hq=>h ⟨hp,hq⟩
 refine⟨by omega,fun g=>?_,fun g=>?_,fun g=>?_,fun g=>?_,by omega,by omega,fun g=>?_,fun k hk=>?_,h⟩
 ·exact Classical.byContradiction fun q=>h2 (.inl ⟨g,q⟩)
 ·exact Classical.byContradiction fun q=>h2 (.inr (.inl ⟨g,q⟩))
 ·exact Classical.byContradiction fun q=>h2 (.inr (.inr (.inl ⟨g,q⟩)))
 ·exact Classical.byContradiction fun q=>h2 (.inr (.inr (.inr ⟨g,q⟩)))
 ·exact Classical.byContradiction fun q=>h5 ⟨g,q⟩
 ·obtain⟨i,hi⟩:=List.mem_iff_getElem?.1 hk
  have:=firstIx_z h i k hi
  unfold fKeyAt fDup at this
  split at this
  ·rename_i h0; exact (h0 this).elim
  ·rename_i h0; exact Classical.byContradiction h0
theorem fChkOs_mem{l:List Out}(h:fChkOs l=0):∀o∈l,fChkO o=0:=by
 induction l with
 | nil=>intro o ho; cases ho
 | cons x r ih =>
  simp only[fChkOs] at h
  split at h
  ·rename_i h0; exact (h0 h).elim
  rename_i h0
  intro o ho
  rcases List.mem_cons.1 ho with rfl|ho
  ·exact Classical.byContradiction h0
  ·exact ih h o ho
theorem chkO_zero{o:Out}(h:fChkO o=0):OneOk o∧∀x∈o.kids,fChkO x=0:=by
 rw[fChkO_eq] at h
 split at h
 ·rename_i h0; exact (h0 h).elim
 ·rename_i h0; exact⟨oneOk (Classical.byContradiction h0),fChkOs_mem h⟩
theorem join_le(xs:List (List UInt8)):(Lib.join xs [44]).length≤(xs.map List.length).sum+xs.length:=by
 have key:∀l:List (List UInt8),Lib.lens l=(l.map List.length).sum:=fun l=>by
  induction l with
  | nil=>rfl
  | cons a r ih=>simp[Lib.lens,ih]
 cases xs with
 | nil=>simp[Lib.join]
 | cons x r=>rw[Lib.join_length,key]; simp; omega
theorem jS_len:∀(m:Nat) (o:Out),o.sz<m→fChkO o=0→(jS o).length+2≤400*o.sz
 | 0,o,h,_=>by omega
 | m+1,o,h,hc=>by
  obtain⟨h1,h2⟩:=chkO_zero hc
  have hz:=szO_eq o
  have hkid:∀x∈o.kids,(jS x).length+2≤400*x.sz:=fun x hx=>jS_len m x (by have:=szOL_mem hx; omega) (h2 x hx)
  rw[jS_eq]
  split
  ·have:=Lib.itoa_length_le o.n (by have:=h1.ni; omega) (by have:=h1.ni; omega)
   omega
  split
  ·have:=qL_len o.text
   have:=h1.tl
   simp[quoted]; omega
  split
  ·simp; omega
  have hsum:∀l:List Out,(∀x∈l,(jS x).length+2≤400*x.sz)→((l.map jS).map List.length).sum+2*l.length≤400*szOL l:=fun l=>by
   induction l with
   | nil=>intro _; simp[szOL]
   | cons x r ih =>
    intro hx
    have:=ih fun y hy=>hx y (List.mem_cons_of_mem _ hy)
    have:=hx x (List.mem_cons_self ..)
    simp only[List.map_cons,List.sum_cons,List.length_cons,szOL]
    omega
  split
  ·have hm:∀(l:List Out) (ks:List (List UInt8)),(∀k∈ks,k.length≤12)→((jM ks l).map List.length).sum≤((l.map jS).map List.length).sum+75*l.length:=fun l=>by
    induction l with
    | nil=>intro ks _; simp[jM]
    | cons x r ih =>
     intro ks hk
     have:=ih ks.tail fun k hk'=>hk k (List.mem_of_mem_tail hk')
     have h0:(ks.headD []).length≤12:=by
      cases ks with
      | nil=>simp
      | cons a b=>exact hk a (List.mem_cons_self ..)
     have hq:=qL_len (ks.headD [])
     simp only[jM,List.map_cons,List.sum_cons,List.length_cons,List.length_append,quoted,List.length_nil]
     omega
   have a1:=hm o.kids o.keys fun k hk=>jName_len (h1.ks k hk)
   have a2:=hsum o.kids hkid
   have a3:=join_le (jM o.keys o.kids)
   rw[jM_len] at a3
   have a4:=h1.ml (by assumption)
   simp
   omega
  ·have a2:=hsum o.kids hkid
   have a3:=join_le (jL o.kids)
   rw[jL_map] at a3 ⊢
   simp at a3 ⊢
   simp at a2
   omega
theorem pureL_tk{l:List AV}(h:pureL l=true)(n:Nat):pureL (l.take n)=true:=pureL_of fun i x hx=>by
 rw[List.getElem?_take] at hx
 split at hx
 ·exact pureL_get h hx
 ·cases hx
set_option maxHeartbeats 8000000 in
theorem jBytes_ok:∀(m:Nat) (o:Out) (id:Nat),o.sz<m→o.sz≤100000000000→fChkO o=0→FnOk Tryd.prog 18 [eO o] [] id (.str (jS o)) []
 | 0,o,id,hm,_,_=>by omega
 | m+1,o,id,hm,h8,hc=>by
  obtain⟨h1,h2⟩:=chkO_zero hc
  have hsz:=szO_eq o
  have hlen:=szOL_len o.kids
  have hJ:=jS_eq o
  have hIt:=fun id=>Itoa_ok o.n id (by have:=h1.ni; unfold I64; omega)
  have hQt:=fun id=>quoted_ok o.text id (by have:=h1.tl; omega)
  rw[eO_of o]
  refine fn_okc Tryd.func18 hcc18 (by decide) hcr18 (by simp[Tryd.ntmps18]) fun E hP hR hl hid=>?_
  simp only[cr18] at hR
  refine w_go 4000 ?_
  simp[cc18]
  refine goc (fun g=>?_) (fun g=>?_)<;>simp
  ·have g:o.kind=2:=by simpa using g
   rw[if_pos g] at hJ
   rw[hJ] at hR
   (refine w_call hP rfl (hIt _) (by simp) (by simp<;>rfl) ?_; refine w_go 4000 ?_; simp)
   rw[hR]; exact rt_end (by simp<;>rfl) [] trivial (end_pure (by simp) (by simp) (by simp))
  have g2:o.kind≠2:=by simpa using g
  refine goc (fun g=>?_) (fun g=>?_)<;>simp
  ·have g:o.kind=3:=by simpa using g
   rw[if_neg g2,if_pos g] at hJ
   rw[hJ] at hR
   (refine w_call hP rfl (hQt _) (by simp) (by simp<;>rfl) ?_; refine w_go 4000 ?_; simp)
   rw[hR]; exact rt_end (by simp<;>rfl) [] trivial (end_pure (by simp) (by simp) (by simp))
  have g3:o.kind≠3:=by simpa using g
  refine goc (fun g=>?_) (fun g=>?_)<;>simp
  ·have g:o.kind=1:=by simpa using g
   rw[if_neg g2,if_neg g3,if_pos g] at hJ
   rw[hJ] at hR
   rw[hR]; exact rt_end (by simp<;>rfl) [] trivial (end_pure (by simp) (by simp) (by simp))
  have g1:o.kind≠1:=by simpa using g
  rw[if_neg g2,if_neg g3,if_neg g1] at hJ
  have hpl:=jP_len o
  have hJl:=jS_len (o.sz+1) o (Nat.lt_succ_self _) hc
  by_cases k5:o.kind=5
  ·rw[if_pos k5] at hJ
   rw[hJ] at hR hJl
   have hjl:=jM_len o.kids o.keys
   have hkk:=h1.ml k5
   have hst0:∀i:Nat,(jM o.keys o.kids).take i=if i=0 then [] else (jM o.keys o.kids).take i:=fun i=>by split<;>simp_all
   refine w_loop (X:=Nat) (fun i=>⟨[(1,true,.ptr E.n0 0 0),(3,true,.str (if i=0 then [91,93] else [123,125])),(4,true,.bsl (E.n0+1) 0 i),(23,true,.sl (o.kids.map eO)),(24,true,.int .i64 o.kids.length),(25,true,.int .i64 i)],
    [(E.n0,some ⟨[.agg [.int .i64 o.kind,.int .i64 o.n,.str o.text,.sl (o.keys.map .str),.sl (o.kids.map eO)]],.agg [.int .i64 o.kind,.int .i64 o.n,.str o.text,.sl (o.keys.map .str),.sl (o.kids.map eO)],false,false⟩),(E.n0+1,some ⟨((jM o.keys o.kids).map AV.str).take i,.str [],false,false⟩)],2⟩)
    (fun i=>i≤o.kids.length) (fun i=>o.kids.length - i) 0 ?_ (by omega) ?_
   ·refine Conv.trans (Conv.voidSlot 4 (x:=.nils) (y:=.bsl (E.n0+16384) 0 0) (by simp) .nils (.str [])) ?_
    have hrn:rnOk [(E.n0,E.n0),(E.n0+1,E.n0+16384)]:=by simp
    refine Conv.sub [(E.n0,E.n0),(E.n0+1,E.n0+16384)] hrn ?_ ?_ ?_ ?_ ?_<;>(try simp)
   rintro i hi p hp
   refine w_go 4000 ?_
   simp
   refine goc (fun h=>?_) (fun h=>?_)
   ·have h:=of_decide_eq_true h
    obtain⟨x,hx,hd⟩:=drop_cons h
    have hi1:IntKind.i64.wrap ((i:Int)+1)=((i+1:Nat):Int):=wrap64 (by omega)
    have hxm:=List.mem_of_getElem? hx
    have hxz:=szOL_mem hxm
    have hxl:=jS_len (x.sz+1) x (Nat.lt_succ_self _) (h2 x hxm)
    have ih:=fun id=>jBytes_ok m x id (by omega) (by omega) (h2 x hxm)
    rw[eO_of x] at ih
    simp[hx,eO_of x]
    refine⟨h,?_⟩
    (refine w_call hP rfl (ih _) (by simp) (by simp<;>rfl) ?_; refine w_go 4000 ?_; simp)
    obtain⟨k,hk⟩:∃k,o.keys[i]?=some k:=⟨_,List.getElem?_eq_getElem (by omega)⟩
    have hkl:=jName_len (h1.ks k (List.mem_of_getElem? hk))
    have hQk:=fun id=>quoted_ok k id (by omega)
    have hql:=qL_len k
    have hjm:=jM_get o.kids o.keys i x k hx hk
    have hst:((jM o.keys o.kids).map AV.str).take (i+1)=((jM o.keys o.kids).map AV.str).take i++[.str (quoted k++[58]++jS x)]:=take_snoc (by simp[hjm])
    refine goc_true (by simp[k5]) ?_
    simp[hk]
    refine⟨by omega,?_⟩
    (refine w_call hP rfl (hQk _) (by simp) (by simp<;>rfl) ?_; refine w_go 4000 ?_; simp)
    have hqz:(quoted k).length=(qL k).length+2:=by simp[quoted]
    refine⟨by omega,by omega,⟨by omega,by omega,by omega⟩,?_⟩
    refine hp _ (i+1) h (by omega) ?_
    have hrn:rnOk [(E.n0,E.n0),(E.n0+1,E.n0+27650)]:=by simp[hi1,hst]
    refine Conv.sub [(E.n0,E.n0),(E.n0+1,E.n0+27650)] hrn ?_ ?_ ?_ ?_ ?_<;>(try simp[hi1,hst])
    exact renL_pure rfl (pureL_append (pureL_tk (pure_strs _) _) rfl)
   ·have h:¬i<o.kids.length:=of_decide_eq_false h
    have hil:i=o.kids.length:=by omega
    have hka:((jM o.keys o.kids).map AV.str).take i=(jM o.keys o.kids).map AV.str:=List.take_of_length_le (by simp; omega)
    have hle:i≤(jM o.keys o.kids).length:=by omega
    have hJo:=fun id=>Join_ok (jM o.keys o.kids) [44] id (by omega) (by simp at hJl; omega)
    simp
    refine goc_true (by simp[k5]) ?_
    simp[hka]
    (refine w_callR hP rfl (hJo _) (by simp[hka,hle]<;>rfl) (by simp[hka,hle]) (by simp[hka,hle]<;>rfl) (by simp[hka,hle]) ?_; refine w_go 4000 ?_; simp[hka,hle])
    refine⟨by simp at hJl; omega,by simp at hJl; omega,?_⟩
    rw[hR]; exact rt_end (by simp<;>rfl) [] trivial (end_pure (by simp) (by simp) (by simp))
  ·rw[if_neg k5] at hJ
   rw[hJ] at hR hJl
   have hjl:(jL o.kids).length=o.kids.length:=by rw[jL_map]; simp
   have hst0:∀i:Nat,(jL o.kids).take i=if i=0 then [] else (jL o.kids).take i:=fun i=>by split<;>simp_all
   refine w_loop (X:=Nat) (fun i=>⟨[(1,true,.ptr E.n0 0 0),(3,true,.str ([91,93])),(4,true,.bsl (E.n0+1) 0 i),(23,true,.sl (o.kids.map eO)),(24,true,.int .i64 o.kids.length),(25,true,.int .i64 i)],
    [(E.n0,some ⟨[.agg [.int .i64 o.kind,.int .i64 o.n,.str o.text,.sl (o.keys.map .str),.sl (o.kids.map eO)]],.agg [.int .i64 o.kind,.int .i64 o.n,.str o.text,.sl (o.keys.map .str),.sl (o.kids.map eO)],false,false⟩),(E.n0+1,some ⟨((jL o.kids).map AV.str).take i,.str [],false,false⟩)],2⟩)
    (fun i=>i≤o.kids.length) (fun i=>o.kids.length - i) 0 ?_ (by omega) ?_
   ·refine Conv.trans (Conv.voidSlot 4 (x:=.nils) (y:=.bsl (E.n0+16384) 0 0) (by simp) .nils (.str [])) ?_
    have hrn:rnOk [(E.n0,E.n0),(E.n0+1,E.n0+16384)]:=by simp
    refine Conv.sub [(E.n0,E.n0),(E.n0+1,E.n0+16384)] hrn ?_ ?_ ?_ ?_ ?_<;>(try simp)
   rintro i hi p hp
   refine w_go 4000 ?_
   simp
   refine goc (fun h=>?_) (fun h=>?_)
   ·have h:=of_decide_eq_true h
    obtain⟨x,hx,hd⟩:=drop_cons h
    have hi1:IntKind.i64.wrap ((i:Int)+1)=((i+1:Nat):Int):=wrap64 (by omega)
    have hxm:=List.mem_of_getElem? hx
    have hxz:=szOL_mem hxm
    have hxl:=jS_len (x.sz+1) x (Nat.lt_succ_self _) (h2 x hxm)
    have ih:=fun id=>jBytes_ok m x id (by omega) (by omega) (h2 x hxm)
    rw[eO_of x] at ih
    simp[hx,eO_of x]
    refine⟨h,?_⟩
    (refine w_call hP rfl (ih _) (by simp) (by simp<;>rfl) ?_; refine w_go 4000 ?_; simp)
    have hst:((jL o.kids).map AV.str).take (i+1)=((jL o.kids).map AV.str).take i++[.str (jS x)]:=take_snoc (by rw[jL_map]; simp[hx])
    refine goc_false (by simp[k5]) ?_
    simp
    refine⟨⟨by omega,by omega,by omega⟩,?_⟩
    refine hp _ (i+1) h (by omega) ?_
    have hrn:rnOk [(E.n0,E.n0),(E.n0+1,E.n0+16386)]:=by simp[hi1,hst]
    refine Conv.sub [(E.n0,E.n0),(E.n0+1,E.n0+16386)] hrn ?_ ?_ ?_ ?_ ?_<;>(try simp[hi1,hst])
    exact renL_pure rfl (pureL_append (pureL_tk (pure_strs _) _) rfl)
   ·have h:¬i<o.kids.length:=of_decide_eq_false h
    have hil:i=o.kids.length:=by omega
    have hka:((jL o.kids).map AV.str).take i=(jL o.kids).map AV.str:=List.take_of_length_le (by simp; omega)
    have hle:i≤(jL o.kids).length:=by omega
    have hJo:=fun id=>Join_ok (jL o.kids) [44] id (by omega) (by simp at hJl; omega)
    simp
    refine goc_false (by simp[k5]) ?_
    simp[hka]
    (refine w_callR hP rfl (hJo _) (by simp[hka,hle]<;>rfl) (by simp[hka,hle]) (by simp[hka,hle]<;>rfl) (by simp[hka,hle]) ?_; refine w_go 4000 ?_; simp[hka,hle])
    refine⟨by simp at hJl; omega,by simp at hJl; omega,?_⟩
    rw[hR]; exact rt_end (by simp<;>rfl) [] trivial (end_pure (by simp) (by simp) (by simp))
def fPrint(o:Out):List UInt8:=if fOut o=0 then jS o else []
theorem jPrint_ok(o:Out)(id:Nat)(h8:o.sz≤100000000000)(hk:okO o):FnOk Tryd.prog 7 [eO o] [] id (.tup [.str (fPrint o),.int .i64 (fOut o)]) []:=by
 have hC:=fun id=>oCheck_ok o id (by omega) hk
 have hB:=fun (h:fChkO o=0) id=>jBytes_ok (o.sz+1) o id (by omega) h8 h
 rw[eO_of o] at hC hB ⊢
 refine fn_okc Tryd.func7 hcc7 (by decide) hcr7 (by simp[Tryd.ntmps7]) fun E hP hR hl hid=>?_
 simp only[cr7] at hR
 refine w_go 4000 ?_
 simp[cc7]
 (refine w_call hP rfl (hC _) (by simp) (by simp<;>rfl) ?_; refine w_go 4000 ?_; simp)
 refine goc (fun g=>?_) (fun g=>?_)<;>simp
 ·have g:fOut o≠0:=by simpa using g
  have hf:fPrint o=[]:=by unfold fPrint; rw[if_neg g]
  rw[hf] at hR
  rw[hR]; exact rt_end (by simp<;>rfl) [] trivial (end_pure (by simp) (by simp) (by simp))
 ·have g:fOut o=0:=by simpa using g
  have hf:fPrint o=jS o:=by unfold fPrint; rw[if_pos g]
  have hz:fChkO o=0:=by
   unfold fOut at g
   split at g
   ·cases g
   ·exact g
  have hB1:=hB hz
  rw[hf,g] at hR
  (refine w_call hP rfl (hB1 _) (by simp) (by simp<;>rfl) ?_; refine w_go 4000 ?_; simp)
  rw[hR]; exact rt_end (by simp<;>rfl) [] trivial (end_pure (by simp) (by simp) (by simp))
end Go.Am
