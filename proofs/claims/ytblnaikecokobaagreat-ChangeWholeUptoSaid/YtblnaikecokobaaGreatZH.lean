/- Changes: the law that a change is done whole; what an alias is does not matter. No condition. -/
import Derived.Test.YtblnaikecokobaaGreatZF
import Derived.Test.YtblnaikecokobaaGreatZD
import Derived.Test.YtblnaikecokobaaGreatYL
import Derived.Test.YtblnaikecokobaaGreatXF
namespace Go.Am
set_option linter.all false
open Go Go.RowKit Go.Proofs
set_option maxRecDepth 100000
set_option linter.all false
def dig(i:Nat):UInt8:=lowByte (48+(i:Int))
theorem Digits_ok(i:Nat)(id:Nat)(h:i≤7):FnOk Tryz.prog 20 [.int .i64 i] [] id (.str [dig i]) []:=by
 have e1:IntKind.i64.wrap (48+(i:Int))=48+(i:Int):=wrap64 (by omega)
 have e2:IntKind.u8.wrap (48+(i:Int))=((dig i).toNat:Int):=by rw[u8_wrap]; rfl
 refine fn_okc Tryz.func20 hcc20 (by decide) hcr20 (by simp[Tryz.ntmps20]) fun E hP hR hl hid=>?_
 simp only[cr20] at hR
 refine w_go 4000 ?_
 simp[cc20]
 refine goc_false (by simp; omega) ?_
 simp
 refine goc_false (by simp) ?_
 simp
 refine goc_true (by simp; omega) ?_
 simp[e1,e2]
 refine⟨rfl,?_⟩
 rw[hR]; exact rt_end (by simp<;>rfl) [] trivial (end_pure (by simp) (by simp) (by simp))
def reAl:Nat→List Sel→List Sel
 | _,[]=>[]
 | i,s::r=>.mk [122,dig i] s.name s.args s.kids::reAl (i+1) r
theorem reAl_len:∀(i:Nat) (q:List Sel),(reAl i q).length=q.length
 | _,[]=>rfl
 | i,s::r=>by simp[reAl,reAl_len (i+1) r]
theorem reAl_get:∀(i:Nat) (q:List Sel) (k:Nat) (s:Sel),q[k]?=some s→(reAl i q)[k]?=some (.mk [122,dig (i+k)] s.name s.args s.kids)
 | i,x::r,0,s,h=>by simp at h; subst h; simp[reAl]
 | i,x::r,k+1,s,h=>by
  have:=reAl_get (i+1) r k s (by simpa using h)
  rw[show i+1+k=i+(k+1) by omega] at this
  simpa [reAl] using this
 | i,[],k,s,h=>by simp at h
theorem reAl_sz:∀(i:Nat) (q:List Sel),szL (reAl i q)=szL q
 | _,[]=>rfl
 | i,s::r=>by
  simp only[reAl,szL,reAl_sz (i+1) r,sz_eq]
  rfl
theorem reAl_evs(l:List Ty):∀(i:Nat) (q:List Sel),evsOf l (reAl i q)=evsOf l q
 | _,[]=>rfl
 | i,s::r=>by
  have:=reAl_evs l (i+1) r
  unfold evsOf at *
  simp only[reAl,List.map_cons,this]
  cases s; rfl
theorem reAl_mk(l:List Ty):∀(i:Nat) (q:List Sel),firstE (mkE l) (reAl i q)=firstE (mkE l) q
 | _,[]=>rfl
 | i,s::r=>by
  have e:mkE l (.mk [122,dig i] s.name s.args s.kids)=mkE l s:=by cases s; rfl
  simp only[reAl,firstE,e,reAl_mk l (i+1) r]
theorem dig_name:∀i:Nat,i≤7→fName [122,dig i]=0:=by decide
theorem dig_ne:∀i:Nat,i≤7→∀k:Nat,k≤7→k<i→dig k≠dig i:=by decide
theorem reAl_chk:∀(q:List Sel) (i:Nat) (ah:List Sel),(∀x∈ah,∃k,k<i∧called x=[122,dig k])→i+q.length≤8→(∀s∈q,fName s.name=0∧fArgs s.args=0∧s.kids=[])→fChkL (reAl i q) ah=0
 | [],_,_,_,_,_=>rfl
 | s::r,i,ah,h1,h2,h3=>by
  obtain⟨a1,a2,a3⟩:=h3 s (by simp)
  simp only[List.length_cons] at h2
  have hc:called (.mk [122,dig i] s.name s.args s.kids)=[122,dig i]:=rfl
  have e1:fSel1 (.mk [122,dig i] s.name s.args s.kids) ah=0:=by
   unfold fSel1
   rw[if_neg (by show ¬fName s.name≠0; simpa using a1),if_neg (by
    rintro⟨_,g⟩
    exact g (dig_name i (by omega))),if_neg (by show ¬fArgs s.args≠0; simpa using a2),if_neg]
   rw[List.any_eq_true]
   rintro⟨x,hx,g⟩
   obtain⟨k,hk,e⟩:=h1 x hx
   rw[e,hc] at g
   have g:([122,dig k]:List UInt8)=[122,dig i]:=by simpa using g
   simp only[List.cons.injEq,true_and,and_true] at g
   exact dig_ne i (by omega) k (by omega) hk g
  have e2:fChkK (.mk [122,dig i] s.name s.args s.kids)=0:=by rw[fChkK_eq]; show fChkL s.kids []=0; rw[a3]; rfl
  simp only[reAl,fChkL,e1,e2]
  simp only[ne_eq,not_true_eq_false,if_false]
  refine reAl_chk r (i+1) _ (fun x hx=>?_) (by omega) fun y hy=>h3 y (by simp[hy])
  rcases List.mem_append.1 hx with hx|hx
  ·obtain⟨k,hk,e⟩:=h1 x hx; exact⟨k,by omega,e⟩
  ·rw[List.mem_singleton.1 hx]; exact⟨i,by omega,hc⟩
theorem many_flat:∀(q:List Sel) (m:Nat),(∀s∈q,s.kids=[])→manyL (m+1) q=q.length:=fun q m h=>by
 have:(q.map fun s=>manyL m s.kids).sum=0:=by
  induction q with
  | nil=>rfl
  | cons s r ih =>
   have e:manyL m s.kids=0:=by rw[h s (by simp)]; cases m<;>simp[manyL]
   simp only[List.map_cons,List.sum_cons,e,ih fun x hx=>h x (by simp[hx])]
 simp only[manyL,this]; omega
theorem deep_flat:∀(q:List Sel) (m:Nat),(∀s∈q,s.kids=[])→deepL (m+1) q≤1:=fun q m h=>by
 have key:∀(l:List Sel) (a:Nat),(∀s∈l,s.kids=[])→a≤1→l.foldl (fun d s=>max d (deepL m s.kids+1)) a≤1:=by
  intro l
  induction l with
  | nil=>intro a _ ha; exact ha
  | cons s r ih =>
   intro a hl ha
   have e:deepL m s.kids=0:=by rw[hl s (by simp)]; cases m<;>simp[deepL]
   simp only[List.foldl_cons]
   exact ih _ (fun x hx=>hl x (by simp[hx])) (by rw[e]; omega)
 exact key q _ h (by omega)
theorem fChkL_names:∀(q ah:List Sel),fChkL q ah=0→∀s∈q,fName s.name=0
 | [],_,_,s,hs=>by cases hs
 | x::r,ah,h,s,hs=>by
  simp only[fChkL] at h
  split at h
  ·rename_i g; exact (g h).elim
  ·rename_i g
   split at h
   ·rename_i g2; exact (g2 h).elim
   ·rcases List.mem_cons.1 hs with rfl|hs
    ·have g:fSel1 s ah=0:=Classical.byContradiction g
     unfold fSel1 at g
     split at g
     ·rename_i a; exact (a g).elim
     ·rename_i a; exact Classical.byContradiction a
    ·exact fChkL_names r _ h s hs
theorem mkE_kids{l:List Ty}{s:Sel}(h:mkE l s=0):s.kids=[]:=by
 unfold mkE at h
 split at h
 ·omega
 ·rename_i g; exact Classical.byContradiction g
theorem reAl_q{l:List Ty}{q:List Sel}(h:fQuery q=0)(ho:ofE l q=0):fQuery (reAl 0 q)=0:=by
 obtain⟨a1,a2,a3,a4⟩:=fQuery_zero h
 obtain⟨b1,b2⟩:=ofE_zero ho
 have hk:∀s∈q,s.kids=[]:=fun s hs=>mkE_kids (firstE_zero.1 b1 s hs)
 have hk2:∀s∈reAl 0 q,s.kids=[]:=fun s hs=>by
  obtain⟨k,hk'⟩:=List.mem_iff_getElem?.1 hs
  have hlt:k<q.length:=by have:=(List.getElem?_eq_some_iff.1 hk').1; rwa [reAl_len] at this
  have:=reAl_get 0 q k q[k] (List.getElem?_eq_getElem hlt)
  rw[hk'] at this
  injection this with this
  rw[this]
  show q[k].kids=[]
  exact hk _ (List.getElem_mem hlt)
 have hn:=fChkL_names q [] a3
 unfold fQuery
 rw[if_neg (by intro e; have:=reAl_len 0 q; rw[e] at this; exact a1 (List.length_eq_zero_iff.1 this.symm)),if_neg (by
  rw[many_flat _ 4 hk2,reAl_len]
  have:deepL 5 (reAl 0 q)≤1:=deep_flat _ 4 hk2
  omega)]
 exact reAl_chk q 0 [] (fun x hx=>by cases hx) (by omega) fun s hs=>⟨hn s hs,a4 s hs,hk s hs⟩
theorem reAl_cd{s:Sta}{q:List Sel}(h:cdE s q=0):cdE s (reAl 0 q)=0:=by
 obtain⟨h1,h2⟩:=cdE_zero h
 obtain⟨h3,h4⟩:=cvE_zero h1
 have hr:rdE s (reAl 0 q)=0:=by
  unfold rdE
  rw[if_neg (by rw[(rdE_zero h3).1]; decide)]
  exact reAl_q (rdE_zero h3).2 h4
 have ho:ofE s.types (reAl 0 q)=0:=by
  unfold ofE at *
  rw[reAl_mk,reAl_len]
  exact h4
 unfold cdE cvE
 rw[if_neg (by rw[if_neg (by rw[hr]; decide),ho]; decide),reAl_evs]
 exact h2
theorem reAl_snoc{q:List Sel}{i:Nat}{s:Sel}(h:q[i]?=some s):((reAl 0 q).map eSel).take (i+1)=((reAl 0 q).map eSel).take i++[.agg [.str [122,dig i],.str s.name,.sl (s.args.map eAg),.sl (s.kids.map eSel)]]:=by
 have h1:=reAl_get 0 q i s h
 rw[Nat.zero_add] at h1
 have h2:((reAl 0 q).map eSel)[i]?=some (eSel (.mk [122,dig i] s.name s.args s.kids)):=by simp[h1]
 rw[take_snoc h2,eSel_eq]
 rfl
set_option maxHeartbeats 8000000 in
theorem ChangeWhole_ok(s:Sta)(q:List Sel)(id:Nat)(hI:IdsI s)(hq8:szL q≤1099511627776):FnOk Tryz.prog 5 [eSta s,.sl (q.map eSel)] [] id (.bool true) []:=by
 have hb:=fun id=>changeBegun_ok id
 have hh:=fun id=>historyBegun_ok id
 have ht:=fun id=>stateBegun_ok id
 have hD:=fun id=>cDo_ok s q id hI hq8
 by_cases h0:cdE s q=0
 rotate_left
 ·rw[staV_bad0 h0,evV_bad h0] at hD
  unfold eSta at *
  refine fn_okc Tryz.func5 hcc5 (by decide) hcr5 (by simp[Tryz.ntmps5]) fun E hP hR hl hid=>?_
  simp only[cr5] at hR
  refine w_go 4000 ?_
  simp[cc5]
  (refine w_call hP rfl (hb _) (by simp) (by simp<;>rfl) ?_; refine w_go 4000 ?_; simp)
  (refine w_callg hP (by simp) rfl (fun hc=>⟨hh _,by revert hc; simp; try grind,by simp⟩) ?_; refine w_go 4000 ?_; simp)
  (refine w_callg hP (by simp) rfl (fun hc=>⟨ht _,by revert hc; simp; try grind,by simp⟩) ?_; refine w_go 4000 ?_; simp)
  (refine w_call hP rfl (hD _) (by simp) (by simp<;>rfl) ?_; refine w_go 4000 ?_; simp)
  refine goc_true (by simpa using h0) ?_
  simp
  rw[hR]; exact rt_end (by simp<;>rfl) [] trivial (end_pure (by simp; rfl) (by simp) (by simp))
 have hZ:=fun id=>cDo_ok s (reAl 0 q) id hI (by rw[reAl_sz]; exact hq8)
 rw[reAl_cd h0,reAl_evs,staV_eq,if_pos rfl,show evV 0 (evsOf s.types q) = .sl ((evsOf s.types q).map eEv) from rfl] at hZ
 rw[h0,staV_eq,if_pos rfl,show evV 0 (evsOf s.types q) = .sl ((evsOf s.types q).map eEv) from rfl] at hD
 obtain⟨h1,h2⟩:=cdE_zero h0
 obtain⟨h3,h4⟩:=cvE_zero h1
 have hq7:=(ofE_zero h4).2
 have hR0:=rt_of (rdE_zero h3).1 hI
 have hn:=evsOf_n h3
 have hX:=rt_all _ _ hR0 hn h2
 have hG:=fun id=>Group_ok s (evsOf s.types q) id hI hn
 have hgr:grpE s (evsOf s.types q)=0:=by
  unfold grpE
  rw[if_neg (by rw[ch_rdy h1]; decide)]
  exact h2
 rw[hgr,staV_eq,if_pos rfl] at hG
 have hC:=fun id=>stCheck_ok (allS s (evsOf s.types q)) id
 rw[hX.st] at hC
 have hSX:=fun id=>Same_self hX id
 have hln:((evsOf s.types q).map eEv).length=q.length:=by simp[evsOf]
 have hpE:pureL ((evsOf s.types q).map eEv)=true:=pure_evs _
 generalize allS s (evsOf s.types q)=X at *
 generalize (evsOf s.types q).map eEv=EV at *
 have hrl:(reAl 0 q).length=q.length:=reAl_len 0 q
 unfold eSta at *
 refine fn_okc Tryz.func5 hcc5 (by decide) hcr5 (by simp[Tryz.ntmps5]) fun E hP hR hl hid=>?_
 simp only[cr5] at hR
 refine w_go 4000 ?_
 simp[cc5]
 (refine w_call hP rfl (hb _) (by simp) (by simp<;>rfl) ?_; refine w_go 4000 ?_; simp)
 (refine w_callg hP (by simp) rfl (fun hc=>⟨hh _,by revert hc; simp; try grind,by simp⟩) ?_; refine w_go 4000 ?_; simp)
 (refine w_callg hP (by simp) rfl (fun hc=>⟨ht _,by revert hc; simp; try grind,by simp⟩) ?_; refine w_go 4000 ?_; simp)
 (refine w_call hP rfl (hD _) (by simp[hln]) (by simp[hln]<;>rfl) ?_; refine w_go 4000 ?_; simp[hln])
 (refine w_callg hP (by simp[hln]) rfl (fun hc=>⟨hC _,by revert hc; simp[hln]; try grind,by simp[hln]⟩) ?_; refine w_go 4000 ?_; simp[hln])
 (refine w_call hP rfl (hG _) (by simp[hln]) (by simp[hln]<;>rfl) ?_; refine w_go 4000 ?_; simp[hln])
 (refine w_callg hP (by simp[hln]) rfl (fun hc=>⟨hSX _,by revert hc; simp[hln]; try grind,by simp[hln]⟩) ?_; refine w_go 4000 ?_; simp[hln])
 refine w_loop (X:=Nat) (fun i=>⟨[(1,true,.sl (q.map eSel)),(2,true,.ptr E.n0 0 0),(5,true,.ptr (E.n0+1) 0 0),(9,true,.bsl (E.n0+2) 0 i),(10,true,.int .i64 i)],[(E.n0,some ⟨[.agg [.sl (s.types.map eTy),.sl (s.things.map eTg)]],.agg [.sl (s.types.map eTy),.sl (s.things.map eTg)],false,false⟩),(E.n0+1,some ⟨[.agg [.sl (X.types.map eTy),.sl (X.things.map eTg)]],.agg [.nils,.nils],false,false⟩),(E.n0+2,some ⟨((reAl 0 q).map eSel).take i,.agg [.str [],.str [],.nils,.nils],false,false⟩)],3⟩) (fun i=>i≤q.length) (fun i=>q.length - i) 0 ?_ (by omega) ?_
 ·refine Conv.trans (Conv.voidSlot 9 (x:=.nils) (y:=.bsl (E.n0+55296) 0 0) (by simp) .nils (.agg [.str [],.str [],.nils,.nils])) ?_
  have hrn:rnOk [(E.n0,E.n0),(E.n0+1,E.n0+19456),(E.n0+2,E.n0+55296)]:=by simp
  refine Conv.sub [(E.n0,E.n0),(E.n0+1,E.n0+19456),(E.n0+2,E.n0+55296)] hrn ?_ ?_ ?_ ?_ ?_<;>(try simp)
 ·rintro i hi p hp
  refine w_go 4000 ?_
  simp
  refine goc (fun h=>?_) (fun h=>?_)
  ·have h:=of_decide_eq_true h
   obtain⟨x,hx,hd⟩:=drop_cons h
   have hi1:IntKind.i64.wrap ((i:Int)+1)=((i+1:Nat):Int):=wrap64 (by omega)
   have hDg:=fun id=>Digits_ok i id (by omega)
   have hts:=reAl_snoc hx
   simp[hx,eSel_eq x]
   refine⟨h,?_⟩
   (refine w_call hP rfl (hDg _) (by simp) (by simp<;>rfl) ?_; refine w_go 4000 ?_; simp)
   refine⟨⟨by omega,by omega,by omega⟩,?_⟩
   refine hp _ (i+1) h (by omega) ?_
   have hrn:rnOk [(E.n0,E.n0),(E.n0+1,E.n0+1),(E.n0+2,E.n0+18435)]:=by simp[hi1]
   refine Conv.sub [(E.n0,E.n0),(E.n0+1,E.n0+1),(E.n0+2,E.n0+18435)] hrn ?_ ?_ ?_ ?_ ?_<;>(try simp[hi1])
   exact renL_pure hts.symm (by rw[←List.map_take]; exact pureL_append (pure_sels _) (by simp))
  ·have h:¬i<q.length:=of_decide_eq_false h
   have hiq:i=q.length:=by omega
   subst hiq
   have htk:((reAl 0 q).map eSel).take q.length=(reAl 0 q).map eSel:=List.take_of_length_le (by simp[hrl])
   simp
   (refine w_callR hP rfl (hZ _) (by simp[htk,hrl]<;>rfl) (by simp[htk,hrl]) (by simp[htk,hrl]<;>rfl) (by simp[htk,hrl]) ?_; refine w_go 4000 ?_; simp[htk,hrl])
   (refine w_callg hP (by simp) rfl (fun hc=>⟨hSX _,by revert hc; simp; try grind,by simp⟩) ?_; refine w_go 4000 ?_; simp)
   rw[hR]; exact rt_end (by simp<;>rfl) [] trivial (end_pure (by simp) (by simp) (by simp))
end Go.Am
