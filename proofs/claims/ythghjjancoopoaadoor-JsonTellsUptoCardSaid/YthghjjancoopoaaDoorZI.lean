/- The document's reading of outs: a map. No condition. -/
import Derived.Test.YthghjjancoopoaaDoorZH
namespace Go.Am
set_option linter.all false
open Go Go.RowKit Go.Proofs
set_option maxRecDepth 100000
set_option linter.all false
theorem jPr_end{n:Nat}{f:Bool}{ks:List (List UInt8)}{l:List Out}{r:List UInt8}(h:cutB r [125]=true):jPr (n+1) f ks l r=(ks,l,some (r.drop 1)):=by simp only[jPr]; rw[if_pos h]
theorem jPr_stop{n:Nat}{f:Bool}{ks:List (List UInt8)}{l:List Out}{r:List UInt8}(h:cutB r [125]=false)(hc:pComma f r=none):jPr (n+1) f ks l r=(ks,l,none):=by simp only[jPr]; rw[h,if_neg (by simp),hc]
theorem jPr_text{n:Nat}{f:Bool}{ks:List (List UInt8)}{l:List Out}{r t:List UInt8}(h:cutB r [125]=false)(hc:pComma f r=some t)(ht:txU t=none):jPr (n+1) f ks l r=(ks,l,none):=by simp only[jPr]; rw[h,if_neg (by simp),hc]; simp only; rw[ht]
theorem jPr_colon{n:Nat}{f:Bool}{ks:List (List UInt8)}{l:List Out}{r t u:List UInt8}(h:cutB r [125]=false)(hc:pComma f r=some t)(ht:txU t=some u)(h5:cutB u [58]=false):jPr (n+1) f ks l r=(ks,l,none):=by simp only[jPr]; rw[h,if_neg (by simp),hc]; simp only; rw[ht]; simp only; rw[h5,if_neg (by simp)]
theorem jPr_bad{n:Nat}{f:Bool}{ks:List (List UInt8)}{l:List Out}{r t u:List UInt8}(h:cutB r [125]=false)(hc:pComma f r=some t)(ht:txU t=some u)(h5:cutB u [58]=true)(ho:(jA n (u.drop 1)).2=none):jPr (n+1) f ks l r=(ks++[txT t],l,none):=by simp only[jPr]; rw[h,if_neg (by simp),hc]; simp only; rw[ht]; simp only; rw[if_pos h5,ho]
theorem jPr_next{n:Nat}{f:Bool}{ks:List (List UInt8)}{l:List Out}{r t u v:List UInt8}(h:cutB r [125]=false)(hc:pComma f r=some t)(ht:txU t=some u)(h5:cutB u [58]=true)(ho:(jA n (u.drop 1)).2=some v):jPr (n+1) f ks l r=jPr n false (ks++[txT t]) (l++[(jA n (u.drop 1)).1]) v:=by simp only[jPr]; rw[h,if_neg (by simp),hc]; simp only; rw[ht]; simp only; rw[if_pos h5,ho]
set_option maxHeartbeats 32000000 in
theorem at_map{n:Nat}(hO:∀m,m<n→AtIs m)(s:List UInt8)(a id:Nat)(ha:a≤s.length)(hn:2*(s.length - a)≤n)(h8:s.length≤1099511627000)(g1:cutB (s.drop a) [110,117,108,108]=false)(g2:cutB (s.drop a) [34]=false)(g3:cutB (s.drop a) [91]=false)(g4:cutB (s.drop a) [123]=true):
  FnOk Tryd.prog 24 [.str s,.int .i64 a] [] id (.tup [eO (jA (n+1) (s.drop a)).1,.int .i64 (toI s (jA (n+1) (s.drop a)).2)]) []:=by
 have hS:=fun (w:List UInt8) (b id:Nat) (hb:b≤s.length) (hw:w.length≤1099511627776)=>starts_ok s w b id hb (by omega) hw
 have h1:=fun id=>hS [110,117,108,108] a id ha (by simp)
 have h2:=fun id=>hS [34] a id ha (by simp)
 have h3:=fun id=>hS [91] a id ha (by simp)
 have h4:=fun id=>hS [123] a id ha (by simp)
 rw[g1] at h1
 rw[g2] at h2
 rw[g3] at h3
 rw[g4] at h4
 have hal:=cut_le ha g4
 simp only[List.length_cons,List.length_nil] at hal
 have haa:s[a]?=some 123:=by
  have:=cut_eq g4
  have h:=congrArg (fun l=>l[0]?) this
  simpa using h
 have hal':a<s.length:=by omega
 have hai:s[a]=123:=by
  rw[List.getElem?_eq_getElem hal'] at haa
  injection haa
 have a1:IntKind.i64.wrap ((a:Int)+1)=((a+1:Nat):Int):=wrap64 (by omega)
 have hj:=jA_map (n:=n) g1 g2 g3 g4
 rw[List.drop_drop] at hj
 obtain⟨R,hR0⟩:∃R,R=jPr n true [] [] (s.drop (a+1)):=⟨_,rfl⟩
 rw[←hR0] at hj
 refine at_is (v:=.agg [.int .i64 5,.int .i64 0,.str [],.sl (R.1.map .str),.sl (R.2.1.map eO)]) (i:=toI s R.2.2) hj (nrm_map R.1 R.2.1) rfl ?_
 refine fn_okc Tryd.func24 hcc24 (by decide) hcr24 (by simp[Tryd.ntmps24]) fun E hP hR hl hid=>?_
 simp only[cr24] at hR
 refine w_go 4000 ?_
 simp[cc24]
 (refine w_call hP rfl (h1 _) (by simp) (by simp<;>rfl) ?_; refine w_go 4000 ?_; simp)
 (refine w_call hP rfl (h2 _) (by simp) (by simp<;>rfl) ?_; refine w_go 4000 ?_; simp)
 (refine w_call hP rfl (h3 _) (by simp) (by simp<;>rfl) ?_; refine w_go 4000 ?_; simp)
 (refine w_call hP rfl (h4 _) (by simp[hal',hai,haa]) (by simp[hal',hai,haa]<;>rfl) ?_; refine w_go 4000 ?_; simp[hal',hai,haa])
 clear h1 h2 h3 h4
 refine w_loop (X:=List (List UInt8)×List Out×Nat×Nat) (fun q=>⟨[(0,true,.str s),(1,true,.int .i64 q.2.2.1),(4,true,.ptr E.n0 0 0),(8,true,.ptr (E.n0+1) 0 0),(9,true,.str [125]),(10,true,.int .i64 q.2.1.length)],
   [(E.n0,some (kB 0 .nils .nils)),(E.n0+1,some (kB 5 (.bsl (E.n0+2) 0 q.1.length) (.bsl (E.n0+3) 0 q.2.1.length))),(E.n0+2,some (sB q.1)),(E.n0+3,some (lB q.2.1))],4⟩)
  (fun q=>jPr q.2.2.2 q.2.1.isEmpty q.1 q.2.1 (s.drop q.2.2.1)=R∧q.2.2.1≤s.length∧2*(s.length - q.2.2.1)+2≤q.2.2.2∧q.2.2.2≤n∧q.2.1.length≤q.2.2.1∧q.1.length=q.2.1.length) (fun q=>s.length - q.2.2.1) ([],[],a+1,n) ?_ ⟨hR0.symm,hal,by show 2*(s.length - (a+1))+2≤n; omega,Nat.le_refl _,by simp,rfl⟩ ?_
 ·refine Conv.trans (Conv.voidBox (E.n0+19456) (by simp; rfl) rfl (.agg [.int .i64 5,.int .i64 0,.str [],.nils,.nils] [.int .i64 5,.int .i64 0,.str [],.bsl (E.n0+33792) 0 0,.nils] rfl (fun m x y h1 h2=>?_)) (.str [])) (Conv.trans (Conv.voidBox (E.n0+19456) (by simp; rfl) rfl (.agg [.int .i64 5,.int .i64 0,.str [],.bsl (E.n0+33792) 0 0,.nils] [.int .i64 5,.int .i64 0,.str [],.bsl (E.n0+33792) 0 0,.bsl (E.n0+33793) 0 0] rfl (fun m x y h1 h2=>?_)) (.agg [.int .i64 0,.int .i64 0,.str [],.nils,.nils])) ?_)
  ·match m,h1,h2 with
   | 0,h1,h2|1,h1,h2|2,h1,h2|4,h1,h2=>simp at h1 h2; exact .inl (h1.symm.trans h2)
   | 3,h1,h2=>simp at h1 h2; exact .inr ⟨h1.symm,h2.symm⟩
   | m+5,h1,h2=>simp at h1
  ·match m,h1,h2 with
   | 0,h1,h2|1,h1,h2|2,h1,h2|3,h1,h2=>simp at h1 h2; exact .inl (h1.symm.trans h2)
   | 4,h1,h2=>simp at h1 h2; exact .inr ⟨h1.symm,h2.symm⟩
   | m+5,h1,h2=>simp at h1
  ·have hrn:rnOk [(E.n0,E.n0),(E.n0+1,E.n0+19456),(E.n0+2,E.n0+33792),(E.n0+3,E.n0+33793)]:=by simp[a1,kB,sB,lB]
   refine Conv.sub [(E.n0,E.n0),(E.n0+1,E.n0+19456),(E.n0+2,E.n0+33792),(E.n0+3,E.n0+33793)] hrn ?_ ?_ ?_ ?_ ?_<;>(try simp[a1,kB,sB,lB])
 clear hR0 a1
 rintro⟨ks,l,b,m⟩ ⟨hx,hb,hm,hmn,hlb,hkl⟩ p hp
 simp only at hx hb hm hmn hlb hkl
 obtain⟨m,rfl⟩:=Nat.exists_eq_succ_of_ne_zero (show m≠0 by omega)
 have he:=fun id=>hS [125] b id hb (by simp)
 have hl1:IntKind.i64.wrap ((l.length:Int)+1)=((l.length+1:Nat):Int):=wrap64 (by omega)
 by_cases gE:cutB (s.drop b) [125]=true
 ·have hbl:=cut_le hb gE
  have b1:IntKind.i64.wrap ((b:Int)+1)=((b+1:Nat):Int):=wrap64 (by simp at hbl; omega)
  have hRe:R=(ks,l,some ((s.drop b).drop 1)):=by rw[←hx]; exact jPr_end gE
  have hti:toI s R.2.2=((b+1:Nat):Int):=by rw[hRe]; exact toI_at hbl
  rw[hti,hRe] at hR
  rw[gE] at he
  refine w_go 4000 ?_
  simp[kB,lB,sB]
  (refine w_call hP rfl (he _) (by simp[b1]) (by simp[b1]<;>rfl) ?_; refine w_go 4000 ?_; simp[b1])
  have hrn:rnOk []:=by simp[kB,lB,sB,idO hid]
  rw[hR]
  refine rt_endR (by simp<;>rfl) (by simp[kB,lB,sB,idO hid]<;>exact⟨rfl,rfl⟩) [] hrn ⟨?_,?_,?_,?_,?_,?_⟩<;>(try simp[kB,lB,sB,idO hid])
 have gE:cutB (s.drop b) [125]=false:=by simpa using gE
 rw[gE] at he
 cases hle:l.isEmpty with
 | true =>
  obtain rfl:l=[]:=by simpa using hle
  obtain rfl:ks=[]:=List.length_eq_zero_iff.1 hkl
  rw[hle] at hx
  have hc:=pComma_t (s.drop b)
  have hT:=fun id=>textAt_ok s b id (by omega) (by omega)
  cases htu:txU (s.drop b) with
  | none =>
   have hRe:R=([],[],none):=by rw[←hx]; exact jPr_text gE hc htu
   rw[hRe,toI_none] at hR
   rw[htu,toI_none] at hT
   refine w_go 4000 ?_
   simp[kB,lB,sB]
   (refine w_call hP rfl (he _) (by simp) (by simp<;>rfl) ?_; refine w_go 4000 ?_; simp)
   (refine w_call hP rfl (hT _) (by simp) (by simp<;>rfl) ?_; refine w_go 4000 ?_; simp)
   refine w_callg (v:=.bool false) (rd:=[]) hP (by simp) rfl (fun hc=>by simp at hc) ?_
   refine w_go 4000 ?_
   simp
   have hrn:rnOk []:=by simp[kB,lB,sB,idO hid]
   rw[hR]
   refine rt_endR (by simp<;>rfl) (by simp[kB,lB,sB,idO hid]<;>exact⟨rfl,rfl⟩) [] hrn ⟨?_,?_,?_,?_,?_,?_⟩<;>(try simp[kB,lB,sB,idO hid])
  | some u =>
   obtain⟨w,hw,hw1⟩:=txU_suf htu
   obtain⟨q1,q2,q3⟩:=place_of (s:=s) rfl (by omega) hw
   have hti:toI s (some u)=((b+w.length:Nat):Int):=q3
   rw[htu,hti] at hT
   have hpb:b<b+w.length:=by omega
   generalize hpl:b+w.length=pl at *
   have hnn:¬((pl:Int)<0):=by omega
   have hco:=fun id=>hS [58] pl id q2 (by simp)
   rw[q1] at hco
   by_cases g5:cutB u [58]=true
   rotate_left
   ·have g5:cutB u [58]=false:=by simpa using g5
    have hRe:R=([],[],none):=by rw[←hx]; exact jPr_colon gE hc htu g5
    rw[hRe,toI_none] at hR
    rw[g5] at hco
    refine w_go 4000 ?_
    simp[kB,lB,sB]
    (refine w_call hP rfl (he _) (by simp) (by simp<;>rfl) ?_; refine w_go 4000 ?_; simp)
    (refine w_call hP rfl (hT _) (by simp[hnn]) (by simp[hnn]<;>rfl) ?_; refine w_go 4000 ?_; simp[hnn])
    (refine w_callg hP (by simp[hnn]) rfl (fun hc=>⟨hco _,by revert hc; simp[hnn]; try grind,by simp[hnn]⟩) ?_; refine w_go 4000 ?_; simp[hnn])
    have hrn:rnOk []:=by simp[kB,lB,sB,idO hid]
    rw[hR]
    refine rt_endR (by simp<;>rfl) (by simp[kB,lB,sB,idO hid]<;>exact⟨rfl,rfl⟩) [] hrn ⟨?_,?_,?_,?_,?_,?_⟩<;>(try simp[kB,lB,sB,idO hid])
   rw[g5] at hco
   have g5':cutB (s.drop pl) [58]=true:=by rw[q1]; exact g5
   have hpl2:=cut_le q2 g5'
   simp only[List.length_cons,List.length_nil] at hpl2
   have p1:IntKind.i64.wrap ((pl:Int)+1)=((pl+1:Nat):Int):=wrap64 (by omega)
   have hud:s.drop (pl+1)=u.drop 1:=by rw[←List.drop_drop,q1]
   obtain⟨x,ou,hja⟩:∃x ou,jA m (u.drop 1)=(x,ou):=⟨_,_,rfl⟩
   have hJ:=fun id=>hO m (by omega) s (pl+1) id (by omega) (by omega) h8
   rw[hud,hja] at hJ
   simp only at hJ
   obtain⟨xk,xn,xt,xks,xls,hxe⟩:=eO_agg x
   rw[hxe] at hJ
   obtain⟨tx,htx⟩:∃tx,txT (s.drop b)=tx:=⟨_,rfl⟩
   rw[htx] at hT
   have hkx:([]++[tx]).map AV.str=([]:List (List UInt8)).map AV.str++[.str tx]:=by simp
   cases ou with
   | none =>
    have hRe:R=([]++[tx],[],none):=by rw[←hx,←htx]; exact jPr_bad gE hc htu g5 (by rw[hja])
    rw[hRe,toI_none] at hR
    rw[toI_none] at hJ
    refine w_go 4000 ?_
    simp[kB,lB,sB]
    (refine w_call hP rfl (he _) (by simp) (by simp<;>rfl) ?_; refine w_go 4000 ?_; simp)
    (refine w_call hP rfl (hT _) (by simp[hnn]) (by simp[hnn]<;>rfl) ?_; refine w_go 4000 ?_; simp[hnn])
    (refine w_callg hP (by simp[hnn,p1]) rfl (fun hc=>⟨hco _,by revert hc; simp[hnn,p1]; try grind,by simp[hnn,p1]⟩) ?_; refine w_go 4000 ?_; simp[hnn,p1])
    (refine w_call hP rfl (hJ _) (by simp[hnn,p1]) (by simp[hnn,p1]<;>rfl) ?_; refine w_go 4000 ?_; simp[hnn,p1])
    have hrn:rnOk []:=by simp[kB,lB,sB,idO hid]
    rw[hR]
    refine rt_endR (by simp<;>rfl) (by simp[kB,lB,sB,idO hid]<;>exact⟨rfl,rfl⟩) [] hrn ⟨?_,?_,?_,?_,?_,?_⟩<;>(try simp[kB,lB,sB,idO hid])
    all_goals first|exact namesL_pure _ rfl|exact⟨List.take_of_length_le (by simp),by rw[List.take_of_length_le (by simp)]; exact namesL_pure _ (pureL_append (pure_strs _) rfl)⟩
   | some v =>
    obtain⟨w2,hw2,hw3⟩:=jA_suf (n:=m) (s:=u.drop 1) (u:=v) (by rw[hja])
    obtain⟨r1,r2,r3⟩:=place_of (s:=s) hud (by omega) hw2
    have hRe:jPr m false ([]++[tx]) ([]++[x]) v=R:=by rw[←hx,←htx,jPr_next gE hc htu g5 (show (jA m (u.drop 1)).2=some v by rw[hja]),hja]
    have hti2:toI s (some v)=((pl+1+w2.length:Nat):Int):=r3
    rw[hti2] at hJ
    have hpb2:b<pl+1+w2.length:=by omega
    have hll:([]:List Out).length+1≤pl+1+w2.length:=by first|omega|(simp; omega)
    generalize hpl3:pl+1+w2.length=pz at *
    have hnz:¬((pz:Int)<0):=by omega
    have hex:([]++[x]).map eO=([]:List Out).map eO++[eO x]:=by simp
    rw[hxe] at hex
    have hemp:([]++[x]).isEmpty=false:=by simp
    refine w_go 4000 ?_
    simp[kB,lB,sB]
    (refine w_call hP rfl (he _) (by simp) (by simp<;>rfl) ?_; refine w_go 4000 ?_; simp)
    (refine w_call hP rfl (hT _) (by simp[hnn]) (by simp[hnn]<;>rfl) ?_; refine w_go 4000 ?_; simp[hnn])
    (refine w_callg hP (by simp[hnn,p1]) rfl (fun hc=>⟨hco _,by revert hc; simp[hnn,p1]; try grind,by simp[hnn,p1]⟩) ?_; refine w_go 4000 ?_; simp[hnn,p1])
    (refine w_call hP rfl (hJ _) (by simp[hnn,p1]) (by simp[hnn,p1]<;>rfl) ?_; refine w_go 4000 ?_; simp[hnn,p1])
    refine goc_false (by simpa using hnz) ?_
    simp
    refine hp _ ([]++[tx],[]++[x],pz,m) ⟨by show jPr m ([]++[x]).isEmpty ([]++[tx]) ([]++[x]) (s.drop pz)=R; rw[r1,hemp]; exact hRe,r2,by simp at hm ⊢; omega,by simp at hmn ⊢; omega,by simp; omega,by simp; try omega⟩ (by simp; omega) ?_
    have hrn:rnOk [(E.n0,E.n0),(E.n0+1,E.n0+1),(E.n0+2,E.n0+30724),(E.n0+3,E.n0+52228)]:=by simp[hl1,hex,hkx,hxe,kB,lB,sB]
    refine Conv.sub [(E.n0,E.n0),(E.n0+1,E.n0+1),(E.n0+2,E.n0+30724),(E.n0+3,E.n0+52228)] hrn ?_ ?_ ?_ ?_ ?_<;>(try simp[hl1,hex,hkx,hxe,kB,lB,sB])
    all_goals first|exact (rfl:IntKind.i64.wrap 1=1)|exact⟨renL_pure rfl (pureL_append (pure_strs _) (by simp)),renL_pure rfl (pureL_append (pure_outs _) (by simp[pure_strs,pure_outs]))⟩
 | false =>
  have hne:l≠[]:=fun q=>by rw[q] at hle; cases hle
  have hlp:0<l.length:=List.length_pos_iff.2 hne
  rw[hle] at hx
  have hcm:=fun id=>hS [44] b id hb (by simp)
  by_cases g2:cutB (s.drop b) [44]=true
  rotate_left
  ·have g2:cutB (s.drop b) [44]=false:=by simpa using g2
   have hRe:R=(ks,l,none):=by rw[←hx]; exact jPr_stop gE (pComma_n g2)
   rw[hRe,toI_none] at hR
   rw[g2] at hcm
   refine w_go 4000 ?_
   simp[kB,lB,sB,hlp]
   (refine w_call hP rfl (he _) (by simp[hlp]) (by simp[hlp]<;>rfl) ?_; refine w_go 4000 ?_; simp[hlp])
   (refine w_call hP rfl (hcm _) (by simp[hlp]) (by simp[hlp]<;>rfl) ?_; refine w_go 4000 ?_; simp[hlp])
   have hrn:rnOk []:=by simp[kB,lB,sB,idO hid]
   rw[hR]
   refine rt_endR (by simp<;>rfl) (by simp[kB,lB,sB,idO hid]<;>exact⟨rfl,rfl⟩) [] hrn ⟨?_,?_,?_,?_,?_,?_⟩<;>(try simp[kB,lB,sB,idO hid])
  have hbl:=cut_le hb g2
  simp only[List.length_cons,List.length_nil] at hbl
  have b1:IntKind.i64.wrap ((b:Int)+1)=((b+1:Nat):Int):=wrap64 (by omega)
  have hc:=pComma_f g2
  rw[List.drop_drop] at hc
  rw[g2] at hcm
  have hT:=fun id=>textAt_ok s (b+1) id (by omega) (by omega)
  cases htu:txU (s.drop (b+1)) with
  | none =>
   have hRe:R=(ks,l,none):=by rw[←hx]; exact jPr_text gE hc htu
   rw[hRe,toI_none] at hR
   rw[htu,toI_none] at hT
   refine w_go 4000 ?_
   simp[kB,lB,sB,hlp]
   (refine w_call hP rfl (he _) (by simp[hlp]) (by simp[hlp]<;>rfl) ?_; refine w_go 4000 ?_; simp[hlp])
   (refine w_call hP rfl (hcm _) (by simp[hlp,b1]) (by simp[hlp,b1]<;>rfl) ?_; refine w_go 4000 ?_; simp[hlp,b1])
   (refine w_call hP rfl (hT _) (by simp) (by simp<;>rfl) ?_; refine w_go 4000 ?_; simp)
   refine w_callg (v:=.bool false) (rd:=[]) hP (by simp) rfl (fun hc=>by simp at hc) ?_
   refine w_go 4000 ?_
   simp
   have hrn:rnOk []:=by simp[kB,lB,sB,idO hid]
   rw[hR]
   refine rt_endR (by simp<;>rfl) (by simp[kB,lB,sB,idO hid]<;>exact⟨rfl,rfl⟩) [] hrn ⟨?_,?_,?_,?_,?_,?_⟩<;>(try simp[kB,lB,sB,idO hid])
  | some u =>
   obtain⟨w,hw,hw1⟩:=txU_suf htu
   obtain⟨q1,q2,q3⟩:=place_of (s:=s) rfl (by omega) hw
   have hti:toI s (some u)=(((b+1)+w.length:Nat):Int):=q3
   rw[htu,hti] at hT
   have hpb:b<(b+1)+w.length:=by omega
   generalize hpl:(b+1)+w.length=pl at *
   have hnn:¬((pl:Int)<0):=by omega
   have hco:=fun id=>hS [58] pl id q2 (by simp)
   rw[q1] at hco
   by_cases g5:cutB u [58]=true
   rotate_left
   ·have g5:cutB u [58]=false:=by simpa using g5
    have hRe:R=(ks,l,none):=by rw[←hx]; exact jPr_colon gE hc htu g5
    rw[hRe,toI_none] at hR
    rw[g5] at hco
    refine w_go 4000 ?_
    simp[kB,lB,sB,hlp]
    (refine w_call hP rfl (he _) (by simp[hlp]) (by simp[hlp]<;>rfl) ?_; refine w_go 4000 ?_; simp[hlp])
    (refine w_call hP rfl (hcm _) (by simp[hlp,b1]) (by simp[hlp,b1]<;>rfl) ?_; refine w_go 4000 ?_; simp[hlp,b1])
    (refine w_call hP rfl (hT _) (by simp[hnn]) (by simp[hnn]<;>rfl) ?_; refine w_go 4000 ?_; simp[hnn])
    (refine w_callg hP (by simp[hnn]) rfl (fun hc=>⟨hco _,by revert hc; simp[hnn]; try grind,by simp[hnn]⟩) ?_; refine w_go 4000 ?_; simp[hnn])
    have hrn:rnOk []:=by simp[kB,lB,sB,idO hid]
    rw[hR]
    refine rt_endR (by simp<;>rfl) (by simp[kB,lB,sB,idO hid]<;>exact⟨rfl,rfl⟩) [] hrn ⟨?_,?_,?_,?_,?_,?_⟩<;>(try simp[kB,lB,sB,idO hid])
   rw[g5] at hco
   have g5':cutB (s.drop pl) [58]=true:=by rw[q1]; exact g5
   have hpl2:=cut_le q2 g5'
   simp only[List.length_cons,List.length_nil] at hpl2
   have p1:IntKind.i64.wrap ((pl:Int)+1)=((pl+1:Nat):Int):=wrap64 (by omega)
   have hud:s.drop (pl+1)=u.drop 1:=by rw[←List.drop_drop,q1]
   obtain⟨x,ou,hja⟩:∃x ou,jA m (u.drop 1)=(x,ou):=⟨_,_,rfl⟩
   have hJ:=fun id=>hO m (by omega) s (pl+1) id (by omega) (by omega) h8
   rw[hud,hja] at hJ
   simp only at hJ
   obtain⟨xk,xn,xt,xks,xls,hxe⟩:=eO_agg x
   rw[hxe] at hJ
   obtain⟨tx,htx⟩:∃tx,txT (s.drop (b+1))=tx:=⟨_,rfl⟩
   rw[htx] at hT
   have hkx:(ks++[tx]).map AV.str=(ks:List (List UInt8)).map AV.str++[.str tx]:=by simp
   cases ou with
   | none =>
    have hRe:R=(ks++[tx],l,none):=by rw[←hx,←htx]; exact jPr_bad gE hc htu g5 (by rw[hja])
    rw[hRe,toI_none] at hR
    rw[toI_none] at hJ
    refine w_go 4000 ?_
    simp[kB,lB,sB,hlp]
    (refine w_call hP rfl (he _) (by simp[hlp]) (by simp[hlp]<;>rfl) ?_; refine w_go 4000 ?_; simp[hlp])
    (refine w_call hP rfl (hcm _) (by simp[hlp,b1]) (by simp[hlp,b1]<;>rfl) ?_; refine w_go 4000 ?_; simp[hlp,b1])
    (refine w_call hP rfl (hT _) (by simp[hnn]) (by simp[hnn]<;>rfl) ?_; refine w_go 4000 ?_; simp[hnn])
    (refine w_callg hP (by simp[hnn,p1]) rfl (fun hc=>⟨hco _,by revert hc; simp[hnn,p1]; try grind,by simp[hnn,p1]⟩) ?_; refine w_go 4000 ?_; simp[hnn,p1])
    refine⟨⟨by omega,by omega⟩,?_⟩
    (refine w_call hP rfl (hJ _) (by simp[hnn,p1]) (by simp[hnn,p1]<;>rfl) ?_; refine w_go 4000 ?_; simp[hnn,p1])
    have hrn:rnOk []:=by simp[kB,lB,sB,idO hid]
    rw[hR]
    refine rt_endR (by simp<;>rfl) (by simp[kB,lB,sB,idO hid]<;>exact⟨rfl,rfl⟩) [] hrn ⟨?_,?_,?_,?_,?_,?_⟩<;>(try simp[kB,lB,sB,idO hid])
    all_goals first|exact namesL_pure _ rfl|exact⟨List.take_of_length_le (by simp),by rw[List.take_of_length_le (by simp)]; exact namesL_pure _ (pureL_append (pure_strs _) rfl)⟩
   | some v =>
    obtain⟨w2,hw2,hw3⟩:=jA_suf (n:=m) (s:=u.drop 1) (u:=v) (by rw[hja])
    obtain⟨r1,r2,r3⟩:=place_of (s:=s) hud (by omega) hw2
    have hRe:jPr m false (ks++[tx]) (l++[x]) v=R:=by rw[←hx,←htx,jPr_next gE hc htu g5 (show (jA m (u.drop 1)).2=some v by rw[hja]),hja]
    have hti2:toI s (some v)=((pl+1+w2.length:Nat):Int):=r3
    rw[hti2] at hJ
    have hpb2:b<pl+1+w2.length:=by omega
    have hll:(l:List Out).length+1≤pl+1+w2.length:=by first|omega|(simp; omega)
    generalize hpl3:pl+1+w2.length=pz at *
    have hnz:¬((pz:Int)<0):=by omega
    have hex:(l++[x]).map eO=(l:List Out).map eO++[eO x]:=by simp
    rw[hxe] at hex
    have hemp:(l++[x]).isEmpty=false:=by simp
    refine w_go 4000 ?_
    simp[kB,lB,sB,hlp]
    (refine w_call hP rfl (he _) (by simp[hlp]) (by simp[hlp]<;>rfl) ?_; refine w_go 4000 ?_; simp[hlp])
    (refine w_call hP rfl (hcm _) (by simp[hlp,b1]) (by simp[hlp,b1]<;>rfl) ?_; refine w_go 4000 ?_; simp[hlp,b1])
    (refine w_call hP rfl (hT _) (by simp[hnn]) (by simp[hnn]<;>rfl) ?_; refine w_go 4000 ?_; simp[hnn])
    (refine w_callg hP (by simp[hnn,p1]) rfl (fun hc=>⟨hco _,by revert hc; simp[hnn,p1]; try grind,by simp[hnn,p1]⟩) ?_; refine w_go 4000 ?_; simp[hnn,p1])
    refine⟨⟨by omega,by omega⟩,?_⟩
    (refine w_call hP rfl (hJ _) (by simp[hnn,p1]) (by simp[hnn,p1]<;>rfl) ?_; refine w_go 4000 ?_; simp[hnn,p1])
    refine goc_false (by simpa using hnz) ?_
    simp
    refine⟨⟨by omega,by omega⟩,?_⟩
    refine hp _ (ks++[tx],l++[x],pz,m) ⟨by show jPr m (l++[x]).isEmpty (ks++[tx]) (l++[x]) (s.drop pz)=R; rw[r1,hemp]; exact hRe,r2,by simp at hm ⊢; omega,by simp at hmn ⊢; omega,by simp; omega,by simp; try omega⟩ (by simp; omega) ?_
    have hrn:rnOk [(E.n0,E.n0),(E.n0+1,E.n0+1),(E.n0+2,E.n0+37892),(E.n0+3,E.n0+59396)]:=by simp[hl1,hex,hkx,hxe,kB,lB,sB]
    refine Conv.sub [(E.n0,E.n0),(E.n0+1,E.n0+1),(E.n0+2,E.n0+37892),(E.n0+3,E.n0+59396)] hrn ?_ ?_ ?_ ?_ ?_<;>(try simp[hl1,hex,hkx,hxe,kB,lB,sB])
    all_goals first|exact (rfl:IntKind.i64.wrap 1=1)|exact⟨renL_pure rfl (pureL_append (pure_strs _) (by simp)),renL_pure rfl (pureL_append (pure_outs _) (by simp[pure_strs,pure_outs]))⟩
end Go.Am
