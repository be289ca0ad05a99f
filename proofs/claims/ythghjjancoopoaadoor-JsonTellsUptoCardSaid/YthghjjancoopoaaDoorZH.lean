/- The document's reading of outs: a list. No condition. -/
import Derived.Test.YthghjjancoopoaaDoorZG
namespace Go.Am
set_option linter.all false
open Go Go.RowKit Go.Proofs
set_option maxRecDepth 100000
set_option linter.all false
theorem jLs_end{n:Nat}{f:Bool}{l:List Out}{r:List UInt8}(h:cutB r [93]=true):jLs (n+1) f l r=(l,some (r.drop 1)):=by simp only[jLs]; rw[if_pos h]
theorem jLs_stop{n:Nat}{f:Bool}{l:List Out}{r:List UInt8}(h:cutB r [93]=false)(hc:pComma f r=none):jLs (n+1) f l r=(l,none):=by simp only[jLs]; rw[h,if_neg (by simp),hc]
theorem jLs_bad{n:Nat}{f:Bool}{l:List Out}{r t:List UInt8}(h:cutB r [93]=false)(hc:pComma f r=some t)(ho:(jA n t).2=none):jLs (n+1) f l r=(l,none):=by simp only[jLs]; rw[h,if_neg (by simp),hc]; simp only; rw[ho]
theorem jLs_next{n:Nat}{f:Bool}{l:List Out}{r t u:List UInt8}(h:cutB r [93]=false)(hc:pComma f r=some t)(ho:(jA n t).2=some u):jLs (n+1) f l r=jLs n false (l++[(jA n t).1]) u:=by simp only[jLs]; rw[h,if_neg (by simp),hc]; simp only; rw[ho]
set_option maxHeartbeats 16000000 in
theorem at_list{n:Nat}(hO:∀m,m<n→AtIs m)(s:List UInt8)(a id:Nat)(ha:a≤s.length)(hn:2*(s.length - a)≤n)(h8:s.length≤1099511627000)(g1:cutB (s.drop a) [110,117,108,108]=false)(g2:cutB (s.drop a) [34]=false)(g3:cutB (s.drop a) [91]=true):
  FnOk Tryd.prog 24 [.str s,.int .i64 a] [] id (.tup [eO (jA (n+1) (s.drop a)).1,.int .i64 (toI s (jA (n+1) (s.drop a)).2)]) []:=by
 have hS:=fun (w:List UInt8) (b id:Nat) (hb:b≤s.length) (hw:w.length≤1099511627776)=>starts_ok s w b id hb (by omega) hw
 have h1:=fun id=>hS [110,117,108,108] a id ha (by simp)
 have h2:=fun id=>hS [34] a id ha (by simp)
 have h3:=fun id=>hS [91] a id ha (by simp)
 rw[g1] at h1
 rw[g2] at h2
 rw[g3] at h3
 have hal:=cut_le ha g3
 simp only[List.length_cons,List.length_nil] at hal
 have haa:s[a]?=some 91:=by
  have:=cut_eq g3
  have h:=congrArg (fun l=>l[0]?) this
  simpa using h
 have hal':a<s.length:=by omega
 have hai:s[a]=91:=by
  rw[List.getElem?_eq_getElem hal'] at haa
  injection haa
 have a1:IntKind.i64.wrap ((a:Int)+1)=((a+1:Nat):Int):=wrap64 (by omega)
 have hj:=jA_list (n:=n) g1 g2 g3
 rw[List.drop_drop] at hj
 obtain⟨R,hR0⟩:∃R,R=jLs n true [] (s.drop (a+1)):=⟨_,rfl⟩
 rw[←hR0] at hj
 refine at_is (v:=.agg [.int .i64 4,.int .i64 0,.str [],.nils,.sl (R.1.map eO)]) (i:=toI s R.2) hj (nrm_list R.1) rfl ?_
 refine fn_okc Tryd.func24 hcc24 (by decide) hcr24 (by simp[Tryd.ntmps24]) fun E hP hR hl hid=>?_
 simp only[cr24] at hR
 refine w_go 4000 ?_
 simp[cc24]
 (refine w_call hP rfl (h1 _) (by simp) (by simp<;>rfl) ?_; refine w_go 4000 ?_; simp)
 (refine w_call hP rfl (h2 _) (by simp) (by simp<;>rfl) ?_; refine w_go 4000 ?_; simp)
 (refine w_call hP rfl (h3 _) (by simp[hal',hai,haa]) (by simp[hal',hai,haa]<;>rfl) ?_; refine w_go 4000 ?_; simp[hal',hai,haa])
 clear h1 h2 h3
 refine w_loop (X:=List Out×Nat×Nat) (fun q=>⟨[(0,true,.str s),(1,true,.int .i64 q.2.1),(4,true,.ptr E.n0 0 0),(8,true,.ptr (E.n0+1) 0 0),(9,true,.str [93]),(10,true,.int .i64 q.1.length)],
   [(E.n0,some (kB 0 .nils .nils)),(E.n0+1,some (kB 4 .nils (.bsl (E.n0+2) 0 q.1.length))),(E.n0+2,some (lB q.1))],3⟩)
  (fun q=>jLs q.2.2 q.1.isEmpty q.1 (s.drop q.2.1)=R∧q.2.1≤s.length∧2*(s.length - q.2.1)+2≤q.2.2∧q.2.2≤n∧q.1.length≤q.2.1) (fun q=>s.length - q.2.1) ([],a+1,n) ?_ ⟨hR0.symm,hal,by show 2*(s.length - (a+1))+2≤n; omega,Nat.le_refl _,by simp⟩ ?_
 ·refine Conv.trans (Conv.voidBox (E.n0+15360) (by simp; rfl) rfl (.agg [.int .i64 4,.int .i64 0,.str [],.nils,.nils] [.int .i64 4,.int .i64 0,.str [],.nils,.bsl (E.n0+26624) 0 0] rfl (fun m x y h1 h2=>?_)) (.agg [.int .i64 0,.int .i64 0,.str [],.nils,.nils])) ?_
  ·match m,h1,h2 with
   | 0,h1,h2|1,h1,h2|2,h1,h2|3,h1,h2=>simp at h1 h2; exact .inl (h1.symm.trans h2)
   | 4,h1,h2=>simp at h1 h2; exact .inr ⟨h1.symm,h2.symm⟩
   | m+5,h1,h2=>simp at h1
  ·have hrn:rnOk [(E.n0,E.n0),(E.n0+1,E.n0+15360),(E.n0+2,E.n0+26624)]:=by simp[a1,kB,lB]
   refine Conv.sub [(E.n0,E.n0),(E.n0+1,E.n0+15360),(E.n0+2,E.n0+26624)] hrn ?_ ?_ ?_ ?_ ?_<;>(try simp[a1,kB,lB])
 clear hR0 a1
 rintro⟨l,b,m⟩ ⟨hx,hb,hm,hmn,hlb⟩ p hp
 simp only at hx hb hm hmn hlb
 obtain⟨m,rfl⟩:=Nat.exists_eq_succ_of_ne_zero (show m≠0 by omega)
 have he:=fun id=>hS [93] b id hb (by simp)
 have hl1:IntKind.i64.wrap ((l.length:Int)+1)=((l.length+1:Nat):Int):=wrap64 (by omega)
 by_cases gE:cutB (s.drop b) [93]=true
 ·have hbl:=cut_le hb gE
  have b1:IntKind.i64.wrap ((b:Int)+1)=((b+1:Nat):Int):=wrap64 (by simp at hbl; omega)
  have hRe:R=(l,some ((s.drop b).drop 1)):=by rw[←hx]; exact jLs_end gE
  have hti:toI s R.2=((b+1:Nat):Int):=by rw[hRe]; exact toI_at hbl
  rw[hti,hRe] at hR
  rw[gE] at he
  refine w_go 4000 ?_
  simp[kB,lB]
  (refine w_call hP rfl (he _) (by simp[b1]) (by simp[b1]<;>rfl) ?_; refine w_go 4000 ?_; simp[b1])
  have hrn:rnOk []:=by simp[kB,lB,idO hid]
  rw[hR]
  refine rt_endR (by simp<;>rfl) (by simp[kB,lB,idO hid]<;>exact⟨rfl,rfl⟩) [] hrn ⟨?_,?_,?_,?_,?_,?_⟩<;>(try simp[kB,lB,idO hid])
 have gE:cutB (s.drop b) [93]=false:=by simpa using gE
 rw[gE] at he
 cases hle:l.isEmpty with
 | true =>
  obtain rfl:l=[]:=by simpa using hle
  rw[hle] at hx
  have hc:=pComma_t (s.drop b)
  obtain⟨x,ou,hja⟩:∃x ou,jA m (s.drop b)=(x,ou):=⟨_,_,rfl⟩
  have hJ:=fun id=>hO m (by omega) s b id (by omega) (by omega) h8
  rw[hja] at hJ
  simp only at hJ
  obtain⟨xk,xn,xt,xks,xls,hxe⟩:=eO_agg x
  rw[hxe] at hJ
  cases ou with
  | none =>
   have hRe:R=([],none):=by rw[←hx]; exact jLs_bad gE hc (by rw[hja])
   rw[hRe,toI_none] at hR
   rw[toI_none] at hJ
   refine w_go 4000 ?_
   simp[kB,lB]
   (refine w_call hP rfl (he _) (by simp) (by simp<;>rfl) ?_; refine w_go 4000 ?_; simp)
   (refine w_call hP rfl (hJ _) (by simp) (by simp<;>rfl) ?_; refine w_go 4000 ?_; simp)
   have hrn:rnOk []:=by simp[kB,lB,idO hid]
   rw[hR]
   refine rt_endR (by simp<;>rfl) (by simp[kB,lB,idO hid]<;>exact⟨rfl,rfl⟩) [] hrn ⟨?_,?_,?_,?_,?_,?_⟩<;>(try simp[kB,lB,idO hid])
  | some u =>
   obtain⟨w,hw,hw1⟩:=jA_suf (n:=m) (s:=s.drop b) (u:=u) (by rw[hja])
   obtain⟨q1,q2,q3⟩:=place_of (s:=s) rfl (by omega) hw
   have hRe:jLs m false ([]++[x]) u=R:=by rw[←hx,jLs_next gE hc (show (jA m (s.drop b)).2=some u by rw[hja]),hja]
   have hti:toI s (some u)=((b+w.length:Nat):Int):=q3
   rw[hti] at hJ
   have hpb:b<b+w.length:=by omega
   generalize hpl:b+w.length=pl at *
   have hnn:¬((pl:Int)<0):=by omega
   have hex:([]++[x]).map eO=([]:List Out).map eO++[eO x]:=by simp
   rw[hxe] at hex
   refine w_go 4000 ?_
   simp[kB,lB]
   (refine w_call hP rfl (he _) (by simp) (by simp<;>rfl) ?_; refine w_go 4000 ?_; simp)
   (refine w_call hP rfl (hJ _) (by simp) (by simp<;>rfl) ?_; refine w_go 4000 ?_; simp)
   have hemp:([]++[x]).isEmpty=false:=by simp
   refine goc_false (by simpa using hnn) ?_
   simp
   refine hp _ ([]++[x],pl,m) ⟨by show jLs m ([]++[x]).isEmpty ([]++[x]) (s.drop pl)=R; rw[q1,hemp]; exact hRe,q2,by simp at hm ⊢; omega,by simp at hmn ⊢; omega,by simp; omega⟩ (by simp; omega) ?_
   have hrn:rnOk [(E.n0,E.n0),(E.n0+1,E.n0+1),(E.n0+2,E.n0+25603)]:=by simp[hl1,hex,hxe,kB,lB]
   refine Conv.sub [(E.n0,E.n0),(E.n0+1,E.n0+1),(E.n0+2,E.n0+25603)] hrn ?_ ?_ ?_ ?_ ?_<;>(try simp[hl1,hex,hxe,kB,lB])
   all_goals first|exact (rfl:IntKind.i64.wrap 1=1)|exact renL_pure rfl (pureL_append (pure_outs _) (by simp[pure_strs,pure_outs]))|exact renL_pure rfl (by simp[pure_strs,pure_outs])
 | false =>
  have hne:l≠[]:=fun q=>by rw[q] at hle; cases hle
  have hlp:0<l.length:=List.length_pos_iff.2 hne
  rw[hle] at hx
  have hcm:=fun id=>hS [44] b id hb (by simp)
  by_cases g2:cutB (s.drop b) [44]=true
  rotate_left
  ·have g2:cutB (s.drop b) [44]=false:=by simpa using g2
   have hRe:R=(l,none):=by rw[←hx]; exact jLs_stop gE (pComma_n g2)
   rw[hRe,toI_none] at hR
   rw[g2] at hcm
   refine w_go 4000 ?_
   simp[kB,lB,hlp]
   (refine w_call hP rfl (he _) (by simp[hlp]) (by simp[hlp]<;>rfl) ?_; refine w_go 4000 ?_; simp[hlp])
   (refine w_call hP rfl (hcm _) (by simp[hlp]) (by simp[hlp]<;>rfl) ?_; refine w_go 4000 ?_; simp[hlp])
   have hrn:rnOk []:=by simp[kB,lB,idO hid]
   rw[hR]
   refine rt_endR (by simp<;>rfl) (by simp[kB,lB,idO hid]<;>exact⟨rfl,rfl⟩) [] hrn ⟨?_,?_,?_,?_,?_,?_⟩<;>(try simp[kB,lB,idO hid])
  have hbl:=cut_le hb g2
  simp only[List.length_cons,List.length_nil] at hbl
  have b1:IntKind.i64.wrap ((b:Int)+1)=((b+1:Nat):Int):=wrap64 (by omega)
  have hc:=pComma_f g2
  rw[List.drop_drop] at hc
  rw[g2] at hcm
  obtain⟨x,ou,hja⟩:∃x ou,jA m (s.drop (b+1))=(x,ou):=⟨_,_,rfl⟩
  have hJ:=fun id=>hO m (by omega) s (b+1) id (by omega) (by omega) h8
  rw[hja] at hJ
  simp only at hJ
  obtain⟨xk,xn,xt,xks,xls,hxe⟩:=eO_agg x
  rw[hxe] at hJ
  cases ou with
  | none =>
   have hRe:R=(l,none):=by rw[←hx]; exact jLs_bad gE hc (by rw[hja])
   rw[hRe,toI_none] at hR
   rw[toI_none] at hJ
   refine w_go 4000 ?_
   simp[kB,lB,hlp]
   (refine w_call hP rfl (he _) (by simp[hlp]) (by simp[hlp]<;>rfl) ?_; refine w_go 4000 ?_; simp[hlp])
   (refine w_call hP rfl (hcm _) (by simp[hlp,b1]) (by simp[hlp,b1]<;>rfl) ?_; refine w_go 4000 ?_; simp[hlp,b1])
   (refine w_call hP rfl (hJ _) (by simp) (by simp<;>rfl) ?_; refine w_go 4000 ?_; simp)
   have hrn:rnOk []:=by simp[kB,lB,idO hid]
   rw[hR]
   refine rt_endR (by simp<;>rfl) (by simp[kB,lB,idO hid]<;>exact⟨rfl,rfl⟩) [] hrn ⟨?_,?_,?_,?_,?_,?_⟩<;>(try simp[kB,lB,idO hid])
  | some u =>
   obtain⟨w,hw,hw1⟩:=jA_suf (n:=m) (s:=s.drop (b+1)) (u:=u) (by rw[hja])
   obtain⟨q1,q2,q3⟩:=place_of (s:=s) rfl (by omega) hw
   have hRe:jLs m false (l++[x]) u=R:=by rw[←hx,jLs_next gE hc (show (jA m (s.drop (b+1))).2=some u by rw[hja]),hja]
   have hti:toI s (some u)=(((b+1)+w.length:Nat):Int):=q3
   rw[hti] at hJ
   have hpb:b<(b+1)+w.length:=by omega
   generalize hpl:(b+1)+w.length=pl at *
   have hnn:¬((pl:Int)<0):=by omega
   have hex:(l++[x]).map eO=(l:List Out).map eO++[eO x]:=by simp
   rw[hxe] at hex
   refine w_go 4000 ?_
   simp[kB,lB,hlp]
   (refine w_call hP rfl (he _) (by simp[hlp]) (by simp[hlp]<;>rfl) ?_; refine w_go 4000 ?_; simp[hlp])
   (refine w_call hP rfl (hcm _) (by simp[hlp,b1]) (by simp[hlp,b1]<;>rfl) ?_; refine w_go 4000 ?_; simp[hlp,b1])
   (refine w_call hP rfl (hJ _) (by simp) (by simp<;>rfl) ?_; refine w_go 4000 ?_; simp)
   have hemp:(l++[x]).isEmpty=false:=by simp
   refine goc_false (by simpa using hnn) ?_
   simp
   refine⟨⟨by omega,by omega⟩,?_⟩
   refine hp _ (l++[x],pl,m) ⟨by show jLs m (l++[x]).isEmpty (l++[x]) (s.drop pl)=R; rw[q1,hemp]; exact hRe,q2,by simp at hm ⊢; omega,by simp at hmn ⊢; omega,by simp; omega⟩ (by simp; omega) ?_
   have hrn:rnOk [(E.n0,E.n0),(E.n0+1,E.n0+1),(E.n0+2,E.n0+32771)]:=by simp[hl1,hex,hxe,kB,lB]
   refine Conv.sub [(E.n0,E.n0),(E.n0+1,E.n0+1),(E.n0+2,E.n0+32771)] hrn ?_ ?_ ?_ ?_ ?_<;>(try simp[hl1,hex,hxe,kB,lB])
   all_goals first|exact (rfl:IntKind.i64.wrap 1=1)|exact renL_pure rfl (pureL_append (pure_outs _) (by simp[pure_strs,pure_outs]))|exact renL_pure rfl (by simp[pure_strs,pure_outs])
end Go.Am
