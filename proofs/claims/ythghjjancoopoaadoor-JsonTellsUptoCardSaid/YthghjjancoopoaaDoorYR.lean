/- Texts read as outs: some things up to an end. No condition. -/
import Derived.Test.YthghjjancoopoaaDoorYQ
namespace Go.Am
set_option linter.all false
open Go Go.RowKit Go.Proofs
set_option maxRecDepth 100000
set_option linter.all false
theorem pComma_t(s:List UInt8):pComma true s=some s:=rfl
theorem pComma_f{s:List UInt8}(h:cutB s [44]=true):pComma false s=some (s.drop 1):=by unfold pComma; rw[if_neg (by simp),if_pos h]
theorem pComma_n{s:List UInt8}(h:cutB s [44]=false):pComma false s=none:=by unfold pComma; rw[if_neg (by simp),h,if_neg (by simp)]
theorem pItems_end{n:Nat}{f:Bool}{l:List Out}{s:List UInt8}(h:cutB s [93]=true):pItems (n+1) f l s=some (l,s.drop 1):=by simp only[pItems]; rw[if_pos h]
theorem pItems_stop{n:Nat}{f:Bool}{l:List Out}{s:List UInt8}(h:cutB s [93]=false)(hc:pComma f s=none):pItems (n+1) f l s=none:=by simp only[pItems]; rw[h,if_neg (by simp),hc]
theorem pItems_bad{n:Nat}{f:Bool}{l:List Out}{s t:List UInt8}(h:cutB s [93]=false)(hc:pComma f s=some t)(ho:pOut n t=none):pItems (n+1) f l s=none:=by simp only[pItems]; rw[h,if_neg (by simp),hc]; simp only; rw[ho]
theorem pItems_next{n:Nat}{f:Bool}{l:List Out}{s t u:List UInt8}{o:Out}(h:cutB s [93]=false)(hc:pComma f s=some t)(ho:pOut n t=some (o,u)):pItems (n+1) f l s=pItems n false (l++[o]) u:=by simp only[pItems]; rw[h,if_neg (by simp),hc]; simp only; rw[ho]
theorem pPairs_end{n:Nat}{f:Bool}{ks:List (List UInt8)}{l:List Out}{s:List UInt8}(h:cutB s [125]=true):pPairs (n+1) f ks l s=some (ks,l,s.drop 1):=by simp only[pPairs]; rw[if_pos h]
theorem pPairs_stop{n:Nat}{f:Bool}{ks:List (List UInt8)}{l:List Out}{s:List UInt8}(h:cutB s [125]=false)(hc:pComma f s=none):pPairs (n+1) f ks l s=none:=by simp only[pPairs]; rw[h,if_neg (by simp),hc]
theorem pPairs_part{n:Nat}{f:Bool}{ks:List (List UInt8)}{l:List Out}{s t:List UInt8}(h:cutB s [125]=false)(hc:pComma f s=some t):pPairs (n+1) f ks l s=match pPart n t with
  | none=>none
  | some (k,o,v)=>pPairs n false (ks++[k]) (l++[o]) v:=by
 simp only[pPairs]
 rw[h,if_neg (by simp),hc]
 simp only
 unfold pPart
 cases pText t with
 | none=>rfl
 | some p =>
  obtain⟨k,u⟩:=p
  simp only
  split
  ·cases pOut n (u.drop 1) with
   | none=>rfl
   | some q=>rfl
  ·rfl
theorem pPairs_bad{n:Nat}{f:Bool}{ks:List (List UInt8)}{l:List Out}{s t:List UInt8}(h:cutB s [125]=false)(hc:pComma f s=some t)(ho:pPart n t=none):pPairs (n+1) f ks l s=none:=by rw[pPairs_part h hc,ho]
theorem pPairs_next{n:Nat}{f:Bool}{ks:List (List UInt8)}{l:List Out}{s t u k:List UInt8}{o:Out}(h:cutB s [125]=false)(hc:pComma f s=some t)(ho:pPart n t=some (k,o,u)):pPairs (n+1) f ks l s=pPairs n false (ks++[k]) (l++[o]) u:=by rw[pPairs_part h hc,ho]
theorem pPart_lt{n:Nat}{s u k:List UInt8}{o:Out}(h:pPart n s=some (k,o,u)):u.length+1≤s.length:=by
 unfold pPart at h
 split at h
 ·cases h
 rename_i k' v hv
 have h1:=pText_lt hv
 split at h
 ·split at h
  ·cases h
  rename_i o' w hw
  simp only[Option.some.injEq,Prod.mk.injEq] at h
  obtain⟨rfl,rfl,rfl⟩:=h
  have h2:=pOut_lt hw
  rw[List.length_drop] at h2
  omega
 ·cases h
theorem cutL_no{s w:List UInt8}(h:cutB s w=false):cutL s w=s:=by unfold cutL; rw[if_neg (by simp[h])]
theorem cutL_yes{s w:List UInt8}(h:cutB s w=true):cutL s w=s.drop w.length:=by unfold cutL; rw[if_pos h]
def some1R(J K M id:Nat)(z:List UInt8):Option (List Out×List UInt8)→Except AV (AV×List (Nat×Option Bx))
 | none=>.error wv
 | some (l,u)=>.ok (.tup [],if l=[] then [(J,some (bS z u))] else [(J,some (bS z u)),(K,some (kB 4 .nils (.bsl id 0 l.length))),(M,none),(id,some (lB l))])
def some2R(J K N M id:Nat)(z:List UInt8):Option (List (List UInt8)×List Out×List UInt8)→Except AV (AV×List (Nat×Option Bx))
 | none=>.error wv
 | some (ks,l,u)=>.ok (.tup [],if l=[] then [(J,some (bS z u))] else [(J,some (bS z u)),(K,some (kB 5 (.bsl id 0 ks.length) (.bsl (id+1) 0 l.length))),(N,none),(M,none),(id,some (sB ks)),(id+1,some (lB l))])
def st1(n0 J V K M:Nat)(z:List UInt8):Bool→List Out→List UInt8→St
 | true,l,t=>⟨[(0,true,.ptr J 0 0),(1,true,.str [93]),(2,true,.fn 69 [.ptr K 0 0,.ptr V 0 0]),(6,true,.bool true)],[(J,some (bS z t)),(V,some (pB J)),(K,some (kB 4 .nils (.bsl M 0 l.length))),(M,some (lB l))],0⟩
 | false,l,t=>⟨[(0,true,.ptr J 0 0),(1,true,.str [93]),(2,true,.fn 69 [.ptr K 0 0,.ptr V 0 0]),(6,true,.bool false)],[(J,some (bS z t)),(V,some (pB J)),(K,some (kB 4 .nils (.bsl n0 0 l.length))),(M,none),(n0,some (lB l))],1⟩
set_option maxHeartbeats 8000000 in
theorem some1_ok{n:Nat}(hO:∀m,m<n→OutIs m)(z s:List UInt8)(J V K M id:Nat)(hd:[J,V,K,M].Nodup)(hn:2*s.length+2≤n)(h8:s.length≤1099511627776):
  FnE Tryd.prog 68 [.ptr J 0 0,.str [93],.fn 69 [.ptr K 0 0,.ptr V 0 0]] [(J,bS z s),(V,pB J),(K,kB 4 .nils (.bsl M 0 0)),(M,lB [])] id (some1R J K M id z (pItems n true [] s)):=by
 have d:=apart4 hd
 have hJV:=d.1
 rw[bS_eq,kB_eq,pB_eq,lB_eq]
 refine fn_okE Tryd.func68 hcc68 (by decide) hcr68 (by simp[Tryd.ntmps68]) fun E hP hR hPn hl hid hB hu=>?_
 simp only[cr68] at hR
 refine w_go 4000 ?_
 simp[cc68]
 have hJ:=hl (J,_) (List.mem_cons_self ..)
 simp only at hJ
 have J1:=lf hJ
 have hV:=hl (V,_) (List.mem_cons_of_mem _ (List.mem_cons_self ..))
 simp only at hV
 have V1:=lf hV
 have hK:=hl (K,_) (List.mem_cons_of_mem _ (List.mem_cons_of_mem _ (List.mem_cons_self ..)))
 simp only at hK
 have K1:=lf hK
 have hM:=hl (M,_) (List.mem_cons_of_mem _ (List.mem_cons_of_mem _ (List.mem_cons_of_mem _ (List.mem_cons_self ..))))
 simp only at hM
 have M1:=lf hM
 refine w_loop (X:=Bool×List Out×List UInt8×Nat) (fun q=>st1 E.n0 J V K M z q.1 q.2.1 q.2.2.1)
  (fun q=>pItems q.2.2.2 q.1 q.2.1 q.2.2.1=pItems n true [] s∧2*q.2.2.1.length+2≤q.2.2.2∧q.2.2.2≤n∧q.2.1.length+q.2.2.1.length≤s.length∧(q.1=true↔q.2.1=[])) (fun q=>q.2.2.1.length) (true,[],s,n) ?_ ⟨rfl,hn,Nat.le_refl _,by simp,by simp⟩ ?_
 ·have hrn:rnOk []:=by simp[st1,bS,kB,pB,lB,J1,V1,K1,M1,d]
  refine Conv.sub [] hrn ?_ ?_ ?_ ?_ ?_<;>(try simp[st1,bS,kB,pB,lB,J1,V1,K1,M1,d])
 rintro⟨first,l,t,m⟩ ⟨hx,hm,hmn,hll,hfl⟩ p hp
 simp only at hx hm hmn hll hfl
 obtain⟨m,rfl⟩:=Nat.exists_eq_succ_of_ne_zero (show m≠0 by omega)
 have ht:=fun id=>try_ok z t [93] J id
 have hnd:=fun id=>need_ok z t [44] J id
 by_cases g:cutB t [93]=true
 ·have e0:pItems n true [] s=some (l,t.drop 1):=by rw[←hx]; exact pItems_end g
  rw[g,cutL_yes g] at ht
  rw[bS_eq,bS_eq] at ht
  cases first with
  | true =>
   obtain rfl:=hfl.1 rfl
   have e:some1R J K M id z (pItems n true [] s) = .ok (.tup [],[(J,some (bS z (t.drop 1)))]):=by rw[e0]; rfl
   unfold st1
   refine w_go 4000 ?_
   simp[bS,kB,pB,lB,J1,V1,K1,M1,d]
   (refine w_call hP rfl (ht _) (by simp[J1,V1,K1,M1,d]) (by simp[J1,V1,K1,M1,d]<;>rfl) ?_; refine w_go 4000 ?_; simp[J1,V1,K1,M1,d])
   have hrn:rnOk []:=by simp[bS,kB,pB,lB,J1,V1,K1,M1,d,idO hid]
   refine hR _ _ _ (e) ?_
   refine rt_end (by simp[bS,kB,pB,lB,J1,V1,K1,M1,d,idO hid]<;>rfl) [] hrn ⟨?_,?_,?_,?_,?_,?_⟩<;>(try simp[bS,kB,pB,lB,J1,V1,K1,M1,d,idO hid])
  | false =>
   have hne:l≠[]:=fun h=>by have:=hfl.2 h; cases this
   have e:some1R J K M id z (pItems n true [] s) = .ok (.tup [],[(J,some (bS z (t.drop 1))),(K,some (kB 4 .nils (.bsl id 0 l.length))),(M,none),(id,some (lB l))]):=by
    rw[e0]
    show Except.ok (_,if l=[] then _ else _)=_
    rw[if_neg hne]
   unfold st1
   refine w_go 4000 ?_
   simp[bS,kB,pB,lB,J1,V1,K1,M1,d]
   (refine w_call hP rfl (ht _) (by simp[J1,V1,K1,M1,d]) (by simp[J1,V1,K1,M1,d]<;>rfl) ?_; refine w_go 4000 ?_; simp[J1,V1,K1,M1,d])
   have hrn:rnOk [(id,E.n0)]:=by simp[bS,kB,pB,lB,J1,V1,K1,M1,d,idO hid]
   refine hR _ _ _ (e) ?_
   refine rt_end (by simp[bS,kB,pB,lB,J1,V1,K1,M1,d,idO hid]<;>rfl) [(id,E.n0)] hrn ⟨?_,?_,?_,?_,?_,?_⟩<;>(try simp[bS,kB,pB,lB,J1,V1,K1,M1,d,idO hid])
   all_goals exact renL_pure rfl (pure_outs _)
 have g:cutB t [93]=false:=by simpa using g
 rw[g,cutL_no g] at ht
 rw[bS_eq] at ht
 have hO:=hO m (by omega)
 cases first with
 | true =>
  have hdo:=fun id=>do1_ok hO z t l J V K M id hd (by omega) (by omega) (by omega)
  obtain rfl:=hfl.1 rfl
  cases hq:pOut m t with
  | none =>
   rw[hq] at hdo
   change ∀id,FnE _ _ _ _ _ (.error wv) at hdo
   have e:some1R J K M id z (pItems n true [] s) = .error wv:=by rw[←hx,pItems_bad g (pComma_t t) hq]; rfl
   rw[bS_eq,kB_eq,pB_eq,lB_eq] at hdo
   unfold st1
   refine w_go 4000 ?_
   simp[bS,kB,pB,lB,J1,V1,K1,M1,d]
   (refine w_call hP rfl (ht _) (by simp[J1,V1,K1,M1,d]) (by simp[J1,V1,K1,M1,d]<;>rfl) ?_; refine w_go 4000 ?_; simp[J1,V1,K1,M1,d])
   refine w_callvE hP (by simp<;>exact⟨rfl,rfl⟩) rfl (hdo _) (by simp[J1,V1,K1,M1,d]) (by simp[J1,V1,K1,M1,d]<;>rfl) (fun pv hpv=>⟨by simp[J1,V1,K1,M1,d],by injection hpv with hpv; subst hpv; exact hPn _ _ (e) rfl (by simp[J1,V1,K1,M1,d])⟩) (fun v wr h=>by cases h)
  | some p2 =>
   obtain⟨o,u⟩:=p2
   have hlt:=pOut_lt hq
   rw[hq] at hdo
   have hdo:∀id,FnOk Tryd.prog 69 [.ptr K 0 0,.ptr V 0 0] [(J,bS z t),(V,pB J),(K,kB 4 .nils (.bsl M 0 0)),(M,lB [])] id (.tup []) [(J,some (bS z u)),(K,some (kB 4 .nils (.bsl id 0 1))),(M,none),(id,some (lB [o]))]:=hdo
   have e0:pItems (m+1) true [] t=pItems m false [o] u:=pItems_next g (pComma_t t) hq
   obtain⟨ok,on,ot,oks,ols,hoe⟩:=eO_agg o
   rw[bS_eq,kB_eq,pB_eq,lB_eq,bS_eq,lB_eq] at hdo
   simp only[kB_eq] at hdo
   unfold st1
   refine w_go 4000 ?_
   simp[bS,kB,pB,lB,J1,V1,K1,M1,d]
   (refine w_call hP rfl (ht _) (by simp[J1,V1,K1,M1,d]) (by simp[J1,V1,K1,M1,d]<;>rfl) ?_; refine w_go 4000 ?_; simp[J1,V1,K1,M1,d])
   (refine w_callv hP (by simp<;>exact⟨rfl,rfl⟩) rfl (hdo _) (by simp[J1,V1,K1,M1,d]) (by simp[J1,V1,K1,M1,d]<;>rfl) ?_; refine w_go 4000 ?_; simp[J1,V1,K1,M1,d])
   refine hp _ (false,[o],u,m) ⟨by rw[←hx]; exact e0.symm,by simp; omega,by simp; omega,by simp at hll ⊢; omega,by simp⟩ (by simp; omega) ?_
   have hrn:rnOk [(E.n0,E.n0+7168)]:=by simp[st1,bS,kB,pB,lB,hoe,J1,V1,K1,M1,d]
   refine Conv.sub [(E.n0,E.n0+7168)] hrn ?_ ?_ ?_ ?_ ?_<;>(try simp[st1,bS,kB,pB,lB,hoe,J1,V1,K1,M1,d])
 | false =>
  by_cases g2:cutB t [44]=true
  rotate_left
  ·have g2:cutB t [44]=false:=by simpa using g2
   have e1:pNeed t [44]=none:=by unfold pNeed; rw[if_neg (by simp[g2])]
   rw[e1] at hnd
   change ∀id,FnE _ _ _ _ _ (.error wv) at hnd
   have e:some1R J K M id z (pItems n true [] s) = .error wv:=by rw[←hx,pItems_stop g (pComma_n g2)]; rfl
   rw[bS_eq] at hnd
   unfold st1
   refine w_go 4000 ?_
   simp[bS,kB,pB,lB,J1,V1,K1,M1,d]
   (refine w_call hP rfl (ht _) (by simp[J1,V1,K1,M1,d]) (by simp[J1,V1,K1,M1,d]<;>rfl) ?_; refine w_go 4000 ?_; simp[J1,V1,K1,M1,d])
   refine w_callE hP rfl (hnd _) (by simp[J1,V1,K1,M1,d]) (by simp[J1,V1,K1,M1,d]<;>rfl) (fun pv hpv=>⟨by simp[J1,V1,K1,M1,d],by injection hpv with hpv; subst hpv; exact hPn _ _ (e) rfl (by simp[J1,V1,K1,M1,d])⟩) (fun v wr h=>by cases h)
  have e1:pNeed t [44]=some (.tup [],t.drop 1):=by unfold pNeed; rw[if_pos g2]; rfl
  have hnd1:∀id,FnOk Tryd.prog 71 [.ptr J 0 0,.str [44]] [(J,bS z t)] id (.tup []) [(J,some (bS z (t.drop 1)))]:=fun id=>by
   have:=hnd id
   rw[e1] at this; exact this
  have hc:=pComma_f g2
  have htl:(t.drop 1).length≤t.length:=by rw[List.length_drop]; omega
  generalize t.drop 1=t1 at *
  have hne0:([J,V,K,E.n0]:List Nat).Nodup:=by simp[J1,V1,K1,M1,d]
  have hdo:=fun id=>do1_ok hO z t1 l J V K E.n0 id hne0 (by omega) (by omega) (by omega)
  cases hq:pOut m t1 with
  | none =>
   rw[hq] at hdo
   change ∀id,FnE _ _ _ _ _ (.error wv) at hdo
   have e:some1R J K M id z (pItems n true [] s) = .error wv:=by rw[←hx,pItems_bad g hc hq]; rfl
   rw[bS_eq,kB_eq,pB_eq,lB_eq] at hdo
   rw[bS_eq,bS_eq] at hnd1
   unfold st1
   refine w_go 4000 ?_
   simp[bS,kB,pB,lB,J1,V1,K1,M1,d]
   (refine w_call hP rfl (ht _) (by simp[J1,V1,K1,M1,d]) (by simp[J1,V1,K1,M1,d]<;>rfl) ?_; refine w_go 4000 ?_; simp[J1,V1,K1,M1,d])
   (refine w_call hP rfl (hnd1 _) (by simp[J1,V1,K1,M1,d]) (by simp[J1,V1,K1,M1,d]<;>rfl) ?_; refine w_go 4000 ?_; simp[J1,V1,K1,M1,d])
   refine w_callvE hP (by simp<;>exact⟨rfl,rfl⟩) rfl (hdo _) (by simp[J1,V1,K1,M1,d]) (by simp[J1,V1,K1,M1,d]<;>rfl) (fun pv hpv=>⟨by simp[J1,V1,K1,M1,d],by injection hpv with hpv; subst hpv; exact hPn _ _ (e) rfl (by simp[J1,V1,K1,M1,d])⟩) (fun v wr h=>by cases h)
  | some p2 =>
   obtain⟨o,u⟩:=p2
   have hlt:=pOut_lt hq
   rw[hq] at hdo
   have hdo:∀id,FnOk Tryd.prog 69 [.ptr K 0 0,.ptr V 0 0] [(J,bS z t1),(V,pB J),(K,kB 4 .nils (.bsl E.n0 0 l.length)),(E.n0,lB l)] id (.tup []) [(J,some (bS z u)),(K,some (kB 4 .nils (.bsl id 0 (l.length+1)))),(E.n0,none),(id,some (lB (l++[o])))]:=hdo
   have e0:pItems (m+1) false l t=pItems m false (l++[o]) u:=pItems_next g hc hq
   have hex:(l++[o]).map eO=l.map eO++[eO o]:=by simp
   obtain⟨ok,on,ot,oks,ols,hoe⟩:=eO_agg o
   rw[hoe] at hex
   rw[bS_eq,kB_eq,pB_eq,lB_eq,bS_eq,lB_eq] at hdo
   simp only[kB_eq,hex] at hdo
   rw[bS_eq,bS_eq] at hnd1
   unfold st1
   refine w_go 4000 ?_
   simp[bS,kB,pB,lB,J1,V1,K1,M1,d]
   (refine w_call hP rfl (ht _) (by simp[J1,V1,K1,M1,d]) (by simp[J1,V1,K1,M1,d]<;>rfl) ?_; refine w_go 4000 ?_; simp[J1,V1,K1,M1,d])
   (refine w_call hP rfl (hnd1 _) (by simp[J1,V1,K1,M1,d]) (by simp[J1,V1,K1,M1,d]<;>rfl) ?_; refine w_go 4000 ?_; simp[J1,V1,K1,M1,d])
   (refine w_callv hP (by simp<;>exact⟨rfl,rfl⟩) rfl (hdo _) (by simp[J1,V1,K1,M1,d]) (by simp[J1,V1,K1,M1,d]<;>rfl) ?_; refine w_go 4000 ?_; simp[J1,V1,K1,M1,d])
   refine hp _ (false,l++[o],u,m) ⟨by rw[←hx]; exact e0.symm,by simp; omega,by simp; omega,by simp at hll ⊢; omega,by simp⟩ (by simp; omega) ?_
   have hrn:rnOk [(E.n0,E.n0+9217)]:=by simp[st1,bS,kB,pB,lB,hoe,J1,V1,K1,M1,d]
   refine Conv.sub [(E.n0,E.n0+9217)] hrn ?_ ?_ ?_ ?_ ?_<;>(try simp[st1,bS,kB,pB,lB,hoe,J1,V1,K1,M1,d])
   exact renL_pure rfl (pureL_append (pure_outs _) (by simp[pure_strs,pure_outs]))
def st2(n0 J V K N M:Nat)(z:List UInt8):Bool→List (List UInt8)→List Out→List UInt8→St
 | true,ks,l,t=>⟨[(0,true,.ptr J 0 0),(1,true,.str [125]),(2,true,.fn 70 [.ptr K 0 0,.ptr V 0 0]),(6,true,.bool true)],[(J,some (bS z t)),(V,some (pB J)),(K,some (kB 5 (.bsl N 0 ks.length) (.bsl M 0 l.length))),(N,some (sB ks)),(M,some (lB l))],0⟩
 | false,ks,l,t=>⟨[(0,true,.ptr J 0 0),(1,true,.str [125]),(2,true,.fn 70 [.ptr K 0 0,.ptr V 0 0]),(6,true,.bool false)],[(J,some (bS z t)),(V,some (pB J)),(K,some (kB 5 (.bsl n0 0 ks.length) (.bsl (n0+1) 0 l.length))),(N,none),(M,none),(n0,some (sB ks)),(n0+1,some (lB l))],2⟩
set_option maxHeartbeats 8000000 in
theorem some2_ok{n:Nat}(hO:∀m,m<n→OutIs m)(z s:List UInt8)(J V K N M id:Nat)(hd:[J,V,K,N,M].Nodup)(hn:2*s.length+2≤n)(h8:s.length≤1099511627776):
  FnE Tryd.prog 68 [.ptr J 0 0,.str [125],.fn 70 [.ptr K 0 0,.ptr V 0 0]] [(J,bS z s),(V,pB J),(K,kB 5 (.bsl N 0 0) (.bsl M 0 0)),(N,sB []),(M,lB [])] id (some2R J K N M id z (pPairs n true [] [] s)):=by
 have d:=apart5 hd
 have hJV:=d.1
 rw[bS_eq,kB_eq,pB_eq,lB_eq,sB_eq]
 refine fn_okE Tryd.func68 hcc68 (by decide) hcr68 (by simp[Tryd.ntmps68]) fun E hP hR hPn hl hid hB hu=>?_
 simp only[cr68] at hR
 refine w_go 4000 ?_
 simp[cc68]
 have hJ:=hl (J,_) (List.mem_cons_self ..)
 simp only at hJ
 have J1:=lf hJ
 have hV:=hl (V,_) (List.mem_cons_of_mem _ (List.mem_cons_self ..))
 simp only at hV
 have V1:=lf hV
 have hK:=hl (K,_) (List.mem_cons_of_mem _ (List.mem_cons_of_mem _ (List.mem_cons_self ..)))
 simp only at hK
 have K1:=lf hK
 have hN:=hl (N,_) (List.mem_cons_of_mem _ (List.mem_cons_of_mem _ (List.mem_cons_of_mem _ (List.mem_cons_self ..))))
 simp only at hN
 have N1:=lf hN
 have hM:=hl (M,_) (List.mem_cons_of_mem _ (List.mem_cons_of_mem _ (List.mem_cons_of_mem _ (List.mem_cons_of_mem _ (List.mem_cons_self ..)))))
 simp only at hM
 have M1:=lf hM
 refine w_loop (X:=Bool×List (List UInt8)×List Out×List UInt8×Nat) (fun q=>st2 E.n0 J V K N M z q.1 q.2.1 q.2.2.1 q.2.2.2.1)
  (fun q=>pPairs q.2.2.2.2 q.1 q.2.1 q.2.2.1 q.2.2.2.1=pPairs n true [] [] s∧2*q.2.2.2.1.length+2≤q.2.2.2.2∧q.2.2.2.2≤n∧q.2.2.1.length+q.2.2.2.1.length≤s.length∧q.2.1.length=q.2.2.1.length∧(q.1=true↔q.2.2.1=[])) (fun q=>q.2.2.2.1.length) (true,[],[],s,n) ?_ ⟨rfl,hn,Nat.le_refl _,by simp,rfl,by simp⟩ ?_
 ·have hrn:rnOk []:=by simp[st2,bS,kB,pB,lB,sB,J1,V1,K1,N1,M1,d]
  refine Conv.sub [] hrn ?_ ?_ ?_ ?_ ?_<;>(try simp[st2,bS,kB,pB,lB,sB,J1,V1,K1,N1,M1,d])
 rintro⟨first,ks,l,t,m⟩ ⟨hx,hm,hmn,hll,hkl,hfl⟩ p hp
 simp only at hx hm hmn hll hkl hfl
 obtain⟨m,rfl⟩:=Nat.exists_eq_succ_of_ne_zero (show m≠0 by omega)
 have ht:=fun id=>try_ok z t [125] J id
 have hnd:=fun id=>need_ok z t [44] J id
 by_cases g:cutB t [125]=true
 ·have e0:pPairs n true [] [] s=some (ks,l,t.drop 1):=by rw[←hx]; exact pPairs_end g
  rw[g,cutL_yes g] at ht
  rw[bS_eq,bS_eq] at ht
  cases first with
  | true =>
   obtain rfl:=hfl.1 rfl
   obtain rfl:=List.length_eq_zero_iff.1 hkl
   have e:some2R J K N M id z (pPairs n true [] [] s) = .ok (.tup [],[(J,some (bS z (t.drop 1)))]):=by rw[e0]; rfl
   unfold st2
   refine w_go 4000 ?_
   simp[bS,kB,pB,lB,sB,J1,V1,K1,N1,M1,d]
   (refine w_call hP rfl (ht _) (by simp[J1,V1,K1,N1,M1,d]) (by simp[J1,V1,K1,N1,M1,d]<;>rfl) ?_; refine w_go 4000 ?_; simp[J1,V1,K1,N1,M1,d])
   have hrn:rnOk []:=by simp[bS,kB,pB,lB,sB,J1,V1,K1,N1,M1,d,idO hid]
   refine hR _ _ _ (e) ?_
   refine rt_end (by simp[bS,kB,pB,lB,sB,J1,V1,K1,N1,M1,d,idO hid]<;>rfl) [] hrn ⟨?_,?_,?_,?_,?_,?_⟩<;>(try simp[bS,kB,pB,lB,sB,J1,V1,K1,N1,M1,d,idO hid])
  | false =>
   have hne:l≠[]:=fun h=>by have:=hfl.2 h; cases this
   have e:some2R J K N M id z (pPairs n true [] [] s) = .ok (.tup [],[(J,some (bS z (t.drop 1))),(K,some (kB 5 (.bsl id 0 ks.length) (.bsl (id+1) 0 l.length))),(N,none),(M,none),(id,some (sB ks)),(id+1,some (lB l))]):=by
    rw[e0]
    show Except.ok (_,if l=[] then _ else _)=_
    rw[if_neg hne]
   unfold st2
   refine w_go 4000 ?_
   simp[bS,kB,pB,lB,sB,J1,V1,K1,N1,M1,d]
   (refine w_call hP rfl (ht _) (by simp[J1,V1,K1,N1,M1,d]) (by simp[J1,V1,K1,N1,M1,d]<;>rfl) ?_; refine w_go 4000 ?_; simp[J1,V1,K1,N1,M1,d])
   have hrn:rnOk [(id,E.n0),(id+1,E.n0+1)]:=by simp[bS,kB,pB,lB,sB,ne1 hJ.2,ne1 hV.2,ne1 hK.2,ne1 hN.2,ne1 hM.2,ne1o hid,J1,V1,K1,N1,M1,d,idO hid]
   refine hR _ _ _ (e) ?_
   refine rt_end (by simp[bS,kB,pB,lB,sB,ne1 hJ.2,ne1 hV.2,ne1 hK.2,ne1 hN.2,ne1 hM.2,ne1o hid,J1,V1,K1,N1,M1,d,idO hid]<;>rfl) [(id,E.n0),(id+1,E.n0+1)] hrn ⟨?_,?_,?_,?_,?_,?_⟩<;>(try simp[bS,kB,pB,lB,sB,ne1 hJ.2,ne1 hV.2,ne1 hK.2,ne1 hN.2,ne1 hM.2,ne1o hid,J1,V1,K1,N1,M1,d,idO hid])
   all_goals exact⟨renL_pure rfl (pure_strs _),renL_pure rfl (pure_outs _)⟩
 have g:cutB t [125]=false:=by simpa using g
 rw[g,cutL_no g] at ht
 rw[bS_eq] at ht
 have hO:=hO m (by omega)
 cases first with
 | true =>
  have hdo:=fun id=>do2_ok hO z t ks l J V K N M id hd (by omega) (by omega) (by omega) (by omega)
  obtain rfl:=hfl.1 rfl
  obtain rfl:=List.length_eq_zero_iff.1 hkl
  cases hq:pPart m t with
  | none =>
   rw[hq] at hdo
   change ∀id,FnE _ _ _ _ _ (.error wv) at hdo
   have e:some2R J K N M id z (pPairs n true [] [] s) = .error wv:=by rw[←hx,pPairs_bad g (pComma_t t) hq]; rfl
   rw[bS_eq,kB_eq,pB_eq,lB_eq,sB_eq] at hdo
   unfold st2
   refine w_go 4000 ?_
   simp[bS,kB,pB,lB,sB,J1,V1,K1,N1,M1,d]
   (refine w_call hP rfl (ht _) (by simp[J1,V1,K1,N1,M1,d]) (by simp[J1,V1,K1,N1,M1,d]<;>rfl) ?_; refine w_go 4000 ?_; simp[J1,V1,K1,N1,M1,d])
   refine w_callvE hP (by simp<;>exact⟨rfl,rfl⟩) rfl (hdo _) (by simp[J1,V1,K1,N1,M1,d]) (by simp[J1,V1,K1,N1,M1,d]<;>rfl) (fun pv hpv=>⟨by simp[J1,V1,K1,N1,M1,d],by injection hpv with hpv; subst hpv; exact hPn _ _ (e) rfl (by simp[J1,V1,K1,N1,M1,d])⟩) (fun v wr h=>by cases h)
  | some p2 =>
   obtain⟨k,o,u⟩:=p2
   have hlt:=pPart_lt hq
   rw[hq] at hdo
   have hdo:∀id,FnOk Tryd.prog 70 [.ptr K 0 0,.ptr V 0 0] [(J,bS z t),(V,pB J),(K,kB 5 (.bsl N 0 0) (.bsl M 0 0)),(N,sB []),(M,lB [])] id (.tup []) [(J,some (bS z u)),(K,some (kB 5 (.bsl id 0 1) (.bsl (id+1) 0 1))),(N,none),(M,none),(id,some (sB [k])),(id+1,some (lB [o]))]:=hdo
   have e0:pPairs (m+1) true [] [] t=pPairs m false [k] [o] u:=pPairs_next g (pComma_t t) hq
   obtain⟨ok,on,ot,oks,ols,hoe⟩:=eO_agg o
   rw[bS_eq,kB_eq,pB_eq,lB_eq,sB_eq,bS_eq,lB_eq,sB_eq] at hdo
   simp only[kB_eq] at hdo
   unfold st2
   refine w_go 4000 ?_
   simp[bS,kB,pB,lB,sB,J1,V1,K1,N1,M1,d]
   (refine w_call hP rfl (ht _) (by simp[J1,V1,K1,N1,M1,d]) (by simp[J1,V1,K1,N1,M1,d]<;>rfl) ?_; refine w_go 4000 ?_; simp[J1,V1,K1,N1,M1,d])
   (refine w_callv hP (by simp<;>exact⟨rfl,rfl⟩) rfl (hdo _) (by simp[Nat.add_assoc,J1,V1,K1,N1,M1,d]) (by simp[Nat.add_assoc,J1,V1,K1,N1,M1,d]<;>rfl) ?_; refine w_go 4000 ?_; simp[Nat.add_assoc,J1,V1,K1,N1,M1,d])
   refine hp _ (false,[k],[o],u,m) ⟨by rw[←hx]; exact e0.symm,by simp; omega,by simp; omega,by simp at hll ⊢; omega,by simp; try omega,by simp⟩ (by simp; omega) ?_
   have hrn:rnOk [(E.n0,E.n0+7168),(E.n0+1,E.n0+7169)]:=by simp[st2,bS,kB,pB,lB,sB,hoe,J1,V1,K1,N1,M1,d]
   refine Conv.sub [(E.n0,E.n0+7168),(E.n0+1,E.n0+7169)] hrn ?_ ?_ ?_ ?_ ?_<;>(try simp[st2,bS,kB,pB,lB,sB,hoe,J1,V1,K1,N1,M1,d])
 | false =>
  by_cases g2:cutB t [44]=true
  rotate_left
  ·have g2:cutB t [44]=false:=by simpa using g2
   have e1:pNeed t [44]=none:=by unfold pNeed; rw[if_neg (by simp[g2])]
   rw[e1] at hnd
   change ∀id,FnE _ _ _ _ _ (.error wv) at hnd
   have e:some2R J K N M id z (pPairs n true [] [] s) = .error wv:=by rw[←hx,pPairs_stop g (pComma_n g2)]; rfl
   rw[bS_eq] at hnd
   unfold st2
   refine w_go 4000 ?_
   simp[bS,kB,pB,lB,sB,J1,V1,K1,N1,M1,d]
   (refine w_call hP rfl (ht _) (by simp[J1,V1,K1,N1,M1,d]) (by simp[J1,V1,K1,N1,M1,d]<;>rfl) ?_; refine w_go 4000 ?_; simp[J1,V1,K1,N1,M1,d])
   refine w_callE hP rfl (hnd _) (by simp[J1,V1,K1,N1,M1,d]) (by simp[J1,V1,K1,N1,M1,d]<;>rfl) (fun pv hpv=>⟨by simp[J1,V1,K1,N1,M1,d],by injection hpv with hpv; subst hpv; exact hPn _ _ (e) rfl (by simp[J1,V1,K1,N1,M1,d])⟩) (fun v wr h=>by cases h)
  have e1:pNeed t [44]=some (.tup [],t.drop 1):=by unfold pNeed; rw[if_pos g2]; rfl
  have hnd1:∀id,FnOk Tryd.prog 71 [.ptr J 0 0,.str [44]] [(J,bS z t)] id (.tup []) [(J,some (bS z (t.drop 1)))]:=fun id=>by
   have:=hnd id
   rw[e1] at this; exact this
  have hc:=pComma_f g2
  have htl:(t.drop 1).length≤t.length:=by rw[List.length_drop]; omega
  generalize t.drop 1=t1 at *
  have hne0:([J,V,K,E.n0,E.n0+1]:List Nat).Nodup:=by simp[J1,V1,K1,N1,M1,d]
  have hdo:=fun id=>do2_ok hO z t1 ks l J V K E.n0 (E.n0+1) id hne0 (by omega) (by omega) (by omega) (by omega)
  cases hq:pPart m t1 with
  | none =>
   rw[hq] at hdo
   change ∀id,FnE _ _ _ _ _ (.error wv) at hdo
   have e:some2R J K N M id z (pPairs n true [] [] s) = .error wv:=by rw[←hx,pPairs_bad g hc hq]; rfl
   rw[bS_eq,kB_eq,pB_eq,lB_eq,sB_eq] at hdo
   rw[bS_eq,bS_eq] at hnd1
   unfold st2
   refine w_go 4000 ?_
   simp[bS,kB,pB,lB,sB,J1,V1,K1,N1,M1,d]
   (refine w_call hP rfl (ht _) (by simp[J1,V1,K1,N1,M1,d]) (by simp[J1,V1,K1,N1,M1,d]<;>rfl) ?_; refine w_go 4000 ?_; simp[J1,V1,K1,N1,M1,d])
   (refine w_call hP rfl (hnd1 _) (by simp[J1,V1,K1,N1,M1,d]) (by simp[J1,V1,K1,N1,M1,d]<;>rfl) ?_; refine w_go 4000 ?_; simp[J1,V1,K1,N1,M1,d])
   refine w_callvE hP (by simp<;>exact⟨rfl,rfl⟩) rfl (hdo _) (by simp[J1,V1,K1,N1,M1,d]) (by simp[J1,V1,K1,N1,M1,d]<;>rfl) (fun pv hpv=>⟨by simp[J1,V1,K1,N1,M1,d],by injection hpv with hpv; subst hpv; exact hPn _ _ (e) rfl (by simp[J1,V1,K1,N1,M1,d])⟩) (fun v wr h=>by cases h)
  | some p2 =>
   obtain⟨k,o,u⟩:=p2
   have hlt:=pPart_lt hq
   rw[hq] at hdo
   have hdo:∀id,FnOk Tryd.prog 70 [.ptr K 0 0,.ptr V 0 0] [(J,bS z t1),(V,pB J),(K,kB 5 (.bsl E.n0 0 ks.length) (.bsl (E.n0+1) 0 l.length)),(E.n0,sB ks),(E.n0+1,lB l)] id (.tup []) [(J,some (bS z u)),(K,some (kB 5 (.bsl id 0 (ks.length+1)) (.bsl (id+1) 0 (l.length+1)))),(E.n0,none),(E.n0+1,none),(id,some (sB (ks++[k]))),(id+1,some (lB (l++[o])))]:=hdo
   have e0:pPairs (m+1) false ks l t=pPairs m false (ks++[k]) (l++[o]) u:=pPairs_next g hc hq
   have hex:(l++[o]).map eO=l.map eO++[eO o]:=by simp
   have hkx:(ks++[k]).map AV.str=ks.map AV.str++[.str k]:=by simp
   obtain⟨ok,on,ot,oks,ols,hoe⟩:=eO_agg o
   rw[hoe] at hex
   rw[bS_eq,kB_eq,pB_eq,lB_eq,sB_eq,bS_eq,lB_eq,sB_eq] at hdo
   simp only[kB_eq,hex,hkx] at hdo
   rw[bS_eq,bS_eq] at hnd1
   unfold st2
   refine w_go 4000 ?_
   simp[bS,kB,pB,lB,sB,J1,V1,K1,N1,M1,d]
   (refine w_call hP rfl (ht _) (by simp[J1,V1,K1,N1,M1,d]) (by simp[J1,V1,K1,N1,M1,d]<;>rfl) ?_; refine w_go 4000 ?_; simp[J1,V1,K1,N1,M1,d])
   (refine w_call hP rfl (hnd1 _) (by simp[J1,V1,K1,N1,M1,d]) (by simp[J1,V1,K1,N1,M1,d]<;>rfl) ?_; refine w_go 4000 ?_; simp[J1,V1,K1,N1,M1,d])
   (refine w_callv hP (by simp<;>exact⟨rfl,rfl⟩) rfl (hdo _) (by simp[Nat.add_assoc,J1,V1,K1,N1,M1,d]) (by simp[Nat.add_assoc,J1,V1,K1,N1,M1,d]<;>rfl) ?_; refine w_go 4000 ?_; simp[Nat.add_assoc,J1,V1,K1,N1,M1,d])
   refine hp _ (false,ks++[k],l++[o],u,m) ⟨by rw[←hx]; exact e0.symm,by simp; omega,by simp; omega,by simp at hll ⊢; omega,by simp; try omega,by simp⟩ (by simp; omega) ?_
   have hrn:rnOk [(E.n0,E.n0+9218),(E.n0+1,E.n0+9219)]:=by simp[st2,bS,kB,pB,lB,sB,hoe,J1,V1,K1,N1,M1,d]
   refine Conv.sub [(E.n0,E.n0+9218),(E.n0+1,E.n0+9219)] hrn ?_ ?_ ?_ ?_ ?_<;>(try simp[st2,bS,kB,pB,lB,sB,hoe,J1,V1,K1,N1,M1,d])
   exact⟨renL_pure rfl (pureL_append (pure_strs _) (by simp)),renL_pure rfl (pureL_append (pure_outs _) (by simp[pure_strs,pure_outs]))⟩
end Go.Am
