/- Parts of the proof: an abstract machine for Go functions, and what functions of the program give back (Qr8, Qr9, Qr10, Qr11, Qr12, Sx2, Qx2, Qr13, Qr14). No condition. -/
import Derived.Test.YtgfmjhmjnnpcgaaGreatDoorXK
namespace Go.Am
set_option linter.all false
open Go Go.RowKit Go.Proofs
set_option maxRecDepth 100000
set_option linter.all false
def lK(v:AV):Bx:=⟨[v],.nils,false,false⟩
theorem lK_eq(v:AV):lK v=⟨[v],.nils,false,false⟩:=rfl
def qB(l:List Sel):Bx:=⟨l.map eSel,.agg [.str [],.str [],.nils,.nils],false,false⟩
theorem qB_eq(l:List Sel):qB l=⟨l.map eSel,.agg [.str [],.str [],.nils,.nils],false,false⟩:=rfl
def selR(o:Option (Sel×List Tk)):Option (AV×List Tk):=o.map fun p=>(eSel p.1,p.2)
def selsR(o:Option (List Sel×List Tk)):Option (AV×List Tk):=o.map fun p=>(.sl (p.1.map eSel),p.2)
def OneIs(n:Nat):Prop:=∀(z l:List Tk) (J id:Nat),3*l.length+1≤n→l.length≤1099511627776→FnE Tryz.prog 99 [.ptr J 0 0] [(J,tB z l)] id (rdT J z (selR (pSel n l)))
def SomeIs(n:Nat):Prop:=∀(z l:List Tk) (J id:Nat),3*l.length+1≤n→l.length≤1099511627776→FnE Tryz.prog 67 [.ptr J 0 0] [(J,tB z l)] id (rdT J z (selsR (pSome n l)))
theorem sel_agg(s:Sel):∃(a b:List UInt8) (x:List Ag) (k:List Sel),eSel s = .agg [.str a,.str b,.sl (x.map eAg),.sl (k.map eSel)]:=by
 cases s with|mk a b x k=>exact⟨a,b,x,k,by simp[eSel,eSels_map]⟩
theorem pAgs_lt:∀(n:Nat) (acc:List Ag) (t u:List Tk) (l:List Ag),pAgs n acc t=some (l,u)→u.length<t.length
 | 0,_,_,_,_,h=>by cases h
 | n+1,acc,t,u,l,h=>by
  simp only[pAgs] at h
  split at h
  ·cases h
  rename_i p hp
  have h1:=pAg_lt (a:=p.1) (u:=p.2) hp
  split at h
  ·simp only[Option.some.injEq,Prod.mk.injEq] at h
   rw[←h.2,List.length_drop]; omega
  ·have:=pAgs_lt n _ _ _ _ h; omega
theorem pArgs_le{t u:List Tk}{l:List Ag}(h:pArgs t=some (l,u)):u.length≤t.length:=by
 unfold pArgs at h
 split at h
 ·have:=pAgs_lt _ _ _ _ _ h
  rw[List.length_drop] at this; omega
 ·simp only[Option.some.injEq,Prod.mk.injEq] at h
  rw[h.2]; exact Nat.le_refl _
theorem pHd_lt{t u:List Tk}{a b:List UInt8}(h:pHd t=some (a,b,u)):u.length<t.length:=by
 unfold pHd at h
 split at h
 rotate_left
 ·cases h
 rename_i h1
 obtain⟨_,_,e,_⟩:=isW_cons h1
 have:=congrArg List.length e
 rw[List.length_cons] at this
 split at h
 ·split at h
  ·simp only[Option.some.injEq,Prod.mk.injEq] at h
   rw[←h.2.2,List.length_drop]; omega
  ·cases h
 ·simp only[Option.some.injEq,Prod.mk.injEq] at h
  rw[←h.2.2,List.length_drop]; omega
theorem pSel_lts:∀n:Nat,(∀t s u,pSel n t=some (s,u)→u.length<t.length)∧(∀t s u,pSome n t=some (s,u)→u.length<t.length)∧(∀acc t s u,pSels n acc t=some (s,u)→u.length<t.length)
 | 0=>⟨fun _ _ _ h=>by simp[pSel] at h,fun _ _ _ h=>by simp[pSome] at h,fun _ _ _ _ h=>by simp[pSels] at h⟩
 | n+1=>by
  obtain⟨h1,h2,h3⟩:=pSel_lts n
  refine⟨fun t s u h=>?_,fun t s u h=>?_,fun acc t s u h=>?_⟩
  ·simp only[pSel] at h
   split at h
   ·cases h
   rename_i a nm v hv
   have e1:=pHd_lt hv
   split at h
   ·cases h
   rename_i xs w hw
   have e2:=pArgs_le hw
   split at h
   ·split at h
    ·cases h
    rename_i k y hy
    have:=h2 _ _ _ hy
    simp only[Option.some.injEq,Prod.mk.injEq] at h
    rw[←h.2]; omega
   ·simp only[Option.some.injEq,Prod.mk.injEq] at h
    rw[←h.2]; omega
  ·simp only[pSome] at h
   split at h
   ·have:=h3 _ _ _ _ h
    rw[List.length_drop] at this; omega
   ·cases h
  ·simp only[pSels] at h
   split at h
   ·cases h
   rename_i s' v hv
   have e1:=h1 _ _ _ hv
   split at h
   ·simp only[Option.some.injEq,Prod.mk.injEq] at h
    rw[←h.2,List.length_drop]; omega
   ·have:=h3 _ _ _ _ h; omega
theorem pSel_lt{n:Nat}{t u:List Tk}{s:Sel}(h:pSel n t=some (s,u)):u.length<t.length:=(pSel_lts n).1 t s u h
theorem qsC_code:cc98 = .reg true ((crsOf cc98).take 2++(crsOf cc98).getD 2 default::(((crsOf cc98).drop 3).take 2++(crsOf cc98).drop 5)) (psOf cc98):=rfl
set_option maxHeartbeats 8000000 in
theorem qsC_no{n:Nat}(hO:OneIs n)(z t:List Tk)(l:List Sel)(J V K M id:Nat)(hd:[J,V,K,M].Nodup)(hn:3*t.length+1≤n)(h8:t.length≤1099511627776)(hp:pSel n t=none):
  FnE Tryz.prog 98 [.ptr K 0 0,.ptr V 0 0] [(J,tB z t),(V,rpB J),(K,lK (.bsl M 0 l.length)),(M,qB l)] id (.error (erV 1)):=by
 have ho:=fun id=>hO z t J id hn h8
 have d:=apt4 hd
 rw[hp] at ho
 change ∀id,FnE _ _ _ _ _ (.error (erV 1)) at ho
 rw[tB_eq] at *
 rw[lK_eq,rpB_eq,qB_eq]
 refine fn_okE Tryz.func98 hcc98 (by decide) hcr98 (by simp[Tryz.ntmps98]) fun E hP hR hPn hl hid hB hu=>?_
 have hJ:=hl (J,_) (List.mem_cons_self ..)
 simp only at hJ
 have J1:=lf hJ
 have hV:=hl (V,_) (List.mem_cons_of_mem _ (List.mem_cons_self ..))
 simp only at hV
 have V1:=lf hV
 have hK:=hl (K,_) (List.mem_cons_of_mem _ (List.mem_cons_of_mem _ (List.mem_cons_self ..)))
 simp only at hK
 have K1:=lf hK
 have hM:=hl (M,_) (List.mem_cons_of_mem _ (List.mem_cons_of_mem _ (List.mem_cons_of_mem _ (List.mem_cons_self ..))))
 simp only at hM
 have M1:=lf hM
 rw[qsC_code]
 refine w_regS _ _ _ _ (rs1:=[⟨true,.bsl M 0 l.length,[(K,lK (.bsl M 0 l.length))],[]⟩,⟨true,.ptr J 0 0,[(V,rpB J)],[]⟩])
  (r:=⟨true,.nili,[(J,tB z t)],goL [(J,tB z t)]⟩) (rs2:=[⟨true,.int .i64 l.length,[(M,qB l)],[]⟩,⟨true,.bsl (E.n0+4096) 0 1,[],[(E.n0+4096,some ⟨[.agg [.str [],.str [],.nils,.nils]],.agg [.str [],.str [],.nils,.nils],false,false⟩)]⟩]) (pv:=erV 1) ?_ ?_ ?_ ?_ ?_
 ·simp only[crsOf,cc98,CC.d,List.take,ARuns,CR.f,CR.l,St.app,putF,addW,tB_eq,lK_eq,rpB_eq,qB_eq]
  refine⟨ar_sem (by simp) (by simp[J1,V1,K1,M1,d]),ar_sem (by simp) (by simp[J1,V1,K1,M1,d]),trivial⟩
 ·simp[crsOf,cc98,St.apps,St.app,tB_eq,lK_eq,rpB_eq,qB_eq]
  refine ar_call (by simp) (by simp<;>rfl) (by rw[hP]; exact ho _) (by simp[J1,V1,K1,M1,d])
 ·simp[crsOf,cc98,ARuns,St.apps,St.app,tB_eq,lK_eq,rpB_eq,qB_eq]
  refine⟨ar_sem (by simp) (by simp[J1,V1,K1,M1,d]),ar_sem (by simp) (by simp[J1,V1,K1,M1,d])⟩
 ·simp only[crsOf,psOf,dynS,cc98,CC.d,pr,List.map,List.append,getR,List.take,List.length,List.drop,List.cons_append,List.nil_append]
  simp[apartR,J1,V1,K1,M1,d]
 ·refine hPn _ _ rfl rfl ?_
  simp[crsOf,cc98,St.apps,St.app,tB_eq,lK_eq,rpB_eq,qB_eq,J1,V1,K1,M1,d]
set_option maxHeartbeats 8000000 in
theorem qsC_ok{n:Nat}(hO:OneIs n)(z t:List Tk)(l:List Sel)(a:Sel)(u:List Tk)(J V K M id:Nat)(hd:[J,V,K,M].Nodup)(hn:3*t.length+1≤n)(h8:t.length≤1099511627776)(h:pSel n t=some (a,u))(hl8:l.length≤1099511627776):
  FnOk Tryz.prog 98 [.ptr K 0 0,.ptr V 0 0] [(J,tB z t),(V,rpB J),(K,lK (.bsl M 0 l.length)),(M,qB l)] id (.tup []) [(J,some (tB z u)),(K,some (lK (.bsl id 0 (l.length+1)))),(M,none),(id,some (qB (l++[a])))]:=by
 have d:=apt4 hd
 have ho:=fun id=>hO z t J id hn h8
 rw[h] at ho
 have ho:∀id,FnOk Tryz.prog 99 [.ptr J 0 0] [(J,tB z t)] id (eSel a) [(J,some (tB z u))]:=ho
 have hex:(l++[a]).map eSel=l.map eSel++[eSel a]:=by simp
 obtain⟨sa,sn,sx,sk,hoe⟩:=sel_agg a
 rw[hoe] at ho hex
 rw[tB_eq,tB_eq] at ho
 rw[tB_eq,tB_eq,rpB_eq,lK_eq,lK_eq,qB_eq,qB_eq,hex]
 refine fn_okc Tryz.func98 hcc98 (by decide) hcr98 (by simp[Tryz.ntmps98]) fun E hP hR hl hid=>?_
 simp only[cr98] at hR
 refine w_go 4000 ?_
 simp[cc98]
 have hJ:=hl (J,_) (List.mem_cons_self ..)
 simp only at hJ
 have J1:=lf hJ
 have hV:=hl (V,_) (List.mem_cons_of_mem _ (List.mem_cons_self ..))
 simp only at hV
 have V1:=lf hV
 have hK:=hl (K,_) (List.mem_cons_of_mem _ (List.mem_cons_of_mem _ (List.mem_cons_self ..)))
 simp only at hK
 have K1:=lf hK
 have hM:=hl (M,_) (List.mem_cons_of_mem _ (List.mem_cons_of_mem _ (List.mem_cons_of_mem _ (List.mem_cons_self ..))))
 simp only at hM
 have M1:=lf hM
 simp[J1,V1,K1,M1,d]
 (refine w_call hP rfl (ho _) (by simp[J1,V1,K1,M1,d]) (by simp[J1,V1,K1,M1,d]<;>rfl) ?_; refine w_go 4000 ?_; simp[J1,V1,K1,M1,d])
 refine⟨⟨by omega,by omega⟩,by omega,?_⟩
 have hrn:rnOk [(id,E.n0+5120)]:=by simp[J1,V1,K1,M1,d,idO hid]
 rw[hR]
 refine rt_end (by simp<;>rfl) [(id,E.n0+5120)] hrn ⟨?_,?_,?_,?_,?_,?_⟩<;>(try simp[J1,V1,K1,M1,d,idO hid])
 exact renL_pure rfl (pureL_append (pure_sels _) (by simp))
def qsS(n0 J V K M:Nat)(z:List Tk):Bool→List Sel→List Tk→St
 | true,l,t=>⟨[(0,true,.ptr J 0 0),(1,true,.str [125]),(2,true,.fn 98 [.ptr K 0 0,.ptr V 0 0])],[(J,some (tB z t)),(V,some (rpB J)),(K,some (lK (.bsl M 0 l.length))),(M,some (qB l))],0⟩
 | false,l,t=>⟨[(0,true,.ptr J 0 0),(1,true,.str [125]),(2,true,.fn 98 [.ptr K 0 0,.ptr V 0 0])],[(J,some (tB z t)),(V,some (rpB J)),(K,some (lK (.bsl n0 0 l.length))),(M,none),(n0,some (qB l))],1⟩
def qsMR(J K M id:Nat)(z:List Tk):Option (List Sel×List Tk)→Except AV (AV×List (Nat×Option Bx))
 | none=>.error (erV 1)
 | some (l,u)=>.ok (.tup [],[(J,some (tB z u)),(K,some (lK (.bsl id 0 l.length))),(M,none),(id,some (qB l))])
set_option maxHeartbeats 8000000 in
theorem qsM_ok{n:Nat}(hO:∀m,m<n→OneIs m)(z s:List Tk)(J V K M id:Nat)(hd:[J,V,K,M].Nodup)(hn:3*s.length+2≤n)(h8:s.length≤1099511627776):
  FnE Tryz.prog 88 [.ptr J 0 0,.str [125],.fn 98 [.ptr K 0 0,.ptr V 0 0]] [(J,tB z s),(V,rpB J),(K,lK (.bsl M 0 0)),(M,qB [])] id (qsMR J K M id z (pSels n [] s)):=by
 have d:=apt4 hd
 rw[tB_eq,rpB_eq,lK_eq,qB_eq]
 refine fn_okE Tryz.func88 hcc88 (by decide) hcr88 (by simp[Tryz.ntmps88]) fun E hP hR hPn hl hid hB hu=>?_
 simp only[cr88] at hR
 refine w_go 4000 ?_
 simp[cc88]
 have hJ:=hl (J,_) (List.mem_cons_self ..)
 simp only at hJ
 have J1:=lf hJ
 have hV:=hl (V,_) (List.mem_cons_of_mem _ (List.mem_cons_self ..))
 simp only at hV
 have V1:=lf hV
 have hK:=hl (K,_) (List.mem_cons_of_mem _ (List.mem_cons_of_mem _ (List.mem_cons_self ..)))
 simp only at hK
 have K1:=lf hK
 have hM:=hl (M,_) (List.mem_cons_of_mem _ (List.mem_cons_of_mem _ (List.mem_cons_of_mem _ (List.mem_cons_self ..))))
 simp only at hM
 have M1:=lf hM
 refine w_loop (X:=Bool×List Sel×List Tk×Nat) (fun q=>qsS E.n0 J V K M z q.1 q.2.1 q.2.2.1)
  (fun q=>(pSels q.2.2.2 q.2.1 q.2.2.1=pSels n [] s∧3*q.2.2.1.length+2≤q.2.2.2∧q.2.2.2≤n)∧q.2.1.length+q.2.2.1.length≤s.length∧(q.1=true→q.2.1=[])) (fun q=>q.2.2.1.length) (true,[],s,n) ?_ ⟨⟨rfl,hn,Nat.le_refl _⟩,by simp,fun _=>rfl⟩ ?_
 ·have hrn:rnOk []:=by simp[qsS,tB,rpB,lK,qB,J1,V1,K1,M1,d]
  refine Conv.sub [] hrn ?_ ?_ ?_ ?_ ?_<;>(try simp[qsS,tB,rpB,lK,qB,J1,V1,K1,M1,d])
 rintro⟨first,l,t,m⟩ ⟨⟨hx,hm,hmn⟩,hll,hfl⟩ p hp
 simp only at hx hm hmn hll hfl
 obtain⟨m,rfl⟩:=Nat.exists_eq_succ_of_ne_zero (show m≠0 by omega)
 have hO:=hO m (by omega)
 cases first with
 | true =>
  obtain rfl:=hfl rfl
  cases hq:pSel m t with
  | none =>
   have hdo:=fun id=>qsC_no hO z t [] J V K M id hd (by omega) (by omega) hq
   have e:qsMR J K M id z (pSels n [] s) = .error (erV 1):=by
    rw[←hx]; simp only[Nat.succ_eq_add_one,pSels]; rw[hq]; rfl
   rw[tB_eq,rpB_eq,lK_eq,qB_eq] at hdo
   unfold qsS
   refine w_go 4000 ?_
   simp[tB,rpB,lK,qB,J1,V1,K1,M1,d]
   refine w_callvE hP (by simp<;>exact⟨rfl,rfl⟩) rfl (hdo _) (by simp[J1,V1,K1,M1,d]) (by simp[J1,V1,K1,M1,d]<;>rfl) (fun pv hpv=>⟨by simp[J1,V1,K1,M1,d],by injection hpv with hpv; subst hpv; exact hPn _ _ (e) rfl (by simp[J1,V1,K1,M1,d])⟩) (fun v wr h=>by cases h)
  | some w =>
   obtain⟨a,u⟩:=w
   have hlt:=pSel_lt hq
   have hdo:=fun id=>qsC_ok hO z t [] a u J V K M id hd (by omega) (by omega) hq (by simp)
   have hT:=fun id=>Try_ok z u 125 J id
   have e0:pSels n [] s=if isS u 125=true then some ([a],u.drop 1) else pSels m [a] u:=by
    rw[←hx]; simp only[Nat.succ_eq_add_one,pSels]; rw[hq]; rfl
   obtain⟨sa,sn,sx,sk,hoe⟩:=sel_agg a
   rw[tB_eq,rpB_eq,lK_eq,qB_eq,tB_eq,qB_eq] at hdo
   simp only[lK_eq] at hdo
   by_cases hs:isS u 125=true
   ·rw[if_pos hs] at e0
    rw[hs,tryL_yes hs] at hT
    generalize u.drop 1=v at *
    rw[tB_eq,tB_eq] at hT
    have e:qsMR J K M id z (pSels n [] s) = .ok (.tup [],[(J,some (tB z v)),(K,some (lK (.bsl id 0 1))),(M,none),(id,some (qB [a]))]):=by rw[e0]; rfl
    unfold qsS
    refine w_go 4000 ?_
    simp[tB,rpB,lK,qB,J1,V1,K1,M1,d]
    (refine w_callv hP (by simp<;>exact⟨rfl,rfl⟩) rfl (hdo _) (by simp[J1,V1,K1,M1,d]) (by simp[J1,V1,K1,M1,d]<;>rfl) ?_; refine w_go 4000 ?_; simp[J1,V1,K1,M1,d])
    (refine w_call hP rfl (hT _) (by simp[J1,V1,K1,M1,d]) (by simp[J1,V1,K1,M1,d]<;>rfl) ?_; refine w_go 4000 ?_; simp[J1,V1,K1,M1,d])
    have hrn:rnOk [(id,E.n0+1024)]:=by simp[tB,rpB,lK,qB,hoe,J1,V1,K1,M1,d,idO hid]
    refine hR _ _ _ (e) ?_
    refine rt_end (by simp[tB,rpB,lK,qB,hoe,J1,V1,K1,M1,d,idO hid]<;>rfl) [(id,E.n0+1024)] hrn ⟨?_,?_,?_,?_,?_,?_⟩<;>(try simp[tB,rpB,lK,qB,hoe,J1,V1,K1,M1,d,idO hid])
   ·have hs:isS u 125=false:=by simpa using hs
    rw[if_neg (by simp[hs])] at e0
    rw[hs,tryL_no hs,tB_eq] at hT
    unfold qsS
    refine w_go 4000 ?_
    simp[tB,rpB,lK,qB,J1,V1,K1,M1,d]
    (refine w_callv hP (by simp<;>exact⟨rfl,rfl⟩) rfl (hdo _) (by simp[J1,V1,K1,M1,d]) (by simp[J1,V1,K1,M1,d]<;>rfl) ?_; refine w_go 4000 ?_; simp[J1,V1,K1,M1,d])
    (refine w_call hP rfl (hT _) (by simp[J1,V1,K1,M1,d]) (by simp[J1,V1,K1,M1,d]<;>rfl) ?_; refine w_go 4000 ?_; simp[J1,V1,K1,M1,d])
    refine hp _ (false,[a],u,m) ⟨⟨e0.symm,by simp; omega,by simp; omega⟩,by simp at hll ⊢; omega,by simp⟩ (by simp; omega) ?_
    have hrn:rnOk [(E.n0,E.n0+1024)]:=by simp[qsS,tB,rpB,lK,qB,hoe,J1,V1,K1,M1,d]
    refine Conv.sub [(E.n0,E.n0+1024)] hrn ?_ ?_ ?_ ?_ ?_<;>(try simp[qsS,tB,rpB,lK,qB,hoe,J1,V1,K1,M1,d])
 | false =>
  have hne0:([J,V,K,E.n0]:List Nat).Nodup:=by simp[J1,V1,K1,M1,d]
  cases hq:pSel m t with
  | none =>
   have hdo:=fun id=>qsC_no hO z t l J V K E.n0 id hne0 (by omega) (by omega) hq
   have e:qsMR J K M id z (pSels n [] s) = .error (erV 1):=by
    rw[←hx]; simp only[Nat.succ_eq_add_one,pSels]; rw[hq]; rfl
   rw[tB_eq,rpB_eq,lK_eq,qB_eq] at hdo
   unfold qsS
   refine w_go 4000 ?_
   simp[tB,rpB,lK,qB,J1,V1,K1,M1,d]
   refine w_callvE hP (by simp<;>exact⟨rfl,rfl⟩) rfl (hdo _) (by simp[J1,V1,K1,M1,d]) (by simp[J1,V1,K1,M1,d]<;>rfl) (fun pv hpv=>⟨by simp[J1,V1,K1,M1,d],by injection hpv with hpv; subst hpv; exact hPn _ _ (e) rfl (by simp[J1,V1,K1,M1,d])⟩) (fun v wr h=>by cases h)
  | some w =>
   obtain⟨a,u⟩:=w
   have hlt:=pSel_lt hq
   have hdo:=fun id=>qsC_ok hO z t l a u J V K E.n0 id hne0 (by omega) (by omega) hq (by omega)
   have hT:=fun id=>Try_ok z u 125 J id
   have e0:pSels n [] s=if isS u 125=true then some (l++[a],u.drop 1) else pSels m (l++[a]) u:=by
    rw[←hx]; simp only[Nat.succ_eq_add_one,pSels]; rw[hq]
   have hex:(l++[a]).map eSel=l.map eSel++[eSel a]:=by simp
   obtain⟨sa,sn,sx,sk,hoe⟩:=sel_agg a
   rw[hoe] at hex
   rw[tB_eq,rpB_eq,lK_eq,qB_eq,tB_eq,qB_eq] at hdo
   simp only[lK_eq,hex] at hdo
   by_cases hs:isS u 125=true
   ·rw[if_pos hs] at e0
    rw[hs,tryL_yes hs] at hT
    generalize u.drop 1=v at *
    rw[tB_eq,tB_eq] at hT
    have e:qsMR J K M id z (pSels n [] s) = .ok (.tup [],[(J,some (tB z v)),(K,some (lK (.bsl id 0 (l.length+1)))),(M,none),(id,some (qB (l++[a])))]):=by rw[e0]; simp[qsMR]
    unfold qsS
    refine w_go 4000 ?_
    simp[tB,rpB,lK,qB,J1,V1,K1,M1,d]
    (refine w_callv hP (by simp<;>exact⟨rfl,rfl⟩) rfl (hdo _) (by simp[J1,V1,K1,M1,d]) (by simp[J1,V1,K1,M1,d]<;>rfl) ?_; refine w_go 4000 ?_; simp[J1,V1,K1,M1,d])
    (refine w_call hP rfl (hT _) (by simp[J1,V1,K1,M1,d]) (by simp[J1,V1,K1,M1,d]<;>rfl) ?_; refine w_go 4000 ?_; simp[J1,V1,K1,M1,d])
    have hrn:rnOk [(id,E.n0+1025)]:=by simp[tB,rpB,lK,qB,hoe,J1,V1,K1,M1,d,idO hid]
    refine hR _ _ _ (e) ?_
    refine rt_end (by simp[tB,rpB,lK,qB,hoe,J1,V1,K1,M1,d,idO hid]<;>rfl) [(id,E.n0+1025)] hrn ⟨?_,?_,?_,?_,?_,?_⟩<;>(try simp[tB,rpB,lK,qB,hoe,J1,V1,K1,M1,d,idO hid])
    all_goals exact renL_pure rfl (pureL_append (pure_sels _) (by simp))
   ·have hs:isS u 125=false:=by simpa using hs
    rw[if_neg (by simp[hs])] at e0
    rw[hs,tryL_no hs,tB_eq] at hT
    unfold qsS
    refine w_go 4000 ?_
    simp[tB,rpB,lK,qB,J1,V1,K1,M1,d]
    (refine w_callv hP (by simp<;>exact⟨rfl,rfl⟩) rfl (hdo _) (by simp[J1,V1,K1,M1,d]) (by simp[J1,V1,K1,M1,d]<;>rfl) ?_; refine w_go 4000 ?_; simp[J1,V1,K1,M1,d])
    (refine w_call hP rfl (hT _) (by simp[J1,V1,K1,M1,d]) (by simp[J1,V1,K1,M1,d]<;>rfl) ?_; refine w_go 4000 ?_; simp[J1,V1,K1,M1,d])
    refine hp _ (false,l++[a],u,m) ⟨⟨e0.symm,by simp; omega,by simp; omega⟩,by simp at hll ⊢; omega,by simp⟩ (by simp; omega) ?_
    have hrn:rnOk [(E.n0,E.n0+1025)]:=by simp[qsS,tB,rpB,lK,qB,hoe,J1,V1,K1,M1,d]
    refine Conv.sub [(E.n0,E.n0+1025)] hrn ?_ ?_ ?_ ?_ ?_<;>(try simp[qsS,tB,rpB,lK,qB,hoe,J1,V1,K1,M1,d])
    all_goals exact renL_pure rfl (pureL_append (pure_sels _) (by simp))
def smInv(E:Env)(J:Nat)(z u:List Tk):St :=
 ⟨[(1,true,.ptr E.n0 0 0),(3,true,.ptr (E.n0+1) 0 0)],[(J,some (tB z u)),(E.n0,some (rpB J)),(E.n0+1,some (lK (.bsl (E.n0+2) 0 0))),(E.n0+2,some (qB []))],3⟩
theorem some_hd(E:Env)(hP:E.P=Tryz.prog)(z l:List Tk)(J id:Nat)(hJ:J<E.n0∧(J<id∨id+1024≤J)){a b c r:CC}(ha:a = .r [.bx 1 0,.v 2 .nils])(hb:b = .r [.l 4 1,⟨some 5,none,[4],.call 87 [.t 4,.c (.str [123])]⟩])
  (hc:c = .r [.al 3 .nils]) (h1:isS l 123=true) {k:List Itm} (hk:Wk E (.code r::k) (smInv E J z (l.drop 1))) :
  Wk E (.code (.seq a (.seq b (.seq c r)))::k) ⟨[(0,true,.ptr J 0 0)],[(J,some (tB z l))],0⟩:=by
 subst ha hb hc
 have J1:=lf hJ
 refine w_cut3 (X:=Unit) (fun _=>smInv E J z (l.drop 1)) (fun _=>True) (fun p hp=>?_) fun _ _=>hk
 have hN:=fun id=>Need_ok z l 123 J id h1
 generalize l.drop 1=t at *
 rw[tB_eq,tB_eq] at hN
 rw[tB_eq]
 refine w_go 4000 ?_
 simp[J1]
 (refine w_call hP rfl (hN _) (by simp[J1]) (by simp[J1]<;>rfl) ?_; refine w_go 4000 ?_; simp[J1])
 refine hp _ () trivial ?_
 refine Conv.trans (Conv.voidBox (E.n0+4096) (by simp[J1]; rfl) rfl .nils (.agg [.str [],.str [],.nils,.nils])) ?_
 unfold smInv
 have hrn:rnOk [(E.n0,E.n0),(E.n0+1,E.n0+4096),(E.n0+2,E.n0+5120)]:=by simp[tB,rpB,lK,qB,J1]
 refine Conv.sub [(E.n0,E.n0),(E.n0+1,E.n0+4096),(E.n0+2,E.n0+5120)] hrn ?_ ?_ ?_ ?_ ?_<;>(try simp[tB,rpB,lK,qB,J1])
theorem some_step{n:Nat}(hO:∀m,m<n→OneIs m):SomeIs (n+1):=by
 intro z l J id hn h8
 by_cases h1:isS l 123=true
 rotate_left
 ·have hN:=fun id=>Need_no z l 123 J id (by simpa using h1)
  have e:pSome (n+1) l=none:=by simp only[pSome]; rw[if_neg h1]
  rw[e]
  show FnE _ _ _ _ _ (.error (erV 1))
  rw[tB_eq] at *
  refine fn_okE Tryz.func67 hcc67 (by decide) hcr67 (by simp[Tryz.ntmps67]) fun E hP hR hPn hl hid hB hu=>?_
  simp only[cr67] at hR
  refine w_go 4000 ?_
  simp[cc67]
  have hJ:=hl (J,_) (List.mem_cons_self ..)
  simp only at hJ
  have J1:=lf hJ
  refine w_callE hP rfl (hN _) (by simp[J1]) (by simp[J1]<;>rfl) (fun pv hpv=>⟨by simp[J1],by injection hpv with hpv; subst hpv; exact hPn _ _ (rfl) rfl (by simp[J1])⟩) (fun v wr h=>by cases h)
 have e:pSome (n+1) l=pSels n [] (l.drop 1):=by simp only[pSome]; rw[if_pos h1]
 have hlen:(l.drop 1).length+1=l.length:=by
  obtain⟨t,r,rfl⟩:=isS_cons h1
  simp
 rw[e]
 refine fn_okE Tryz.func67 hcc67 (by decide) hcr67 (by simp[Tryz.ntmps67]) fun E hP hR hPn hl hid hB hu=>?_
 simp only[cr67] at hR
 have hJ:=hl (J,_) (List.mem_cons_self ..)
 simp only at hJ
 have J1:=lf hJ
 refine some_hd E hP z l J id hJ rfl rfl rfl h1 ?_
 generalize l.drop 1=t at *
 have hM:=fun id=>qsM_ok hO z t J E.n0 (E.n0+1) (E.n0+2) id (by simp[J1]) (by omega) (by omega)
 cases hp:pSels n [] t with
 | none =>
  rw[hp] at hM
  change ∀id,FnE _ _ _ _ _ (.error (erV 1)) at hM
  rw[tB_eq,rpB_eq,lK_eq,qB_eq] at hM
  unfold smInv
  refine w_go 4000 ?_
  simp[tB,rpB,lK,qB,J1]
  refine w_callE hP rfl (hM _) (by simp[J1]) (by simp[J1]<;>rfl) (fun pv hpv=>⟨by simp[J1],by injection hpv with hpv; subst hpv; exact hPn _ _ (by rw[hp]; rfl) rfl (by simp[J1])⟩) (fun v wr h=>by cases h)
 | some w =>
  obtain⟨ss,u⟩:=w
  rw[hp] at hM
  have hM:∀id,FnOk Tryz.prog 88 [.ptr J 0 0,.str [125],.fn 98 [.ptr (E.n0+1) 0 0,.ptr E.n0 0 0]] [(J,tB z t),(E.n0,rpB J),(E.n0+1,lK (.bsl (E.n0+2) 0 0)),(E.n0+2,qB [])] id (.tup [])
    [(J,some (tB z u)),(E.n0+1,some (lK (.bsl id 0 ss.length))),(E.n0+2,none),(id,some (qB ss))]:=hM
  have e:rdT J z (selsR (pSels n [] t)) = .ok (.sl (ss.map eSel),[(J,some (tB z u))]):=by rw[hp]; rfl
  rw[tB_eq,rpB_eq,lK_eq,qB_eq,tB_eq,qB_eq] at hM
  simp only[lK_eq] at hM
  unfold smInv
  refine w_go 4000 ?_
  simp[tB,rpB,lK,qB,J1]
  (refine w_call hP rfl (hM _) (by simp[J1]) (by simp[J1]<;>rfl) ?_; refine w_go 4000 ?_; simp[J1])
  have hrn:rnOk []:=by simp[tB,rpB,J1,idO hid]
  refine hR _ _ _ (e) ?_
  refine rt_endR (by simp[tB,rpB,J1,idO hid]<;>rfl) (by simp[tB,rpB,J1,idO hid]<;>exact⟨rfl,rfl⟩) [] hrn ⟨?_,?_,?_,?_,?_,?_⟩<;>(try simp[tB,rpB,J1,idO hid])
end Go.Am
namespace Go.Am
set_option linter.all false
open Go Go.RowKit Go.Proofs
set_option maxRecDepth 100000
set_option linter.all false
theorem hd_none{n:Nat}{l:List Tk}(h:pHd l=none):pSel (n+1) l=none:=by simp only[pSel]; rw[h]
theorem args_none{n:Nat}{l u:List Tk}{a b:List UInt8}(h:pHd l=some (a,b,u))(h2:pArgs u=none):pSel (n+1) l=none:=by simp only[pSel]; rw[h]; simp only; rw[h2]
theorem kids_no{n:Nat}{l u v:List Tk}{a b:List UInt8}{xs:List Ag}(h:pHd l=some (a,b,u))(h2:pArgs u=some (xs,v))(h3:isS v 123=false):pSel (n+1) l=some (.mk a b xs [],v):=by
 simp only[pSel]; rw[h]; simp only; rw[h2]; simp only; rw[if_neg (by simp[h3])]
theorem kids_yes{n:Nat}{l u v:List Tk}{a b:List UInt8}{xs:List Ag}(h:pHd l=some (a,b,u))(h2:pArgs u=some (xs,v))(h3:isS v 123=true):pSel (n+1) l=(pSome n v).map fun p=>(.mk a b xs p.1,p.2):=by
 simp only[pSel]; rw[h]; simp only; rw[h2]; simp only; rw[if_pos h3]
 cases pSome n v with
 | none=>rfl
 | some p=>rfl
theorem nrm_sel(a b:List UInt8)(xs:List Ag):(AV.agg [.str a,.str b,.sl (xs.map eAg),.nils]).nrm=eSel (.mk a b xs []):=by
 have h1:nrmL (xs.map eAg)=xs.map eAg:=by
  induction xs with
  | nil=>rfl
  | cons x r ih=>simp[nrmL,AV.nrm,ih,eAg]
 simp[AV.nrm,nrmL,h1,eSel,eSels]
set_option maxHeartbeats 16000000 in
theorem one_step{n:Nat}(hS:SomeIs n):OneIs (n+1):=by
 intro z l J id hn h8
 cases hh:pHd l with
 | none =>
  rw[hd_none hh]
  show FnE _ _ _ _ _ (.error (erV 1))
  unfold pHd at hh
  by_cases h1:isW l=true
  rotate_left
  ·have hN:=fun id=>Name_no z l J id (by simpa using h1)
   rw[tB_eq] at *
   refine fn_okE Tryz.func99 hcc99 (by decide) hcr99 (by simp[Tryz.ntmps99]) fun E hP hR hPn hl hid hB hu=>?_
   simp only[cr99] at hR
   refine w_go 4000 ?_
   simp[cc99]
   have hJ:=hl (J,_) (List.mem_cons_self ..)
   simp only at hJ
   have J1:=lf hJ
   refine w_callE hP rfl (hN _) (by simp[J1]) (by simp[J1]<;>rfl) (fun pv hpv=>⟨by simp[J1],by injection hpv with hpv; subst hpv; exact hPn _ _ (rfl) rfl (by simp[J1])⟩) (fun v wr h=>by cases h)
  rw[if_pos h1] at hh
  obtain⟨t,r,rfl,hkd⟩:=isW_cons h1
  have hN:=fun id=>Name_ok' z r t J id hkd
  have hT:=fun id=>Try_ok z r 58 J id
  rw[List.drop_one,List.tail_cons] at hh
  have h2:isS r 58=true:=by
   apply Classical.byContradiction
   intro q
   rw[if_neg q] at hh; cases hh
  rw[if_pos h2] at hh
  rw[h2,tryL_yes h2] at hT
  obtain⟨t2,r2,rfl⟩:=isS_cons h2
  rw[List.drop_one,List.tail_cons,tB_eq,tB_eq] at hT
  have h3:isW r2=false:=by
   rw[Bool.eq_false_iff]; intro q
   rw[if_pos (show isW ((t::t2::r2).drop 2)=true from q)] at hh; cases hh
  have hN2:=fun id=>Name_no z r2 J id h3
  rw[tB_eq,tB_eq] at hN
  rw[tB_eq] at hN2
  rw[tB_eq]
  refine fn_okE Tryz.func99 hcc99 (by decide) hcr99 (by simp[Tryz.ntmps99]) fun E hP hR hPn hl hid hB hu=>?_
  simp only[cr99] at hR
  refine w_go 4000 ?_
  simp[cc99]
  have hJ:=hl (J,_) (List.mem_cons_self ..)
  simp only at hJ
  have J1:=lf hJ
  (refine w_call hP rfl (hN _) (by simp[J1]) (by simp[J1]<;>rfl) ?_; refine w_go 4000 ?_; simp[J1])
  (refine w_call hP rfl (hT _) (by simp[J1]) (by simp[J1]<;>rfl) ?_; refine w_go 4000 ?_; simp[J1])
  refine w_callE hP rfl (hN2 _) (by simp[J1]) (by simp[J1]<;>rfl) (fun pv hpv=>⟨by simp[J1],by injection hpv with hpv; subst hpv; exact hPn _ _ (rfl) rfl (by simp[J1])⟩) (fun v wr h=>by cases h)
 | some q =>
  obtain⟨al,nm,u⟩:=q
  have hlt:=pHd_lt hh
  cases ha:pArgs u with
  | none =>
   rw[args_none hh ha]
   show FnE _ _ _ _ _ (.error (erV 1))
   unfold pArgs at ha
   have h1:isS u 40=true:=by
    apply Classical.byContradiction
    intro q
    rw[if_neg q] at ha; cases ha
   rw[if_pos h1] at ha
   have hT:=fun id=>Try_ok z u 40 J id
   rw[h1,tryL_yes h1] at hT
   refine fn_okE Tryz.func99 hcc99 (by decide) hcr99 (by simp[Tryz.ntmps99]) fun E hP hR hPn hl hid hB hu=>?_
   simp only[cr99] at hR
   have hJ:=hl (J,_) (List.mem_cons_self ..)
   simp only at hJ
   have J1:=lf hJ
   refine one_hd E hP z l J id hJ rfl rfl rfl hh ?_
   have hlen:(u.drop 1).length<u.length+1:=by rw[List.length_drop]; omega
   have hM:=fun id=>agM_ok (u.length+1) z (u.drop 1) al nm J E.n0 (E.n0+2) (E.n0+3) id (by simp[J1]) hlen (by omega)
   rw[ha] at hM
   change ∀id,FnE _ _ _ _ _ (.error (erV 1)) at hM
   generalize u.drop 1=w at *
   rw[tB_eq,tB_eq] at hT
   rw[tB_eq,rpB_eq,sK_eq,aB_eq] at hM
   unfold oInv
   refine w_go 4000 ?_
   simp[tB,rpB,sK,aB,J1]
   (refine w_call hP rfl (hT _) (by simp[J1]) (by simp[J1]<;>rfl) ?_; refine w_go 4000 ?_; simp[J1])
   refine w_callE hP rfl (hM _) (by simp[J1]) (by simp[J1]<;>rfl) (fun pv hpv=>⟨by simp[J1],by injection hpv with hpv; subst hpv; exact hPn _ _ (rfl) rfl (by simp[J1])⟩) (fun v wr h=>by cases h)
  | some q =>
   obtain⟨xs,v⟩:=q
   have hle:=pArgs_le ha
   have hI:=fun id=>Is_ok z v 123 J id
   cases h3:isS v 123 with
   | false =>
    rw[h3,tB_eq] at hI
    rw[kids_no hh ha h3]
    show FnOk _ _ _ _ _ (eSel (.mk al nm xs [])) [(J,some (tB z v))]
    rw[←nrm_sel]
    refine FnOk.nrm ?_
    refine fn_okc Tryz.func99 hcc99 (by decide) hcr99 (by simp[Tryz.ntmps99]) fun E hP hR hl hid=>?_
    simp only[cr99] at hR
    have hJ:=hl (J,_) (List.mem_cons_self ..)
    simp only at hJ
    have J1:=lf hJ
    refine one_hd E hP z l J id hJ rfl rfl rfl hh (one_args E hP z J id hJ rfl (by omega) ha ?_)
    unfold oInv
    refine w_go 4000 ?_
    simp[tB,rpB,sK,aB,J1]
    (refine w_call hP rfl (hI _) (by simp[J1]) (by simp[J1]<;>rfl) ?_; refine w_go 4000 ?_; simp[J1])
    have hrn:rnOk []:=by simp[tB,rpB,sK,aB,J1,idO hid]
    rw[hR]
    refine rt_endR (by simp<;>rfl) (by simp[tB,rpB,sK,aB,J1,idO hid]<;>exact⟨rfl,rfl⟩) [] hrn ⟨?_,?_,?_,?_,?_,?_⟩<;>(try simp[tB,rpB,sK,aB,J1,idO hid])
   | true =>
    rw[h3,tB_eq] at hI
    rw[kids_yes hh ha h3]
    have hK:=fun id=>hS z v J id (by omega) (by omega)
    cases hp:pSome n v with
    | none =>
     rw[hp] at hK
     change ∀id,FnE _ _ _ _ _ (.error (erV 1)) at hK
     show FnE _ _ _ _ _ (.error (erV 1))
     refine fn_okE Tryz.func99 hcc99 (by decide) hcr99 (by simp[Tryz.ntmps99]) fun E hP hR hPn hl hid hB hu=>?_
     simp only[cr99] at hR
     have hJ:=hl (J,_) (List.mem_cons_self ..)
     simp only at hJ
     have J1:=lf hJ
     refine one_hd E hP z l J id hJ rfl rfl rfl hh (one_args E hP z J id hJ rfl (by omega) ha ?_)
     rw[tB_eq] at hK
     unfold oInv
     refine w_go 4000 ?_
     simp[tB,rpB,sK,aB,J1]
     (refine w_call hP rfl (hI _) (by simp[J1]) (by simp[J1]<;>rfl) ?_; refine w_go 4000 ?_; simp[J1])
     refine w_callE hP rfl (hK _) (by simp[J1]) (by simp[J1]<;>rfl) (fun pv hpv=>⟨by simp[J1],by injection hpv with hpv; subst hpv; exact hPn _ _ (rfl) rfl (by simp[J1])⟩) (fun v wr h=>by cases h)
    | some q =>
     obtain⟨ks,w⟩:=q
     rw[hp] at hK
     have hK:∀id,FnOk Tryz.prog 67 [.ptr J 0 0] [(J,tB z v)] id (.sl (ks.map eSel)) [(J,some (tB z w))]:=hK
     show FnOk _ _ _ _ _ (eSel (.mk al nm xs ks)) [(J,some (tB z w))]
     have hoe:eSel (.mk al nm xs ks) = .agg [.str al,.str nm,.sl (xs.map eAg),.sl (ks.map eSel)]:=by simp[eSel,eSels_map]
     rw[hoe]
     refine fn_okc Tryz.func99 hcc99 (by decide) hcr99 (by simp[Tryz.ntmps99]) fun E hP hR hl hid=>?_
     simp only[cr99] at hR
     have hJ:=hl (J,_) (List.mem_cons_self ..)
     simp only at hJ
     have J1:=lf hJ
     refine one_hd E hP z l J id hJ rfl rfl rfl hh (one_args E hP z J id hJ rfl (by omega) ha ?_)
     rw[tB_eq,tB_eq] at hK
     unfold oInv
     refine w_go 4000 ?_
     simp[tB,rpB,sK,aB,J1]
     (refine w_call hP rfl (hI _) (by simp[J1]) (by simp[J1]<;>rfl) ?_; refine w_go 4000 ?_; simp[J1])
     (refine w_call hP rfl (hK _) (by simp[J1]) (by simp[J1]<;>rfl) ?_; refine w_go 4000 ?_; simp[J1])
     have hrn:rnOk []:=by simp[tB,rpB,sK,aB,J1,idO hid]
     rw[hR]
     refine rt_endR (by simp<;>rfl) (by simp[tB,rpB,sK,aB,J1,idO hid]<;>exact⟨rfl,rfl⟩) [] hrn ⟨?_,?_,?_,?_,?_,?_⟩<;>(try simp[tB,rpB,sK,aB,J1,idO hid])
theorem one_is:∀n,OneIs n∧SomeIs n:=fun n=>by
 induction n using Nat.strongRecOn with
 | _ n ih =>
  cases n with
  | zero=>exact⟨fun z l J id hn=>by omega,fun z l J id hn=>by omega⟩
  | succ n=>exact⟨one_step (ih n (by omega)).2,some_step fun m hm=>(ih m (by omega)).1⟩
end Go.Am
namespace Go.Am
set_option linter.all false
open Go Go.RowKit Go.Proofs
set_option maxRecDepth 100000
set_option linter.all false
theorem runY_pnk(E:Env)(e:Int)(y:Int)(J:Nat)(h4:J<E.n0)(hR:∀fr bx k,bk bx J=some (iBx e)→(∀q∈bx,q.1=J∨E.n0≤q.1)→E.Rt ⟨fr,bx,k⟩):
  Wk E [.code cc83c] ⟨[(0,true,.ptr J 0 0),(1,true,erV e)],[(J,some (iBx y))],0⟩:=by
 unfold erV iBx
 have e4:∀t,(J=E.n0+t)=False:=fun t=>by simp; omega
 refine w_go 4000 ?_
 simp[cc83c,e4]
 refine hR _ _ _ ?_ ?_
 ·simp[e4,iBx]
 ·simp
theorem hY83{x x' z:Code}{X:Operand}{Y:Code}(h:Tryz.f83.body=some (.seq x (.seq x' (.cond X Y z)))):compC Tryz.prog Tryz.f83.ntmps Y=cc83c:=by
 have h0:=hcc83
 rw[h] at h0
 simp only[Option.map_some,Option.some.injEq,cc83] at h0
 obtain⟨_,_,e1,_,h1⟩:=comp_seq h0
 injection e1 with _ e1
 subst e1
 obtain⟨_,_,e2,_,h2⟩:=comp_seq h1
 injection e2 with _ e2
 subst e2
 obtain⟨_,_,_,e3,_,h3,_⟩:=comp_cond h2
 injection e3 with _ e3 _
 subst e3
 exact h3
theorem runD_pnk(C:Cx Tryz.prog)(G:Gh)(B:Nat→Option Bx)(w:World)(er:Int)(y:Int)(n0 J:Nat)(v4 u:Value)(hs:RS C G B w)(hv4:RV G w (.ptr J 0 0) v4)(hu:RV G w (erV er) u)
  (h4:B J=some (iBx y)) (hold:∀x,G.used x→x<n0) (how:∀x,n0≤x→B x=none) :
  CallsD Tryz.prog 83 #[v4] (.panicking [{ v:=u,recovered:=false }]) w fun e u' w'=>u' = .panicking [{ v:=u,recovered:=true }]∧(∃v,e = .returned v) ∧
   ∃G' l k,RS C G' (ov B l) w'∧Evo G w G' w'∧bk l J=some (iBx er)∧(∀q∈l,q.1=J∨n0≤q.1)∧(∀x,x<n0→G'.used x→G.used x)∧∀x,G'.used x→x<n0+k:=by
 obtain⟨q,rfl⟩:∃q,u = .iface 23 q:=by
  unfold erV at hu
  cases hu with|iface _ _ q h=>exact⟨q,rfl⟩
 refine callsD_of_wpS Tryz.func83 rfl fun c₀ cs hm=>?_
 apply wpS_seq
 apply wpS_region
 simp[wpOpsS,go_sem,recoverD,hm,Tryz.ntmps83,Exit.thenS]
 apply wpS_seq
 apply wpS_region
 simp[wpOpsS,go_sem,Exit.thenS]
 refine wpS_cond (t:=true) (by simp[Act.eval,Array.replicate]) ?_
 apply wpS_of_wp
 simp only[if_true]
 let E:Env:=⟨Tryz.prog,C,B,Tryz.f83.ntmps,n0,G,w,how,hold,hs,[],fun σ=>bk σ.bx J=some (iBx er)∧∀q∈σ.bx,q.1=J∨n0≤q.1,fun _ _=>False⟩
 have l4:=hold J (hs.boxNames h4).1
 have hW:=runY_pnk E er y J l4 fun fr bx k h1 h2=>⟨h1,h2⟩
 refine wp_mono (hW _ (hY83 rfl) G _ w ?_) fun e a w' hq=>?_
 ·refine⟨Evo.refl G w,?_,fun i hi=>by have:=hold i hi; show i<n0+0; omega,fun i _ hi=>hi,fun n c v hl=>?_,?_,rfl⟩
  ·have hh:Has B [(J,iBx y)]:=fun q hq=>by
    simp at hq
    obtain rfl:=hq
    exact h4
   have:=ov_someL hh
   simp only[someL] at this
   show RS C G (ov B _) w
   rw[this]; exact hs
  ·simp only[lk] at hl
   repeat' split at hl
   all_goals first|cases hl|skip
   all_goals rename_i hn<;>subst hn<;>refine⟨fun _=>?_,fun h=>by cases h⟩
   ·simpa [Array.getD_eq_getD_getElem?] using hv4
   ·simpa [Array.getD_eq_getD_getElem?] using hu
  ·simp[E,Tryz.ntmps83]
 ·have fin:∀σ G',Desc E σ G' a w'→E.Rt σ→∀(cs':List Frame),a.defers=[]∧(∃v,(results Tryz.f83 a.tmps).run Tryz.prog w' = .ok v w')∧∃G' l k,RS C G' (ov B l) w'∧Evo G w G' w'∧bk l J=some (iBx er)∧(∀q∈l,q.1=J∨n0≤q.1)∧(∀x,x<n0→G'.used x→G.used x)∧∀x,G'.used x→x<n0+k:=fun σ G' hD hR _=>by
   refine⟨hD.defers,⟨_,by simp[results,Tryz.results83]; rfl⟩,G',σ.bx,σ.k,hD.rs,hD.ev,hR.1,hR.2,hD.old,hD.used⟩
  cases e with
  | normal =>
   obtain⟨σ,G',h1,h2⟩:=hq
   obtain⟨f1,⟨v,f2⟩,g1,g2,g3,d1,d2,d3,d4,d5,d6⟩:=fin σ G' h1 h2 cs
   exact⟨f1,_,rfl,v,f2,rfl,⟨v,rfl⟩,g1,g2,d1,d2,d3,fun x y h=>d4 (x,y) h,d5,g3,d6⟩
  | ret =>
   obtain⟨σ,G',h1,h2⟩:=hq
   obtain⟨f1,⟨v,f2⟩,g1,g2,g3,d1,d2,d3,d4,d5,d6⟩:=fin σ G' h1 h2 cs
   exact⟨f1,_,rfl,v,f2,rfl,⟨v,rfl⟩,g1,g2,d1,d2,d3,fun x y h=>d4 (x,y) h,d5,g3,d6⟩
  | exit id=>obtain⟨σ,G',h1,h2⟩:=hq; exact h2.elim
  | panic chain =>
   obtain⟨pv,u,σ,F,B,U,G',rfl,h1,h2,h3,h4⟩:=hq
   exact h4.elim
  | _=>exact hq.elim
theorem runD_ret(v1:Value)(w:World):CallsD Tryz.prog 83 #[v1] .returning w fun e u' w'=>u' = .returning∧(∃v,e = .returned v)∧w'=w:=by
 refine callsD_of_wpS Tryz.func83 rfl fun c₀ cs hu=>?_
 apply wpS_seq
 apply wpS_region
 simp[wpOpsS,go_sem,recoverD,hu,Tryz.ntmps83,Exit.thenS]
 apply wpS_seq
 apply wpS_region
 simp[wpOpsS,go_sem,Exit.thenS]
 refine wpS_cond (t:=false) (by simp[Act.eval,Array.replicate]) ?_
 simp only[Bool.false_eq_true,if_false]
 apply wpS_of_wp
 refine wp_skip ?_
 exact⟨rfl,_,by rw[←hu],_,by simp[results,Tryz.results83]; rfl,rfl,⟨_,rfl⟩,rfl⟩
theorem hY52{a b t u sk m c d e f r:Code}{X:Operand}(h:Tryz.f52.body=some (.seq a (.seq b (.seq (.seq t (.cond X u sk)) (.seq m (.seq c (.seq d (.seq e (.seq f r))))))))):
  compC Tryz.prog Tryz.f52.ntmps a=cc52a∧compC Tryz.prog Tryz.f52.ntmps b=cc52b∧compC Tryz.prog Tryz.f52.ntmps t=cc52t∧compC Tryz.prog Tryz.f52.ntmps u=cc52u∧compC Tryz.prog Tryz.f52.ntmps c=cc52c∧compC Tryz.prog Tryz.f52.ntmps d=cc52d∧compC Tryz.prog Tryz.f52.ntmps e=cc52e∧compC Tryz.prog Tryz.f52.ntmps (.seq f r) = .seq cc52f CC.ret:=by
 have h0:=hcc52
 rw[h] at h0
 simp only[Option.map_some,Option.some.injEq,cc52] at h0
 obtain⟨_,_,e1,k1,h1⟩:=comp_seq h0
 injection e1 with e1 e1'
 subst e1 e1'
 obtain⟨_,_,e2,k2,h2⟩:=comp_seq h1
 injection e2 with e2 e2'
 subst e2 e2'
 obtain⟨_,_,e3,k3,h3⟩:=comp_seq h2
 injection e3 with e3 e3'
 subst e3 e3'
 obtain⟨_,_,e4,k4,h4⟩:=comp_seq k3
 injection e4 with e4 e4'
 subst e4 e4'
 obtain⟨_,_,_,e5,_,k5,_⟩:=comp_cond h4
 injection e5 with _ e5 _
 subst e5
 obtain⟨_,_,e6,_,h6⟩:=comp_seq h3
 injection e6 with _ e6
 subst e6
 obtain⟨_,_,e7,k7,h7⟩:=comp_seq h6
 injection e7 with e7 e7'
 subst e7 e7'
 obtain⟨_,_,e8,k8,h8⟩:=comp_seq h7
 injection e8 with e8 e8'
 subst e8 e8'
 obtain⟨_,_,e9,k9,h9⟩:=comp_seq h8
 injection e9 with e9 e9'
 subst e9 e9'
 exact⟨k1,k2,k4,k5,k7,k8,k9,h9⟩
theorem door52{a b t m r:Code}(h:Tryz.f52.body=some (.seq a (.seq b (.seq t (.seq m r))))){Q:Exit→Act→World→Prop}{t:Array Value}{w:World}(hsz:15<t.size)
  (hQ:Q .normal ⟨t.setIfInBounds 15 (.func (.func 83) #[] #[t[4]?.getD undef]),[⟨.fn (.func 83) #[t[4]?.getD undef],#[]⟩]⟩ w):m.wp Tryz.prog Q ⟨t,[]⟩ w:=by
 have e:Tryz.f52.body=some (.seq _ (.seq _ (.seq _ (.seq _ _)))):=rfl
 rw[e] at h
 injection h with h
 injection h with _ h
 injection h with _ h
 injection h with _ h
 injection h with h _
 subst h
 refine wp_region ?_
 have hmf:∀(fn:Fn) (first cap:Array Value) (w:World),(Instr.makeFunc fn first cap).run Tryz.prog w = .ok (.func fn first cap) w:=fun _ _ _ _=>rfl
 simp[wpOps,wpOp,go_sem,hmf,Exit.then,hsz]
 exact .inl (.inl hQ)
theorem run_end{C:Cx Tryz.prog}{D:List Deferred}{G G':Gh}{w w':World}{bx:Nat→Option Bx}{n0 k id J K:Nat}{F:Fr}{l:List (Nat×Option Bx)}{a:Act}{e:Int}{b0:Bx}{X:Option Bx}(own:∀i,n0≤i→bx i=none)(old:∀i,G.used i→i<n0)(hs:RS C G bx w)(hid:∀x,id≤x→x<id+1024→¬G.used x)
  (hD:DescF C Tryz.f52.ntmps D n0 G w F (ov bx l) (· < n0+k) G' a w') (f4:F 4=some (true,.ptr J 0 0)) (h4:ov bx l J=some (iBx e)) (hK:ov bx l K=X) (hX:∀b,X=some b→pureL b.xs=true) (hb0:bx K=some b0) (hl:∀q∈l,q.1=K∨n0≤q.1) (j4:n0≤J) (hKn:K<n0) :
  ∃v,(results Tryz.f52 a.tmps).run Tryz.prog w' = .ok v w'∧∃G1,RS C G1 (appl bx [(K,X)]) w'∧Evo G w G1 w'∧RV G1 w' (.int .i64 e) v∧∀x,G1.used x→G.used x∨(id≤x∧x<id+1024):=by
 let E:Env:=⟨Tryz.prog,C,bx,Tryz.f52.ntmps,n0,G,w,own,old,hs,D,fun _=>True,fun _ _=>False⟩
 have hD':Desc E ⟨[(4,true,.ptr J 0 0)],(J,some (iBx e))::(K,X)::l,k⟩ G' a w':=by
  refine⟨hD.ev,?_,hD.used,hD.old,fun n c v hl=>?_,hD.size,hD.defers⟩
  ·show RS C G' (ov bx _) w'
   simp only[ov]
   rw[upd_same (f:=ov bx l) hK,upd_same h4]
   exact hD.rs
  ·simp only[lk] at hl
   repeat' split at hl
   all_goals first|cases hl|skip
   all_goals rename_i hn<;>subst hn
   exact hD.fr _ _ _ f4
 have hh:Has E.β [(K,b0)]:=fun q hq=>by
  simp at hq
  obtain rfl:=hq
  exact hb0
 refine end_ok (E:=E) (id:=id) (rd:=[(K,b0)]) (wr:=[(K,X)]) (hcr52) hh hid hD' ?_
 simp only[cr52]
 have hJK:J≠K:=by omega
 refine rt_end (vs:=[.int .i64 e]) (by simp[iBx]) [] trivial ⟨.same _ (namesIn_pure _ rfl),?_,?_,?_,trivial,?_⟩
 ·have one:∀b',X=some b'→∃x b,(mkRn n0 [] trivial).ρ K=some x∧bk ((J,some (iBx e))::(K,X)::l) x=some b∧BxR (mkRn n0 [] trivial) G.used b b':=fun b hb=>by
   refine⟨K,b,?_,?_,BxR.same fun i x hx=>namesIn_pure _ (pureL_get (hX b hb) hx)⟩
   ·show rnF n0 [] K=some K
    simp[rnF,lkN,hKn]
   ·simp[bk,Ne.symm hJK,hb]
  clear hD hD' h4 hK
  have hap:appl (bk (someL [(K,b0)])) [(K,X)] K=X:=by simp[appl,upd]
  have one':match appl (bk (someL [(K,b0)])) [(K,X)] K with
    | none=>True
    | some b'=>∃x b,(mkRn n0 [] trivial).ρ K=some x∧bk ((J,some (iBx e))::(K,X)::l) x=some b∧BxR (mkRn n0 [] trivial) G.used b b':=by
   rw[hap]
   cases X with
   | none=>trivial
   | some b=>exact one b rfl
  exact⟨one',one',trivial⟩
 ·refine⟨.inl j4,.inr (.inl rfl),?_⟩
  clear hD hD' h4 hK
  induction l with
  | nil=>trivial
  | cons q l ih =>
   obtain⟨q1,q2⟩:=q
   refine⟨?_,ih fun x hx=>hl x (List.mem_cons_of_mem _ hx)⟩
   rcases hl (q1,q2) (List.mem_cons_self ..) with h|h
   ·exact .inr (.inl h)
   ·exact .inl h
 ·exact⟨.inl (.inl rfl),trivial⟩
 ·trivial
end Go.Am
namespace Go.Am
set_option linter.all false
open Go Go.RowKit Go.Proofs
set_option maxRecDepth 100000
set_option linter.all false
theorem pTok_ne{c:UInt8}{r:List UInt8}{e:Int}(h:pTok c r = .error e):e≠0:=by
 unfold pTok at h
 split at h
 ·split at h
  ·cases h
  ·injection h with h; rw[←h]; assumption
 split at h
 ·split at h
  ·injection h with h; omega
  ·cases h
 split at h
 ·split at h
  ·injection h with h; omega
  ·split at h
   ·injection h with h; omega
   ·cases h
 split at h
 ·cases h
 ·injection h with h; omega
theorem pToks_ne:∀(n:Nat) (acc:List Tk) (s:List UInt8) (e:Int),pToks n acc s = .error e→e≠0
 | 0,_,_,e,h=>by unfold pToks at h; injection h with h; omega
 | n+1,acc,s,e,h=>by
  unfold pToks at h
  split at h
  ·cases h
  ·split at h
   ·rename_i he
    injection h with h
    rw[←h]; exact pTok_ne he
   ·split at h
    ·injection h with h; omega
    ·exact pToks_ne n _ _ _ h
theorem fLex_ne{s:List UInt8}{e:Int}(h:fLex s = .error e):e≠0:=by
 unfold fLex at h
 split at h
 ·injection h with h; omega
 ·exact pToks_ne _ _ _ _ h
def runE(pr:List Tk→Option (AV×List Tk))(s:List UInt8):Int:=match fLex s with
 | .error e=>e
 | .ok l=>match pr l with
  | none=>1
  | some (_,u)=>if u=[] then 0 else 1
def runX(pr:List Tk→Option (AV×List Tk))(s:List UInt8):Option Bx:=match fLex s with
 | .error _=>some (lK .nils)
 | .ok l=>match pr l with
  | none=>none
  | some (v,_)=>some (lK v)
def doR(J K:Nat)(z:List Tk):Option (AV×List Tk)→Except AV (AV×List (Nat×Option Bx))
 | none=>.error (erV 1)
 | some (v,u)=>.ok (.tup [],[(J,some (tB z u)),(K,some (lK v))])
def rInv(E:Env)(f n0 K:Nat)(l:List Tk):St :=
 ⟨[(1,true,.fn f [.ptr K 0 0]),(4,true,.ptr n0 0 0),(6,true,.ptr E.n0 0 0)],[(E.n0,some (tB l l)),(n0,some (iBx 0)),(K,some (lK .nils))],1⟩
def rInv2(E:Env)(n0 K:Nat)(l u:List Tk)(v:AV):St :=
 ⟨[(4,true,.ptr n0 0 0),(6,true,.ptr E.n0 0 0)],[(E.n0,some (tB l u)),(n0,some (iBx 0)),(K,some (lK v))],1⟩
def rBg(E:Env)(f K:Nat)(V:AV)(e:Int):St :=
 ⟨[(1,true,.fn f [.ptr K 0 0]),(4,true,.ptr E.n0 0 0),(5,true,V)],[(E.n0,some (iBx e)),(K,some (lK .nils))],1⟩
section
variable (E:Env) (hP:E.P=Tryz.prog) (f K:Nat) (h5:K<E.n0) (s:List UInt8)
include hP h5
theorem run_ab(V:AV)(e:Int)(hV:V.pureB=true)(hre:∀id,FnOk Tryz.prog 13 [.str s] [] id (.tup [V,.int .i64 e]) []):
  Wk E [.code cc52b,.post fun σ=>Conv E σ (rBg E f K V e)] ⟨[(4,true,.ptr E.n0 0 0),(0,true,.str s),(1,true,.fn f [.ptr K 0 0])],[(E.n0,some (iBx 0)),(K,some (lK .nils))],1024⟩:=by
 have K1:=ne_own h5; have K2:=ne_own' h5; have K3:=ne_own0 h5; have K4:=ne_own0' h5
 unfold iBx lK
 refine w_go 4000 ?_
 simp[cc52b,K1,K2,K3,K4,h5]
 (refine w_call hP rfl (hre _) (by simp[K1,K2,K3,K4,h5]) (by simp[K1,K2,K3,K4,h5]<;>rfl) ?_; refine w_go 4000 ?_; simp[K1,K2,K3,K4,h5])
 unfold rBg
 have hrn:rnOk [(E.n0,E.n0)]:=by simp[iBx,lK,K1,K2,K3,K4,h5]
 refine Conv.sub [(E.n0,E.n0)] hrn ?_ ?_ ?_ ?_ ?_<;>(try simp[iBx,lK,K1,K2,K3,K4,h5])
 all_goals exact .same _ (namesIn_pure _ hV)
theorem run_t(V:AV)(e:Int)(b:Bool)(hb:(e != 0)=b)(hV:V.pureB=true):
  Wk E [.code cc52t,.post fun σ=>lk σ.fr 13=some (true,.bool b)∧Conv E σ (rBg E f K V e)] (rBg E f K V e):=by
 have K1:=ne_own h5; have K2:=ne_own' h5; have K3:=ne_own0 h5; have K4:=ne_own0' h5
 unfold rBg iBx lK
 refine w_go 4000 ?_
 simp[cc52t,hb,K1,K2,K3,K4,h5]
 have hrn:rnOk [(E.n0,E.n0)]:=by simp[iBx,lK,K1,K2,K3,K4,h5]
 refine Conv.sub [(E.n0,E.n0)] hrn ?_ ?_ ?_ ?_ ?_<;>(try simp[iBx,lK,K1,K2,K3,K4,h5])
 all_goals exact .same _ (namesIn_pure _ hV)
theorem run_u(V:AV)(e:Int)(hR:∀σ,bk σ.bx E.n0=some (iBx e)→bk σ.bx K=some (lK .nils)→lk σ.fr 4=some (true,.ptr E.n0 0 0)→(∀x∈σ.bx,x.1=K∨E.n0≤x.1)→E.Rt σ):
  Wk E [.code cc52u,.post (fun _=>False)] (rBg E f K V e):=by
 have K1:=ne_own h5; have K2:=ne_own' h5; have K3:=ne_own0 h5; have K4:=ne_own0' h5
 unfold rBg iBx lK
 refine w_go 4000 ?_
 simp[cc52u,K1,K2,K3,K4,h5]
 refine hR _ ?_ ?_ ?_ ?_
 ·simp[iBx,K1,K2,K3,K4]
 ·simp[lK,K1,K2,K3,K4]
 ·simp
 ·simp
end
section
variable (E:Env) (hP:E.P=Tryz.prog) (f n0 K:Nat) (h4:n0<E.n0) (h5:K<E.n0) (d:n0≠K) (l u:List Tk)
include hP h4 h5 d
theorem run_c(fr:List (Nat×Bool×AV))(k:Nat)(e1:lk fr 1=some (true,.fn f [.ptr K 0 0]))(e4:lk fr 4=some (true,.ptr n0 0 0))(e5:lk fr 5=some (true,.sl (l.map eTk))):
  Wk E [.code cc52c,.post fun σ=>Conv E σ (rInv E f n0 K l)] ⟨fr,[(n0,some (iBx 0)),(K,some (lK .nils))],k⟩:=by
 have N1:=ne_own h4; have N2:=ne_own' h4; have N3:=ne_own0 h4; have N4:=ne_own0' h4
 have K1:=ne_own h5; have K2:=ne_own' h5; have K3:=ne_own0 h5; have K4:=ne_own0' h5
 unfold iBx lK
 refine w_go 4000 ?_
 simp[cc52c,e1,e4,e5,N1,N2,N3,N4,K1,K2,K3,K4,d,Ne.symm d]
 unfold rInv
 have hrn:rnOk [(E.n0,E.n0+(k+2048))]:=by simp[tB,iBx,lK,e1,e4,N1,N2,N3,N4,h4,K1,K2,K3,K4,h5,d,Ne.symm d]
 refine Conv.sub [(E.n0,E.n0+(k+2048))] hrn ?_ ?_ ?_ ?_ ?_<;>(try simp[tB,iBx,lK,e1,e4,N1,N2,N3,N4,h4,K1,K2,K3,K4,h5,d,Ne.symm d])
theorem run_d(v:AV)(hv:v.pureB=true)(hF:∀id,FnOk Tryz.prog f [.ptr E.n0 0 0,.ptr K 0 0] [(E.n0,tB l l),(K,lK .nils)] id (.tup []) [(E.n0,some (tB l u)),(K,some (lK v))]):
  Wk E [.code cc52d,.post fun σ=>Conv E σ (rInv2 E n0 K l u v)] (rInv E f n0 K l):=by
 have N1:=ne_own h4; have N2:=ne_own' h4; have N3:=ne_own0 h4; have N4:=ne_own0' h4
 have K1:=ne_own h5; have K2:=ne_own' h5; have K3:=ne_own0 h5; have K4:=ne_own0' h5
 rw[tB_eq,tB_eq,lK_eq,lK_eq] at hF
 unfold rInv iBx lK tB
 refine w_go 4000 ?_
 simp[cc52d,N1,N2,N3,N4,h4,K1,K2,K3,K4,h5,d,Ne.symm d]
 (refine w_callv hP (by simp<;>exact⟨rfl,rfl⟩) rfl (hF _) (by simp[N1,N2,N3,N4,h4,K1,K2,K3,K4,h5,d,Ne.symm d]) (by simp[N1,N2,N3,N4,h4,K1,K2,K3,K4,h5,d,Ne.symm d]<;>rfl) ?_; refine w_go 4000 ?_; simp[N1,N2,N3,N4,h4,K1,K2,K3,K4,h5,d,Ne.symm d])
 unfold rInv2
 have hpl:pureL [v]=true:=by simp[pureL,hv]
 have hrn:rnOk [(E.n0,E.n0)]:=by simp[tB,iBx,lK,hv,N1,N2,N3,N4,h4,K1,K2,K3,K4,h5,d,Ne.symm d]
 refine Conv.sub [(E.n0,E.n0)] hrn ?_ ?_ ?_ ?_ ?_<;>(try simp[tB,iBx,lK,hv,N1,N2,N3,N4,h4,K1,K2,K3,K4,h5,d,Ne.symm d])
 all_goals exact .same _ (namesIn_pure _ hv)
theorem run_dp(hF:∀id,FnE Tryz.prog f [.ptr E.n0 0 0,.ptr K 0 0] [(E.n0,tB l l),(K,lK .nils)] id (.error (erV 1)))
  (hPn:∀σ,bk σ.bx n0=some (iBx 0)→ov E.β σ.bx K=none→lk σ.fr 4=some (true,.ptr n0 0 0)→(∀x∈σ.bx,x.1=K∨x.1=n0∨E.n0≤x.1)→E.Pn (erV 1) σ) :
  Wk E [.ops (crsOf cc52d) 0 [] [],.post (fun _=>False)] (rInv E f n0 K l):=by
 have N1:=ne_own h4; have N2:=ne_own' h4; have N3:=ne_own0 h4; have N4:=ne_own0' h4
 have K1:=ne_own h5; have K2:=ne_own' h5; have K3:=ne_own0 h5; have K4:=ne_own0' h5
 rw[tB_eq,lK_eq] at hF
 unfold rInv iBx lK tB
 refine w_go 4000 ?_
 simp[crsOf,cc52d,N1,N2,N3,N4,h4,K1,K2,K3,K4,h5,d,Ne.symm d]
 refine w_callvE hP (by simp<;>exact⟨rfl,rfl⟩) rfl (hF _) (by simp) (by simp[N1,N2,N3,N4,h4,K1,K2,K3,K4,h5,d,Ne.symm d]<;>rfl) (fun pv hpv=>⟨by simp[N1,N2,N3,N4,h4,K1,K2,K3,K4,h5,d,Ne.symm d],by injection hpv with hpv; subst hpv; exact hPn _ (by simp[iBx,N1,N2,N3,N4,h4,K1,K2,K3,K4,h5,d,Ne.symm d]) (by simp[ov,upd,N1,N2,N3,N4,h4,K1,K2,K3,K4,h5,d,Ne.symm d]) (by simp) (by simp)⟩) (fun v wr h=>by cases h)
theorem run_ep(v:AV)(hu:u≠[])(hPn:∀σ,bk σ.bx n0=some (iBx 0)→ov E.β σ.bx K=some (lK v)→lk σ.fr 4=some (true,.ptr n0 0 0)→(∀x∈σ.bx,x.1=K∨x.1=n0∨E.n0≤x.1)→E.Pn (erV 1) σ):
  Wk E [.ops (crsOf cc52e) 0 [] [],.post (fun _=>False)] (rInv2 E n0 K l u v):=by
 have N1:=ne_own h4; have N2:=ne_own' h4; have N3:=ne_own0 h4; have N4:=ne_own0' h4
 have K1:=ne_own h5; have K2:=ne_own' h5; have K3:=ne_own0 h5; have K4:=ne_own0' h5
 have hE:=fun id=>End_ok l u E.n0 id
 rw[if_neg hu] at hE
 rw[tB_eq] at hE
 unfold rInv2 iBx lK tB
 refine w_go 4000 ?_
 simp[crsOf,cc52e,N1,N2,N3,N4,h4,K1,K2,K3,K4,h5,d,Ne.symm d]
 refine w_callE hP rfl (hE _) (by simp) (by simp[N1,N2,N3,N4,h4,K1,K2,K3,K4,h5,d,Ne.symm d]<;>rfl) (fun pv hpv=>⟨by simp[N1,N2,N3,N4,h4,K1,K2,K3,K4,h5,d,Ne.symm d],by injection hpv with hpv; subst hpv; exact hPn _ (by simp[iBx,N1,N2,N3,N4,h4,K1,K2,K3,K4,h5,d,Ne.symm d]) (by simp[lK,ov,upd,N1,N2,N3,N4,h4,K1,K2,K3,K4,h5,d,Ne.symm d]) (by simp) (by simp)⟩) (fun v wr h=>by cases h)
theorem run_e(v:AV)(hv:v.pureB=true)(hu:u=[]):
  Wk E [.code cc52e,.post fun σ=>Conv E σ (rInv2 E n0 K l u v)] (rInv2 E n0 K l u v):=by
 have N1:=ne_own h4; have N2:=ne_own' h4; have N3:=ne_own0 h4; have N4:=ne_own0' h4
 have K1:=ne_own h5; have K2:=ne_own' h5; have K3:=ne_own0 h5; have K4:=ne_own0' h5
 have hE:=fun id=>End_ok l u E.n0 id
 rw[if_pos hu] at hE
 have hE:∀id,FnOk Tryz.prog 84 [.ptr E.n0 0 0] [(E.n0,tB l u)] id (.tup []) []:=hE
 rw[tB_eq] at hE
 unfold rInv2 iBx lK tB
 refine w_go 4000 ?_
 simp[cc52e,N1,N2,N3,N4,h4,K1,K2,K3,K4,h5,d,Ne.symm d]
 (refine w_call hP rfl (hE _) (by simp[N1,N2,N3,N4,h4,K1,K2,K3,K4,h5,d,Ne.symm d]) (by simp[N1,N2,N3,N4,h4,K1,K2,K3,K4,h5,d,Ne.symm d]<;>rfl) ?_; refine w_go 4000 ?_; simp[N1,N2,N3,N4,h4,K1,K2,K3,K4,h5,d,Ne.symm d])
 have hrn:rnOk [(E.n0,E.n0)]:=by simp[tB,iBx,lK,hv,N1,N2,N3,N4,h4,K1,K2,K3,K4,h5,d,Ne.symm d]
 refine Conv.sub [(E.n0,E.n0)] hrn ?_ ?_ ?_ ?_ ?_<;>(try simp[tB,iBx,lK,hv,N1,N2,N3,N4,h4,K1,K2,K3,K4,h5,d,Ne.symm d])
 all_goals exact .same _ (namesIn_pure _ hv)
theorem run_f(v:AV)(hR:∀σ,bk σ.bx n0=some (iBx 0)→bk σ.bx K=some (lK v)→lk σ.fr 4=some (true,.ptr n0 0 0)→(∀x∈σ.bx,x.1=K∨x.1=n0∨E.n0≤x.1)→E.Rt σ):
  Wk E [.code (.seq cc52f CC.ret)] (rInv2 E n0 K l u v):=by
 have N1:=ne_own h4; have N2:=ne_own' h4; have N3:=ne_own0 h4; have N4:=ne_own0' h4
 have K1:=ne_own h5; have K2:=ne_own' h5; have K3:=ne_own0 h5; have K4:=ne_own0' h5
 unfold rInv2 iBx lK tB
 refine w_go 4000 ?_
 simp[cc52f,N1,N2,N3,N4,h4,K1,K2,K3,K4,h5,d,Ne.symm d]
 refine hR _ ?_ ?_ ?_ ?_
 ·simp[iBx,N1,N2,N3,N4,h4,K1,K2,K3,K4,h5,d,Ne.symm d]
 ·simp[lK,N1,N2,N3,N4,h4,K1,K2,K3,K4,h5,d,Ne.symm d]
 ·simp
 ·simp
end
end Go.Am
namespace Go.Am
set_option linter.all false
open Go Go.RowKit Go.Proofs
set_option maxRecDepth 100000
set_option linter.all false
set_option maxHeartbeats 16000000 in
theorem run_ok(f K id:Nat)(s:List UInt8)(pr:List Tk→Option (AV×List Tk))
  (hF:∀z J id,J≠K→z.length≤300→FnE Tryz.prog f [.ptr J 0 0,.ptr K 0 0] [(J,tB z z),(K,lK .nils)] id (doR J K z (pr z))) (hpv:∀z v u,pr z=some (v,u)→v.pureB=true) :
  FnOk Tryz.prog 52 [.str s,.fn f [.ptr K 0 0]] [(K,lK .nils)] id (.int .i64 (runE pr s)) [(K,runX pr s)]:=by
 refine⟨⟨_,Tryz.func52,by decide,rfl⟩,fun C G bx w vs nb hs hv hh hnb hid=>calls_of_wp_defers Tryz.func52 rfl ?_⟩
 obtain⟨ka,kb,kt,ku,kc,kd,ke,kf⟩:=hY52 rfl
 have own:∀i,max nb (id+1024)≤i→bx i=none:=fun i hi=>by
  cases hbi:bx i with
  | none=>rfl
  | some b=>exact (hnb i (by omega) (hs.boxNames hbi).1).elim
 have old:∀i,G.used i→i<max nb (id+1024):=fun i hi=>by
  rcases Nat.lt_or_ge i nb with h|h
  ·omega
  ·exact (hnb i h hi).elim
 generalize max nb (id+1024)=n0 at own old
 have hKb:bx K=some (lK .nils):=hh _ (List.mem_cons_self ..)
 have hKn:K<n0:=old K (hs.boxNames hKb).1
 have hre:=fun id=>Read_ok s id
 let E:Env:=⟨Tryz.prog,C,bx,Tryz.f52.ntmps,n0,G,w,own,old,hs,[],fun _=>False,fun _ _=>False⟩
 have hN:E.n0=n0:=rfl
 have hPE:E.P=Tryz.prog:=rfl
 have hD:Desc E ⟨frOf 0 [.str s,.fn f [.ptr K 0 0]],[(K,some (lK .nils))],0⟩ G { tmps:=vs++Array.replicate (Tryz.f52.ntmps - vs.size) undef,defers:=[] } w:=by
  refine⟨Evo.refl G w,?_,fun i hi=>by have:=old i hi; show i<n0+0; omega,fun i _ hi=>hi,fun n c v hl=>?_,?_,rfl⟩
  ·have:=ov_someL hh
   simp only[someL] at this
   show RS C G (ov bx _) w
   rw[this]; exact hs
  ·obtain⟨rfl,_,h3⟩:=lk_frOf hl
   simp only[Nat.sub_zero] at h3
   refine⟨fun _=>?_,fun h=>by cases h⟩
   have:=hv.2 n v h3
   rw[Array.getD_eq_getD_getElem?] at this ⊢
   rw[Array.getElem?_append_left (by rw[←hv.1]; exact (List.getElem?_eq_some_iff.1 h3).1)]
   exact this
  ·have:=hv.1
   simp[Tryz.ntmps52] at this ⊢
   show _=Tryz.f52.ntmps
   simp[Tryz.ntmps52]; omega
 have K1:=ne_own hKn; have K2:=ne_own' hKn; have K3:=ne_own0 hKn; have K4:=ne_own0' hKn
 have hWa:Wk E [.code cc52a,.post (fun σ=>σ=⟨[(4,true,.ptr n0 0 0),(0,true,.str s),(1,true,.fn f [.ptr K 0 0])],[(n0,some (iBx 0)),(K,some (lK .nils))],1024⟩)] ⟨frOf 0 [.str s,.fn f [.ptr K 0 0]],[(K,some (lK .nils))],0⟩:=by
  refine w_go 4000 ?_
  simp[cc52a,E,iBx,lK]
 refine wp_seq (wkN (E:=E) ka hWa (fun _ h=>h) (fun _ _ h=>h) hD fun τ G1 a1 w1 hD1 hτ=>?_)
 subst hτ
 clear hWa hD
 have hEnd:∀{v:Value} {G':Gh} {w':World} {e:Int} {X:Option Bx},runE pr s=e→runX pr s=X→RS C G' (appl bx [(K,X)]) w'→Evo G w G' w'→RV G' w' (.int .i64 e) v→(∀x,G'.used x→G.used x∨(id≤x∧x<id+1024)) →
   ∃v' G',Ending.returned v = .returned v'∧RS C G' (appl bx [(K,runX pr s)]) w'∧Evo G w G' w'∧RV G' w' (.int .i64 (runE pr s)) v'∧∀x,G'.used x→G.used x∨(id≤x∧x<id+1024):=fun {v G' w' e X} h1 h2 r1 r2 r3 r4=>by
  rw[h1,h2]
  exact⟨v,G',rfl,r1,r2,r3,r4⟩
 have ev13:∀{a:Act} {b:Bool} {G':Gh} {w':World} {τ:St},Desc E τ G' a w'→lk τ.fr 13=some (true,.bool b)→a.eval (.tmp 13) = .bool b:=fun {a b G' w' τ} h h13=>by
  have hr:=(h.fr 13 true _ h13).1 rfl
  show a.tmps.getD 13 undef=_
  generalize a.tmps.getD 13 undef=v at hr
  cases hr; rfl
 cases hl:fLex s with
 | error e =>
  have hne:=fLex_ne hl
  rw[hl] at hre
  have hre:∀id,FnOk Tryz.prog 13 [.str s] [] id (.tup [.nils,.int .i64 e]) []:=hre
  have e1:runE pr s=e:=by unfold runE; rw[hl]
  have e2:runX pr s=some (lK .nils):=by unfold runX; rw[hl]
  refine wp_seq (wkN (E:=E) kb (run_ab E hPE f K hKn s .nils e rfl hre) (fun _ h=>h) (fun _ _ h=>h) hD1 fun τ G2 a2 w2 hD2 hτ=>?_)
  obtain⟨G3,hD3⟩:=hτ G2 a2 w2 hD2
  refine wp_seq ?_
  refine wp_seq (wkN (E:=E) kt (run_t E hPE f K hKn .nils e true (by simp[hne]) rfl) (fun _ h=>h) (fun _ _ h=>h) hD3 fun τ G4 a4 w4 hD4 hτ=>?_)
  obtain⟨h13,hcv⟩:=hτ
  obtain⟨G5,hD5⟩:=hcv G4 a4 w4 hD4
  refine wp_cond_split (ev13 hD4 h13) (fun _=>?_) (fun hb=>by cases hb)
  let E':Env:={ E with Rt:=fun σ=>bk σ.bx n0=some (iBx e)∧bk σ.bx K=some (lK .nils)∧lk σ.fr 4=some (true,.ptr n0 0 0)∧∀x∈σ.bx,x.1=K∨n0≤x.1 }
  have hW:=run_u E' hPE f K hKn .nils e fun σ h1 h2 h3 h4=>⟨h1,h2,h3,h4⟩
  refine wp_mono (hW _ ku G5 _ w4 hD5) fun e' a' w' hq=>?_
  cases e' with
  | ret =>
   obtain⟨σ,G6,h1,b4,bK,f4,hl'⟩:=hq
   show Leaves Tryz.prog Tryz.f52 a'.tmps _ a'.defers .returning w'
   rw[show a'.defers=[] from h1.defers]
   obtain⟨v,r1,G7,r2,r3,r4,r5⟩:=run_end own old hs hid h1 f4 (ov_bk _ b4) (ov_bk _ bK) (fun b hb=>by injection hb with hb; subst hb; rfl) hKb hl' (Nat.le_refl _) hKn
   exact⟨v,r1,hEnd e1 e2 r2 r3 r4 r5⟩
  | normal=>obtain⟨_,_,_,h⟩:=hq; exact h.elim
  | exit id=>obtain⟨_,_,_,h⟩:=hq; exact h.elim
  | panic chain=>obtain⟨_,_,_,_,_,_,_,_,_,_,_,h⟩:=hq; exact h.elim
  | _=>exact hq.elim
 | ok l =>
  have hl300:l.length≤300:=((fLex_ok s l).1 hl).2.2
  rw[hl] at hre
  have hre:∀id,FnOk Tryz.prog 13 [.str s] [] id (.tup [.sl (l.map eTk),.int .i64 0]) []:=hre
  have hVp:(AV.sl (l.map eTk)).pureB=true:=by simp[AV.pureB]
  refine wp_seq (wkN (E:=E) kb (run_ab E hPE f K hKn s (.sl (l.map eTk)) 0 hVp hre) (fun _ h=>h) (fun _ _ h=>h) hD1 fun τ G2 a2 w2 hD2 hτ=>?_)
  obtain⟨G3,hD3⟩:=hτ G2 a2 w2 hD2
  refine wp_seq ?_
  refine wp_seq (wkN (E:=E) kt (run_t E hPE f K hKn (.sl (l.map eTk)) 0 false rfl hVp) (fun _ h=>h) (fun _ _ h=>h) hD3 fun τ G4 a4 w4 hD4 hτ=>?_)
  obtain⟨h13,hcv⟩:=hτ
  obtain⟨G5,hD5⟩:=hcv G4 a4 w4 hD4
  refine wp_cond_split (ev13 hD4 h13) (fun hb=>by cases hb) (fun _=>?_)
  refine wp_skip ?_
  obtain⟨at1,ad1⟩:=a4
  have hd0:ad1=[]:=hD5.defers
  subst hd0
  have hsz:15<at1.size:=by have:=hD5.size; simp only at this; rw[this]; show 15<Tryz.f52.ntmps; simp[Tryz.ntmps52]
  show (Code.seq _ _).wp _ _ _ _
  refine wp_seq (door52 rfl hsz ?_)
  obtain⟨v4,hv4⟩:∃v4,at1[4]?.getD undef=v4:=⟨_,rfl⟩
  have g4:RV G5 w4 (.ptr n0 0 0) v4:=by
   have:=(hD5.fr 4 true _ rfl).1 rfl
   rw[Array.getD_eq_getD_getElem?] at this
   rw[←hv4]; exact this
  rw[hv4]
  have own1:∀i,n0+1≤i→ov bx [(n0,some (iBx 0)),(K,some (lK .nils))] i=none:=fun i hi=>by
   simp only[ov,upd]
   rw[if_neg (by omega),if_neg (by omega)]
   exact own i (by omega)
  have hev:Evo G w G5 w4:=hD5.ev
  have hrs:RS C G5 (ov bx [(n0,some (iBx 0)),(K,some (lK .nils))]) w4:=hD5.rs
  have hus:∀i,G5.used i→i<n0+1:=hD5.used
  have hol:∀i,i<n0→G5.used i→G.used i:=hD5.old
  let D:List Deferred:=[⟨.fn (.func 83) #[v4],#[]⟩]
  let E2:Env:=⟨Tryz.prog,C,ov bx [(n0,some (iBx 0)),(K,some (lK .nils))],Tryz.f52.ntmps,n0+1,G5,w4,own1,hus,hrs,D,fun _=>False,fun _ _=>False⟩
  have hN2:E2.n0=n0+1:=rfl
  have hP2:E2.P=Tryz.prog:=rfl
  have hE2:∀m,ov E2.β m=ov bx (m++[(n0,some (iBx 0)),(K,some (lK .nils))]):=fun m=>(ov_append bx m _).symm
  have hD6:Desc E2 ⟨[(1,true,.fn f [.ptr K 0 0]),(4,true,.ptr n0 0 0),(5,true,.sl (l.map eTk))],[(n0,some (iBx 0)),(K,some (lK .nils))],0⟩ G5 ⟨at1.setIfInBounds 15 (.func (.func 83) #[] #[v4]),D⟩ w4:=by
   refine⟨Evo.refl G5 w4,?_,fun i hi=>by have:=hus i hi; show i<n0+1+0; omega,fun i _ hi=>hi,fun n c v hl=>?_,?_,rfl⟩
   ·show RS C G5 (ov (ov bx _) _) w4
    simp only[ov]
    rw[upd_same (f:=upd (upd bx K _) n0 _) (i:=K) (by simp[upd]; omega),upd_same (i:=n0) (by simp[upd])]
    exact hrs
   ·have:=hD5.fr n c v hl
    have hn:n≠15:=fun h=>by subst h; simp at hl
    simp only[Array.getD_eq_getD_getElem?] at this ⊢
    rw[Array.getElem?_setIfInBounds_ne (Ne.symm hn)]
    exact this
   ·have:=hD5.size
    simp only[Array.size_setIfInBounds]
    exact this
  have hinv:∀w3,(invoke (.fn (.func 83) #[v4]) #[]).run Tryz.prog w3 = .ok (.enter 83 #[v4]) w3:=fun w3=>by simp[go_sem]
  have hw4:n0<E2.n0:=by omega
  have hw5:K<E2.n0:=by omega
  have hwd:n0≠K:=by omega
  have pnk:∀{R:Ending→World→Prop} {X:Option Bx} {k:Nat} {F:Fr} {m:List (Nat×Option Bx)} {G3:Gh} {a3:Act} {w3:World} {u:Value},(∀b,X=some b→pureL b.xs=true)→(∀v G4 w4,RS C G4 (appl bx [(K,X)]) w4→Evo G w G4 w4→RV G4 w4 (.int .i64 1) v→(∀x,G4.used x→G.used x∨(id≤x∧x<id+1024))→R (.returned v) w4) →
    DescF C Tryz.f52.ntmps D (n0+1) G5 w4 F (ov E2.β m) (· < n0+1+k) G3 a3 w3→RV G3 w3 (erV 1) u→F 4=some (true,.ptr n0 0 0) →
    ov E2.β m n0=some (iBx 0)→ov E2.β m K=X→(∀x∈m,x.1=K∨x.1=n0∨n0+1≤x.1)→Leaves Tryz.prog Tryz.f52 a3.tmps R a3.defers (.panicking [{ v:=u,recovered:=false }]) w3:=fun {R X k F m G3 a3 w3 u} hX hR h1 h2 f4 h4 hK hm=>by
   rw[show a3.defers=D from h1.defers]
   have hus3:=h1.used
   have hrs3:=h1.rs
   refine leaves_cons (by simp) (hinv w3) ((runD_pnk C G3 _ w3 1 0 _ n0 v4 u hrs3 (g4.mono h1.ev) h2 h4 hus3 (fun x hx=>?_)).mono ?_)
   ·cases hb:ov E2.β m x with
    | none=>rfl
    | some b=>have:=hus3 x (hrs3.boxNames hb).1; omega
   rintro e' u' w' ⟨rfl,⟨v,rfl⟩,G4,l',k',r1,r2,r3,r5,r6,r7⟩
   have hx:=DescF.step h1 r1 r2 (U':=fun x=>x<n0+(1+k+k')) (fun x hx=>by have:=r7 x hx; omega) (fun x hx hu=>r6 x (by omega) hu)
   have e4:=ov_bk (ov E2.β m) r3
   have eK:ov (ov E2.β m) l' K=X:=by
    rw[←hK]
    have key:∀l':List (Nat×Option Bx),(∀q∈l',q.1≠K)→ov (ov E2.β m) l' K=ov E2.β m K:=fun l'=>by
     induction l' with
     | nil=>intro _; rfl
     | cons q l' ih =>
      intro h
      obtain⟨q1,q2⟩:=q
      simp only[ov,upd]
      rw[if_neg (fun h2=>h (q1,q2) (List.mem_cons_self ..) h2.symm)]
      exact ih fun x hx=>h x (List.mem_cons_of_mem _ hx)
    refine key l' fun q hq h=>?_
    rcases r5 q hq with h2|h2<;>omega
   rw[←ov_append] at hx e4 eK
   have h':=hx.rebase (n0:=n0) (by omega) hev hol
   rw[hE2] at h' e4 eK
   obtain⟨v,s1,G7,s2,s3,s4,s5⟩:=run_end own old hs hid h' f4 e4 eK hX hKb (fun x hx=>by
    rcases List.mem_append.1 hx with hx|hx
    ·rcases List.mem_append.1 hx with hx|hx
     ·rcases r5 x hx with h|h
      ·exact .inr (by omega)
      ·exact .inr (by omega)
     ·rcases hm x hx with h|h|h
      ·exact .inl h
      ·exact .inr (by omega)
      ·exact .inr (by omega)
    ·simp at hx
     rcases hx with rfl|rfl
     ·exact .inr (Nat.le_refl _)
     ·exact .inl rfl) (Nat.le_refl _) hKn
   exact⟨v,s1,hR v G7 w' s2 s3 s4 s5⟩
  show (Code.seq _ _).wp _ _ _ _
  refine wp_seq (wkN (E:=E2) kc (run_c E2 hP2 f n0 K hw4 hw5 hwd l _ _ rfl rfl rfl) (fun _ h=>h) (fun _ _ h=>h) hD6 fun τ G7 a7 w7 hD7 hτ=>?_)
  obtain⟨G8,hD8⟩:=hτ G7 a7 w7 hD7
  show (Code.seq _ _).wp _ _ _ _
  have hFl:=fun id=>hF l E2.n0 id (by omega) hl300
  cases hp:pr l with
  | none =>
   have e1:runE pr s=1:=by unfold runE; rw[hl]; simp only; rw[hp]
   have e2:runX pr s=none:=by unfold runX; rw[hl]; simp only; rw[hp]
   rw[hp] at hFl
   have hFl:∀id,FnE Tryz.prog f [.ptr E2.n0 0 0,.ptr K 0 0] [(E2.n0,tB l l),(K,lK .nils)] id (.error (erV 1)):=hFl
   let E1:Env:={ E2 with Pn:=fun pv σ=>pv=erV 1∧bk σ.bx n0=some (iBx 0)∧ov E2.β σ.bx K=none∧lk σ.fr 4=some (true,.ptr n0 0 0)∧∀x∈σ.bx,x.1=K∨x.1=n0∨n0+1≤x.1 }
   have hW:=run_dp E1 hP2 f n0 K hw4 hw5 hwd l hFl fun σ h1 h2 h3 h4=>⟨rfl,h1,h2,h3,h4⟩
   refine wp_seq (reg_pn (E:=E1) (crs:=crsOf cc52d) (kd.trans rfl) hW hD8 (fun σ G3 a3 w3 h1 h2=>h2.elim) (fun pv u σ G9 a9 w9 h1 h2 h3=>?_))
   obtain⟨rfl,b4,bK,f4,hm⟩:=h3
   exact pnk (k:=1+1024*(crsOf cc52d).length) (fun b hb=>by cases hb) (fun v G4 w4 r1 r2 r3 r4=>hEnd e1 e2 r1 r2 r3 r4) (h1.weak fun x hx=>by have:x<n0+1+1+1024*(crsOf cc52d).length:=hx; omega) h2 f4 (ov_bk _ b4) bK hm
  | some q =>
   obtain⟨v,u⟩:=q
   have hvp:=hpv l v u hp
   rw[hp] at hFl
   have hFl:∀id,FnOk Tryz.prog f [.ptr E2.n0 0 0,.ptr K 0 0] [(E2.n0,tB l l),(K,lK .nils)] id (.tup []) [(E2.n0,some (tB l u)),(K,some (lK v))]:=hFl
   have e2:runX pr s=some (lK v):=by unfold runX; rw[hl]; simp only; rw[hp]
   have hXv:∀b,some (lK v)=some b→pureL b.xs=true:=fun b hb=>by injection hb with hb; subst hb; simp[lK,pureL,hvp]
   refine wp_seq (wkN (E:=E2) kd (run_d E2 hP2 f n0 K hw4 hw5 hwd l u v hvp hFl) (fun _ h=>h) (fun _ _ h=>h) hD8 fun τ G9 a9 w9 hD9 hτ=>?_)
   obtain⟨G10,hD10⟩:=hτ G9 a9 w9 hD9
   show (Code.seq _ _).wp _ _ _ _
   by_cases hu:u=[]
   ·have e1:runE pr s=0:=by unfold runE; rw[hl]; simp only; rw[hp]; simp only; rw[if_pos hu]
    refine wp_seq (wkN (E:=E2) ke (run_e E2 hP2 n0 K hw4 hw5 hwd l u v hvp hu) (fun _ h=>h) (fun _ _ h=>h) hD10 fun τ G11 a11 w11 hD11 hτ=>?_)
    obtain⟨G12,hD12⟩:=hτ G11 a11 w11 hD11
    let E3:Env:={ E2 with Rt:=fun σ=>bk σ.bx n0=some (iBx 0)∧bk σ.bx K=some (lK v)∧lk σ.fr 4=some (true,.ptr n0 0 0)∧∀x∈σ.bx,x.1=K∨x.1=n0∨n0+1≤x.1 }
    have hW:=run_f E3 hP2 n0 K hw4 hw5 hwd l u v fun σ h1 h2 h3 h4=>⟨h1,h2,h3,h4⟩
    have ends:∀{R:Ending→World→Prop} {σ:St} {G8:Gh} {a7:Act} {w7:World},(∀v G4 w4,RS C G4 (appl bx [(K,some (lK v))]) w4→True)→(∀z G4 w4,RS C G4 (appl bx [(K,some (lK v))]) w4→Evo G w G4 w4→RV G4 w4 (.int .i64 0) z→(∀x,G4.used x→G.used x∨(id≤x∧x<id+1024))→R (.returned z) w4)→Desc E3 σ G8 a7 w7→E3.Rt σ→Leaves Tryz.prog Tryz.f52 a7.tmps R a7.defers .returning w7:=fun {R σ G8 a7 w7} _ hR h1 h2=>by
     obtain⟨b4,bK,f4,hm⟩:=h2
     rw[show a7.defers=D from h1.defers]
     refine leaves_cons (by simp) (hinv w7) ((runD_ret v4 w7).mono ?_)
     rintro e u' w' ⟨rfl,⟨v',rfl⟩,rfl⟩
     have h1':=h1.weak (U':=fun x=>x<n0+(1+σ.k)) (fun x hx=>by have:x<n0+1+σ.k:=hx; omega)
     have h':=h1'.rebase (n0:=n0) (show n0≤n0+1 from Nat.le_succ n0) hev hol
     have e4:=ov_bk E2.β b4
     have eK:=ov_bk E2.β bK
     have h':DescF C Tryz.f52.ntmps D n0 G w (lk σ.fr) (ov bx (σ.bx++[(n0,some (iBx 0)),(K,some (lK .nils))])) (fun x=>x<n0+(1+σ.k)) G8 a7 w':=by rw[←hE2]; exact h'
     rw[hE2] at e4 eK
     obtain⟨z,s1,G7,s2,s3,s4,s5⟩:=run_end own old hs hid h' f4 e4 eK hXv hKb (fun x hx=>by
      rcases List.mem_append.1 hx with hx|hx
      ·rcases hm x hx with h|h|h
       ·exact .inl h
       ·exact .inr (by omega)
       ·exact .inr (by omega)
      ·simp at hx
       rcases hx with rfl|rfl
       ·exact .inr (Nat.le_refl _)
       ·exact .inl rfl) (Nat.le_refl _) hKn
     exact⟨z,s1,hR z G7 w' s2 s3 s4 s5⟩
    refine wp_mono (hW _ kf G12 _ w11 hD12) fun e a7 w7 hq=>?_
    cases e with
    | ret =>
     obtain⟨σ,G8,h1,h2⟩:=hq
     exact ends (fun _ _ _ _=>trivial) (fun z G4 w4 r1 r2 r3 r4=>hEnd e1 e2 r1 r2 r3 r4) h1 h2
    | normal =>
     obtain⟨σ,G8,h1,h2⟩:=hq
     exact ends (fun _ _ _ _=>trivial) (fun z G4 w4 r1 r2 r3 r4=>hEnd e1 e2 r1 r2 r3 r4) h1 h2
    | exit id=>obtain⟨_,_,_,h2⟩:=hq; exact h2.elim
    | panic chain=>obtain⟨_,_,_,_,_,_,_,_,_,_,_,h⟩:=hq; exact h.elim
    | _=>exact hq.elim
   ·have e1:runE pr s=1:=by unfold runE; rw[hl]; simp only; rw[hp]; simp only; rw[if_neg hu]
    let E1:Env:={ E2 with Pn:=fun pv σ=>pv=erV 1∧bk σ.bx n0=some (iBx 0)∧ov E2.β σ.bx K=some (lK v)∧lk σ.fr 4=some (true,.ptr n0 0 0)∧∀x∈σ.bx,x.1=K∨x.1=n0∨n0+1≤x.1 }
    have hW:=run_ep E1 hP2 n0 K hw4 hw5 hwd l u v hu fun σ h1 h2 h3 h4=>⟨rfl,h1,h2,h3,h4⟩
    refine wp_seq (reg_pn (E:=E1) (crs:=crsOf cc52e) (ke.trans rfl) hW hD10 (fun σ G3 a3 w3 h1 h2=>h2.elim) (fun pv u σ G9 a9 w9 h1 h2 h3=>?_))
    obtain⟨rfl,b4,bK,f4,hm⟩:=h3
    exact pnk (k:=1+1024*(crsOf cc52e).length) hXv (fun v G4 w4 r1 r2 r3 r4=>hEnd e1 e2 r1 r2 r3 r4) (h1.weak fun x hx=>by have:x<n0+1+1+1024*(crsOf cc52e).length:=hx; omega) h2 f4 (ov_bk _ b4) bK hm
end Go.Am
namespace Go.Am
set_option linter.all false
open Go Go.RowKit Go.Proofs
set_option maxRecDepth 100000
set_option linter.all false
end Go.Am
namespace Go.Am
set_option linter.all false
open Go Go.RowKit Go.Proofs
set_option maxRecDepth 100000
set_option linter.all false
theorem toks_many{s:List UInt8}{l:List Tk}(h:RdT s l):∀(n:Nat) (acc:List Tk),s.length<n→acc.length≤300→300<acc.length+l.length→pToks n acc s = .error 2:=by
 induction h with
 | nil hb=>intro n acc hn h1 h2; simp at h2; omega
 | @cons s r u c t l hb hp _ ih =>
  intro n acc hn h1 hl
  obtain⟨n,rfl⟩:=Nat.exists_eq_succ_of_ne_zero (show n≠0 by omega)
  have h3:=blk_le false s
  have h2:=pTok_lt hp
  rw[hb] at h3
  simp only[List.length_cons] at h3 hl
  simp only[Nat.succ_eq_add_one,pToks]
  rw[hb]
  simp only
  rw[hp]
  simp only
  split
  ·rfl
  ·exact ih n (acc++[t]) (by omega) (by simp; omega) (by simp; omega)
theorem lex_many{l:List Tk}(h:∀t∈l,fTk t=0)(hl:2000<(tkB l).length∨300<l.length):fLex (tkB l) = .error 2:=by
 unfold fLex
 split
 ·rfl
 ·unfold fAll
  exact toks_many (rd_wr h) _ _ (by omega) (by simp) (by simp; omega)
structure SelOk(s:Sel)(ah:List Sel):Prop where
 name:fName s.name=0
 al:s.alias≠[]→fName s.alias=0
 args:fArgs s.args=0
 once:(ah.any fun x=>called x==called s)=false
theorem fSel1_zero{s:Sel}{ah:List Sel}:fSel1 s ah=0↔SelOk s ah:=by
 constructor
 ·intro h
  unfold fSel1 at h
  obtain⟨h1,h⟩:=iteS h
  split at h
  ·rename_i q; exact (q.2 h).elim
  rename_i h2
  obtain⟨h3,h⟩:=iteS h
  obtain⟨h4,_⟩:=ite0 h (by decide)
  refine⟨h1,fun q=>Classical.byContradiction fun q2=>h2 ⟨q,q2⟩,h3,by simpa using h4⟩
 ·rintro⟨h1,h2,h3,h4⟩
  unfold fSel1
  rw[if_neg (by simpa using h1),if_neg (by rintro⟨q1,q2⟩; exact q2 (h2 q1)),if_neg (by simpa using h3),if_neg (by rw[h4]; simp)]
theorem fArgs_all{l:List Ag}(h:fArgs l=0):l.length≤5∧∀a∈l,AgP a:=by
 unfold fArgs at h
 obtain⟨h1,h⟩:=ite0 h (by decide)
 refine⟨by omega,fun a ha=>?_⟩
 obtain⟨i,hi⟩:=mem_ix ha
 have:=(fIx_zero _ _ _).1 h i a hi
 rw[Nat.zero_add] at this
 unfold fArg1 at this
 obtain⟨h2,h3⟩:=iteS this
 obtain⟨_,h4⟩:=ite0 h3 (by decide)
 exact⟨h2,h4⟩
mutual
theorem selP_of:∀(s:Sel) (ah:List Sel),fSel1 s ah=0→fChkK s=0→SelP s
 | .mk a n x k,ah,h1,h2=>by
  have h:=fSel1_zero.1 h1
  exact⟨h.al,h.name,(fArgs_all h.args).2,selsP_of k [] h2⟩
theorem selsP_of:∀(l ah:List Sel),fChkL l ah=0→SelsP l
 | [],_,_=>trivial
 | s::r,ah,h=>by
  simp only[fChkL] at h
  obtain⟨h1,h⟩:=iteS h
  obtain⟨h2,h⟩:=iteS h
  exact⟨selP_of s ah h1 h2,selsP_of r _ h⟩
end
theorem tkV_ok{a:Ag}(h:fArg a=0):fTk (tkV a)=0:=by
 rcases arg_ok h with⟨h1,h2,h3⟩|⟨h1,h2,h3⟩
 ·unfold tkV; rw[if_pos h1]; simp[fTk]; omega
 ·unfold tkV; rw[if_neg (by simp[h1])]; simp[fTk]; omega
theorem tkS_ok{c:UInt8}(h:sgC c=true):fTk (tkS c)=0:=by simp[fTk,tkS,h]
def AllT(l:List Tk):Prop:=∀t∈l,fTk t=0
theorem AllT.app{a b:List Tk}(h1:AllT a)(h2:AllT b):AllT (a++b):=fun t ht=>by
 rcases List.mem_append.1 ht with h|h
 ·exact h1 t h
 ·exact h2 t h
theorem AllT.cons{a:Tk}{b:List Tk}(h1:fTk a=0)(h2:AllT b):AllT (a::b):=fun t ht=>by
 rcases List.mem_cons.1 ht with rfl|h
 ·exact h1
 ·exact h2 t h
theorem AllT.nil:AllT []:=fun t ht=>by cases ht
theorem argsT_ok{x:List Ag}(h:∀y∈x,AgP y):AllT (tkArgs x):=by
 unfold tkArgs
 split
 ·refine .cons (tkS_ok (by decide)) (.app ?_ (.cons (tkS_ok (by decide)) .nil))
  intro t ht
  obtain⟨a,ha,hm⟩:=List.mem_flatMap.1 ht
  exact (AllT.cons (tkW_ok (h a ha).1) (.cons (tkS_ok (by decide)) (.cons (tkV_ok (h a ha).2) .nil))) t hm
 ·exact .nil
mutual
theorem sel_tok:∀s:Sel,SelP s→AllT (tkSel s)
 | .mk a n x k,h=>by
  have h1:AllT (tkHd a n):=by
   unfold tkHd
   split
   ·rename_i ha; exact .cons (tkW_ok (h.1 ha)) (.cons (tkS_ok (by decide)) (.cons (tkW_ok h.2.1) .nil))
   ·exact .cons (tkW_ok h.2.1) .nil
  unfold tkSel
  exact (h1.app (argsT_ok h.2.2.1)).app (kids_tok k h.2.2.2)
theorem kids_tok:∀k:List Sel,SelsP k→AllT (tkKids k)
 | [],_=>.nil
 | s::r,h=>by
  unfold tkKids
  exact .cons (tkS_ok (by decide)) (((sel_tok s h.1).app (l_tok r h.2)).app (.cons (tkS_ok (by decide)) .nil))
theorem l_tok:∀k:List Sel,SelsP k→AllT (tkL k)
 | [],_=>.nil
 | s::r,h=>by
  unfold tkL
  exact (sel_tok s h.1).app (l_tok r h.2)
end
theorem fQuery_zero{l:List Sel}:fQuery l=0↔l≠[]∧manyL 5 l≤40∧deepL 5 l≤5∧fChkL l []=0:=by
 unfold fQuery
 constructor
 ·intro h
  obtain⟨h1,h⟩:=ite0 h (by decide)
  obtain⟨h2,h⟩:=ite0 h (by decide)
  exact⟨h1,by omega,by omega,h⟩
 ·rintro⟨h1,h2,h3,h4⟩
  rw[if_neg h1,if_neg (by omega),h4]
theorem qry_tok{l:List Sel}(h:fQuery l=0):AllT (tkSels l) :=
 .cons (tkS_ok (by decide)) ((l_tok l (selsP_of l [] (fQuery_zero.1 h).2.2.2)).app (.cons (tkS_ok (by decide)) .nil))
theorem qry_back{l:List Sel}(h:fQuery l=0)(h8:(tkB (tkSels l)).length≤2000)(h9:(tkSels l).length≤300):fQry (tkB (tkSels l)) = .ok l:=by
 have hq:=fQuery_zero.1 h
 unfold fQry
 rw[lex_print ((fTks_all _).2 ⟨h9,qry_tok h⟩) h8]
 simp only
 rw[sels_back hq.1 (selsP_of l [] hq.2.2.2)]
 unfold fQryT
 simp only
 rw[if_pos h]
theorem qry_many{l:List Sel}(h:fQuery l=0)(h8:2000<(tkB (tkSels l)).length∨300<(tkSels l).length):fQry (tkB (tkSels l)) = .error 2:=by
 unfold fQry
 rw[lex_many (qry_tok h) h8]
theorem qry_ok{s:List UInt8}{l:List Sel}(h:fQry s = .ok l):fQuery l=0:=by
 unfold fQry at h
 split at h
 ·cases h
 ·unfold fQryT at h
  split at h
  ·cases h
  ·split at h
   ·rename_i h2
    injection h with h
    rw[←h]; exact h2
   ·cases h
end Go.Am
namespace Go.Am
set_option linter.all false
open Go Go.RowKit Go.Proofs
set_option maxRecDepth 100000
set_option linter.all false
theorem szL_snoc(l:List Sel)(s:Sel):szL (l++[s])=szL l+s.sz:=by
 induction l with
 | nil=>simp[szL]
 | cons x r ih=>simp only[List.cons_append,szL,ih]; omega
theorem pAgs_sz:∀(n:Nat) (acc:List Ag) (t u:List Tk) (l:List Ag),pAgs n acc t=some (l,u)→l.length+u.length≤acc.length+t.length
 | 0,_,_,_,_,h=>by cases h
 | n+1,acc,t,u,l,h=>by
  simp only[pAgs] at h
  split at h
  ·cases h
  rename_i p hp
  have h1:=pAg_lt (a:=p.1) (u:=p.2) hp
  split at h
  ·simp only[Option.some.injEq,Prod.mk.injEq] at h
   rw[←h.1,←h.2,List.length_drop]; simp; omega
  ·have:=pAgs_sz n _ _ _ _ h
   simp at this; omega
theorem pArgs_sz{t u:List Tk}{l:List Ag}(h:pArgs t=some (l,u)):l.length+u.length≤t.length:=by
 unfold pArgs at h
 split at h
 ·have:=pAgs_sz _ _ _ _ _ h
  rw[List.length_drop] at this; simp at this; omega
 ·simp only[Option.some.injEq,Prod.mk.injEq] at h
  rw[←h.1,h.2]; simp
theorem pSel_szs:∀n:Nat,(∀t s u,pSel n t=some (s,u)→s.sz+u.length≤t.length)∧(∀t s u,pSome n t=some (s,u)→szL s+u.length≤t.length)∧(∀acc t s u,pSels n acc t=some (s,u)→szL s+u.length≤szL acc+t.length)
 | 0=>⟨fun _ _ _ h=>by simp[pSel] at h,fun _ _ _ h=>by simp[pSome] at h,fun _ _ _ _ h=>by simp[pSels] at h⟩
 | n+1=>by
  obtain⟨h1,h2,h3⟩:=pSel_szs n
  refine⟨fun t s u h=>?_,fun t s u h=>?_,fun acc t s u h=>?_⟩
  ·simp only[pSel] at h
   split at h
   ·cases h
   rename_i a nm v hv
   have e1:=pHd_lt hv
   split at h
   ·cases h
   rename_i xs w hw
   have e2:=pArgs_sz hw
   split at h
   ·split at h
    ·cases h
    rename_i k y hy
    have:=h2 _ _ _ hy
    simp only[Option.some.injEq,Prod.mk.injEq] at h
    rw[←h.1,←h.2]; simp only[Sel.sz]; omega
   ·simp only[Option.some.injEq,Prod.mk.injEq] at h
    rw[←h.1,←h.2]; simp only[Sel.sz,szL]; omega
  ·simp only[pSome] at h
   split at h
   ·have:=h3 _ _ _ _ h
    rw[List.length_drop] at this; simp only[szL] at this; omega
   ·cases h
  ·simp only[pSels] at h
   split at h
   ·cases h
   rename_i s' v hv
   have e1:=h1 _ _ _ hv
   split at h
   ·simp only[Option.some.injEq,Prod.mk.injEq] at h
    rw[←h.1,←h.2,List.length_drop,szL_snoc]; omega
   ·have:=h3 _ _ _ _ h
    rw[szL_snoc] at this; omega
def prQ(z:List Tk):Option (AV×List Tk):=selsR (pSome (3*z.length+3) z)
theorem prQ_pure(z:List Tk)(v:AV)(u:List Tk)(h:prQ z=some (v,u)):v.pureB=true:=by
 unfold prQ selsR at h
 obtain⟨p,hp,h2⟩:=Option.map_eq_some_iff.1 h
 simp only[Prod.mk.injEq] at h2
 rw[←h2.1]; simp[AV.pureB]
theorem qdo_ok(z:List Tk)(J K id:Nat)(d:J≠K)(h8:z.length≤300):FnE Tryz.prog 66 [.ptr J 0 0,.ptr K 0 0] [(J,tB z z),(K,lK .nils)] id (doR J K z (prQ z)):=by
 have hS:=fun id=>(one_is (3*z.length+3)).2 z z J id (by omega) (by omega)
 unfold prQ
 cases hp:pSome (3*z.length+3) z with
 | none =>
  rw[hp] at hS
  change ∀id,FnE _ _ _ _ _ (.error (erV 1)) at hS
  show FnE _ _ _ _ _ (.error (erV 1))
  rw[tB_eq] at *
  rw[lK_eq]
  refine fn_okE Tryz.func66 hcc66 (by decide) hcr66 (by simp[Tryz.ntmps66]) fun E hP hR hPn hl hid hB hu=>?_
  simp only[cr66] at hR
  refine w_go 4000 ?_
  simp[cc66]
  have hJ:=hl (J,_) (List.mem_cons_self ..)
  simp only at hJ
  have J1:=lf hJ
  have hK:=hl (K,_) (List.mem_cons_of_mem _ (List.mem_cons_self ..))
  simp only at hK
  have K1:=lf hK
  refine w_callE hP rfl (hS _) (by simp[J1,K1,d,Ne.symm d]) (by simp[J1,K1,d,Ne.symm d]<;>rfl) (fun pv hpv=>⟨by simp[J1,K1,d,Ne.symm d],by injection hpv with hpv; subst hpv; exact hPn _ _ (rfl) rfl (by simp[J1,K1,d,Ne.symm d])⟩) (fun v wr h=>by cases h)
 | some q =>
  obtain⟨ss,u⟩:=q
  rw[hp] at hS
  have hS:∀id,FnOk Tryz.prog 67 [.ptr J 0 0] [(J,tB z z)] id (.sl (ss.map eSel)) [(J,some (tB z u))]:=hS
  show FnOk _ _ _ _ _ (.tup []) [(J,some (tB z u)),(K,some (lK (.sl (ss.map eSel))))]
  rw[tB_eq,tB_eq] at hS
  rw[tB_eq,tB_eq,lK_eq,lK_eq]
  refine fn_okc Tryz.func66 hcc66 (by decide) hcr66 (by simp[Tryz.ntmps66]) fun E hP hR hl hid=>?_
  simp only[cr66] at hR
  refine w_go 4000 ?_
  simp[cc66]
  have hJ:=hl (J,_) (List.mem_cons_self ..)
  simp only at hJ
  have J1:=lf hJ
  have hK:=hl (K,_) (List.mem_cons_of_mem _ (List.mem_cons_self ..))
  simp only at hK
  have K1:=lf hK
  (refine w_call hP rfl (hS _) (by simp[J1,K1,d,Ne.symm d]) (by simp[J1,K1,d,Ne.symm d]<;>rfl) ?_; refine w_go 4000 ?_; simp[J1,K1,d,Ne.symm d])
  have hrn:rnOk []:=by simp[J1,K1,d,Ne.symm d,idO hid]
  rw[hR]
  refine rt_end (by simp<;>rfl) [] hrn ⟨?_,?_,?_,?_,?_,?_⟩<;>(try simp[J1,K1,d,Ne.symm d,idO hid])
def qryV:Except Int (List Sel)→AV
 | .ok q=>.tup [.sl (q.map eSel),.int .i64 0]
 | .error e=>.tup [.nils,.int .i64 e]
set_option maxHeartbeats 8000000 in
theorem qRead_ok(s:List UInt8)(id:Nat):FnOk Tryz.prog 31 [.str s] [] id (qryV (fQry s)) []:=by
 have hRun:=fun K id=>run_ok 66 K id s prQ (fun z J id hd h8=>qdo_ok z J K id hd h8) prQ_pure
 unfold fQry
 cases hx:fLex s with
 | error e =>
  have hne:=fLex_ne hx
  have e1:runE prQ s=e:=by unfold runE; rw[hx]
  have e2:runX prQ s=some (lK .nils):=by unfold runX; rw[hx]
  rw[e1,e2] at hRun
  show FnOk _ _ _ _ _ (.tup [.nils,.int .i64 e]) _
  simp only[lK_eq] at hRun
  refine fn_okc Tryz.func31 hcc31 (by decide) hcr31 (by simp[Tryz.ntmps31]) fun E hP hR hl hid=>?_
  simp only[cr31] at hR
  refine w_go 4000 ?_
  simp[cc31]
  (refine w_call hP rfl (hRun _ _) (by simp) (by simp<;>rfl) ?_; refine w_go 4000 ?_; simp)
  refine goc_false (by simpa using hne) ?_
  simp
  refine goc_true (by simpa using hne) ?_
  simp
  rw[hR]; exact rt_end (by simp<;>rfl) [] trivial (end_pure (by simp) (by simp) (by simp))
 | ok l =>
  have h300:l.length≤300:=((fLex_ok s l).1 hx).2.2
  show FnOk _ _ _ _ _ (qryV (fQryT (selsOf l))) _
  unfold selsOf
  cases hp:pSome (3*l.length+3) l with
  | none =>
   have e1:runE prQ s=1:=by unfold runE prQ; rw[hx]; simp only; rw[hp]; rfl
   have e2:runX prQ s=none:=by unfold runX prQ; rw[hx]; simp only; rw[hp]; rfl
   rw[e1,e2] at hRun
   show FnOk _ _ _ _ _ (.tup [.nils,.int .i64 1]) _
   simp only[lK_eq] at hRun
   refine fn_okc Tryz.func31 hcc31 (by decide) hcr31 (by simp[Tryz.ntmps31]) fun E hP hR hl hid=>?_
   simp only[cr31] at hR
   refine w_go 4000 ?_
   simp[cc31]
   (refine w_call hP rfl (hRun _ _) (by simp) (by simp<;>rfl) ?_; refine w_go 4000 ?_; simp)
   rw[hR]; exact rt_end (by simp<;>rfl) [] trivial (end_pure (by simp) (by simp) (by simp))
  | some w =>
   obtain⟨q,u⟩:=w
   have e2:runX prQ s=some (lK (.sl (q.map eSel))):=by unfold runX prQ; rw[hx]; simp only; rw[hp]; rfl
   by_cases hu:u=[]
   ·have e1:runE prQ s=0:=by unfold runE prQ; rw[hx]; simp only; rw[hp]; simp[selsR,hu]
    have hsz:=(pSel_szs _).2.1 _ _ _ hp
    have hC:=fun id=>qCheck_ok q id (by omega)
    rw[e1,e2] at hRun
    show FnOk _ _ _ _ _ (qryV (fQryT (if u=[] then some q else none))) _
    rw[if_pos hu]
    by_cases h0:fQuery q=0
    ·have e:qryV (fQryT (some q)) = .tup [.sl (q.map eSel),.int .i64 0]:=by unfold fQryT; simp only; rw[if_pos h0]; rfl
     rw[e]
     rw[h0] at hC
     simp only[lK_eq] at hRun
     refine fn_okc Tryz.func31 hcc31 (by decide) hcr31 (by simp[Tryz.ntmps31]) fun E hP hR hl hid=>?_
     simp only[cr31] at hR
     refine w_go 4000 ?_
     simp[cc31]
     (refine w_call hP rfl (hRun _ _) (by simp) (by simp<;>rfl) ?_; refine w_go 4000 ?_; simp)
     (refine w_call hP rfl (hC _) (by simp) (by simp<;>rfl) ?_; refine w_go 4000 ?_; simp)
     rw[hR]; exact rt_end (by simp<;>rfl) [] trivial (end_pure (by simp) (by simp) (by simp))
    ·have e:qryV (fQryT (some q)) = .tup [.nils,.int .i64 (fQuery q)]:=by unfold fQryT; simp only; rw[if_neg h0]; rfl
     rw[e]
     simp only[lK_eq] at hRun
     refine fn_okc Tryz.func31 hcc31 (by decide) hcr31 (by simp[Tryz.ntmps31]) fun E hP hR hl hid=>?_
     simp only[cr31] at hR
     refine w_go 4000 ?_
     simp[cc31]
     (refine w_call hP rfl (hRun _ _) (by simp) (by simp<;>rfl) ?_; refine w_go 4000 ?_; simp)
     (refine w_call hP rfl (hC _) (by simp) (by simp<;>rfl) ?_; refine w_go 4000 ?_; simp)
     refine goc_true (by simpa using h0) ?_
     simp
     rw[hR]; exact rt_end (by simp<;>rfl) [] trivial (end_pure (by simp) (by simp) (by simp))
   ·have e1:runE prQ s=1:=by unfold runE prQ; rw[hx]; simp only; rw[hp]; simp[selsR,hu]
    rw[e1,e2] at hRun
    show FnOk _ _ _ _ _ (qryV (fQryT (if u=[] then some q else none))) _
    rw[if_neg hu]
    show FnOk _ _ _ _ _ (.tup [.nils,.int .i64 1]) _
    simp only[lK_eq] at hRun
    refine fn_okc Tryz.func31 hcc31 (by decide) hcr31 (by simp[Tryz.ntmps31]) fun E hP hR hl hid=>?_
    simp only[cr31] at hR
    refine w_go 4000 ?_
    simp[cc31]
    (refine w_call hP rfl (hRun _ _) (by simp) (by simp<;>rfl) ?_; refine w_go 4000 ?_; simp)
    rw[hR]; exact rt_end (by simp<;>rfl) [] trivial (end_pure (by simp) (by simp) (by simp))
end Go.Am
namespace Go.Am
set_option linter.all false
open Go Go.RowKit Go.Proofs
set_option maxRecDepth 100000
set_option linter.all false
end Go.Am
