/- Parts of the proof: an abstract machine for Go functions, and what functions of the program give back (Qr5, Qr6). No condition. -/
import Derived.Test.YtgfmjhmjnnpcgaaGreatDoorYJ
namespace Go.Am
set_option linter.all false
open Go Go.RowKit Go.Proofs
set_option maxRecDepth 100000
set_option linter.all false
theorem apt4{a b c d:Nat}(h:[a,b,c,d].Nodup):((a=b)=False∧(b=a)=False)∧((a=c)=False∧(c=a)=False)∧((a=d)=False∧(d=a)=False)∧((b=c)=False∧(c=b)=False)∧((b=d)=False∧(d=b)=False)∧(c=d)=False∧(d=c)=False:=by
 simp at h
 obtain⟨⟨h1,h2,h3⟩,⟨h4,h5⟩,h6⟩:=h
 exact⟨⟨eq_false h1,eq_false (Ne.symm h1)⟩,⟨eq_false h2,eq_false (Ne.symm h2)⟩,⟨eq_false h3,eq_false (Ne.symm h3)⟩,⟨eq_false h4,eq_false (Ne.symm h4)⟩,⟨eq_false h5,eq_false (Ne.symm h5)⟩,eq_false h6,eq_false (Ne.symm h6)⟩
def rpB(J:Nat):Bx:=⟨[.ptr J 0 0],.ptr J 0 0,false,false⟩
theorem rpB_eq(J:Nat):rpB J=⟨[.ptr J 0 0],.ptr J 0 0,false,false⟩:=rfl
def sK(al nm:List UInt8)(v:AV):Bx:=⟨[.agg [.str al,.str nm,v,.nils]],.agg [.str [],.str [],.nils,.nils],false,false⟩
theorem sK_eq(al nm:List UInt8)(v:AV):sK al nm v=⟨[.agg [.str al,.str nm,v,.nils]],.agg [.str [],.str [],.nils,.nils],false,false⟩:=rfl
def yK(nm:List UInt8)(v:AV):Bx:=⟨[.agg [.str nm,v]],.agg [.str [],.nils],false,false⟩
theorem yK_eq(nm:List UInt8)(v:AV):yK nm v=⟨[.agg [.str nm,v]],.agg [.str [],.nils],false,false⟩:=rfl
def aB(l:List Ag):Bx:=⟨l.map eAg,.agg [.str [],.bool false,.str [],.int .i64 0],false,false⟩
theorem aB_eq(l:List Ag):aB l=⟨l.map eAg,.agg [.str [],.bool false,.str [],.int .i64 0],false,false⟩:=rfl
def fB(l:List Fd):Bx:=⟨l.map eFd,.agg [.str [],.int .i64 0,.str []],false,false⟩
theorem fB_eq(l:List Fd):fB l=⟨l.map eFd,.agg [.str [],.int .i64 0,.str []],false,false⟩:=rfl
theorem agC_no(z t:List Tk)(l:List Ag)(al nm:List UInt8)(J V K M id:Nat)(hd:[J,V,K,M].Nodup)(h:pAg t=none):
  FnE Tryz.prog 128 [.ptr K 0 0,.ptr V 0 0] [(J,tB z t),(V,rpB J),(K,sK al nm (.bsl M 0 l.length)),(M,aB l)] id (.error (erV 1)):=by
 have d:=apt4 hd
 have hA:=fun id=>qarg_no z t J id h
 rw[tB_eq] at *
 rw[rpB_eq,sK_eq,aB_eq]
 refine fn_okE Tryz.func128 hcc128 (by decide) hcr128 (by simp[Tryz.ntmps128]) fun E hP hR hPn hl hid hB hu=>?_
 simp only[cr128] at hR
 refine w_go 4000 ?_
 simp[cc128]
 have hJ:=hl (J,_) (List.mem_cons_self ..)
 simp only at hJ
 have J1:=lf hJ
 have hV:=hl (V,_) (List.mem_cons_of_mem _ (List.mem_cons_self ..))
 simp only at hV
 have V1:=lf hV
 have hK:=hl (K,_) (List.mem_cons_of_mem _ (List.mem_cons_of_mem _ (List.mem_cons_self ..)))
 simp only at hK
 have K1:=lf hK
 have hM:=hl (M,_) (List.mem_cons_of_mem _ (List.mem_cons_of_mem _ (List.mem_cons_of_mem _ (List.mem_cons_self ..))))
 simp only at hM
 have M1:=lf hM
 simp[J1,V1,K1,M1,d]
 refine w_callE hP rfl (hA _) (by simp[J1,V1,K1,M1,d]) (by simp[J1,V1,K1,M1,d]<;>rfl) (fun pv hpv=>⟨by simp[J1,V1,K1,M1,d],by injection hpv with hpv; subst hpv; exact hPn _ _ (rfl) rfl (by simp[J1,V1,K1,M1,d])⟩) (fun v wr h=>by cases h)
set_option maxHeartbeats 8000000 in
theorem agC_ok(z t:List Tk)(l:List Ag)(a:Ag)(u:List Tk)(al nm:List UInt8)(J V K M id:Nat)(hd:[J,V,K,M].Nodup)(h:pAg t=some (a,u))(hl8:l.length≤1099511627776):
  FnOk Tryz.prog 128 [.ptr K 0 0,.ptr V 0 0] [(J,tB z t),(V,rpB J),(K,sK al nm (.bsl M 0 l.length)),(M,aB l)] id (.tup []) [(J,some (tB z u)),(K,some (sK al nm (.bsl id 0 (l.length+1)))),(M,none),(id,some (aB (l++[a])))]:=by
 have d:=apt4 hd
 have hA:=fun id=>qarg_ok z t a u J id h
 have hex:(l++[a]).map eAg=l.map eAg++[eAg a]:=by simp
 have hoe:eAg a = .agg [.str a.name,.bool a.isText,.str a.text,.int .i64 a.n]:=rfl
 rw[hoe] at hA hex
 rw[tB_eq,tB_eq] at hA
 rw[tB_eq,tB_eq,rpB_eq,sK_eq,sK_eq,aB_eq,aB_eq,hex]
 refine fn_okc Tryz.func128 hcc128 (by decide) hcr128 (by simp[Tryz.ntmps128]) fun E hP hR hl hid=>?_
 simp only[cr128] at hR
 refine w_go 4000 ?_
 simp[cc128]
 have hJ:=hl (J,_) (List.mem_cons_self ..)
 simp only at hJ
 have J1:=lf hJ
 have hV:=hl (V,_) (List.mem_cons_of_mem _ (List.mem_cons_self ..))
 simp only at hV
 have V1:=lf hV
 have hK:=hl (K,_) (List.mem_cons_of_mem _ (List.mem_cons_of_mem _ (List.mem_cons_self ..)))
 simp only at hK
 have K1:=lf hK
 have hM:=hl (M,_) (List.mem_cons_of_mem _ (List.mem_cons_of_mem _ (List.mem_cons_of_mem _ (List.mem_cons_self ..))))
 simp only at hM
 have M1:=lf hM
 simp[J1,V1,K1,M1,d]
 (refine w_call hP rfl (hA _) (by simp[J1,V1,K1,M1,d]) (by simp[J1,V1,K1,M1,d]<;>rfl) ?_; refine w_go 4000 ?_; simp[J1,V1,K1,M1,d])
 refine⟨⟨by omega,by omega⟩,?_⟩
 have hrn:rnOk [(id,E.n0+5120)]:=by simp[J1,V1,K1,M1,d,idO hid]
 rw[hR]
 refine rt_end (by simp<;>rfl) [(id,E.n0+5120)] hrn ⟨?_,?_,?_,?_,?_,?_⟩<;>(try simp[J1,V1,K1,M1,d,idO hid])
 exact renL_pure rfl (pureL_append (pure_ags _) rfl)
theorem fdC_no(z t:List Tk)(l:List Fd)(nm:List UInt8)(J V K M id:Nat)(hd:[J,V,K,M].Nodup)(h:pFd t=none):
  FnE Tryz.prog 89 [.ptr K 0 0,.ptr V 0 0] [(J,tB z t),(V,rpB J),(K,yK nm (.bsl M 0 l.length)),(M,fB l)] id (.error (erV 1)):=by
 have d:=apt4 hd
 have hA:=fun id=>qfd_no z t J id h
 rw[tB_eq] at *
 rw[rpB_eq,yK_eq,fB_eq]
 refine fn_okE Tryz.func89 hcc89 (by decide) hcr89 (by simp[Tryz.ntmps89]) fun E hP hR hPn hl hid hB hu=>?_
 simp only[cr89] at hR
 refine w_go 4000 ?_
 simp[cc89]
 have hJ:=hl (J,_) (List.mem_cons_self ..)
 simp only at hJ
 have J1:=lf hJ
 have hV:=hl (V,_) (List.mem_cons_of_mem _ (List.mem_cons_self ..))
 simp only at hV
 have V1:=lf hV
 have hK:=hl (K,_) (List.mem_cons_of_mem _ (List.mem_cons_of_mem _ (List.mem_cons_self ..)))
 simp only at hK
 have K1:=lf hK
 have hM:=hl (M,_) (List.mem_cons_of_mem _ (List.mem_cons_of_mem _ (List.mem_cons_of_mem _ (List.mem_cons_self ..))))
 simp only at hM
 have M1:=lf hM
 simp[J1,V1,K1,M1,d]
 refine w_callE hP rfl (hA _) (by simp[J1,V1,K1,M1,d]) (by simp[J1,V1,K1,M1,d]<;>rfl) (fun pv hpv=>⟨by simp[J1,V1,K1,M1,d],by injection hpv with hpv; subst hpv; exact hPn _ _ (rfl) rfl (by simp[J1,V1,K1,M1,d])⟩) (fun v wr h=>by cases h)
set_option maxHeartbeats 8000000 in
theorem fdC_ok(z t:List Tk)(l:List Fd)(a:Fd)(u:List Tk)(nm:List UInt8)(J V K M id:Nat)(hd:[J,V,K,M].Nodup)(h:pFd t=some (a,u))(hl8:l.length≤1099511627776):
  FnOk Tryz.prog 89 [.ptr K 0 0,.ptr V 0 0] [(J,tB z t),(V,rpB J),(K,yK nm (.bsl M 0 l.length)),(M,fB l)] id (.tup []) [(J,some (tB z u)),(K,some (yK nm (.bsl id 0 (l.length+1)))),(M,none),(id,some (fB (l++[a])))]:=by
 have d:=apt4 hd
 have hA:=fun id=>qfd_ok z t a u J id h
 have hex:(l++[a]).map eFd=l.map eFd++[eFd a]:=by simp
 have hoe:eFd a = .agg [.str a.name,.int .i64 a.kind,.str a.of]:=rfl
 rw[hoe] at hA hex
 rw[tB_eq,tB_eq] at hA
 rw[tB_eq,tB_eq,rpB_eq,yK_eq,yK_eq,fB_eq,fB_eq,hex]
 refine fn_okc Tryz.func89 hcc89 (by decide) hcr89 (by simp[Tryz.ntmps89]) fun E hP hR hl hid=>?_
 simp only[cr89] at hR
 refine w_go 4000 ?_
 simp[cc89]
 have hJ:=hl (J,_) (List.mem_cons_self ..)
 simp only at hJ
 have J1:=lf hJ
 have hV:=hl (V,_) (List.mem_cons_of_mem _ (List.mem_cons_self ..))
 simp only at hV
 have V1:=lf hV
 have hK:=hl (K,_) (List.mem_cons_of_mem _ (List.mem_cons_of_mem _ (List.mem_cons_self ..)))
 simp only at hK
 have K1:=lf hK
 have hM:=hl (M,_) (List.mem_cons_of_mem _ (List.mem_cons_of_mem _ (List.mem_cons_of_mem _ (List.mem_cons_self ..))))
 simp only at hM
 have M1:=lf hM
 simp[J1,V1,K1,M1,d]
 (refine w_call hP rfl (hA _) (by simp[J1,V1,K1,M1,d]) (by simp[J1,V1,K1,M1,d]<;>rfl) ?_; refine w_go 4000 ?_; simp[J1,V1,K1,M1,d])
 refine⟨⟨by omega,by omega⟩,?_⟩
 have hrn:rnOk [(id,E.n0+5120)]:=by simp[J1,V1,K1,M1,d,idO hid]
 rw[hR]
 refine rt_end (by simp<;>rfl) [(id,E.n0+5120)] hrn ⟨?_,?_,?_,?_,?_,?_⟩<;>(try simp[J1,V1,K1,M1,d,idO hid])
 exact renL_pure rfl (pureL_append (pure_fds _) rfl)
end Go.Am
namespace Go.Am
set_option linter.all false
open Go Go.RowKit Go.Proofs
set_option maxRecDepth 100000
set_option linter.all false
theorem pAg_lt{t u:List Tk}{a:Ag}(h:pAg t=some (a,u)):u.length+3≤t.length:=by
 unfold pAg at h
 split at h
 ·rename_i hh
  obtain⟨h1,h2,h3⟩:=hh
  injection h with h
  rw[Prod.mk.injEq] at h
  rw[←h.2,List.length_drop]
  obtain⟨_,_,e,_⟩:=isV_cons h3
  have:=congrArg List.length e
  rw[List.length_drop,List.length_cons] at this
  omega
 ·cases h
theorem pFd_lt{t u:List Tk}{f:Fd}(h:pFd t=some (f,u)):u.length+3≤t.length:=by
 unfold pFd at h
 split at h
 rotate_left
 ·cases h
 split at h
 ·split at h
  ·rename_i hh
   injection h with h
   rw[Prod.mk.injEq] at h
   rw[←h.2,List.length_drop]
   obtain⟨_,_,e⟩:=isS_cons hh.2
   have:=congrArg List.length e
   rw[List.length_drop,List.length_cons] at this
   omega
  ·cases h
 split at h
 ·rename_i hh
  injection h with h
  rw[Prod.mk.injEq] at h
  rw[←h.2,List.length_drop]
  obtain⟨_,_,e,_⟩:=isW_cons hh
  have:=congrArg List.length e
  rw[List.length_drop,List.length_cons] at this
  omega
 ·cases h
def agS(n0 J V K M:Nat)(z:List Tk)(al nm:List UInt8):Bool→List Ag→List Tk→St
 | true,l,t=>⟨[(0,true,.ptr J 0 0),(1,true,.str [41]),(2,true,.fn 128 [.ptr K 0 0,.ptr V 0 0])],[(J,some (tB z t)),(V,some (rpB J)),(K,some (sK al nm (.bsl M 0 l.length))),(M,some (aB l))],0⟩
 | false,l,t=>⟨[(0,true,.ptr J 0 0),(1,true,.str [41]),(2,true,.fn 128 [.ptr K 0 0,.ptr V 0 0])],[(J,some (tB z t)),(V,some (rpB J)),(K,some (sK al nm (.bsl n0 0 l.length))),(M,none),(n0,some (aB l))],1⟩
def agMR(J K M id:Nat)(z:List Tk)(al nm:List UInt8):Option (List Ag×List Tk)→Except AV (AV×List (Nat×Option Bx))
 | none=>.error (erV 1)
 | some (l,u)=>.ok (.tup [],[(J,some (tB z u)),(K,some (sK al nm (.bsl id 0 l.length))),(M,none),(id,some (aB l))])
set_option maxHeartbeats 8000000 in
theorem agM_ok(n:Nat)(z s:List Tk)(al nm:List UInt8)(J V K M id:Nat)(hd:[J,V,K,M].Nodup)(hn:s.length<n)(h8:s.length≤1099511627776):
  FnE Tryz.prog 88 [.ptr J 0 0,.str [41],.fn 128 [.ptr K 0 0,.ptr V 0 0]] [(J,tB z s),(V,rpB J),(K,sK al nm (.bsl M 0 0)),(M,aB [])] id (agMR J K M id z al nm (pAgs n [] s)):=by
 have d:=apt4 hd
 rw[tB_eq,rpB_eq,sK_eq,aB_eq]
 refine fn_okE Tryz.func88 hcc88 (by decide) hcr88 (by simp[Tryz.ntmps88]) fun E hP hR hPn hl hid hB hu=>?_
 simp only[cr88] at hR
 refine w_go 4000 ?_
 simp[cc88]
 have hJ:=hl (J,_) (List.mem_cons_self ..)
 simp only at hJ
 have J1:=lf hJ
 have hV:=hl (V,_) (List.mem_cons_of_mem _ (List.mem_cons_self ..))
 simp only at hV
 have V1:=lf hV
 have hK:=hl (K,_) (List.mem_cons_of_mem _ (List.mem_cons_of_mem _ (List.mem_cons_self ..)))
 simp only at hK
 have K1:=lf hK
 have hM:=hl (M,_) (List.mem_cons_of_mem _ (List.mem_cons_of_mem _ (List.mem_cons_of_mem _ (List.mem_cons_self ..))))
 simp only at hM
 have M1:=lf hM
 refine w_loop (X:=Bool×List Ag×List Tk×Nat) (fun q=>agS E.n0 J V K M z al nm q.1 q.2.1 q.2.2.1)
  (fun q=>(pAgs q.2.2.2 q.2.1 q.2.2.1=pAgs n [] s∧q.2.2.1.length<q.2.2.2)∧q.2.1.length+q.2.2.1.length≤s.length∧(q.1=true→q.2.1=[])) (fun q=>q.2.2.1.length) (true,[],s,n) ?_ ⟨⟨rfl,hn⟩,by simp,fun _=>rfl⟩ ?_
 ·have hrn:rnOk []:=by simp[agS,tB,rpB,sK,aB,J1,V1,K1,M1,d]
  refine Conv.sub [] hrn ?_ ?_ ?_ ?_ ?_<;>(try simp[agS,tB,rpB,sK,aB,J1,V1,K1,M1,d])
 rintro⟨first,l,t,m⟩ ⟨⟨hx,hm⟩,hll,hfl⟩ p hp
 simp only at hx hm hll hfl
 obtain⟨m,rfl⟩:=Nat.exists_eq_succ_of_ne_zero (show m≠0 by omega)
 cases first with
 | true =>
  obtain rfl:=hfl rfl
  cases hq:pAg t with
  | none =>
   have hdo:=fun id=>agC_no z t [] al nm J V K M id hd hq
   have e:agMR J K M id z al nm (pAgs n [] s) = .error (erV 1):=by
    rw[←hx]; simp only[Nat.succ_eq_add_one,pAgs]; rw[hq]; rfl
   rw[tB_eq,rpB_eq,sK_eq,aB_eq] at hdo
   unfold agS
   refine w_go 4000 ?_
   simp[tB,rpB,sK,aB,J1,V1,K1,M1,d]
   refine w_callvE hP (by simp<;>exact⟨rfl,rfl⟩) rfl (hdo _) (by simp[J1,V1,K1,M1,d]) (by simp[J1,V1,K1,M1,d]<;>rfl) (fun pv hpv=>⟨by simp[J1,V1,K1,M1,d],by injection hpv with hpv; subst hpv; exact hPn _ _ (e) rfl (by simp[J1,V1,K1,M1,d])⟩) (fun v wr h=>by cases h)
  | some w =>
   obtain⟨a,u⟩:=w
   have hlt:=pAg_lt hq
   have hdo:=fun id=>agC_ok z t [] a u al nm J V K M id hd hq (by simp)
   have hT:=fun id=>Try_ok z u 41 J id
   have e0:pAgs n [] s=if isS u 41=true then some ([a],u.drop 1) else pAgs m [a] u:=by
    rw[←hx]; simp only[Nat.succ_eq_add_one,pAgs]; rw[hq]; rfl
   have hoe:eAg a = .agg [.str a.name,.bool a.isText,.str a.text,.int .i64 a.n]:=rfl
   rw[tB_eq,rpB_eq,sK_eq,aB_eq,tB_eq,aB_eq] at hdo
   simp only[sK_eq] at hdo
   by_cases hs:isS u 41=true
   ·rw[if_pos hs] at e0
    rw[hs,tryL_yes hs] at hT
    generalize u.drop 1=v at *
    rw[tB_eq,tB_eq] at hT
    have e:agMR J K M id z al nm (pAgs n [] s) = .ok (.tup [],[(J,some (tB z v)),(K,some (sK al nm (.bsl id 0 1))),(M,none),(id,some (aB [a]))]):=by rw[e0]; rfl
    unfold agS
    refine w_go 4000 ?_
    simp[tB,rpB,sK,aB,J1,V1,K1,M1,d]
    (refine w_callv hP (by simp<;>exact⟨rfl,rfl⟩) rfl (hdo _) (by simp[J1,V1,K1,M1,d]) (by simp[J1,V1,K1,M1,d]<;>rfl) ?_; refine w_go 4000 ?_; simp[J1,V1,K1,M1,d])
    (refine w_call hP rfl (hT _) (by simp[J1,V1,K1,M1,d]) (by simp[J1,V1,K1,M1,d]<;>rfl) ?_; refine w_go 4000 ?_; simp[J1,V1,K1,M1,d])
    have hrn:rnOk [(id,E.n0+1024)]:=by simp[tB,rpB,sK,aB,hoe,J1,V1,K1,M1,d,idO hid]
    refine hR _ _ _ (e) ?_
    refine rt_end (by simp[tB,rpB,sK,aB,hoe,J1,V1,K1,M1,d,idO hid]<;>rfl) [(id,E.n0+1024)] hrn ⟨?_,?_,?_,?_,?_,?_⟩<;>(try simp[tB,rpB,sK,aB,hoe,J1,V1,K1,M1,d,idO hid])
   ·have hs:isS u 41=false:=by simpa using hs
    rw[if_neg (by simp[hs])] at e0
    rw[hs,tryL_no hs,tB_eq] at hT
    unfold agS
    refine w_go 4000 ?_
    simp[tB,rpB,sK,aB,J1,V1,K1,M1,d]
    (refine w_callv hP (by simp<;>exact⟨rfl,rfl⟩) rfl (hdo _) (by simp[J1,V1,K1,M1,d]) (by simp[J1,V1,K1,M1,d]<;>rfl) ?_; refine w_go 4000 ?_; simp[J1,V1,K1,M1,d])
    (refine w_call hP rfl (hT _) (by simp[J1,V1,K1,M1,d]) (by simp[J1,V1,K1,M1,d]<;>rfl) ?_; refine w_go 4000 ?_; simp[J1,V1,K1,M1,d])
    refine hp _ (false,[a],u,m) ⟨⟨e0.symm,by simp; omega⟩,by simp at hll ⊢; omega,by simp⟩ (by simp; omega) ?_
    have hrn:rnOk [(E.n0,E.n0+1024)]:=by simp[agS,tB,rpB,sK,aB,hoe,J1,V1,K1,M1,d]
    refine Conv.sub [(E.n0,E.n0+1024)] hrn ?_ ?_ ?_ ?_ ?_<;>(try simp[agS,tB,rpB,sK,aB,hoe,J1,V1,K1,M1,d])
 | false =>
  have hne0:([J,V,K,E.n0]:List Nat).Nodup:=by simp[J1,V1,K1,M1,d]
  cases hq:pAg t with
  | none =>
   have hdo:=fun id=>agC_no z t l al nm J V K E.n0 id hne0 hq
   have e:agMR J K M id z al nm (pAgs n [] s) = .error (erV 1):=by
    rw[←hx]; simp only[Nat.succ_eq_add_one,pAgs]; rw[hq]; rfl
   rw[tB_eq,rpB_eq,sK_eq,aB_eq] at hdo
   unfold agS
   refine w_go 4000 ?_
   simp[tB,rpB,sK,aB,J1,V1,K1,M1,d]
   refine w_callvE hP (by simp<;>exact⟨rfl,rfl⟩) rfl (hdo _) (by simp[J1,V1,K1,M1,d]) (by simp[J1,V1,K1,M1,d]<;>rfl) (fun pv hpv=>⟨by simp[J1,V1,K1,M1,d],by injection hpv with hpv; subst hpv; exact hPn _ _ (e) rfl (by simp[J1,V1,K1,M1,d])⟩) (fun v wr h=>by cases h)
  | some w =>
   obtain⟨a,u⟩:=w
   have hlt:=pAg_lt hq
   have hdo:=fun id=>agC_ok z t l a u al nm J V K E.n0 id hne0 hq (by omega)
   have hT:=fun id=>Try_ok z u 41 J id
   have e0:pAgs n [] s=if isS u 41=true then some (l++[a],u.drop 1) else pAgs m (l++[a]) u:=by
    rw[←hx]; simp only[Nat.succ_eq_add_one,pAgs]; rw[hq]
   have hex:(l++[a]).map eAg=l.map eAg++[eAg a]:=by simp
   have hoe:eAg a = .agg [.str a.name,.bool a.isText,.str a.text,.int .i64 a.n]:=rfl
   rw[hoe] at hex
   rw[tB_eq,rpB_eq,sK_eq,aB_eq,tB_eq,aB_eq] at hdo
   simp only[sK_eq,hex] at hdo
   by_cases hs:isS u 41=true
   ·rw[if_pos hs] at e0
    rw[hs,tryL_yes hs] at hT
    generalize u.drop 1=v at *
    rw[tB_eq,tB_eq] at hT
    have e:agMR J K M id z al nm (pAgs n [] s) = .ok (.tup [],[(J,some (tB z v)),(K,some (sK al nm (.bsl id 0 (l.length+1)))),(M,none),(id,some (aB (l++[a])))]):=by rw[e0]; simp[agMR]
    unfold agS
    refine w_go 4000 ?_
    simp[tB,rpB,sK,aB,J1,V1,K1,M1,d]
    (refine w_callv hP (by simp<;>exact⟨rfl,rfl⟩) rfl (hdo _) (by simp[J1,V1,K1,M1,d]) (by simp[J1,V1,K1,M1,d]<;>rfl) ?_; refine w_go 4000 ?_; simp[J1,V1,K1,M1,d])
    (refine w_call hP rfl (hT _) (by simp[J1,V1,K1,M1,d]) (by simp[J1,V1,K1,M1,d]<;>rfl) ?_; refine w_go 4000 ?_; simp[J1,V1,K1,M1,d])
    have hrn:rnOk [(id,E.n0+1025)]:=by simp[tB,rpB,sK,aB,hoe,J1,V1,K1,M1,d,idO hid]
    refine hR _ _ _ (e) ?_
    refine rt_end (by simp[tB,rpB,sK,aB,hoe,J1,V1,K1,M1,d,idO hid]<;>rfl) [(id,E.n0+1025)] hrn ⟨?_,?_,?_,?_,?_,?_⟩<;>(try simp[tB,rpB,sK,aB,hoe,J1,V1,K1,M1,d,idO hid])
    all_goals exact renL_pure rfl (pureL_append (pure_ags _) rfl)
   ·have hs:isS u 41=false:=by simpa using hs
    rw[if_neg (by simp[hs])] at e0
    rw[hs,tryL_no hs,tB_eq] at hT
    unfold agS
    refine w_go 4000 ?_
    simp[tB,rpB,sK,aB,J1,V1,K1,M1,d]
    (refine w_callv hP (by simp<;>exact⟨rfl,rfl⟩) rfl (hdo _) (by simp[J1,V1,K1,M1,d]) (by simp[J1,V1,K1,M1,d]<;>rfl) ?_; refine w_go 4000 ?_; simp[J1,V1,K1,M1,d])
    (refine w_call hP rfl (hT _) (by simp[J1,V1,K1,M1,d]) (by simp[J1,V1,K1,M1,d]<;>rfl) ?_; refine w_go 4000 ?_; simp[J1,V1,K1,M1,d])
    refine hp _ (false,l++[a],u,m) ⟨⟨e0.symm,by simp; omega⟩,by simp at hll ⊢; omega,by simp⟩ (by simp; omega) ?_
    have hrn:rnOk [(E.n0,E.n0+1025)]:=by simp[agS,tB,rpB,sK,aB,hoe,J1,V1,K1,M1,d]
    refine Conv.sub [(E.n0,E.n0+1025)] hrn ?_ ?_ ?_ ?_ ?_<;>(try simp[agS,tB,rpB,sK,aB,hoe,J1,V1,K1,M1,d])
    all_goals exact renL_pure rfl (pureL_append (pure_ags _) rfl)
def fdS(n0 J V K M:Nat)(z:List Tk)(nm:List UInt8):Bool→List Fd→List Tk→St
 | true,l,t=>⟨[(0,true,.ptr J 0 0),(1,true,.str [125]),(2,true,.fn 89 [.ptr K 0 0,.ptr V 0 0])],[(J,some (tB z t)),(V,some (rpB J)),(K,some (yK nm (.bsl M 0 l.length))),(M,some (fB l))],0⟩
 | false,l,t=>⟨[(0,true,.ptr J 0 0),(1,true,.str [125]),(2,true,.fn 89 [.ptr K 0 0,.ptr V 0 0])],[(J,some (tB z t)),(V,some (rpB J)),(K,some (yK nm (.bsl n0 0 l.length))),(M,none),(n0,some (fB l))],1⟩
def fdMR(J K M id:Nat)(z:List Tk)(nm:List UInt8):Option (List Fd×List Tk)→Except AV (AV×List (Nat×Option Bx))
 | none=>.error (erV 1)
 | some (l,u)=>.ok (.tup [],[(J,some (tB z u)),(K,some (yK nm (.bsl id 0 l.length))),(M,none),(id,some (fB l))])
set_option maxHeartbeats 8000000 in
theorem fdM_ok(n:Nat)(z s:List Tk)(nm:List UInt8)(J V K M id:Nat)(hd:[J,V,K,M].Nodup)(hn:s.length<n)(h8:s.length≤1099511627776):
  FnE Tryz.prog 88 [.ptr J 0 0,.str [125],.fn 89 [.ptr K 0 0,.ptr V 0 0]] [(J,tB z s),(V,rpB J),(K,yK nm (.bsl M 0 0)),(M,fB [])] id (fdMR J K M id z nm (pFds n [] s)):=by
 have d:=apt4 hd
 rw[tB_eq,rpB_eq,yK_eq,fB_eq]
 refine fn_okE Tryz.func88 hcc88 (by decide) hcr88 (by simp[Tryz.ntmps88]) fun E hP hR hPn hl hid hB hu=>?_
 simp only[cr88] at hR
 refine w_go 4000 ?_
 simp[cc88]
 have hJ:=hl (J,_) (List.mem_cons_self ..)
 simp only at hJ
 have J1:=lf hJ
 have hV:=hl (V,_) (List.mem_cons_of_mem _ (List.mem_cons_self ..))
 simp only at hV
 have V1:=lf hV
 have hK:=hl (K,_) (List.mem_cons_of_mem _ (List.mem_cons_of_mem _ (List.mem_cons_self ..)))
 simp only at hK
 have K1:=lf hK
 have hM:=hl (M,_) (List.mem_cons_of_mem _ (List.mem_cons_of_mem _ (List.mem_cons_of_mem _ (List.mem_cons_self ..))))
 simp only at hM
 have M1:=lf hM
 refine w_loop (X:=Bool×List Fd×List Tk×Nat) (fun q=>fdS E.n0 J V K M z nm q.1 q.2.1 q.2.2.1)
  (fun q=>(pFds q.2.2.2 q.2.1 q.2.2.1=pFds n [] s∧q.2.2.1.length<q.2.2.2)∧q.2.1.length+q.2.2.1.length≤s.length∧(q.1=true→q.2.1=[])) (fun q=>q.2.2.1.length) (true,[],s,n) ?_ ⟨⟨rfl,hn⟩,by simp,fun _=>rfl⟩ ?_
 ·have hrn:rnOk []:=by simp[fdS,tB,rpB,yK,fB,J1,V1,K1,M1,d]
  refine Conv.sub [] hrn ?_ ?_ ?_ ?_ ?_<;>(try simp[fdS,tB,rpB,yK,fB,J1,V1,K1,M1,d])
 rintro⟨first,l,t,m⟩ ⟨⟨hx,hm⟩,hll,hfl⟩ p hp
 simp only at hx hm hll hfl
 obtain⟨m,rfl⟩:=Nat.exists_eq_succ_of_ne_zero (show m≠0 by omega)
 cases first with
 | true =>
  obtain rfl:=hfl rfl
  cases hq:pFd t with
  | none =>
   have hdo:=fun id=>fdC_no z t [] nm J V K M id hd hq
   have e:fdMR J K M id z nm (pFds n [] s) = .error (erV 1):=by
    rw[←hx]; simp only[Nat.succ_eq_add_one,pFds]; rw[hq]; rfl
   rw[tB_eq,rpB_eq,yK_eq,fB_eq] at hdo
   unfold fdS
   refine w_go 4000 ?_
   simp[tB,rpB,yK,fB,J1,V1,K1,M1,d]
   refine w_callvE hP (by simp<;>exact⟨rfl,rfl⟩) rfl (hdo _) (by simp[J1,V1,K1,M1,d]) (by simp[J1,V1,K1,M1,d]<;>rfl) (fun pv hpv=>⟨by simp[J1,V1,K1,M1,d],by injection hpv with hpv; subst hpv; exact hPn _ _ (e) rfl (by simp[J1,V1,K1,M1,d])⟩) (fun v wr h=>by cases h)
  | some w =>
   obtain⟨a,u⟩:=w
   have hlt:=pFd_lt hq
   have hdo:=fun id=>fdC_ok z t [] a u nm J V K M id hd hq (by simp)
   have hT:=fun id=>Try_ok z u 125 J id
   have e0:pFds n [] s=if isS u 125=true then some ([a],u.drop 1) else pFds m [a] u:=by
    rw[←hx]; simp only[Nat.succ_eq_add_one,pFds]; rw[hq]; rfl
   have hoe:eFd a = .agg [.str a.name,.int .i64 a.kind,.str a.of]:=rfl
   rw[tB_eq,rpB_eq,yK_eq,fB_eq,tB_eq,fB_eq] at hdo
   simp only[yK_eq] at hdo
   by_cases hs:isS u 125=true
   ·rw[if_pos hs] at e0
    rw[hs,tryL_yes hs] at hT
    generalize u.drop 1=v at *
    rw[tB_eq,tB_eq] at hT
    have e:fdMR J K M id z nm (pFds n [] s) = .ok (.tup [],[(J,some (tB z v)),(K,some (yK nm (.bsl id 0 1))),(M,none),(id,some (fB [a]))]):=by rw[e0]; rfl
    unfold fdS
    refine w_go 4000 ?_
    simp[tB,rpB,yK,fB,J1,V1,K1,M1,d]
    (refine w_callv hP (by simp<;>exact⟨rfl,rfl⟩) rfl (hdo _) (by simp[J1,V1,K1,M1,d]) (by simp[J1,V1,K1,M1,d]<;>rfl) ?_; refine w_go 4000 ?_; simp[J1,V1,K1,M1,d])
    (refine w_call hP rfl (hT _) (by simp[J1,V1,K1,M1,d]) (by simp[J1,V1,K1,M1,d]<;>rfl) ?_; refine w_go 4000 ?_; simp[J1,V1,K1,M1,d])
    have hrn:rnOk [(id,E.n0+1024)]:=by simp[tB,rpB,yK,fB,hoe,J1,V1,K1,M1,d,idO hid]
    refine hR _ _ _ (e) ?_
    refine rt_end (by simp[tB,rpB,yK,fB,hoe,J1,V1,K1,M1,d,idO hid]<;>rfl) [(id,E.n0+1024)] hrn ⟨?_,?_,?_,?_,?_,?_⟩<;>(try simp[tB,rpB,yK,fB,hoe,J1,V1,K1,M1,d,idO hid])
   ·have hs:isS u 125=false:=by simpa using hs
    rw[if_neg (by simp[hs])] at e0
    rw[hs,tryL_no hs,tB_eq] at hT
    unfold fdS
    refine w_go 4000 ?_
    simp[tB,rpB,yK,fB,J1,V1,K1,M1,d]
    (refine w_callv hP (by simp<;>exact⟨rfl,rfl⟩) rfl (hdo _) (by simp[J1,V1,K1,M1,d]) (by simp[J1,V1,K1,M1,d]<;>rfl) ?_; refine w_go 4000 ?_; simp[J1,V1,K1,M1,d])
    (refine w_call hP rfl (hT _) (by simp[J1,V1,K1,M1,d]) (by simp[J1,V1,K1,M1,d]<;>rfl) ?_; refine w_go 4000 ?_; simp[J1,V1,K1,M1,d])
    refine hp _ (false,[a],u,m) ⟨⟨e0.symm,by simp; omega⟩,by simp at hll ⊢; omega,by simp⟩ (by simp; omega) ?_
    have hrn:rnOk [(E.n0,E.n0+1024)]:=by simp[fdS,tB,rpB,yK,fB,hoe,J1,V1,K1,M1,d]
    refine Conv.sub [(E.n0,E.n0+1024)] hrn ?_ ?_ ?_ ?_ ?_<;>(try simp[fdS,tB,rpB,yK,fB,hoe,J1,V1,K1,M1,d])
 | false =>
  have hne0:([J,V,K,E.n0]:List Nat).Nodup:=by simp[J1,V1,K1,M1,d]
  cases hq:pFd t with
  | none =>
   have hdo:=fun id=>fdC_no z t l nm J V K E.n0 id hne0 hq
   have e:fdMR J K M id z nm (pFds n [] s) = .error (erV 1):=by
    rw[←hx]; simp only[Nat.succ_eq_add_one,pFds]; rw[hq]; rfl
   rw[tB_eq,rpB_eq,yK_eq,fB_eq] at hdo
   unfold fdS
   refine w_go 4000 ?_
   simp[tB,rpB,yK,fB,J1,V1,K1,M1,d]
   refine w_callvE hP (by simp<;>exact⟨rfl,rfl⟩) rfl (hdo _) (by simp[J1,V1,K1,M1,d]) (by simp[J1,V1,K1,M1,d]<;>rfl) (fun pv hpv=>⟨by simp[J1,V1,K1,M1,d],by injection hpv with hpv; subst hpv; exact hPn _ _ (e) rfl (by simp[J1,V1,K1,M1,d])⟩) (fun v wr h=>by cases h)
  | some w =>
   obtain⟨a,u⟩:=w
   have hlt:=pFd_lt hq
   have hdo:=fun id=>fdC_ok z t l a u nm J V K E.n0 id hne0 hq (by omega)
   have hT:=fun id=>Try_ok z u 125 J id
   have e0:pFds n [] s=if isS u 125=true then some (l++[a],u.drop 1) else pFds m (l++[a]) u:=by
    rw[←hx]; simp only[Nat.succ_eq_add_one,pFds]; rw[hq]
   have hex:(l++[a]).map eFd=l.map eFd++[eFd a]:=by simp
   have hoe:eFd a = .agg [.str a.name,.int .i64 a.kind,.str a.of]:=rfl
   rw[hoe] at hex
   rw[tB_eq,rpB_eq,yK_eq,fB_eq,tB_eq,fB_eq] at hdo
   simp only[yK_eq,hex] at hdo
   by_cases hs:isS u 125=true
   ·rw[if_pos hs] at e0
    rw[hs,tryL_yes hs] at hT
    generalize u.drop 1=v at *
    rw[tB_eq,tB_eq] at hT
    have e:fdMR J K M id z nm (pFds n [] s) = .ok (.tup [],[(J,some (tB z v)),(K,some (yK nm (.bsl id 0 (l.length+1)))),(M,none),(id,some (fB (l++[a])))]):=by rw[e0]; simp[fdMR]
    unfold fdS
    refine w_go 4000 ?_
    simp[tB,rpB,yK,fB,J1,V1,K1,M1,d]
    (refine w_callv hP (by simp<;>exact⟨rfl,rfl⟩) rfl (hdo _) (by simp[J1,V1,K1,M1,d]) (by simp[J1,V1,K1,M1,d]<;>rfl) ?_; refine w_go 4000 ?_; simp[J1,V1,K1,M1,d])
    (refine w_call hP rfl (hT _) (by simp[J1,V1,K1,M1,d]) (by simp[J1,V1,K1,M1,d]<;>rfl) ?_; refine w_go 4000 ?_; simp[J1,V1,K1,M1,d])
    have hrn:rnOk [(id,E.n0+1025)]:=by simp[tB,rpB,yK,fB,hoe,J1,V1,K1,M1,d,idO hid]
    refine hR _ _ _ (e) ?_
    refine rt_end (by simp[tB,rpB,yK,fB,hoe,J1,V1,K1,M1,d,idO hid]<;>rfl) [(id,E.n0+1025)] hrn ⟨?_,?_,?_,?_,?_,?_⟩<;>(try simp[tB,rpB,yK,fB,hoe,J1,V1,K1,M1,d,idO hid])
    all_goals exact renL_pure rfl (pureL_append (pure_fds _) rfl)
   ·have hs:isS u 125=false:=by simpa using hs
    rw[if_neg (by simp[hs])] at e0
    rw[hs,tryL_no hs,tB_eq] at hT
    unfold fdS
    refine w_go 4000 ?_
    simp[tB,rpB,yK,fB,J1,V1,K1,M1,d]
    (refine w_callv hP (by simp<;>exact⟨rfl,rfl⟩) rfl (hdo _) (by simp[J1,V1,K1,M1,d]) (by simp[J1,V1,K1,M1,d]<;>rfl) ?_; refine w_go 4000 ?_; simp[J1,V1,K1,M1,d])
    (refine w_call hP rfl (hT _) (by simp[J1,V1,K1,M1,d]) (by simp[J1,V1,K1,M1,d]<;>rfl) ?_; refine w_go 4000 ?_; simp[J1,V1,K1,M1,d])
    refine hp _ (false,l++[a],u,m) ⟨⟨e0.symm,by simp; omega⟩,by simp at hll ⊢; omega,by simp⟩ (by simp; omega) ?_
    have hrn:rnOk [(E.n0,E.n0+1025)]:=by simp[fdS,tB,rpB,yK,fB,hoe,J1,V1,K1,M1,d]
    refine Conv.sub [(E.n0,E.n0+1025)] hrn ?_ ?_ ?_ ?_ ?_<;>(try simp[fdS,tB,rpB,yK,fB,hoe,J1,V1,K1,M1,d])
    all_goals exact renL_pure rfl (pureL_append (pure_fds _) rfl)
end Go.Am
