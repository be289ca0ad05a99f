/- Parts of the proof: an abstract machine for Go functions, and what functions of the program give back (Qr14, Qr15). No condition. -/
import Derived.Test.YtgfmjhmjnnpcgaaGreatDoorYN
namespace Go.Am
set_option linter.all false
open Go Go.RowKit Go.Proofs
set_option maxRecDepth 100000
set_option linter.all false
theorem void_ty(i:Nat)(nm:List UInt8):VoidR i (.agg [.str nm,.nils]) (.agg [.str nm,.bsl i 0 0]):=.agg _ _ rfl fun m x y h1 h2=>by
 match m,h1,h2 with
 | 0,h1,h2=>simp at h1 h2; exact .inl (h1.symm.trans h2)
 | 1,h1,h2=>simp at h1 h2; exact .inr ⟨h1.symm,h2.symm⟩
 | m+2,h1,h2=>simp at h1
def tyInv(E:Env)(J:Nat)(z:List Tk)(nm:List UInt8)(u:List Tk):St :=
 ⟨[(1,true,.ptr E.n0 0 0),(2,true,.ptr (E.n0+1) 0 0),(3,true,.ptr (E.n0+2) 0 0)],
  [(J,some (tB z u)),(E.n0,some (rpB J)),(E.n0+1,some (yK [] .nils)),(E.n0+2,some (yK nm (.bsl (E.n0+3) 0 0))),(E.n0+3,some (fB []))],4⟩
set_option maxHeartbeats 8000000 in
theorem ty_hd(E:Env)(hP:E.P=Tryz.prog)(z:List Tk)(J id:Nat)(hJ:J<E.n0∧(J<id∨id+1024≤J)){a b c r:CC}(ha:a = .r [.bx 1 0,.al 2 .zY])(hb:b = .seq (.r [.l 4 1,.c 5 85 [4],.j 6 .neq 5 (.str [116,121,112,101])]) (.cond (.t 6) (.r [⟨some 7,none,[],.call 86 [.c (.int .i64 1)]⟩]) CC.skip))
  (hc:c = .r [.l 8 1,.c 9 85 [8],⟨some 10,none,[9],.build [.str [],.nils] [(0,1,.t 9)]⟩,.al 3 .zY,.st 2 3 10]) (t t2:Tk) (v:List Tk) (h1:t.kind=1) (h2:t.text=tType) (h3:t2.kind=1) {k:List Itm} (hk:Wk E (.code r::k) (tyInv E J z t2.text v)) :
  Wk E (.code (.seq a (.seq b (.seq c r)))::k) ⟨[(0,true,.ptr J 0 0)],[(J,some (tB z (t::t2::v)))],0⟩:=by
 subst ha hb hc
 have J1:=lf hJ
 refine w_cut3 (X:=Unit) (fun _=>tyInv E J z t2.text v) (fun _=>True) (fun p hp=>?_) fun _ _=>hk
 have hN:=fun id=>Name_ok' z (t2::v) t J id h1
 have hN2:=fun id=>Name_ok' z v t2 J id h3
 rw[h2] at hN
 unfold tType at hN
 rw[tB_eq,tB_eq] at hN hN2
 rw[tB_eq]
 refine w_go 4000 ?_
 simp[J1]
 (refine w_call hP rfl (hN _) (by simp[J1]) (by simp[J1]<;>rfl) ?_; refine w_go 4000 ?_; simp[J1])
 (refine w_call hP rfl (hN2 _) (by simp[J1]) (by simp[J1]<;>rfl) ?_; refine w_go 4000 ?_; simp[J1])
 refine hp _ () trivial ?_
 refine Conv.trans (Conv.voidBox (E.n0+8192) (by simp[J1]; rfl) rfl (void_ty _ _) (.agg [.str [],.int .i64 0,.str []])) ?_
 unfold tyInv
 have hrn:rnOk [(E.n0,E.n0),(E.n0+1,E.n0+1024),(E.n0+2,E.n0+8192),(E.n0+3,E.n0+10240)]:=by simp[tB,rpB,yK,fB,J1]
 refine Conv.sub [(E.n0,E.n0),(E.n0+1,E.n0+1024),(E.n0+2,E.n0+8192),(E.n0+3,E.n0+10240)] hrn ?_ ?_ ?_ ?_ ?_<;>(try simp[tB,rpB,yK,fB,J1])
def tyR(o:Option (Ty×List Tk)):Option (AV×List Tk):=o.map fun p=>(eTy p.1,p.2)
set_option maxHeartbeats 16000000 in
theorem ty_ok(z l:List Tk)(J id:Nat)(h8:l.length≤1099511627776):FnE Tryz.prog 54 [.ptr J 0 0] [(J,tB z l)] id (rdT J z (tyR (pTy l))):=by
 have hf:=fun id=>qFail_ok 1 id
 by_cases h1:isW l=true
 rotate_left
 ·have hN:=fun id=>Name_no z l J id (by simpa using h1)
  have e:pTy l=none:=by unfold pTy; rw[if_neg (fun q=>h1 q.1.1)]
  rw[e]
  show FnE _ _ _ _ _ (.error (erV 1))
  rw[tB_eq] at *
  refine fn_okE Tryz.func54 hcc54 (by decide) hcr54 (by simp[Tryz.ntmps54]) fun E hP hR hPn hl hid hB hu=>?_
  simp only[cr54] at hR
  refine w_go 4000 ?_
  simp[cc54]
  have hJ:=hl (J,_) (List.mem_cons_self ..)
  simp only at hJ
  have J1:=lf hJ
  refine w_callE hP rfl (hN _) (by simp[J1]) (by simp[J1]<;>rfl) (fun pv hpv=>⟨by simp[J1],by injection hpv with hpv; subst hpv; exact hPn _ _ (rfl) rfl (by simp[J1])⟩) (fun v wr h=>by cases h)
 obtain⟨t,r,rfl,hkd⟩:=isW_cons h1
 have hN:=fun id=>Name_ok' z r t J id hkd
 rw[tB_eq,tB_eq] at hN
 by_cases h2:t.text=tType
 rotate_left
 ·have e:pTy (t::r)=none:=by unfold pTy; rw[if_neg (fun q=>h2 q.1.2)]
  have hb:(t.text != [116,121,112,101])=true:=by simpa [tType] using h2
  rw[e]
  show FnE _ _ _ _ _ (.error (erV 1))
  rw[tB_eq]
  refine fn_okE Tryz.func54 hcc54 (by decide) hcr54 (by simp[Tryz.ntmps54]) fun E hP hR hPn hl hid hB hu=>?_
  simp only[cr54] at hR
  refine w_go 4000 ?_
  simp[cc54]
  have hJ:=hl (J,_) (List.mem_cons_self ..)
  simp only at hJ
  have J1:=lf hJ
  (refine w_call hP rfl (hN _) (by simp[J1]) (by simp[J1]<;>rfl) ?_; refine w_go 4000 ?_; simp[J1])
  refine goc_true hb ?_
  simp
  refine w_callE hP rfl (hf _) (by simp[J1]) (by simp[J1]<;>rfl) (fun pv hpv=>⟨by simp[J1],by injection hpv with hpv; subst hpv; exact hPn _ _ (rfl) rfl (by simp[J1])⟩) (fun v wr h=>by cases h)
 by_cases h3:isW r=true
 rotate_left
 ·have e:pTy (t::r)=none:=by unfold pTy; rw[if_neg (fun q=>h3 q.2.1)]
  have hN2:=fun id=>Name_no z r J id (by simpa using h3)
  rw[h2] at hN
  unfold tType at hN
  rw[e]
  show FnE _ _ _ _ _ (.error (erV 1))
  rw[tB_eq] at hN2
  rw[tB_eq]
  refine fn_okE Tryz.func54 hcc54 (by decide) hcr54 (by simp[Tryz.ntmps54]) fun E hP hR hPn hl hid hB hu=>?_
  simp only[cr54] at hR
  refine w_go 4000 ?_
  simp[cc54]
  have hJ:=hl (J,_) (List.mem_cons_self ..)
  simp only at hJ
  have J1:=lf hJ
  (refine w_call hP rfl (hN _) (by simp[J1]) (by simp[J1]<;>rfl) ?_; refine w_go 4000 ?_; simp[J1])
  refine w_callE hP rfl (hN2 _) (by simp[J1]) (by simp[J1]<;>rfl) (fun pv hpv=>⟨by simp[J1],by injection hpv with hpv; subst hpv; exact hPn _ _ (rfl) rfl (by simp[J1])⟩) (fun v wr h=>by cases h)
 obtain⟨t2,v,rfl,hk2⟩:=isW_cons h3
 by_cases h4:isS v 123=true
 rotate_left
 ·have e:pTy (t::t2::v)=none:=by unfold pTy; rw[if_neg (fun q=>h4 q.2.2)]
  have hS:=fun id=>Need_no z v 123 J id (by simpa using h4)
  rw[e]
  show FnE _ _ _ _ _ (.error (erV 1))
  refine fn_okE Tryz.func54 hcc54 (by decide) hcr54 (by simp[Tryz.ntmps54]) fun E hP hR hPn hl hid hB hu=>?_
  simp only[cr54] at hR
  have hJ:=hl (J,_) (List.mem_cons_self ..)
  simp only at hJ
  have J1:=lf hJ
  refine ty_hd E hP z J id hJ rfl rfl rfl t t2 v hkd h2 hk2 ?_
  rw[tB_eq] at hS
  unfold tyInv
  refine w_go 4000 ?_
  simp[tB,rpB,yK,fB,J1]
  refine w_callE hP rfl (hS _) (by simp[J1]) (by simp[J1]<;>rfl) (fun pv hpv=>⟨by simp[J1],by injection hpv with hpv; subst hpv; exact hPn _ _ (rfl) rfl (by simp[J1])⟩) (fun v wr h=>by cases h)
 have hS:=fun id=>Need_ok z v 123 J id h4
 have e:pTy (t::t2::v)=(pFds (v.length+3) [] (v.drop 1)).map fun p=>(⟨t2.text,p.1⟩,p.2):=by
  unfold pTy; rw[if_pos ⟨⟨h1,h2⟩,h3,h4⟩]; rfl
 rw[e]
 have hdl:(v.drop 1).length≤v.length:=by rw[List.length_drop]; omega
 simp only[List.length_cons] at h8
 cases hp:pFds (v.length+3) [] (v.drop 1) with
 | none =>
  show FnE _ _ _ _ _ (.error (erV 1))
  refine fn_okE Tryz.func54 hcc54 (by decide) hcr54 (by simp[Tryz.ntmps54]) fun E hP hR hPn hl hid hB hu=>?_
  simp only[cr54] at hR
  have hJ:=hl (J,_) (List.mem_cons_self ..)
  simp only at hJ
  have J1:=lf hJ
  refine ty_hd E hP z J id hJ rfl rfl rfl t t2 v hkd h2 hk2 ?_
  have hM:=fun id=>fdM_ok (v.length+3) z (v.drop 1) t2.text J E.n0 (E.n0+2) (E.n0+3) id (by simp[J1]) (by omega) (by omega)
  rw[hp] at hM
  change ∀id,FnE _ _ _ _ _ (.error (erV 1)) at hM
  clear hdl hp e
  generalize v.drop 1=w at *
  rw[tB_eq,tB_eq] at hS
  rw[tB_eq,rpB_eq,yK_eq,fB_eq] at hM
  unfold tyInv
  refine w_go 4000 ?_
  simp[tB,rpB,yK,fB,J1]
  (refine w_call hP rfl (hS _) (by simp[J1]) (by simp[J1]<;>rfl) ?_; refine w_go 4000 ?_; simp[J1])
  refine w_callE hP rfl (hM _) (by simp[J1]) (by simp[J1]<;>rfl) (fun pv hpv=>⟨by simp[J1],by injection hpv with hpv; subst hpv; exact hPn _ _ (rfl) rfl (by simp[J1])⟩) (fun v wr h=>by cases h)
 | some q =>
  obtain⟨fs,u⟩:=q
  show FnOk _ _ _ _ _ (.agg [.str t2.text,.sl (fs.map eFd)]) [(J,some (tB z u))]
  refine fn_okc Tryz.func54 hcc54 (by decide) hcr54 (by simp[Tryz.ntmps54]) fun E hP hR hl hid=>?_
  simp only[cr54] at hR
  have hJ:=hl (J,_) (List.mem_cons_self ..)
  simp only at hJ
  have J1:=lf hJ
  refine ty_hd E hP z J id hJ rfl rfl rfl t t2 v hkd h2 hk2 ?_
  have hM:=fun id=>fdM_ok (v.length+3) z (v.drop 1) t2.text J E.n0 (E.n0+2) (E.n0+3) id (by simp[J1]) (by omega) (by omega)
  rw[hp] at hM
  have hM:∀id,FnOk Tryz.prog 88 [.ptr J 0 0,.str [125],.fn 89 [.ptr (E.n0+2) 0 0,.ptr E.n0 0 0]] [(J,tB z (v.drop 1)),(E.n0,rpB J),(E.n0+2,yK t2.text (.bsl (E.n0+3) 0 0)),(E.n0+3,fB [])] id (.tup [])
    [(J,some (tB z u)),(E.n0+2,some (yK t2.text (.bsl id 0 fs.length))),(E.n0+3,none),(id,some (fB fs))]:=hM
  clear hdl hp e
  generalize v.drop 1=w at *
  rw[tB_eq,tB_eq] at hS
  rw[tB_eq,rpB_eq,yK_eq,fB_eq,tB_eq,fB_eq] at hM
  simp only[yK_eq] at hM
  unfold tyInv
  refine w_go 4000 ?_
  simp[tB,rpB,yK,fB,J1]
  (refine w_call hP rfl (hS _) (by simp[J1]) (by simp[J1]<;>rfl) ?_; refine w_go 4000 ?_; simp[J1])
  (refine w_call hP rfl (hM _) (by simp[J1]) (by simp[J1]<;>rfl) ?_; refine w_go 4000 ?_; simp[J1])
  have hrn:rnOk []:=by simp[tB,rpB,yK,fB,J1,idO hid]
  rw[hR]
  refine rt_endR (by simp<;>rfl) (by simp[tB,rpB,yK,fB,J1,idO hid]<;>exact⟨rfl,rfl⟩) [] hrn ⟨?_,?_,?_,?_,?_,?_⟩<;>(try simp[tB,rpB,yK,fB,J1,idO hid])
end Go.Am
namespace Go.Am
set_option linter.all false
open Go Go.RowKit Go.Proofs
set_option maxRecDepth 100000
set_option linter.all false
theorem rd_self(M:Nat)(b:Bx):Rd [(M,b)] (.bsl M 0 b.xs.length) (.sl b.xs) :=
 .bsl M 0 b.xs.length b b.xs (List.mem_cons_self ..) (by omega) rfl (fun i x y h1 h2=>by rw[Nat.zero_add] at h1; rw[h1] at h2; injection h2 with h2; rw[h2]) fun i x y j c d h1 h2 h3 h4=>by
  rw[Nat.zero_add] at h1; rw[h1] at h2; injection h2 with h2; subst h2; rw[h3] at h4; injection h4 with h4; subst h4; exact .same _
def tyB(l:List Ty):Bx:=⟨l.map eTy,.agg [.str [],.nils],false,false⟩
def prS(z:List Tk):Option (AV×List Tk):=(pTys (z.length+1) [] z).map fun ts=>(.sl (ts.map eTy),[])
theorem prS_pure(z:List Tk)(v:AV)(u:List Tk)(h:prS z=some (v,u)):v.pureB=true:=by
 unfold prS at h
 obtain⟨p,hp,h2⟩:=Option.map_eq_some_iff.1 h
 simp only[Prod.mk.injEq] at h2
 rw[←h2.1]; simp[AV.pureB]
theorem pTy_lt{t u:List Tk}{a:Ty}(h:pTy t=some (a,u)):u.length+3≤t.length:=by
 unfold pTy at h
 split at h
 rotate_left
 ·cases h
 rename_i hh
 obtain⟨p,hp,h2⟩:=Option.map_eq_some_iff.1 h
 simp only[Prod.mk.injEq] at h2
 obtain⟨_,_,e⟩:=isS_cons hh.2.2
 have e1:=congrArg List.length e
 rw[List.length_drop,List.length_cons] at e1
 have key:∀(n:Nat) (acc:List Fd) (x:List Tk) (q:List Fd×List Tk),pFds n acc x=some q→q.2.length≤x.length:=fun n=>by
  induction n with
  | zero=>intro acc x q h; simp[pFds] at h
  | succ n ih =>
   intro acc x q h
   simp only[pFds] at h
   split at h
   ·cases h
   rename_i p hp
   have h1:=pFd_lt (f:=p.1) (u:=p.2) hp
   split at h
   ·injection h with h
    rw[←h]; simp only[List.length_drop]; omega
   ·have:=ih _ _ _ h; omega
 have:=key _ _ _ _ hp
 rw[List.length_drop] at this
 rw[←h2.2]; omega
def sInv(E:Env)(J K:Nat)(z:List Tk)(l:List Ty)(t:List Tk):St :=
 ⟨[(0,true,.ptr J 0 0),(1,true,.ptr K 0 0)],[(J,some (tB z t)),(K,some (lK (.bsl E.n0 0 l.length))),(E.n0,some (tyB l))],1⟩
theorem ty_agg(a:Ty):eTy a = .agg [.str a.name,.sl (a.fields.map eFd)]:=rfl
set_option maxHeartbeats 16000000 in
theorem sdo_ok(z:List Tk)(J K id:Nat)(d:J≠K)(h8:z.length≤300):FnE Tryz.prog 53 [.ptr J 0 0,.ptr K 0 0] [(J,tB z z),(K,lK .nils)] id (doR J K z (prS z)):=by
 rw[tB_eq,lK_eq]
 refine fn_okE Tryz.func53 hcc53 (by decide) hcr53 (by simp[Tryz.ntmps53]) fun E hP hR hPn hl hid hB hu=>?_
 simp only[cr53] at hR
 refine w_go 4000 ?_
 simp[cc53]
 have hJ:=hl (J,_) (List.mem_cons_self ..)
 simp only at hJ
 have J1:=lf hJ
 have hK:=hl (K,_) (List.mem_cons_of_mem _ (List.mem_cons_self ..))
 simp only at hK
 have K1:=lf hK
 refine w_loop (X:=List Ty×List Tk×Nat) (fun q=>sInv E J K z q.1 q.2.1)
  (fun q=>pTys q.2.2 q.1 q.2.1=pTys (z.length+1) [] z∧q.2.1.length<q.2.2∧q.1.length+q.2.1.length≤z.length) (fun q=>q.2.1.length) ([],z,z.length+1) ?_ ⟨rfl,by simp,by simp⟩ ?_
 ·refine Conv.trans (Conv.voidBox K (by simp[J1,K1,d,Ne.symm d]; rfl) rfl .nils (.agg [.str [],.nils])) ?_
  unfold sInv
  have hrn:rnOk [(E.n0,E.n0)]:=by simp[tB,lK,tyB,J1,K1,d,Ne.symm d]
  refine Conv.sub [(E.n0,E.n0)] hrn ?_ ?_ ?_ ?_ ?_<;>(try simp[tB,lK,tyB,J1,K1,d,Ne.symm d])
 rintro⟨l,t,n⟩ ⟨hx,hm,hll⟩ p hp
 simp only at hx hm hll
 obtain⟨n,rfl⟩:=Nat.exists_eq_succ_of_ne_zero (show n≠0 by omega)
 have hO:=fun id=>ty_ok z t J id (by omega)
 cases hq:pTy t with
 | none =>
  have e:doR J K z (prS z) = .error (erV 1):=by
   unfold prS; rw[←hx]; simp only[Nat.succ_eq_add_one,pTys]; rw[hq]; rfl
  rw[hq] at hO
  change ∀id,FnE _ _ _ _ _ (.error (erV 1)) at hO
  rw[tB_eq] at hO
  unfold sInv
  refine w_go 4000 ?_
  simp[tB,lK,tyB,J1,K1,d,Ne.symm d]
  refine w_callE hP rfl (hO _) (by simp[J1,K1,d,Ne.symm d]) (by simp[J1,K1,d,Ne.symm d]<;>rfl) (fun pv hpv=>⟨by simp[J1,K1,d,Ne.symm d],by injection hpv with hpv; subst hpv; exact hPn _ _ (e) rfl (by simp[J1,K1,d,Ne.symm d])⟩) (fun v wr h=>by cases h)
 | some w =>
  obtain⟨a,u⟩:=w
  have hlt:=pTy_lt hq
  rw[hq] at hO
  have hO:∀id,FnOk Tryz.prog 54 [.ptr J 0 0] [(J,tB z t)] id (eTy a) [(J,some (tB z u))]:=hO
  have hex:(l++[a]).map eTy=l.map eTy++[eTy a]:=by simp
  have hDn:=fun id=>Done_ok z u J id
  rw[ty_agg] at hO hex
  rw[tB_eq,tB_eq] at hO
  rw[tB_eq] at hDn
  by_cases hu:u=[]
  ·subst hu
   have e:doR J K z (prS z) = .ok (.tup [],[(J,some (tB z [])),(K,some (lK (.sl ((l++[a]).map eTy))))]):=by
    unfold prS; rw[←hx]; simp only[Nat.succ_eq_add_one,pTys]; rw[hq]; rfl
   have hDn:∀id,FnOk Tryz.prog 55 _ _ id (.bool true) []:=hDn
   have hDE:∀l':List Ty,Conv E ⟨[(9,true,.bool true)],[(J,some (tB z [])),(K,some (lK (.bsl E.n0 0 l'.length))),(E.n0,some (tyB l'))],1⟩ ⟨[(9,true,.bool true)],[(K,some (lK (.sl (l'.map eTy)))),(J,some (tB z [])),(K,none)],1⟩:=fun l'=>by
    have hrd:Rd [(E.n0,tyB l')] (.bsl E.n0 0 l'.length) (.sl (l'.map eTy)):=by
     have:=rd_self E.n0 (tyB l')
     simpa [tyB] using this
    refine Conv.deepBox (σ:=⟨[(9,true,.bool true)],[(J,some (tB z [])),(K,some (lK (.bsl E.n0 0 l'.length))),(E.n0,some (tyB l'))],1⟩) K [(E.n0,tyB l')] [(J,some (tB z [])),(K,none)] (b:=lK (.bsl E.n0 0 l'.length)) (x:=.bsl E.n0 0 l'.length) (y:=.sl (l'.map eTy)) ?_ rfl rfl ?_ ?_ ⟨?_,?_⟩ ?_
    ·simp[J1,K1,d,Ne.symm d]
    ·intro m c e h1 h2
     match m,h1,h2 with
     | 0,h1,h2=>injection h1 with h1; injection h2 with h2; subst h1 h2; exact hrd
     | m+1,h1,h2=>simp[AV.cells] at h1
    ·intro q hq
     obtain rfl:=List.mem_singleton.1 hq
     exact⟨by simp[J1,K1,d,Ne.symm d],rfl⟩
    ·intro y b hy
     simp only[bk] at hy
     split at hy
     ·rename_i hyJ
      subst hyJ
      injection hy with hy
      subst hy
      refine⟨by simp,fun q hq=>?_⟩
      obtain rfl:=List.mem_singleton.1 hq
      have:=hJ.1
      show E.n0≠y
      omega
     ·split at hy
      ·cases hy
      ·cases hy
    ·intro q hq
     simp at hq
     rcases hq with rfl|rfl|rfl
     ·exact .inr (.inl rfl)
     ·exact .inr (.inr (.inl rfl))
     ·exact .inl (Nat.le_refl _)
    ·intro q hq
     obtain rfl:=List.mem_singleton.1 hq
     have:=hK.1
     show E.n0≠K
     omega
   refine w_block (w_cut2 (X:=Unit) (fun _=>⟨[(9,true,.bool true)],[(K,some (lK (.sl ((l++[a]).map eTy)))),(J,some (tB z [])),(K,none)],1⟩) (fun _=>True) (fun p2 hp2=>?_) fun _ _=>?_)
   ·unfold sInv
    refine w_go 4000 ?_
    simp[tB,lK,tyB,J1,K1,d,Ne.symm d]
    (refine w_call hP rfl (hO _) (by simp[J1,K1,d,Ne.symm d]) (by simp[J1,K1,d,Ne.symm d]<;>rfl) ?_; refine w_go 4000 ?_; simp[J1,K1,d,Ne.symm d])
    refine⟨⟨by omega,by omega⟩,?_⟩
    (refine w_call hP rfl (hDn _) (by simp[J1,K1,d,Ne.symm d]) (by simp[J1,K1,d,Ne.symm d]<;>rfl) ?_; refine w_go 4000 ?_; simp[J1,K1,d,Ne.symm d])
    refine hp2 _ () trivial (Conv.trans ?_ (hDE (l++[a])))
    have hrn:rnOk [(E.n0,E.n0+4097)]:=by simp[tB,lK,tyB,ty_agg,J1,K1,d,Ne.symm d]
    refine Conv.sub [(E.n0,E.n0+4097)] hrn ?_ ?_ ?_ ?_ ?_<;>(try simp[tB,lK,tyB,ty_agg,J1,K1,d,Ne.symm d])
    exact⟨namesL_pure _ rfl,renL_pure rfl (pureL_append (pure_tys l) (by simp))⟩
   ·have hpl:((l++[a]).map eTy)=l.map eTy++[eTy a]:=by simp
    refine w_go 4000 ?_
    simp
    have hrn:rnOk []:=by simp[tB,lK,ty_agg,J1,K1,d,Ne.symm d,idO hid]
    refine hR _ _ _ (e) ?_
    refine rt_end (by simp[tB,lK,ty_agg,J1,K1,d,Ne.symm d,idO hid]<;>rfl) [] hrn ⟨?_,?_,?_,?_,?_,?_⟩<;>(try simp[tB,lK,ty_agg,J1,K1,d,Ne.symm d,idO hid])
    have hpn:pureL (l.map eTy++[.agg [.str a.name,.sl (a.fields.map eFd)]])=true:=pureL_append (pure_tys _) (by simp)
    exact⟨namesL_pure _ rfl,namesL_pure _ hpn,namesL_pure _ rfl,namesL_pure _ hpn⟩
  ·have hne:u.isEmpty=false:=by cases u with
    | nil=>exact (hu rfl).elim
    | cons x r=>rfl
   rw[hne] at hDn
   unfold sInv
   refine w_go 4000 ?_
   simp[tB,lK,tyB,J1,K1,d,Ne.symm d]
   (refine w_call hP rfl (hO _) (by simp[J1,K1,d,Ne.symm d]) (by simp[J1,K1,d,Ne.symm d]<;>rfl) ?_; refine w_go 4000 ?_; simp[J1,K1,d,Ne.symm d])
   refine⟨⟨by omega,by omega⟩,?_⟩
   (refine w_call hP rfl (hDn _) (by simp[J1,K1,d,Ne.symm d]) (by simp[J1,K1,d,Ne.symm d]<;>rfl) ?_; refine w_go 4000 ?_; simp[J1,K1,d,Ne.symm d])
   refine hp _ (l++[a],u,n) ⟨?_,by simp; omega,by simp; omega⟩ (by simp; omega) ?_
   ·rw[←hx]; simp only[Nat.succ_eq_add_one,pTys]; rw[hq]; simp only; rw[if_neg hu]
   unfold sInv
   have hrn:rnOk [(E.n0,E.n0+4097)]:=by simp[tB,lK,tyB,ty_agg,J1,K1,d,Ne.symm d]
   refine Conv.sub [(E.n0,E.n0+4097)] hrn ?_ ?_ ?_ ?_ ?_<;>(try simp[tB,lK,tyB,ty_agg,J1,K1,d,Ne.symm d])
   all_goals exact renL_pure rfl (pureL_append (pure_tys _) (by simp))
def schV:Except Int (List Ty)→AV
 | .ok q=>.tup [.sl (q.map eTy),.int .i64 0]
 | .error e=>.tup [.nils,.int .i64 e]
set_option maxHeartbeats 8000000 in
theorem sRead_ok(s:List UInt8)(id:Nat):FnOk Tryz.prog 23 [.str s] [] id (schV (fSchema s)) []:=by
 have hRun:=fun K id=>run_ok 53 K id s prS (fun z J id hd h8=>sdo_ok z J K id hd h8) prS_pure
 unfold fSchema
 cases hx:fLex s with
 | error e =>
  have hne:=fLex_ne hx
  have e1:runE prS s=e:=by unfold runE; rw[hx]
  have e2:runX prS s=some (lK .nils):=by unfold runX; rw[hx]
  rw[e1,e2] at hRun
  show FnOk _ _ _ _ _ (.tup [.nils,.int .i64 e]) _
  simp only[lK_eq] at hRun
  refine fn_okc Tryz.func23 hcc23 (by decide) hcr23 (by simp[Tryz.ntmps23]) fun E hP hR hl hid=>?_
  simp only[cr23] at hR
  refine w_go 4000 ?_
  simp[cc23]
  (refine w_call hP rfl (hRun _ _) (by simp) (by simp<;>rfl) ?_; refine w_go 4000 ?_; simp)
  refine goc_false (by simpa using hne) ?_
  simp
  refine goc_true (by simpa using hne) ?_
  simp
  rw[hR]; exact rt_end (by simp<;>rfl) [] trivial (end_pure (by simp) (by simp) (by simp))
 | ok l =>
  show FnOk _ _ _ _ _ (schV (fSchT (tysOf l))) _
  unfold tysOf
  cases hp:pTys (l.length+1) [] l with
  | none =>
   have e1:runE prS s=1:=by unfold runE prS; rw[hx]; simp only; rw[hp]; rfl
   have e2:runX prS s=none:=by unfold runX prS; rw[hx]; simp only; rw[hp]; rfl
   rw[e1,e2] at hRun
   show FnOk _ _ _ _ _ (.tup [.nils,.int .i64 1]) _
   simp only[lK_eq] at hRun
   refine fn_okc Tryz.func23 hcc23 (by decide) hcr23 (by simp[Tryz.ntmps23]) fun E hP hR hl hid=>?_
   simp only[cr23] at hR
   refine w_go 4000 ?_
   simp[cc23]
   (refine w_call hP rfl (hRun _ _) (by simp) (by simp<;>rfl) ?_; refine w_go 4000 ?_; simp)
   rw[hR]; exact rt_end (by simp<;>rfl) [] trivial (end_pure (by simp) (by simp) (by simp))
  | some q =>
   have e2:runX prS s=some (lK (.sl (q.map eTy))):=by unfold runX prS; rw[hx]; simp only; rw[hp]; rfl
   have e1:runE prS s=0:=by unfold runE prS; rw[hx]; simp only; rw[hp]; rfl
   have hC:=fun id=>sCheck_ok q id
   rw[e1,e2] at hRun
   by_cases h0:fCheckT q=0
   ·have e:schV (fSchT (some q)) = .tup [.sl (q.map eTy),.int .i64 0]:=by unfold fSchT; simp only; rw[if_pos h0]; rfl
    rw[e]
    rw[h0] at hC
    simp only[lK_eq] at hRun
    refine fn_okc Tryz.func23 hcc23 (by decide) hcr23 (by simp[Tryz.ntmps23]) fun E hP hR hl hid=>?_
    simp only[cr23] at hR
    refine w_go 4000 ?_
    simp[cc23]
    (refine w_call hP rfl (hRun _ _) (by simp) (by simp<;>rfl) ?_; refine w_go 4000 ?_; simp)
    (refine w_call hP rfl (hC _) (by simp) (by simp<;>rfl) ?_; refine w_go 4000 ?_; simp)
    rw[hR]; exact rt_end (by simp<;>rfl) [] trivial (end_pure (by simp) (by simp) (by simp))
   ·have e:schV (fSchT (some q)) = .tup [.nils,.int .i64 (fCheckT q)]:=by unfold fSchT; simp only; rw[if_neg h0]; rfl
    rw[e]
    simp only[lK_eq] at hRun
    refine fn_okc Tryz.func23 hcc23 (by decide) hcr23 (by simp[Tryz.ntmps23]) fun E hP hR hl hid=>?_
    simp only[cr23] at hR
    refine w_go 4000 ?_
    simp[cc23]
    (refine w_call hP rfl (hRun _ _) (by simp) (by simp<;>rfl) ?_; refine w_go 4000 ?_; simp)
    (refine w_call hP rfl (hC _) (by simp) (by simp<;>rfl) ?_; refine w_go 4000 ?_; simp)
    refine goc_true (by simpa using h0) ?_
    simp
    rw[hR]; exact rt_end (by simp<;>rfl) [] trivial (end_pure (by simp) (by simp) (by simp))
end Go.Am
