/- Parts of the proof: an abstract machine for Go functions, and what functions of the program give back (Qr7, Qr8, Qr9). No condition. -/
import Derived.Test.YtgfmjhmjnnpcgaaGreatDoorYK
import Derived.Test.YtgfmjhmjnnpcgaaGreatDoorXD
namespace Go.Am
set_option linter.all false
open Go Go.RowKit Go.Proofs
set_option maxRecDepth 100000
set_option linter.all false
def oInv(E:Env)(J:Nat)(z:List Tk)(al nm:List UInt8)(xs:List Ag)(u:List Tk):St :=
 ⟨[(1,true,.ptr E.n0 0 0),(2,true,.ptr (E.n0+1) 0 0),(3,true,.ptr (E.n0+2) 0 0)],
  [(J,some (tB z u)),(E.n0,some (rpB J)),(E.n0+1,some (sK [] [] .nils)),(E.n0+2,some (sK al nm (.bsl (E.n0+3) 0 xs.length))),(E.n0+3,some (aB xs))],4⟩
theorem void_sel(i:Nat)(al nm:List UInt8):VoidR i (.agg [.str al,.str nm,.nils,.nils]) (.agg [.str al,.str nm,.bsl i 0 0,.nils]):=.agg _ _ rfl fun m x y h1 h2=>by
 match m,h1,h2 with
 | 0,h1,h2|1,h1,h2|3,h1,h2=>simp at h1 h2; exact .inl (h1.symm.trans h2)
 | 2,h1,h2=>simp at h1 h2; exact .inr ⟨h1.symm,h2.symm⟩
 | m+4,h1,h2=>simp at h1
section
variable (E:Env) (hP:E.P=Tryz.prog) (z l:List Tk) (J id:Nat) (hJ:J<E.n0∧(J<id∨id+1024≤J))
include hP hJ
set_option maxHeartbeats 8000000 in
theorem one_hd{a b c r:CC}(ha:a = .r [.bx 1 0,.al 2 .zQ])(hb:b = .r [.l 4 1,.c 5 85 [4],⟨some 6,none,[5],.build [.str [],.str [],.nils,.nils] [(1,1,.t 5)]⟩,.al 3 .zQ,.st 4 3 6])
  (hc:c = .seq (.r [.l 7 1,⟨some 8,none,[7],.call 123 [.t 7,.c (.str [58])]⟩]) (.cond (.t 8) (.seq (.r [.f 9 1 3,.l 10 9,.f 11 0 3,.st 1 11 10]) (.r [.l 12 1,.c 13 85 [12],.f 14 1 3,.st 1 14 13])) CC.skip))
  {al nm:List UInt8} {u:List Tk} (hh:pHd l=some (al,nm,u)) {k:List Itm} (hk:Wk E (.code r::k) (oInv E J z al nm [] u)) :
  Wk E (.code (.seq a (.seq b (.seq c r)))::k) ⟨[(0,true,.ptr J 0 0)],[(J,some (tB z l))],0⟩:=by
 subst ha hb hc
 have J1:=lf hJ
 refine w_cut3 (X:=Unit) (fun _=>oInv E J z al nm [] u) (fun _=>True) (fun p hp=>?_) fun _ _=>hk
 unfold pHd at hh
 split at hh
 rotate_left
 ·cases hh
 rename_i h1
 obtain⟨t,r,rfl,hkd⟩:=isW_cons h1
 have hN:=fun id=>Name_ok' z r t J id hkd
 have hT:=fun id=>Try_ok z r 58 J id
 rw[tB_eq,tB_eq] at hN
 rw[List.drop_one,List.tail_cons] at hh
 by_cases h2:isS r 58=true
 ·rw[if_pos h2] at hh
  rw[h2,tryL_yes h2] at hT
  obtain⟨t2,r2,rfl⟩:=isS_cons h2
  rw[List.drop_one,List.tail_cons,tB_eq,tB_eq] at hT
  split at hh
  rotate_left
  ·cases hh
  rename_i h3
  obtain⟨t3,r3,rfl,hk3⟩:=isW_cons (show isW r2=true from h3)
  have hN2:=fun id=>Name_ok' z r3 t3 J id hk3
  rw[tB_eq,tB_eq] at hN2
  simp only[txt,List.drop_succ_cons,List.drop_zero,Option.some.injEq,Prod.mk.injEq] at hh
  obtain⟨rfl,rfl,rfl⟩:=hh
  rw[tB_eq]
  refine w_go 4000 ?_
  simp[J1]
  (refine w_call hP rfl (hN _) (by simp[J1]) (by simp[J1]<;>rfl) ?_; refine w_go 4000 ?_; simp[J1])
  (refine w_call hP rfl (hT _) (by simp[J1]) (by simp[J1]<;>rfl) ?_; refine w_go 4000 ?_; simp[J1])
  (refine w_call hP rfl (hN2 _) (by simp[J1]) (by simp[J1]<;>rfl) ?_; refine w_go 4000 ?_; simp[J1])
  refine hp _ () trivial ?_
  refine Conv.trans (Conv.voidBox (E.n0+5120) (by simp[J1]; rfl) rfl (void_sel _ _ _) (.agg [.str [],.bool false,.str [],.int .i64 0])) ?_
  unfold oInv
  have hrn:rnOk [(E.n0,E.n0),(E.n0+1,E.n0+1024),(E.n0+2,E.n0+5120),(E.n0+3,E.n0+17408)]:=by simp[tB,rpB,sK,aB,J1]
  refine Conv.sub [(E.n0,E.n0),(E.n0+1,E.n0+1024),(E.n0+2,E.n0+5120),(E.n0+3,E.n0+17408)] hrn ?_ ?_ ?_ ?_ ?_<;>(try simp[tB,rpB,sK,aB,J1])
 ·have h2:isS r 58=false:=by simpa using h2
  rw[if_neg (by simp[h2])] at hh
  rw[h2,tryL_no h2,tB_eq] at hT
  simp only[txt,List.drop_succ_cons,List.drop_zero,Option.some.injEq,Prod.mk.injEq] at hh
  obtain⟨rfl,rfl,rfl⟩:=hh
  rw[tB_eq]
  refine w_go 4000 ?_
  simp[J1]
  (refine w_call hP rfl (hN _) (by simp[J1]) (by simp[J1]<;>rfl) ?_; refine w_go 4000 ?_; simp[J1])
  (refine w_call hP rfl (hT _) (by simp[J1]) (by simp[J1]<;>rfl) ?_; refine w_go 4000 ?_; simp[J1])
  refine hp _ () trivial ?_
  refine Conv.trans (Conv.voidBox (E.n0+5120) (by simp[J1]; rfl) rfl (void_sel _ _ _) (.agg [.str [],.bool false,.str [],.int .i64 0])) ?_
  unfold oInv
  have hrn:rnOk [(E.n0,E.n0),(E.n0+1,E.n0+1024),(E.n0+2,E.n0+5120),(E.n0+3,E.n0+9216)]:=by simp[tB,rpB,sK,aB,J1]
  refine Conv.sub [(E.n0,E.n0),(E.n0+1,E.n0+1024),(E.n0+2,E.n0+5120),(E.n0+3,E.n0+9216)] hrn ?_ ?_ ?_ ?_ ?_<;>(try simp[tB,rpB,sK,aB,J1])
theorem one_args{x r:CC}(hx:x = .seq (.r [.l 15 1,⟨some 16,none,[15],.call 123 [.t 15,.c (.str [40])]⟩]) (.cond (.t 16) (.r [.l 17 1,⟨some 18,none,[3,1],.mkf 128 [.t 3,.t 1]⟩,⟨some 19,none,[17,18],.call 88 [.t 17,.c (.str [41]),.t 18]⟩]) CC.skip))
  {al nm:List UInt8} {xs:List Ag} {u v:List Tk} (h8:u.length≤1099511627776) (hh:pArgs u=some (xs,v)) {k:List Itm} (hk:Wk E (.code r::k) (oInv E J z al nm xs v)) :
  Wk E (.code (.seq x r)::k) (oInv E J z al nm [] u):=by
 subst hx
 have J1:=lf hJ
 refine w_seq (w_cut (X:=Unit) (fun _=>oInv E J z al nm xs v) (fun _=>True) (fun p hp=>?_) fun _ _=>hk)
 have hT:=fun id=>Try_ok z u 40 J id
 unfold pArgs at hh
 by_cases h1:isS u 40=true
 ·rw[if_pos h1] at hh
  rw[h1,tryL_yes h1] at hT
  have hlen:(u.drop 1).length<u.length+1:=by rw[List.length_drop]; omega
  have hM:=fun id=>agM_ok (u.length+1) z (u.drop 1) al nm J E.n0 (E.n0+2) (E.n0+3) id (by simp[J1]) hlen (by omega)
  rw[hh] at hM
  have hM:∀id,FnOk Tryz.prog 88 [.ptr J 0 0,.str [41],.fn 128 [.ptr (E.n0+2) 0 0,.ptr E.n0 0 0]] [(J,tB z (u.drop 1)),(E.n0,rpB J),(E.n0+2,sK al nm (.bsl (E.n0+3) 0 0)),(E.n0+3,aB [])] id (.tup [])
    [(J,some (tB z v)),(E.n0+2,some (sK al nm (.bsl id 0 xs.length))),(E.n0+3,none),(id,some (aB xs))]:=hM
  generalize u.drop 1=w at *
  rw[tB_eq,tB_eq] at hT
  rw[tB_eq,rpB_eq,sK_eq,aB_eq,tB_eq,aB_eq] at hM
  simp only[sK_eq] at hM
  unfold oInv
  refine w_go 4000 ?_
  simp[tB,rpB,sK,aB,J1]
  (refine w_call hP rfl (hT _) (by simp[J1]) (by simp[J1]<;>rfl) ?_; refine w_go 4000 ?_; simp[J1])
  (refine w_call hP rfl (hM _) (by simp[J1]) (by simp[J1]<;>rfl) ?_; refine w_go 4000 ?_; simp[J1])
  refine hp _ () trivial ?_
  unfold oInv
  have hrn:rnOk [(E.n0,E.n0),(E.n0+1,E.n0+1),(E.n0+2,E.n0+2),(E.n0+3,E.n0+4100)]:=by simp[tB,rpB,sK,aB,J1]
  refine Conv.sub [(E.n0,E.n0),(E.n0+1,E.n0+1),(E.n0+2,E.n0+2),(E.n0+3,E.n0+4100)] hrn ?_ ?_ ?_ ?_ ?_<;>(try simp[tB,rpB,sK,aB,J1])
 ·have h1:isS u 40=false:=by simpa using h1
  rw[if_neg (by simp[h1])] at hh
  simp only[Option.some.injEq,Prod.mk.injEq] at hh
  obtain⟨rfl,rfl⟩:=hh
  rw[h1,tryL_no h1,tB_eq] at hT
  unfold oInv
  refine w_go 4000 ?_
  simp[tB,rpB,sK,aB,J1]
  (refine w_call hP rfl (hT _) (by simp[J1]) (by simp[J1]<;>rfl) ?_; refine w_go 4000 ?_; simp[J1])
  refine hp _ () trivial ?_
  unfold oInv
  have hrn:rnOk [(E.n0,E.n0),(E.n0+1,E.n0+1),(E.n0+2,E.n0+2),(E.n0+3,E.n0+3)]:=by simp[tB,rpB,sK,aB,J1]
  refine Conv.sub [(E.n0,E.n0),(E.n0+1,E.n0+1),(E.n0+2,E.n0+2),(E.n0+3,E.n0+3)] hrn ?_ ?_ ?_ ?_ ?_<;>(try simp[tB,rpB,sK,aB,J1])
end
end Go.Am
namespace Go.Am
set_option linter.all false
open Go Go.RowKit Go.Proofs
set_option maxRecDepth 100000
set_option linter.all false
def lK(v:AV):Bx:=⟨[v],.nils,false,false⟩
theorem lK_eq(v:AV):lK v=⟨[v],.nils,false,false⟩:=rfl
def qB(l:List Sel):Bx:=⟨l.map eSel,.agg [.str [],.str [],.nils,.nils],false,false⟩
theorem qB_eq(l:List Sel):qB l=⟨l.map eSel,.agg [.str [],.str [],.nils,.nils],false,false⟩:=rfl
def selR(o:Option (Sel×List Tk)):Option (AV×List Tk):=o.map fun p=>(eSel p.1,p.2)
def selsR(o:Option (List Sel×List Tk)):Option (AV×List Tk):=o.map fun p=>(.sl (p.1.map eSel),p.2)
def OneIs(n:Nat):Prop:=∀(z l:List Tk) (J id:Nat),3*l.length+1≤n→l.length≤1099511627776→FnE Tryz.prog 99 [.ptr J 0 0] [(J,tB z l)] id (rdT J z (selR (pSel n l)))
def SomeIs(n:Nat):Prop:=∀(z l:List Tk) (J id:Nat),3*l.length+1≤n→l.length≤1099511627776→FnE Tryz.prog 67 [.ptr J 0 0] [(J,tB z l)] id (rdT J z (selsR (pSome n l)))
theorem sel_agg(s:Sel):∃(a b:List UInt8) (x:List Ag) (k:List Sel),eSel s = .agg [.str a,.str b,.sl (x.map eAg),.sl (k.map eSel)]:=by
 cases s with|mk a b x k=>exact⟨a,b,x,k,by simp[eSel,eSels_map]⟩
theorem pAgs_lt:∀(n:Nat) (acc:List Ag) (t u:List Tk) (l:List Ag),pAgs n acc t=some (l,u)→u.length<t.length
 | 0,_,_,_,_,h=>by cases h
 | n+1,acc,t,u,l,h=>by
  simp only[pAgs] at h
  split at h
  ·cases h
  rename_i p hp
  have h1:=pAg_lt (a:=p.1) (u:=p.2) hp
  split at h
  ·simp only[Option.some.injEq,Prod.mk.injEq] at h
   rw[←h.2,List.length_drop]; omega
  ·have:=pAgs_lt n _ _ _ _ h; omega
theorem pArgs_le{t u:List Tk}{l:List Ag}(h:pArgs t=some (l,u)):u.length≤t.length:=by
 unfold pArgs at h
 split at h
 ·have:=pAgs_lt _ _ _ _ _ h
  rw[List.length_drop] at this; omega
 ·simp only[Option.some.injEq,Prod.mk.injEq] at h
  rw[h.2]; exact Nat.le_refl _
theorem pHd_lt{t u:List Tk}{a b:List UInt8}(h:pHd t=some (a,b,u)):u.length<t.length:=by
 unfold pHd at h
 split at h
 rotate_left
 ·cases h
 rename_i h1
 obtain⟨_,_,e,_⟩:=isW_cons h1
 have:=congrArg List.length e
 rw[List.length_cons] at this
 split at h
 ·split at h
  ·simp only[Option.some.injEq,Prod.mk.injEq] at h
   rw[←h.2.2,List.length_drop]; omega
  ·cases h
 ·simp only[Option.some.injEq,Prod.mk.injEq] at h
  rw[←h.2.2,List.length_drop]; omega
theorem pSel_lts:∀n:Nat,(∀t s u,pSel n t=some (s,u)→u.length<t.length)∧(∀t s u,pSome n t=some (s,u)→u.length<t.length)∧(∀acc t s u,pSels n acc t=some (s,u)→u.length<t.length)
 | 0=>⟨fun _ _ _ h=>by simp[pSel] at h,fun _ _ _ h=>by simp[pSome] at h,fun _ _ _ _ h=>by simp[pSels] at h⟩
 | n+1=>by
  obtain⟨h1,h2,h3⟩:=pSel_lts n
  refine⟨fun t s u h=>?_,fun t s u h=>?_,fun acc t s u h=>?_⟩
  ·simp only[pSel] at h
   split at h
   ·cases h
   rename_i a nm v hv
   have e1:=pHd_lt hv
   split at h
   ·cases h
   rename_i xs w hw
   have e2:=pArgs_le hw
   split at h
   ·split at h
    ·cases h
    rename_i k y hy
    have:=h2 _ _ _ hy
    simp only[Option.some.injEq,Prod.mk.injEq] at h
    rw[←h.2]; omega
   ·simp only[Option.some.injEq,Prod.mk.injEq] at h
    rw[←h.2]; omega
  ·simp only[pSome] at h
   split at h
   ·have:=h3 _ _ _ _ h
    rw[List.length_drop] at this; omega
   ·cases h
  ·simp only[pSels] at h
   split at h
   ·cases h
   rename_i s' v hv
   have e1:=h1 _ _ _ hv
   split at h
   ·simp only[Option.some.injEq,Prod.mk.injEq] at h
    rw[←h.2,List.length_drop]; omega
   ·have:=h3 _ _ _ _ h; omega
theorem pSel_lt{n:Nat}{t u:List Tk}{s:Sel}(h:pSel n t=some (s,u)):u.length<t.length:=(pSel_lts n).1 t s u h
theorem qsC_code:cc98 = .reg true ((crsOf cc98).take 2++(crsOf cc98).getD 2 default::(((crsOf cc98).drop 3).take 2++(crsOf cc98).drop 5)) (psOf cc98):=rfl
set_option maxHeartbeats 8000000 in
theorem qsC_no{n:Nat}(hO:OneIs n)(z t:List Tk)(l:List Sel)(J V K M id:Nat)(hd:[J,V,K,M].Nodup)(hn:3*t.length+1≤n)(h8:t.length≤1099511627776)(hp:pSel n t=none):
  FnE Tryz.prog 98 [.ptr K 0 0,.ptr V 0 0] [(J,tB z t),(V,rpB J),(K,lK (.bsl M 0 l.length)),(M,qB l)] id (.error (erV 1)):=by
 have ho:=fun id=>hO z t J id hn h8
 have d:=apt4 hd
 rw[hp] at ho
 change ∀id,FnE _ _ _ _ _ (.error (erV 1)) at ho
 rw[tB_eq] at *
 rw[lK_eq,rpB_eq,qB_eq]
 refine fn_okE Tryz.func98 hcc98 (by decide) hcr98 (by simp[Tryz.ntmps98]) fun E hP hR hPn hl hid hB hu=>?_
 have hJ:=hl (J,_) (List.mem_cons_self ..)
 simp only at hJ
 have J1:=lf hJ
 have hV:=hl (V,_) (List.mem_cons_of_mem _ (List.mem_cons_self ..))
 simp only at hV
 have V1:=lf hV
 have hK:=hl (K,_) (List.mem_cons_of_mem _ (List.mem_cons_of_mem _ (List.mem_cons_self ..)))
 simp only at hK
 have K1:=lf hK
 have hM:=hl (M,_) (List.mem_cons_of_mem _ (List.mem_cons_of_mem _ (List.mem_cons_of_mem _ (List.mem_cons_self ..))))
 simp only at hM
 have M1:=lf hM
 rw[qsC_code]
 refine w_regS _ _ _ _ (rs1:=[⟨true,.bsl M 0 l.length,[(K,lK (.bsl M 0 l.length))],[]⟩,⟨true,.ptr J 0 0,[(V,rpB J)],[]⟩])
  (r:=⟨true,.nili,[(J,tB z t)],goL [(J,tB z t)]⟩) (rs2:=[⟨true,.int .i64 l.length,[(M,qB l)],[]⟩,⟨true,.bsl (E.n0+4096) 0 1,[],[(E.n0+4096,some ⟨[.agg [.str [],.str [],.nils,.nils]],.agg [.str [],.str [],.nils,.nils],false,false⟩)]⟩]) (pv:=erV 1) ?_ ?_ ?_ ?_ ?_
 ·simp only[crsOf,cc98,CC.d,List.take,ARuns,CR.f,CR.l,St.app,putF,addW,tB_eq,lK_eq,rpB_eq,qB_eq]
  refine⟨ar_sem (by simp) (by simp[J1,V1,K1,M1,d]),ar_sem (by simp) (by simp[J1,V1,K1,M1,d]),trivial⟩
 ·simp[crsOf,cc98,St.apps,St.app,tB_eq,lK_eq,rpB_eq,qB_eq]
  refine ar_call (by simp) (by simp<;>rfl) (by rw[hP]; exact ho _) (by simp[J1,V1,K1,M1,d])
 ·simp[crsOf,cc98,ARuns,St.apps,St.app,tB_eq,lK_eq,rpB_eq,qB_eq]
  refine⟨ar_sem (by simp) (by simp[J1,V1,K1,M1,d]),ar_sem (by simp) (by simp[J1,V1,K1,M1,d])⟩
 ·simp only[crsOf,psOf,dynS,cc98,CC.d,pr,List.map,List.append,getR,List.take,List.length,List.drop,List.cons_append,List.nil_append]
  simp[apartR,J1,V1,K1,M1,d]
 ·refine hPn _ _ rfl rfl ?_
  simp[crsOf,cc98,St.apps,St.app,tB_eq,lK_eq,rpB_eq,qB_eq,J1,V1,K1,M1,d]
set_option maxHeartbeats 8000000 in
theorem qsC_ok{n:Nat}(hO:OneIs n)(z t:List Tk)(l:List Sel)(a:Sel)(u:List Tk)(J V K M id:Nat)(hd:[J,V,K,M].Nodup)(hn:3*t.length+1≤n)(h8:t.length≤1099511627776)(h:pSel n t=some (a,u))(hl8:l.length≤1099511627776):
  FnOk Tryz.prog 98 [.ptr K 0 0,.ptr V 0 0] [(J,tB z t),(V,rpB J),(K,lK (.bsl M 0 l.length)),(M,qB l)] id (.tup []) [(J,some (tB z u)),(K,some (lK (.bsl id 0 (l.length+1)))),(M,none),(id,some (qB (l++[a])))]:=by
 have d:=apt4 hd
 have ho:=fun id=>hO z t J id hn h8
 rw[h] at ho
 have ho:∀id,FnOk Tryz.prog 99 [.ptr J 0 0] [(J,tB z t)] id (eSel a) [(J,some (tB z u))]:=ho
 have hex:(l++[a]).map eSel=l.map eSel++[eSel a]:=by simp
 obtain⟨sa,sn,sx,sk,hoe⟩:=sel_agg a
 rw[hoe] at ho hex
 rw[tB_eq,tB_eq] at ho
 rw[tB_eq,tB_eq,rpB_eq,lK_eq,lK_eq,qB_eq,qB_eq,hex]
 refine fn_okc Tryz.func98 hcc98 (by decide) hcr98 (by simp[Tryz.ntmps98]) fun E hP hR hl hid=>?_
 simp only[cr98] at hR
 refine w_go 4000 ?_
 simp[cc98]
 have hJ:=hl (J,_) (List.mem_cons_self ..)
 simp only at hJ
 have J1:=lf hJ
 have hV:=hl (V,_) (List.mem_cons_of_mem _ (List.mem_cons_self ..))
 simp only at hV
 have V1:=lf hV
 have hK:=hl (K,_) (List.mem_cons_of_mem _ (List.mem_cons_of_mem _ (List.mem_cons_self ..)))
 simp only at hK
 have K1:=lf hK
 have hM:=hl (M,_) (List.mem_cons_of_mem _ (List.mem_cons_of_mem _ (List.mem_cons_of_mem _ (List.mem_cons_self ..))))
 simp only at hM
 have M1:=lf hM
 simp[J1,V1,K1,M1,d]
 (refine w_call hP rfl (ho _) (by simp[J1,V1,K1,M1,d]) (by simp[J1,V1,K1,M1,d]<;>rfl) ?_; refine w_go 4000 ?_; simp[J1,V1,K1,M1,d])
 refine⟨⟨by omega,by omega⟩,by omega,?_⟩
 have hrn:rnOk [(id,E.n0+5120)]:=by simp[J1,V1,K1,M1,d,idO hid]
 rw[hR]
 refine rt_end (by simp<;>rfl) [(id,E.n0+5120)] hrn ⟨?_,?_,?_,?_,?_,?_⟩<;>(try simp[J1,V1,K1,M1,d,idO hid])
 exact renL_pure rfl (pureL_append (pure_sels _) (by simp))
def qsS(n0 J V K M:Nat)(z:List Tk):Bool→List Sel→List Tk→St
 | true,l,t=>⟨[(0,true,.ptr J 0 0),(1,true,.str [125]),(2,true,.fn 98 [.ptr K 0 0,.ptr V 0 0])],[(J,some (tB z t)),(V,some (rpB J)),(K,some (lK (.bsl M 0 l.length))),(M,some (qB l))],0⟩
 | false,l,t=>⟨[(0,true,.ptr J 0 0),(1,true,.str [125]),(2,true,.fn 98 [.ptr K 0 0,.ptr V 0 0])],[(J,some (tB z t)),(V,some (rpB J)),(K,some (lK (.bsl n0 0 l.length))),(M,none),(n0,some (qB l))],1⟩
def qsMR(J K M id:Nat)(z:List Tk):Option (List Sel×List Tk)→Except AV (AV×List (Nat×Option Bx))
 | none=>.error (erV 1)
 | some (l,u)=>.ok (.tup [],[(J,some (tB z u)),(K,some (lK (.bsl id 0 l.length))),(M,none),(id,some (qB l))])
set_option maxHeartbeats 8000000 in
theorem qsM_ok{n:Nat}(hO:∀m,m<n→OneIs m)(z s:List Tk)(J V K M id:Nat)(hd:[J,V,K,M].Nodup)(hn:3*s.length+2≤n)(h8:s.length≤1099511627776):
  FnE Tryz.prog 88 [.ptr J 0 0,.str [125],.fn 98 [.ptr K 0 0,.ptr V 0 0]] [(J,tB z s),(V,rpB J),(K,lK (.bsl M 0 0)),(M,qB [])] id (qsMR J K M id z (pSels n [] s)):=by
 have d:=apt4 hd
 rw[tB_eq,rpB_eq,lK_eq,qB_eq]
 refine fn_okE Tryz.func88 hcc88 (by decide) hcr88 (by simp[Tryz.ntmps88]) fun E hP hR hPn hl hid hB hu=>?_
 simp only[cr88] at hR
 refine w_go 4000 ?_
 simp[cc88]
 have hJ:=hl (J,_) (List.mem_cons_self ..)
 simp only at hJ
 have J1:=lf hJ
 have hV:=hl (V,_) (List.mem_cons_of_mem _ (List.mem_cons_self ..))
 simp only at hV
 have V1:=lf hV
 have hK:=hl (K,_) (List.mem_cons_of_mem _ (List.mem_cons_of_mem _ (List.mem_cons_self ..)))
 simp only at hK
 have K1:=lf hK
 have hM:=hl (M,_) (List.mem_cons_of_mem _ (List.mem_cons_of_mem _ (List.mem_cons_of_mem _ (List.mem_cons_self ..))))
 simp only at hM
 have M1:=lf hM
 refine w_loop (X:=Bool×List Sel×List Tk×Nat) (fun q=>qsS E.n0 J V K M z q.1 q.2.1 q.2.2.1)
  (fun q=>(pSels q.2.2.2 q.2.1 q.2.2.1=pSels n [] s∧3*q.2.2.1.length+2≤q.2.2.2∧q.2.2.2≤n)∧q.2.1.length+q.2.2.1.length≤s.length∧(q.1=true→q.2.1=[])) (fun q=>q.2.2.1.length) (true,[],s,n) ?_ ⟨⟨rfl,hn,Nat.le_refl _⟩,by simp,fun _=>rfl⟩ ?_
 ·have hrn:rnOk []:=by simp[qsS,tB,rpB,lK,qB,J1,V1,K1,M1,d]
  refine Conv.sub [] hrn ?_ ?_ ?_ ?_ ?_<;>(try simp[qsS,tB,rpB,lK,qB,J1,V1,K1,M1,d])
 rintro⟨first,l,t,m⟩ ⟨⟨hx,hm,hmn⟩,hll,hfl⟩ p hp
 simp only at hx hm hmn hll hfl
 obtain⟨m,rfl⟩:=Nat.exists_eq_succ_of_ne_zero (show m≠0 by omega)
 have hO:=hO m (by omega)
 cases first with
 | true =>
  obtain rfl:=hfl rfl
  cases hq:pSel m t with
  | none =>
   have hdo:=fun id=>qsC_no hO z t [] J V K M id hd (by omega) (by omega) hq
   have e:qsMR J K M id z (pSels n [] s) = .error (erV 1):=by
    rw[←hx]; simp only[Nat.succ_eq_add_one,pSels]; rw[hq]; rfl
   rw[tB_eq,rpB_eq,lK_eq,qB_eq] at hdo
   unfold qsS
   refine w_go 4000 ?_
   simp[tB,rpB,lK,qB,J1,V1,K1,M1,d]
   refine w_callvE hP (by simp<;>exact⟨rfl,rfl⟩) rfl (hdo _) (by simp[J1,V1,K1,M1,d]) (by simp[J1,V1,K1,M1,d]<;>rfl) (fun pv hpv=>⟨by simp[J1,V1,K1,M1,d],by injection hpv with hpv; subst hpv; exact hPn _ _ (e) rfl (by simp[J1,V1,K1,M1,d])⟩) (fun v wr h=>by cases h)
  | some w =>
   obtain⟨a,u⟩:=w
   have hlt:=pSel_lt hq
   have hdo:=fun id=>qsC_ok hO z t [] a u J V K M id hd (by omega) (by omega) hq (by simp)
   have hT:=fun id=>Try_ok z u 125 J id
   have e0:pSels n [] s=if isS u 125=true then some ([a],u.drop 1) else pSels m [a] u:=by
    rw[←hx]; simp only[Nat.succ_eq_add_one,pSels]; rw[hq]; rfl
   obtain⟨sa,sn,sx,sk,hoe⟩:=sel_agg a
   rw[tB_eq,rpB_eq,lK_eq,qB_eq,tB_eq,qB_eq] at hdo
   simp only[lK_eq] at hdo
   by_cases hs:isS u 125=true
   ·rw[if_pos hs] at e0
    rw[hs,tryL_yes hs] at hT
    generalize u.drop 1=v at *
    rw[tB_eq,tB_eq] at hT
    have e:qsMR J K M id z (pSels n [] s) = .ok (.tup [],[(J,some (tB z v)),(K,some (lK (.bsl id 0 1))),(M,none),(id,some (qB [a]))]):=by rw[e0]; rfl
    unfold qsS
    refine w_go 4000 ?_
    simp[tB,rpB,lK,qB,J1,V1,K1,M1,d]
    (refine w_callv hP (by simp<;>exact⟨rfl,rfl⟩) rfl (hdo _) (by simp[J1,V1,K1,M1,d]) (by simp[J1,V1,K1,M1,d]<;>rfl) ?_; refine w_go 4000 ?_; simp[J1,V1,K1,M1,d])
    (refine w_call hP rfl (hT _) (by simp[J1,V1,K1,M1,d]) (by simp[J1,V1,K1,M1,d]<;>rfl) ?_; refine w_go 4000 ?_; simp[J1,V1,K1,M1,d])
    have hrn:rnOk [(id,E.n0+1024)]:=by simp[tB,rpB,lK,qB,hoe,J1,V1,K1,M1,d,idO hid]
    refine hR _ _ _ (e) ?_
    refine rt_end (by simp[tB,rpB,lK,qB,hoe,J1,V1,K1,M1,d,idO hid]<;>rfl) [(id,E.n0+1024)] hrn ⟨?_,?_,?_,?_,?_,?_⟩<;>(try simp[tB,rpB,lK,qB,hoe,J1,V1,K1,M1,d,idO hid])
   ·have hs:isS u 125=false:=by simpa using hs
    rw[if_neg (by simp[hs])] at e0
    rw[hs,tryL_no hs,tB_eq] at hT
    unfold qsS
    refine w_go 4000 ?_
    simp[tB,rpB,lK,qB,J1,V1,K1,M1,d]
    (refine w_callv hP (by simp<;>exact⟨rfl,rfl⟩) rfl (hdo _) (by simp[J1,V1,K1,M1,d]) (by simp[J1,V1,K1,M1,d]<;>rfl) ?_; refine w_go 4000 ?_; simp[J1,V1,K1,M1,d])
    (refine w_call hP rfl (hT _) (by simp[J1,V1,K1,M1,d]) (by simp[J1,V1,K1,M1,d]<;>rfl) ?_; refine w_go 4000 ?_; simp[J1,V1,K1,M1,d])
    refine hp _ (false,[a],u,m) ⟨⟨e0.symm,by simp; omega,by simp; omega⟩,by simp at hll ⊢; omega,by simp⟩ (by simp; omega) ?_
    have hrn:rnOk [(E.n0,E.n0+1024)]:=by simp[qsS,tB,rpB,lK,qB,hoe,J1,V1,K1,M1,d]
    refine Conv.sub [(E.n0,E.n0+1024)] hrn ?_ ?_ ?_ ?_ ?_<;>(try simp[qsS,tB,rpB,lK,qB,hoe,J1,V1,K1,M1,d])
 | false =>
  have hne0:([J,V,K,E.n0]:List Nat).Nodup:=by simp[J1,V1,K1,M1,d]
  cases hq:pSel m t with
  | none =>
   have hdo:=fun id=>qsC_no hO z t l J V K E.n0 id hne0 (by omega) (by omega) hq
   have e:qsMR J K M id z (pSels n [] s) = .error (erV 1):=by
    rw[←hx]; simp only[Nat.succ_eq_add_one,pSels]; rw[hq]; rfl
   rw[tB_eq,rpB_eq,lK_eq,qB_eq] at hdo
   unfold qsS
   refine w_go 4000 ?_
   simp[tB,rpB,lK,qB,J1,V1,K1,M1,d]
   refine w_callvE hP (by simp<;>exact⟨rfl,rfl⟩) rfl (hdo _) (by simp[J1,V1,K1,M1,d]) (by simp[J1,V1,K1,M1,d]<;>rfl) (fun pv hpv=>⟨by simp[J1,V1,K1,M1,d],by injection hpv with hpv; subst hpv; exact hPn _ _ (e) rfl (by simp[J1,V1,K1,M1,d])⟩) (fun v wr h=>by cases h)
  | some w =>
   obtain⟨a,u⟩:=w
   have hlt:=pSel_lt hq
   have hdo:=fun id=>qsC_ok hO z t l a u J V K E.n0 id hne0 (by omega) (by omega) hq (by omega)
   have hT:=fun id=>Try_ok z u 125 J id
   have e0:pSels n [] s=if isS u 125=true then some (l++[a],u.drop 1) else pSels m (l++[a]) u:=by
    rw[←hx]; simp only[Nat.succ_eq_add_one,pSels]; rw[hq]
   have hex:(l++[a]).map eSel=l.map eSel++[eSel a]:=by simp
   obtain⟨sa,sn,sx,sk,hoe⟩:=sel_agg a
   rw[hoe] at hex
   rw[tB_eq,rpB_eq,lK_eq,qB_eq,tB_eq,qB_eq] at hdo
   simp only[lK_eq,hex] at hdo
   by_cases hs:isS u 125=true
   ·rw[if_pos hs] at e0
    rw[hs,tryL_yes hs] at hT
    generalize u.drop 1=v at *
    rw[tB_eq,tB_eq] at hT
    have e:qsMR J K M id z (pSels n [] s) = .ok (.tup [],[(J,some (tB z v)),(K,some (lK (.bsl id 0 (l.length+1)))),(M,none),(id,some (qB (l++[a])))]):=by rw[e0]; simp[qsMR]
    unfold qsS
    refine w_go 4000 ?_
    simp[tB,rpB,lK,qB,J1,V1,K1,M1,d]
    (refine w_callv hP (by simp<;>exact⟨rfl,rfl⟩) rfl (hdo _) (by simp[J1,V1,K1,M1,d]) (by simp[J1,V1,K1,M1,d]<;>rfl) ?_; refine w_go 4000 ?_; simp[J1,V1,K1,M1,d])
    (refine w_call hP rfl (hT _) (by simp[J1,V1,K1,M1,d]) (by simp[J1,V1,K1,M1,d]<;>rfl) ?_; refine w_go 4000 ?_; simp[J1,V1,K1,M1,d])
    have hrn:rnOk [(id,E.n0+1025)]:=by simp[tB,rpB,lK,qB,hoe,J1,V1,K1,M1,d,idO hid]
    refine hR _ _ _ (e) ?_
    refine rt_end (by simp[tB,rpB,lK,qB,hoe,J1,V1,K1,M1,d,idO hid]<;>rfl) [(id,E.n0+1025)] hrn ⟨?_,?_,?_,?_,?_,?_⟩<;>(try simp[tB,rpB,lK,qB,hoe,J1,V1,K1,M1,d,idO hid])
    all_goals exact renL_pure rfl (pureL_append (pure_sels _) (by simp))
   ·have hs:isS u 125=false:=by simpa using hs
    rw[if_neg (by simp[hs])] at e0
    rw[hs,tryL_no hs,tB_eq] at hT
    unfold qsS
    refine w_go 4000 ?_
    simp[tB,rpB,lK,qB,J1,V1,K1,M1,d]
    (refine w_callv hP (by simp<;>exact⟨rfl,rfl⟩) rfl (hdo _) (by simp[J1,V1,K1,M1,d]) (by simp[J1,V1,K1,M1,d]<;>rfl) ?_; refine w_go 4000 ?_; simp[J1,V1,K1,M1,d])
    (refine w_call hP rfl (hT _) (by simp[J1,V1,K1,M1,d]) (by simp[J1,V1,K1,M1,d]<;>rfl) ?_; refine w_go 4000 ?_; simp[J1,V1,K1,M1,d])
    refine hp _ (false,l++[a],u,m) ⟨⟨e0.symm,by simp; omega,by simp; omega⟩,by simp at hll ⊢; omega,by simp⟩ (by simp; omega) ?_
    have hrn:rnOk [(E.n0,E.n0+1025)]:=by simp[qsS,tB,rpB,lK,qB,hoe,J1,V1,K1,M1,d]
    refine Conv.sub [(E.n0,E.n0+1025)] hrn ?_ ?_ ?_ ?_ ?_<;>(try simp[qsS,tB,rpB,lK,qB,hoe,J1,V1,K1,M1,d])
    all_goals exact renL_pure rfl (pureL_append (pure_sels _) (by simp))
def smInv(E:Env)(J:Nat)(z u:List Tk):St :=
 ⟨[(1,true,.ptr E.n0 0 0),(3,true,.ptr (E.n0+1) 0 0)],[(J,some (tB z u)),(E.n0,some (rpB J)),(E.n0+1,some (lK (.bsl (E.n0+2) 0 0))),(E.n0+2,some (qB []))],3⟩
theorem some_hd(E:Env)(hP:E.P=Tryz.prog)(z l:List Tk)(J id:Nat)(hJ:J<E.n0∧(J<id∨id+1024≤J)){a b c r:CC}(ha:a = .r [.bx 1 0,.v 2 .nils])(hb:b = .r [.l 4 1,⟨some 5,none,[4],.call 87 [.t 4,.c (.str [123])]⟩])
  (hc:c = .r [.al 3 .nils]) (h1:isS l 123=true) {k:List Itm} (hk:Wk E (.code r::k) (smInv E J z (l.drop 1))) :
  Wk E (.code (.seq a (.seq b (.seq c r)))::k) ⟨[(0,true,.ptr J 0 0)],[(J,some (tB z l))],0⟩:=by
 subst ha hb hc
 have J1:=lf hJ
 refine w_cut3 (X:=Unit) (fun _=>smInv E J z (l.drop 1)) (fun _=>True) (fun p hp=>?_) fun _ _=>hk
 have hN:=fun id=>Need_ok z l 123 J id h1
 generalize l.drop 1=t at *
 rw[tB_eq,tB_eq] at hN
 rw[tB_eq]
 refine w_go 4000 ?_
 simp[J1]
 (refine w_call hP rfl (hN _) (by simp[J1]) (by simp[J1]<;>rfl) ?_; refine w_go 4000 ?_; simp[J1])
 refine hp _ () trivial ?_
 refine Conv.trans (Conv.voidBox (E.n0+4096) (by simp[J1]; rfl) rfl .nils (.agg [.str [],.str [],.nils,.nils])) ?_
 unfold smInv
 have hrn:rnOk [(E.n0,E.n0),(E.n0+1,E.n0+4096),(E.n0+2,E.n0+5120)]:=by simp[tB,rpB,lK,qB,J1]
 refine Conv.sub [(E.n0,E.n0),(E.n0+1,E.n0+4096),(E.n0+2,E.n0+5120)] hrn ?_ ?_ ?_ ?_ ?_<;>(try simp[tB,rpB,lK,qB,J1])
theorem some_step{n:Nat}(hO:∀m,m<n→OneIs m):SomeIs (n+1):=by
 intro z l J id hn h8
 by_cases h1:isS l 123=true
 rotate_left
 ·have hN:=fun id=>Need_no z l 123 J id (by simpa using h1)
  have e:pSome (n+1) l=none:=by simp only[pSome]; rw[if_neg h1]
  rw[e]
  show FnE _ _ _ _ _ (.error (erV 1))
  rw[tB_eq] at *
  refine fn_okE Tryz.func67 hcc67 (by decide) hcr67 (by simp[Tryz.ntmps67]) fun E hP hR hPn hl hid hB hu=>?_
  simp only[cr67] at hR
  refine w_go 4000 ?_
  simp[cc67]
  have hJ:=hl (J,_) (List.mem_cons_self ..)
  simp only at hJ
  have J1:=lf hJ
  refine w_callE hP rfl (hN _) (by simp[J1]) (by simp[J1]<;>rfl) (fun pv hpv=>⟨by simp[J1],by injection hpv with hpv; subst hpv; exact hPn _ _ (rfl) rfl (by simp[J1])⟩) (fun v wr h=>by cases h)
 have e:pSome (n+1) l=pSels n [] (l.drop 1):=by simp only[pSome]; rw[if_pos h1]
 have hlen:(l.drop 1).length+1=l.length:=by
  obtain⟨t,r,rfl⟩:=isS_cons h1
  simp
 rw[e]
 refine fn_okE Tryz.func67 hcc67 (by decide) hcr67 (by simp[Tryz.ntmps67]) fun E hP hR hPn hl hid hB hu=>?_
 simp only[cr67] at hR
 have hJ:=hl (J,_) (List.mem_cons_self ..)
 simp only at hJ
 have J1:=lf hJ
 refine some_hd E hP z l J id hJ rfl rfl rfl h1 ?_
 generalize l.drop 1=t at *
 have hM:=fun id=>qsM_ok hO z t J E.n0 (E.n0+1) (E.n0+2) id (by simp[J1]) (by omega) (by omega)
 cases hp:pSels n [] t with
 | none =>
  rw[hp] at hM
  change ∀id,FnE _ _ _ _ _ (.error (erV 1)) at hM
  rw[tB_eq,rpB_eq,lK_eq,qB_eq] at hM
  unfold smInv
  refine w_go 4000 ?_
  simp[tB,rpB,lK,qB,J1]
  refine w_callE hP rfl (hM _) (by simp[J1]) (by simp[J1]<;>rfl) (fun pv hpv=>⟨by simp[J1],by injection hpv with hpv; subst hpv; exact hPn _ _ (by rw[hp]; rfl) rfl (by simp[J1])⟩) (fun v wr h=>by cases h)
 | some w =>
  obtain⟨ss,u⟩:=w
  rw[hp] at hM
  have hM:∀id,FnOk Tryz.prog 88 [.ptr J 0 0,.str [125],.fn 98 [.ptr (E.n0+1) 0 0,.ptr E.n0 0 0]] [(J,tB z t),(E.n0,rpB J),(E.n0+1,lK (.bsl (E.n0+2) 0 0)),(E.n0+2,qB [])] id (.tup [])
    [(J,some (tB z u)),(E.n0+1,some (lK (.bsl id 0 ss.length))),(E.n0+2,none),(id,some (qB ss))]:=hM
  have e:rdT J z (selsR (pSels n [] t)) = .ok (.sl (ss.map eSel),[(J,some (tB z u))]):=by rw[hp]; rfl
  rw[tB_eq,rpB_eq,lK_eq,qB_eq,tB_eq,qB_eq] at hM
  simp only[lK_eq] at hM
  unfold smInv
  refine w_go 4000 ?_
  simp[tB,rpB,lK,qB,J1]
  (refine w_call hP rfl (hM _) (by simp[J1]) (by simp[J1]<;>rfl) ?_; refine w_go 4000 ?_; simp[J1])
  have hrn:rnOk []:=by simp[tB,rpB,J1,idO hid]
  refine hR _ _ _ (e) ?_
  refine rt_endR (by simp[tB,rpB,J1,idO hid]<;>rfl) (by simp[tB,rpB,J1,idO hid]<;>exact⟨rfl,rfl⟩) [] hrn ⟨?_,?_,?_,?_,?_,?_⟩<;>(try simp[tB,rpB,J1,idO hid])
  all_goals trace_state
end Go.Am
namespace Go.Am
set_option linter.all false
open Go Go.RowKit Go.Proofs
set_option maxRecDepth 100000
set_option linter.all false
theorem hd_none{n:Nat}{l:List Tk}(h:pHd l=none):pSel (n+1) l=none:=by simp only[pSel]; rw[h]
theorem args_none{n:Nat}{l u:List Tk}{a b:List UInt8}(h:pHd l=some (a,b,u))(h2:pArgs u=none):pSel (n+1) l=none:=by simp only[pSel]; rw[h]; simp only; rw[h2]
theorem kids_no{n:Nat}{l u v:List Tk}{a b:List UInt8}{xs:List Ag}(h:pHd l=some (a,b,u))(h2:pArgs u=some (xs,v))(h3:isS v 123=false):pSel (n+1) l=some (.mk a b xs [],v):=by
 simp only[pSel]; rw[h]; simp only; rw[h2]; simp only; rw[if_neg (by simp[h3])]
theorem kids_yes{n:Nat}{l u v:List Tk}{a b:List UInt8}{xs:List Ag}(h:pHd l=some (a,b,u))(h2:pArgs u=some (xs,v))(h3:isS v 123=true):pSel (n+1) l=(pSome n v).map fun p=>(.mk a b xs p.1,p.2):=by
 simp only[pSel]; rw[h]; simp only; rw[h2]; simp only; rw[if_pos h3]
 cases pSome n v with
 | none=>rfl
 | some p=>rfl
theorem nrm_sel(a b:List UInt8)(xs:List Ag):(AV.agg [.str a,.str b,.sl (xs.map eAg),.nils]).nrm=eSel (.mk a b xs []):=by
 have h1:nrmL (xs.map eAg)=xs.map eAg:=by
  induction xs with
  | nil=>rfl
  | cons x r ih=>simp[nrmL,AV.nrm,ih,eAg]
 simp[AV.nrm,nrmL,h1,eSel,eSels]
set_option maxHeartbeats 16000000 in
theorem one_step{n:Nat}(hS:SomeIs n):OneIs (n+1):=by
 intro z l J id hn h8
 cases hh:pHd l with
 | none =>
  rw[hd_none hh]
  show FnE _ _ _ _ _ (.error (erV 1))
  unfold pHd at hh
  by_cases h1:isW l=true
  rotate_left
  ·have hN:=fun id=>Name_no z l J id (by simpa using h1)
   rw[tB_eq] at *
   refine fn_okE Tryz.func99 hcc99 (by decide) hcr99 (by simp[Tryz.ntmps99]) fun E hP hR hPn hl hid hB hu=>?_
   simp only[cr99] at hR
   refine w_go 4000 ?_
   simp[cc99]
   have hJ:=hl (J,_) (List.mem_cons_self ..)
   simp only at hJ
   have J1:=lf hJ
   refine w_callE hP rfl (hN _) (by simp[J1]) (by simp[J1]<;>rfl) (fun pv hpv=>⟨by simp[J1],by injection hpv with hpv; subst hpv; exact hPn _ _ (rfl) rfl (by simp[J1])⟩) (fun v wr h=>by cases h)
  rw[if_pos h1] at hh
  obtain⟨t,r,rfl,hkd⟩:=isW_cons h1
  have hN:=fun id=>Name_ok' z r t J id hkd
  have hT:=fun id=>Try_ok z r 58 J id
  rw[List.drop_one,List.tail_cons] at hh
  have h2:isS r 58=true:=by
   apply Classical.byContradiction
   intro q
   rw[if_neg q] at hh; cases hh
  rw[if_pos h2] at hh
  rw[h2,tryL_yes h2] at hT
  obtain⟨t2,r2,rfl⟩:=isS_cons h2
  rw[List.drop_one,List.tail_cons,tB_eq,tB_eq] at hT
  have h3:isW r2=false:=by
   rw[Bool.eq_false_iff]; intro q
   rw[if_pos (show isW ((t::t2::r2).drop 2)=true from q)] at hh; cases hh
  have hN2:=fun id=>Name_no z r2 J id h3
  rw[tB_eq,tB_eq] at hN
  rw[tB_eq] at hN2
  rw[tB_eq]
  refine fn_okE Tryz.func99 hcc99 (by decide) hcr99 (by simp[Tryz.ntmps99]) fun E hP hR hPn hl hid hB hu=>?_
  simp only[cr99] at hR
  refine w_go 4000 ?_
  simp[cc99]
  have hJ:=hl (J,_) (List.mem_cons_self ..)
  simp only at hJ
  have J1:=lf hJ
  (refine w_call hP rfl (hN _) (by simp[J1]) (by simp[J1]<;>rfl) ?_; refine w_go 4000 ?_; simp[J1])
  (refine w_call hP rfl (hT _) (by simp[J1]) (by simp[J1]<;>rfl) ?_; refine w_go 4000 ?_; simp[J1])
  refine w_callE hP rfl (hN2 _) (by simp[J1]) (by simp[J1]<;>rfl) (fun pv hpv=>⟨by simp[J1],by injection hpv with hpv; subst hpv; exact hPn _ _ (rfl) rfl (by simp[J1])⟩) (fun v wr h=>by cases h)
 | some q =>
  obtain⟨al,nm,u⟩:=q
  have hlt:=pHd_lt hh
  cases ha:pArgs u with
  | none =>
   rw[args_none hh ha]
   show FnE _ _ _ _ _ (.error (erV 1))
   unfold pArgs at ha
   have h1:isS u 40=true:=by
    apply Classical.byContradiction
    intro q
    rw[if_neg q] at ha; cases ha
   rw[if_pos h1] at ha
   have hT:=fun id=>Try_ok z u 40 J id
   rw[h1,tryL_yes h1] at hT
   refine fn_okE Tryz.func99 hcc99 (by decide) hcr99 (by simp[Tryz.ntmps99]) fun E hP hR hPn hl hid hB hu=>?_
   simp only[cr99] at hR
   have hJ:=hl (J,_) (List.mem_cons_self ..)
   simp only at hJ
   have J1:=lf hJ
   refine one_hd E hP z l J id hJ rfl rfl rfl hh ?_
   have hlen:(u.drop 1).length<u.length+1:=by rw[List.length_drop]; omega
   have hM:=fun id=>agM_ok (u.length+1) z (u.drop 1) al nm J E.n0 (E.n0+2) (E.n0+3) id (by simp[J1]) hlen (by omega)
   rw[ha] at hM
   change ∀id,FnE _ _ _ _ _ (.error (erV 1)) at hM
   generalize u.drop 1=w at *
   rw[tB_eq,tB_eq] at hT
   rw[tB_eq,rpB_eq,sK_eq,aB_eq] at hM
   unfold oInv
   refine w_go 4000 ?_
   simp[tB,rpB,sK,aB,J1]
   (refine w_call hP rfl (hT _) (by simp[J1]) (by simp[J1]<;>rfl) ?_; refine w_go 4000 ?_; simp[J1])
   refine w_callE hP rfl (hM _) (by simp[J1]) (by simp[J1]<;>rfl) (fun pv hpv=>⟨by simp[J1],by injection hpv with hpv; subst hpv; exact hPn _ _ (rfl) rfl (by simp[J1])⟩) (fun v wr h=>by cases h)
  | some q =>
   obtain⟨xs,v⟩:=q
   have hle:=pArgs_le ha
   have hI:=fun id=>Is_ok z v 123 J id
   cases h3:isS v 123 with
   | false =>
    rw[h3,tB_eq] at hI
    rw[kids_no hh ha h3]
    show FnOk _ _ _ _ _ (eSel (.mk al nm xs [])) [(J,some (tB z v))]
    rw[←nrm_sel]
    refine FnOk.nrm ?_
    refine fn_okc Tryz.func99 hcc99 (by decide) hcr99 (by simp[Tryz.ntmps99]) fun E hP hR hl hid=>?_
    simp only[cr99] at hR
    have hJ:=hl (J,_) (List.mem_cons_self ..)
    simp only at hJ
    have J1:=lf hJ
    refine one_hd E hP z l J id hJ rfl rfl rfl hh (one_args E hP z J id hJ rfl (by omega) ha ?_)
    unfold oInv
    refine w_go 4000 ?_
    simp[tB,rpB,sK,aB,J1]
    (refine w_call hP rfl (hI _) (by simp[J1]) (by simp[J1]<;>rfl) ?_; refine w_go 4000 ?_; simp[J1])
    have hrn:rnOk []:=by simp[tB,rpB,sK,aB,J1,idO hid]
    rw[hR]
    refine rt_endR (by simp<;>rfl) (by simp[tB,rpB,sK,aB,J1,idO hid]<;>exact⟨rfl,rfl⟩) [] hrn ⟨?_,?_,?_,?_,?_,?_⟩<;>(try simp[tB,rpB,sK,aB,J1,idO hid])
   | true =>
    rw[h3,tB_eq] at hI
    rw[kids_yes hh ha h3]
    have hK:=fun id=>hS z v J id (by omega) (by omega)
    cases hp:pSome n v with
    | none =>
     rw[hp] at hK
     change ∀id,FnE _ _ _ _ _ (.error (erV 1)) at hK
     show FnE _ _ _ _ _ (.error (erV 1))
     refine fn_okE Tryz.func99 hcc99 (by decide) hcr99 (by simp[Tryz.ntmps99]) fun E hP hR hPn hl hid hB hu=>?_
     simp only[cr99] at hR
     have hJ:=hl (J,_) (List.mem_cons_self ..)
     simp only at hJ
     have J1:=lf hJ
     refine one_hd E hP z l J id hJ rfl rfl rfl hh (one_args E hP z J id hJ rfl (by omega) ha ?_)
     rw[tB_eq] at hK
     unfold oInv
     refine w_go 4000 ?_
     simp[tB,rpB,sK,aB,J1]
     (refine w_call hP rfl (hI _) (by simp[J1]) (by simp[J1]<;>rfl) ?_; refine w_go 4000 ?_; simp[J1])
     refine w_callE hP rfl (hK _) (by simp[J1]) (by simp[J1]<;>rfl) (fun pv hpv=>⟨by simp[J1],by injection hpv with hpv; subst hpv; exact hPn _ _ (rfl) rfl (by simp[J1])⟩) (fun v wr h=>by cases h)
    | some q =>
     obtain⟨ks,w⟩:=q
     rw[hp] at hK
     have hK:∀id,FnOk Tryz.prog 67 [.ptr J 0 0] [(J,tB z v)] id (.sl (ks.map eSel)) [(J,some (tB z w))]:=hK
     show FnOk _ _ _ _ _ (eSel (.mk al nm xs ks)) [(J,some (tB z w))]
     have hoe:eSel (.mk al nm xs ks) = .agg [.str al,.str nm,.sl (xs.map eAg),.sl (ks.map eSel)]:=by simp[eSel,eSels_map]
     rw[hoe]
     refine fn_okc Tryz.func99 hcc99 (by decide) hcr99 (by simp[Tryz.ntmps99]) fun E hP hR hl hid=>?_
     simp only[cr99] at hR
     have hJ:=hl (J,_) (List.mem_cons_self ..)
     simp only at hJ
     have J1:=lf hJ
     refine one_hd E hP z l J id hJ rfl rfl rfl hh (one_args E hP z J id hJ rfl (by omega) ha ?_)
     rw[tB_eq,tB_eq] at hK
     unfold oInv
     refine w_go 4000 ?_
     simp[tB,rpB,sK,aB,J1]
     (refine w_call hP rfl (hI _) (by simp[J1]) (by simp[J1]<;>rfl) ?_; refine w_go 4000 ?_; simp[J1])
     (refine w_call hP rfl (hK _) (by simp[J1]) (by simp[J1]<;>rfl) ?_; refine w_go 4000 ?_; simp[J1])
     have hrn:rnOk []:=by simp[tB,rpB,sK,aB,J1,idO hid]
     rw[hR]
     refine rt_endR (by simp<;>rfl) (by simp[tB,rpB,sK,aB,J1,idO hid]<;>exact⟨rfl,rfl⟩) [] hrn ⟨?_,?_,?_,?_,?_,?_⟩<;>(try simp[tB,rpB,sK,aB,J1,idO hid])
theorem one_is:∀n,OneIs n∧SomeIs n:=fun n=>by
 induction n using Nat.strongRecOn with
 | _ n ih =>
  cases n with
  | zero=>exact⟨fun z l J id hn=>by omega,fun z l J id hn=>by omega⟩
  | succ n=>exact⟨one_step (ih n (by omega)).2,some_step fun m hm=>(ih m (by omega)).1⟩
end Go.Am
