/- Parts of the proof: an abstract machine for Go functions, and what functions of the program give back (Rj3, Rj5, Rj4, Rj6). No condition. -/
import Derived.Test.YthghjjancoopoaaDoorYO
import Derived.Test.YthghjjancoopoaaDoorYN
import Derived.Lib.AtoiAll
namespace Go.Am
set_option linter.all false
open Go Go.RowKit Go.Proofs
set_option maxRecDepth 100000
set_option linter.all false
theorem told_suf{s u:List UInt8}{c:UInt8}(h:pTold s=some (c,u)):∃w,s=w++u:=by
 unfold pTold at h
 split at h
 ·simp only[Option.some.injEq,Prod.mk.injEq] at h
  exact⟨s.take 1,by rw[←h.2,List.take_append_drop]⟩
 split at h
 ·unfold tHex at h
  split at h
  ·rename_i a b r hd
   split at h
   ·cases h
   ·simp only[Option.some.injEq,Prod.mk.injEq] at h
    refine⟨s.take 3++[a,b],?_⟩
    rw[←h.2,List.append_assoc]
    show s=s.take 3++(a::b::r)
    rw[←hd,List.take_append_drop]
  ·cases h
 ·unfold tOne at h
  split at h
  ·cases h
  ·simp only[Option.some.injEq,Prod.mk.injEq] at h
   exact⟨[c],by rw[h.1,h.2]; rfl⟩
def tRaw(c0:UInt8)(r:List UInt8):Option (UInt8×List UInt8):=if c0=92 then pTold r else some (c0,r)
def tStepC(c0:UInt8)(r:List UInt8):Option (UInt8×List UInt8):=match tRaw c0 r with
 | none=>none
 | some (c,u)=>if (c0::r).take ((c0::r).length - u.length)=qB c then some (c,u) else none
def tStep:List UInt8→Option (UInt8×List UInt8)
 | []=>none
 | c0::r=>tStepC c0 r
theorem raw_suf{c0 c:UInt8}{r u:List UInt8}(h:tRaw c0 r=some (c,u)):∃w,r=w++u:=by
 unfold tRaw at h
 split at h
 ·exact told_suf h
 ·simp only[Option.some.injEq,Prod.mk.injEq] at h
  exact⟨[],by rw[h.2]; rfl⟩
theorem tStep_eq{s u:List UInt8}{c:UInt8}(h:tStep s=some (c,u)):s=qB c++u:=by
 cases s with
 | nil=>cases h
 | cons c0 r =>
  have h:tStepC c0 r=some (c,u):=h
  unfold tStepC at h
  cases hr:tRaw c0 r with
  | none=>rw[hr] at h; cases h
  | some p =>
   obtain⟨c',u'⟩:=p
   rw[hr] at h
   simp only at h
   split at h
   ·rename_i hq
    simp only[Option.some.injEq,Prod.mk.injEq] at h
    obtain⟨rfl,rfl⟩:=h
    obtain⟨w,hw⟩:=raw_suf hr
    rw[←hq]
    have e:(c0::r)=(c0::w)++u':=by rw[hw]; rfl
    have hl:(c0::r).length - u'.length=(c0::w).length:=by rw[e,List.length_append]; omega
    rw[hl,e,List.take_left]
   ·cases h
def pTx:Nat→List UInt8→List UInt8→Option (List UInt8×List UInt8)
 | 0,_,_=>none
 | n+1,acc,s=>if cutB s [34]=true then some (acc,s.drop 1) else match tStep s with
  | none=>none
  | some (c,u)=>pTx n (acc++[c]) u
def pText(s:List UInt8):Option (List UInt8×List UInt8):=if cutB s [34]=true then pTx (s.length+1) [] (s.drop 1) else none
def strR(o:Option (List UInt8×List UInt8)):Option (AV×List UInt8):=o.map fun p=>(.str p.1,p.2)
theorem quoted_one(c:UInt8):(quoted [c]).length=(qB c).length+2∧((quoted [c]).take ((quoted [c]).length - 1)).drop 1=qB c:=by
 have e:quoted [c]=34::(qB c++[34]):=by simp[quoted,qL]
 rw[e]
 refine⟨by simp,?_⟩
 simp
set_option maxHeartbeats 8000000 in
theorem text_ok(z s:List UInt8)(J id:Nat)(h8:s.length≤1099511627776):FnE Tryd.prog 67 [.ptr J 0 0] [(J,bS z s)] id (rdR J z (strR (pText s))):=by
 have hN:=fun id=>need_ok z s [34] J id
 have hf:=fun id=>fail_ok id
 by_cases g0:cutB s [34]=true
 rotate_left
 ·have e:strR (pText s)=none:=by unfold pText; rw[if_neg g0]; rfl
  have e1:pNeed s [34]=none:=by unfold pNeed; rw[if_neg g0]
  rw[e1] at hN
  change ∀id,FnE _ _ _ _ _ (.error wv) at hN
  rw[bS_eq] at *
  refine fn_okE Tryd.func67 hcc67 (by decide) hcr67 (by simp[Tryd.ntmps67]) fun E hP hR hPn hl hid hB hu=>?_
  simp only[cr67] at hR
  refine w_go 4000 ?_
  simp[cc67]
  have hJ:=hl (J,_) (List.mem_cons_self ..)
  simp only at hJ
  have J1:=lf hJ
  refine w_callE hP rfl (hN _) (by simp[J1]) (by simp[J1]<;>rfl) (fun pv hpv=>⟨by simp[J1],by injection hpv with hpv; subst hpv; exact hPn _ _ (rdR_no e) rfl (by simp[J1])⟩) (fun v wr h=>by cases h)
 have e1:pNeed s [34]=some (.tup [],s.drop 1):=by unfold pNeed; rw[if_pos g0]; rfl
 have hN1:∀id,FnOk Tryd.prog 71 [.ptr J 0 0,.str [34]] [(J,bS z s)] id (.tup []) [(J,some (bS z (s.drop 1)))]:=fun id=>by
  have:=hN id
  rw[e1] at this; exact this
 have e0:pText s=pTx (s.length+1) [] (s.drop 1):=by unfold pText; rw[if_pos g0]
 rw[bS_eq,bS_eq] at hN1
 rw[bS_eq]
 refine fn_okE Tryd.func67 hcc67 (by decide) hcr67 (by simp[Tryd.ntmps67]) fun E hP hR hPn hl hid hB hu=>?_
 simp only[cr67] at hR
 refine w_go 4000 ?_
 simp[cc67]
 have hJ:=hl (J,_) (List.mem_cons_self ..)
 simp only at hJ
 have J1:=lf hJ
 (refine w_call hP rfl (hN1 _) (by simp[J1]) (by simp[J1]<;>rfl) ?_; refine w_go 4000 ?_; simp[J1])
 refine w_loop (X:=List UInt8×List UInt8×Nat) (fun q=>⟨[(0,true,.ptr J 0 0),(3,true,.bsl E.n0 0 q.1.length)],[(J,some (bS z q.2.1)),(E.n0,some ⟨eB q.1,.int .u8 0,false,false⟩)],1⟩)
  (fun q=>pTx q.2.2 q.1 q.2.1=pText s∧q.2.1.length+q.1.length≤s.length∧q.2.1.length<q.2.2) (fun q=>q.2.1.length) ([],s.drop 1,s.length+1) ?_ ⟨e0.symm,by simp,by simp; omega⟩ ?_
 ·refine Conv.trans (Conv.voidSlot 3 (x:=.nils) (y:=.bsl (E.n0+4096) 0 0) (by simp) .nils (.int .u8 0)) ?_
  have hi0:eB []=[]:=rfl
  have hrn:rnOk [(E.n0,E.n0+4096)]:=by simp[hi0,bS,J1]
  refine Conv.sub [(E.n0,E.n0+4096)] hrn ?_ ?_ ?_ ?_ ?_<;>(try simp[hi0,bS,J1])
 rintro⟨acc,t,n⟩ ⟨hx,hlen,hnt⟩ p hp
 simp only at hx hlen hnt
 have ht:=fun id=>try_ok z t [34] J id
 obtain⟨n,rfl⟩:=Nat.exists_eq_succ_of_ne_zero (show n≠0 by omega)
 have hq:=fun c id=>quoted_ok [c] id (by simp)
 rw[bS_eq]
 by_cases g1:cutB t [34]=true
 ·have e2:cutL t [34]=t.drop 1:=by unfold cutL; rw[if_pos g1]; rfl
  have e3:pText s=some (acc,t.drop 1):=by rw[←hx]; simp only[Nat.succ_eq_add_one,pTx]; rw[if_pos g1]
  have e:strR (pText s)=some (.str acc,t.drop 1):=by rw[e3]; rfl
  rw[g1,e2] at ht
  rw[bS_eq,bS_eq] at ht
  refine w_go 4000 ?_
  simp[J1]
  (refine w_call hP rfl (ht _) (by simp[J1]) (by simp[J1]<;>rfl) ?_; refine w_go 4000 ?_; simp[J1])
  refine⟨fun x hx=>by obtain⟨b,rfl⟩:=mem_eB hx; have:=b.toNat_lt; simp[isU8]; try omega,?_⟩
  rw[eB_toU8]
  have hrn:rnOk []:=by simp[bS,J1,idO hid]
  refine hR _ _ _ (rdR_ok e) ?_
  refine rt_end (by simp[bS,J1,idO hid]<;>rfl) [] hrn ⟨?_,?_,?_,?_,?_,?_⟩<;>(try simp[bS,J1,idO hid])
 have g1:cutB t [34]=false:=by simpa using g1
 have e2:cutL t [34]=t:=by unfold cutL; rw[if_neg (by simp[g1])]
 rw[g1,e2] at ht
 have hx:(match tStep t with
  | none=>none
  | some (c,u)=>pTx n (acc++[c]) u)=pText s:=by rw[←hx]; simp only[Nat.succ_eq_add_one,pTx]; rw[if_neg (by simp[g1])]
 rw[bS_eq] at ht
 cases t with
 | nil =>
  have e:strR (pText s)=none:=by rw[←hx]; rfl
  refine w_go 4000 ?_
  simp[J1]
  (refine w_call hP rfl (ht _) (by simp[J1]) (by simp[J1]<;>rfl) ?_; refine w_go 4000 ?_; simp[J1])
  refine w_callE hP rfl (hf _) (by simp[J1]) (by simp[J1]<;>rfl) (fun pv hpv=>⟨by simp[J1],by injection hpv with hpv; subst hpv; exact hPn _ _ (rdR_no e) rfl (by simp[J1])⟩) (fun v wr h=>by cases h)
 | cons c0 r =>
  have hS:tStep (c0::r)=tStepC c0 r:=rfl
  have hr8:r.length≤1099511627776:=by simp at hlen; omega
  rw[hS] at hx
  unfold tStepC at hx
  have hT:=fun id=>told_ok z r J id (by simp at hlen; omega)
  by_cases g2:c0=92
  ·have hr0:tRaw c0 r=pTold r:=by unfold tRaw; rw[if_pos g2]
   rw[hr0] at hx
   have hg:((c0.toNat:Int)==92)=true:=by rw[g2]; rfl
   cases htd:pTold r with
   | none =>
    rw[htd] at hx hT
    have hT:∀id,FnE Tryd.prog 96 [.ptr J 0 0] [(J,bS z r)] id (.error wv):=hT
    have e:strR (pText s)=none:=by rw[←hx]; rfl
    rw[bS_eq] at hT
    refine w_go 4000 ?_
    simp[J1]
    (refine w_call hP rfl (ht _) (by simp[J1]) (by simp[J1]<;>rfl) ?_; refine w_go 4000 ?_; simp[J1])
    refine⟨by omega,?_⟩
    refine goc_true hg ?_
    simp[J1]
    refine w_callE hP rfl (hT _) (by simp[J1]) (by simp[J1]<;>rfl) (fun pv hpv=>⟨by simp[J1],by injection hpv with hpv; subst hpv; exact hPn _ _ (rdR_no e) rfl (by simp[J1])⟩) (fun v wr h=>by cases h)
   | some p0 =>
   obtain⟨c,u⟩:=p0
   rw[htd] at hx hT
   simp only at hx
   obtain⟨w,hw⟩:=told_suf htd
   have hul0:u.length≤r.length:=by rw[hw]; simp
   have hT:∀id,FnOk Tryd.prog 96 [.ptr J 0 0] [(J,bS z r)] id (.int .u8 c.toNat) [(J,some (bS z u))]:=hT
   rw[bS_eq,bS_eq] at hT
   refine w_go 4000 ?_
   simp[J1]
   (refine w_call hP rfl (ht _) (by simp[J1]) (by simp[J1]<;>rfl) ?_; refine w_go 4000 ?_; simp[J1])
   refine⟨by omega,?_⟩
   refine goc_true hg ?_
   simp[J1]
   (refine w_call hP rfl (hT _) (by simp[J1]) (by simp[J1]<;>rfl) ?_; refine w_go 4000 ?_; simp[J1])
   refine⟨by omega,by have:=c.toNat_lt; simp[isU8]; try omega,?_⟩
   obtain⟨q1,q2⟩:=quoted_one c
   have hqb:=qB_len c
   have hw2:IntKind.i64.wrap (((quoted [c]).length:Int) - 1)=(((quoted [c]).length - 1:Nat):Int):=by rw[wrap64 (by omega)]; omega
   have hw1:IntKind.i64.wrap (((r.length:Nat):Int)+1 - (u.length:Int))=((r.length+1 - u.length:Nat):Int):=by rw[wrap64 (by omega)]; omega
   have hz1:(List.take ((quoted [c]).length - 1) (quoted [c])).tail=qB c:=by rw[←q2]; simp
   (refine w_call hP rfl (hq c _) (by simp[J1]) (by simp[J1]<;>rfl) ?_; refine w_go 4000 ?_; simp[J1])
   refine⟨by rw[hw1]; omega,⟨by rw[hw2]; omega,by rw[hw2]; omega⟩,?_⟩
   rw[hw1,hw2]
   simp only[Int.toNat_natCast]
   rw[hz1]
   by_cases hc:List.take (r.length+1 - u.length) (c0::r)=qB c
   ·rw[if_pos (show List.take ((c0::r).length - u.length) (c0::r)=qB c from hc)] at hx
    have hul:u.length+(qB c).length=r.length+1:=by
     have:=congrArg List.length hc
     rw[List.length_take,List.length_cons] at this
     omega
    refine goc_false (by rw[hc]; simp) ?_
    simp[J1]
    refine hp _ (acc++[c],u,n) ⟨hx,by simp at hlen ⊢; omega,by simp at hnt ⊢; omega⟩ (by simp; try omega) ?_
    have hex:eB (acc++[c])=eB acc++[.int .u8 c.toNat]:=by rw[eB_append]; rfl
    have hrn:rnOk [(E.n0,E.n0+36865)]:=by simp[hex,bS,J1]
    refine Conv.sub [(E.n0,E.n0+36865)] hrn ?_ ?_ ?_ ?_ ?_<;>(try simp[hex,bS,J1])
    exact ren_app (by rfl)
   ·rw[if_neg (show ¬List.take ((c0::r).length - u.length) (c0::r)=qB c from hc)] at hx
    have e:strR (pText s)=none:=by rw[←hx]; rfl
    refine goc_true (by simp only[Bool.not_eq_true',beq_eq_false_iff_ne]; exact hc) ?_
    simp[J1]
    refine w_callE hP rfl (hf _) (by simp[J1]) (by simp[J1]<;>rfl) (fun pv hpv=>⟨by simp[J1],by injection hpv with hpv; subst hpv; exact hPn _ _ (rdR_no e) rfl (by simp[J1])⟩) (fun v wr h=>by cases h)
  ·have hr:tRaw c0 r=some (c0,r):=by unfold tRaw; rw[if_neg g2]
   rw[hr] at hx
   simp only at hx
   refine w_go 4000 ?_
   simp[J1]
   (refine w_call hP rfl (ht _) (by simp[J1]) (by simp[J1]<;>rfl) ?_; refine w_go 4000 ?_; simp[J1])
   refine⟨by omega,?_⟩
   refine goc_false (by simp; intro h; exact g2 (UInt8.toNat_inj.1 (by simpa using Int.ofNat_inj.1 h))) ?_
   simp[J1]
   refine⟨by omega,by have:=c0.toNat_lt; simp[isU8]; try omega,?_⟩
   obtain⟨q1,q2⟩:=quoted_one c0
   have hqb:=qB_len c0
   have hw2:IntKind.i64.wrap (((quoted [c0]).length:Int) - 1)=(((quoted [c0]).length - 1:Nat):Int):=by rw[wrap64 (by omega)]; omega
   have hw1:IntKind.i64.wrap (((r.length:Nat):Int)+1 - (r.length:Int))=((r.length+1 - r.length:Nat):Int):=by rw[wrap64 (by omega)]; omega
   have hz1:(List.take ((quoted [c0]).length - 1) (quoted [c0])).tail=qB c0:=by rw[←q2]; simp
   (refine w_call hP rfl (hq c0 _) (by simp[J1]) (by simp[J1]<;>rfl) ?_; refine w_go 4000 ?_; simp[J1])
   refine⟨by rw[hw1]; omega,⟨by rw[hw2]; omega,by rw[hw2]; omega⟩,?_⟩
   rw[hw1,hw2]
   simp only[Int.toNat_natCast]
   rw[hz1]
   by_cases hc:List.take (r.length+1 - r.length) (c0::r)=qB c0
   ·rw[if_pos (show List.take ((c0::r).length - r.length) (c0::r)=qB c0 from hc)] at hx
    have hul:r.length+(qB c0).length=r.length+1:=by
     have:=congrArg List.length hc
     rw[List.length_take,List.length_cons] at this
     omega
    refine goc_false (by rw[hc]; simp) ?_
    simp[J1]
    refine hp _ (acc++[c0],r,n) ⟨hx,by simp at hlen ⊢; omega,by simp at hnt ⊢; omega⟩ (by simp; try omega) ?_
    have hex:eB (acc++[c0])=eB acc++[.int .u8 c0.toNat]:=by rw[eB_append]; rfl
    have hrn:rnOk [(E.n0,E.n0+33793)]:=by simp[hex,bS,J1]
    refine Conv.sub [(E.n0,E.n0+33793)] hrn ?_ ?_ ?_ ?_ ?_<;>(try simp[hex,bS,J1])
    exact ren_app (by rfl)
   ·rw[if_neg (show ¬List.take ((c0::r).length - r.length) (c0::r)=qB c0 from hc)] at hx
    have e:strR (pText s)=none:=by rw[←hx]; rfl
    refine goc_true (by simp only[Bool.not_eq_true',beq_eq_false_iff_ne]; exact hc) ?_
    simp[J1]
    refine w_callE hP rfl (hf _) (by simp[J1]) (by simp[J1]<;>rfl) (fun pv hpv=>⟨by simp[J1],by injection hpv with hpv; subst hpv; exact hPn _ _ (rdR_no e) rfl (by simp[J1])⟩) (fun v wr h=>by cases h)
end Go.Am
namespace Go.Am
set_option linter.all false
open Go Go.RowKit Go.Proofs
set_option maxRecDepth 100000
set_option linter.all false
def numB(c:UInt8):Bool:=dgB c||c==45
def pNum(s:List UInt8):Option (Int×List UInt8):=match Lib.atoiAll (s.takeWhile numB) with
 | .ok n=>if Lib.itoa n=s.takeWhile numB∧-999999999≤n∧n≤999999999 then some (n,s.drop (s.takeWhile numB).length) else none
 | _=>none
def pComma(first:Bool)(s:List UInt8):Option (List UInt8):=if first=true then some s else if cutB s [44]=true then some (s.drop 1) else none
mutual
def pOut:Nat→List UInt8→Option (Out×List UInt8)
 | 0,_=>none
 | n+1,s=>if cutB s [110,117,108,108]=true then some (oNone,s.drop 4)
  else if cutB s [34]=true then (pText s).map fun p=>(oText p.1,p.2)
  else if cutB s [91]=true then (pItems n true [] (s.drop 1)).map fun p=>(oList p.1,p.2)
  else if cutB s [123]=true then (pPairs n true [] [] (s.drop 1)).map fun p=>(oMap p.1 p.2.1,p.2.2)
  else (pNum s).map fun p=>(oNum p.1,p.2)
def pItems:Nat→Bool→List Out→List UInt8→Option (List Out×List UInt8)
 | 0,_,_,_=>none
 | n+1,first,l,s=>if cutB s [93]=true then some (l,s.drop 1) else match pComma first s with
  | none=>none
  | some t=>match pOut n t with
   | none=>none
   | some (o,u)=>pItems n false (l++[o]) u
def pPairs:Nat→Bool→List (List UInt8)→List Out→List UInt8→Option (List (List UInt8)×List Out×List UInt8)
 | 0,_,_,_,_=>none
 | n+1,first,ks,l,s=>if cutB s [125]=true then some (ks,l,s.drop 1) else match pComma first s with
  | none=>none
  | some t=>match pText t with
   | none=>none
   | some (k,u)=>if cutB u [58]=true then match pOut n (u.drop 1) with
     | none=>none
     | some (o,v)=>pPairs n false (ks++[k]) (l++[o]) v
    else none
end
end Go.Am
namespace Go.Am
set_option linter.all false
open Go Go.RowKit Go.Proofs
set_option maxRecDepth 100000
set_option linter.all false
def numR(o:Option (Int×List UInt8)):Option (AV×List UInt8):=o.map fun p=>(.int .i64 p.1,p.2)
theorem tw_len(s:List UInt8):(s.takeWhile numB).length≤s.length:=(List.takeWhile_prefix _).length_le
theorem tw_take(s:List UInt8):s.take (s.takeWhile numB).length=s.takeWhile numB:=(List.prefix_iff_eq_take.1 (List.takeWhile_prefix _)).symm
theorem tw_stop{s:List UInt8}{i:Nat}(hi:i≤s.length)(h:∀c∈s.take i,numB c=true)(hs:∀c,s[i]?=some c→numB c=false):s.takeWhile numB=s.take i:=by
 conv=>lhs; rw[←List.take_append_drop i s]
 rw[List.takeWhile_append_of_pos h]
 cases hd:s.drop i with
 | nil=>simp
 | cons c r =>
  have:s[i]?=some c:=by
   have:=congrArg (fun l=>l[0]?) hd
   simpa using this
  rw[List.takeWhile_cons_of_neg (by simp[hs c this])]; simp
theorem numB_eq(c:UInt8):((decide ((48:Int)≤(c.toNat:Int))&&decide ((c.toNat:Int)≤57))||(c.toNat:Int)==45)=numB c:=by
 unfold numB dgB
 congr 1
 ·rw[Bool.eq_iff_iff]; simp; omega
 ·rw[Bool.eq_iff_iff,beq_iff_eq,beq_iff_eq,←UInt8.toNat_inj]
  show (c.toNat:Int)=45↔c.toNat=45
  omega
theorem num_bad{a b:List UInt8}{n:Int}(hg:¬(a=b∧-999999999≤n∧n≤999999999)):(!a==b||(!decide (-999999999≤n)||!decide (n≤999999999)))=true:=by
 by_cases h1:a=b
 ·have h2:¬(-999999999≤n∧n≤999999999):=fun h=>hg ⟨h1,h⟩
  simp
  omega
 ·simp[h1]
set_option maxHeartbeats 8000000 in
theorem number_ok(z s:List UInt8)(J id:Nat)(h8:s.length≤1099511627776):FnE Tryd.prog 72 [.ptr J 0 0] [(J,bS z s)] id (rdR J z (numR (pNum s))):=by
 have hf:=fun id=>fail_ok id
 have hk0:=tw_len s
 have ht0:=tw_take s
 rw[bS_eq]
 refine fn_okE Tryd.func72 hcc72 (by decide) hcr72 (by simp[Tryd.ntmps72]) fun E hP hR hPn hl hid hB hu=>?_
 simp only[cr72] at hR
 refine w_go 4000 ?_
 simp[cc72]
 have hJ:=hl (J,_) (List.mem_cons_self ..)
 simp only at hJ
 have J1:=lf hJ
 refine w_loop (X:=Nat) (fun i=>⟨[(0,true,.ptr J 0 0),(3,true,.int .i64 i)],[(J,some (bS z s))],0⟩)
  (fun i=>i≤s.length∧∀c∈s.take i,numB c=true) (fun i=>s.length - i) 0 ?_ ⟨by omega,by simp⟩ ?_
 ·have hrn:rnOk []:=by simp[bS,J1]
  refine Conv.sub [] hrn ?_ ?_ ?_ ?_ ?_<;>(try simp[bS,J1])
 rintro i ⟨hi,hall⟩ p hp
 rw[bS_eq]
 rcases Nat.lt_or_ge i s.length with h|h
 ·obtain⟨c,hc,hd⟩:=drop_cons h
  have hi1:IntKind.i64.wrap ((i:Int)+1)=((i+1:Nat):Int):=wrap64 (by omega)
  have hci:s[i]=c:=by
   rw[List.getElem?_eq_getElem h] at hc
   injection hc
  have hin:(48≤(c.toNat:Int)→57<(c.toNat:Int))→(c.toNat:Int)<48∨57<(c.toNat:Int):=by omega
  refine w_go 4000 ?_
  simp[h,hci,numB_eq,J1]
  refine⟨hin,?_⟩
  by_cases hnb:numB c=true
  ·refine goc_true hnb ?_
   simp
   refine hp _ (i+1) ⟨h,fun x hx=>?_⟩ (by omega) ?_
   ·rw[take_snoc hc] at hx
    rcases List.mem_append.1 hx with hx|hx
    ·exact hall x hx
    ·obtain rfl:=List.mem_singleton.1 hx; exact hnb
   ·have hrn:rnOk []:=by simp[bS,hi1,J1]
    refine Conv.sub [] hrn ?_ ?_ ?_ ?_ ?_<;>(try simp[bS,hi1,J1])
  have hnb:numB c=false:=by simpa using hnb
  have hst:=tw_stop hi hall fun d hd=>by rw[hc] at hd; injection hd with hd; rw[←hd]; exact hnb
  refine goc_false hnb ?_
  simp[J1]
  refine⟨by omega,?_⟩
  have hN:pNum s=match Lib.atoiAll (s.take i) with
   | .ok n=>if Lib.itoa n=s.take i∧-999999999≤n∧n≤999999999 then some (n,s.drop i) else none
   | _=>none:=by
   unfold pNum
   rw[hst,List.length_take,Nat.min_eq_left hi]
   all_goals rfl
  have htl:(s.take i).length≤281474976710656:=by rw[List.length_take]; omega
  rcases hat:Lib.atoiAll (s.take i) with n|_|_
  ·skip
   rw[hat] at hN
   simp only at hN
   have hAt:=fun id=>Atoi_ok (s.take i) n id htl hat
   have hb:=Lib.atoiAll_bounds hat
   have hI:=fun id=>Itoa_ok n id (by unfold I64; omega)
   have hL:=fun id=>lexInt_ok n id
   (refine w_call hP rfl (hAt _) (by simp[J1]) (by simp[J1]<;>rfl) ?_; refine w_go 4000 ?_; simp[J1])
   (refine w_callg hP (by simp[J1]) rfl (fun hc=>⟨hI _,by revert hc; simp[J1]; try grind,by simp[J1]⟩) ?_; refine w_go 4000 ?_; simp[J1])
   refine⟨hi,?_⟩
   (refine w_callg hP (by simp[J1]) rfl (fun hc=>⟨hL _,by revert hc; simp[J1]; try grind,by simp[J1]⟩) ?_; refine w_go 4000 ?_; simp[J1])
   by_cases hg:Lib.itoa n=s.take i∧-999999999≤n∧n≤999999999
   ·have e:numR (pNum s)=some (.int .i64 n,s.drop i):=by rw[hN,if_pos hg]; rfl
    refine goc_false (by simp[hg.1,hg.2.1,hg.2.2]) ?_
    simp[J1]
    refine⟨by omega,?_⟩
    have hrn:rnOk []:=by simp[bS,J1,idO hid]
    refine hR _ _ _ (rdR_ok e) ?_
    refine rt_end (by simp[bS,J1,idO hid]<;>rfl) [] hrn ⟨?_,?_,?_,?_,?_,?_⟩<;>(try simp[bS,J1,idO hid])
   ·have e:numR (pNum s)=none:=by rw[hN,if_neg hg]; rfl
    refine goc_true (num_bad hg) ?_
    simp[J1]
    refine w_callE hP rfl (hf _) (by simp[J1]) (by simp[J1]<;>rfl) (fun pv hpv=>⟨by simp[J1],by injection hpv with hpv; subst hpv; exact hPn _ _ (rdR_no e) rfl (by simp[J1])⟩) (fun v wr h=>by cases h)
  ·skip
   have e:numR (pNum s)=none:=by rw[hN,hat]; rfl
   have hAt:=fun id=>Atoi_syn (s.take i) id htl hat (fun n h=>by cases h) (fun h=>by cases h)
   have hI:=fun id=>Itoa_ok 0 id (by unfold I64; omega)
   have hL:=fun id=>lexInt_ok 0 id
   unfold numErr at hAt
   (refine w_call hP rfl (hAt _) (by simp[J1]) (by simp[J1]<;>rfl) ?_; refine w_go 4000 ?_; simp[J1])
   (refine w_callg hP (by simp[J1]) rfl (fun hc=>⟨hI _,by revert hc; simp[J1]; try grind,by simp[J1]⟩) ?_; refine w_go 4000 ?_; simp[J1])
   (refine w_callg hP (by simp[J1]) rfl (fun hc=>⟨hL _,by revert hc; simp[J1]; try grind,by simp[J1]⟩) ?_; refine w_go 4000 ?_; simp[J1])
   refine w_callE hP rfl (hf _) (by simp[J1]) (by simp[J1]<;>rfl) (fun pv hpv=>⟨by simp[J1],by injection hpv with hpv; subst hpv; exact hPn _ _ (rdR_no e) rfl (by simp[J1])⟩) (fun v wr h=>by cases h)
  ·skip
   have e:numR (pNum s)=none:=by rw[hN,hat]; rfl
   have hAt:=fun id=>Atoi_rng (s.take i) id htl hat
   have hb:=Lib.atoiSat_bounds (s.take i)
   generalize Lib.atoiSat (s.take i)=q at hAt hb
   have hI:=fun id=>Itoa_ok q id (by unfold I64; omega)
   have hL:=fun id=>lexInt_ok q id
   unfold numErr at hAt
   (refine w_call hP rfl (hAt _) (by simp[J1]) (by simp[J1]<;>rfl) ?_; refine w_go 4000 ?_; simp[J1])
   (refine w_callg hP (by simp[J1]) rfl (fun hc=>⟨hI _,by revert hc; simp[J1]; try grind,by simp[J1]⟩) ?_; refine w_go 4000 ?_; simp[J1])
   (refine w_callg hP (by simp[J1]) rfl (fun hc=>⟨hL _,by revert hc; simp[J1]; try grind,by simp[J1]⟩) ?_; refine w_go 4000 ?_; simp[J1])
   refine w_callE hP rfl (hf _) (by simp[J1]) (by simp[J1]<;>rfl) (fun pv hpv=>⟨by simp[J1],by injection hpv with hpv; subst hpv; exact hPn _ _ (rdR_no e) rfl (by simp[J1])⟩) (fun v wr h=>by cases h)
 ·have hst:=tw_stop hi hall fun d hd=>by rw[List.getElem?_eq_none (by omega)] at hd; cases hd
  refine w_go 4000 ?_
  simp[h,Nat.not_lt.2 h,J1]
  refine⟨by omega,?_⟩
  have hN:pNum s=match Lib.atoiAll (s.take i) with
   | .ok n=>if Lib.itoa n=s.take i∧-999999999≤n∧n≤999999999 then some (n,s.drop i) else none
   | _=>none:=by
   unfold pNum
   rw[hst,List.length_take,Nat.min_eq_left hi]
   all_goals rfl
  have htl:(s.take i).length≤281474976710656:=by rw[List.length_take]; omega
  rcases hat:Lib.atoiAll (s.take i) with n|_|_
  ·skip
   rw[hat] at hN
   simp only at hN
   have hAt:=fun id=>Atoi_ok (s.take i) n id htl hat
   have hb:=Lib.atoiAll_bounds hat
   have hI:=fun id=>Itoa_ok n id (by unfold I64; omega)
   have hL:=fun id=>lexInt_ok n id
   (refine w_call hP rfl (hAt _) (by simp[J1]) (by simp[J1]<;>rfl) ?_; refine w_go 4000 ?_; simp[J1])
   (refine w_callg hP (by simp[J1]) rfl (fun hc=>⟨hI _,by revert hc; simp[J1]; try grind,by simp[J1]⟩) ?_; refine w_go 4000 ?_; simp[J1])
   refine⟨hi,?_⟩
   (refine w_callg hP (by simp[J1]) rfl (fun hc=>⟨hL _,by revert hc; simp[J1]; try grind,by simp[J1]⟩) ?_; refine w_go 4000 ?_; simp[J1])
   by_cases hg:Lib.itoa n=s.take i∧-999999999≤n∧n≤999999999
   ·have e:numR (pNum s)=some (.int .i64 n,s.drop i):=by rw[hN,if_pos hg]; rfl
    refine goc_false (by simp[hg.1,hg.2.1,hg.2.2]) ?_
    simp[J1]
    refine⟨by omega,?_⟩
    have hrn:rnOk []:=by simp[bS,J1,idO hid]
    refine hR _ _ _ (rdR_ok e) ?_
    refine rt_end (by simp[bS,J1,idO hid]<;>rfl) [] hrn ⟨?_,?_,?_,?_,?_,?_⟩<;>(try simp[bS,J1,idO hid])
   ·have e:numR (pNum s)=none:=by rw[hN,if_neg hg]; rfl
    refine goc_true (num_bad hg) ?_
    simp[J1]
    refine w_callE hP rfl (hf _) (by simp[J1]) (by simp[J1]<;>rfl) (fun pv hpv=>⟨by simp[J1],by injection hpv with hpv; subst hpv; exact hPn _ _ (rdR_no e) rfl (by simp[J1])⟩) (fun v wr h=>by cases h)
  ·skip
   have e:numR (pNum s)=none:=by rw[hN,hat]; rfl
   have hAt:=fun id=>Atoi_syn (s.take i) id htl hat (fun n h=>by cases h) (fun h=>by cases h)
   have hI:=fun id=>Itoa_ok 0 id (by unfold I64; omega)
   have hL:=fun id=>lexInt_ok 0 id
   unfold numErr at hAt
   (refine w_call hP rfl (hAt _) (by simp[J1]) (by simp[J1]<;>rfl) ?_; refine w_go 4000 ?_; simp[J1])
   (refine w_callg hP (by simp[J1]) rfl (fun hc=>⟨hI _,by revert hc; simp[J1]; try grind,by simp[J1]⟩) ?_; refine w_go 4000 ?_; simp[J1])
   (refine w_callg hP (by simp[J1]) rfl (fun hc=>⟨hL _,by revert hc; simp[J1]; try grind,by simp[J1]⟩) ?_; refine w_go 4000 ?_; simp[J1])
   refine w_callE hP rfl (hf _) (by simp[J1]) (by simp[J1]<;>rfl) (fun pv hpv=>⟨by simp[J1],by injection hpv with hpv; subst hpv; exact hPn _ _ (rdR_no e) rfl (by simp[J1])⟩) (fun v wr h=>by cases h)
  ·skip
   have e:numR (pNum s)=none:=by rw[hN,hat]; rfl
   have hAt:=fun id=>Atoi_rng (s.take i) id htl hat
   have hb:=Lib.atoiSat_bounds (s.take i)
   generalize Lib.atoiSat (s.take i)=q at hAt hb
   have hI:=fun id=>Itoa_ok q id (by unfold I64; omega)
   have hL:=fun id=>lexInt_ok q id
   unfold numErr at hAt
   (refine w_call hP rfl (hAt _) (by simp[J1]) (by simp[J1]<;>rfl) ?_; refine w_go 4000 ?_; simp[J1])
   (refine w_callg hP (by simp[J1]) rfl (fun hc=>⟨hI _,by revert hc; simp[J1]; try grind,by simp[J1]⟩) ?_; refine w_go 4000 ?_; simp[J1])
   (refine w_callg hP (by simp[J1]) rfl (fun hc=>⟨hL _,by revert hc; simp[J1]; try grind,by simp[J1]⟩) ?_; refine w_go 4000 ?_; simp[J1])
   refine w_callE hP rfl (hf _) (by simp[J1]) (by simp[J1]<;>rfl) (fun pv hpv=>⟨by simp[J1],by injection hpv with hpv; subst hpv; exact hPn _ _ (rdR_no e) rfl (by simp[J1])⟩) (fun v wr h=>by cases h)
end Go.Am
namespace Go.Am
set_option linter.all false
open Go Go.RowKit Go.Proofs
set_option maxRecDepth 100000
set_option linter.all false
theorem val_ge:∀(l:List UInt8) (acc:Nat),acc≤l.foldl (fun a c=>10*a+(c.toNat - 48)) acc
 | [],acc=>Nat.le_refl _
 | c::r,acc=>Nat.le_trans (by omega) (val_ge r (10*acc+(c.toNat - 48)))
theorem pU_ok:∀(l:List UInt8) (acc:Nat),(∀c∈l,dgB c=true)→l.foldl (fun a c=>10*a+(c.toNat - 48)) acc<1844674407370955162→Lib.parseUint10 acc l = .ok (l.foldl (fun a c=>10*a+(c.toNat - 48)) acc)
 | [],acc,_,_=>rfl
 | c::r,acc,hd,hv=>by
  have hc:48≤c.toNat∧c.toNat≤57:=by simpa [dgB] using hd c (List.mem_cons_self ..)
  have hm:=val_ge r (10*acc+(c.toNat - 48))
  simp only[List.foldl_cons] at hv ⊢
  have e:acc*10+(c.toNat - 48)=10*acc+(c.toNat - 48):=by omega
  simp only[Lib.parseUint10]
  rw[if_pos hc,if_neg (by omega),if_neg (by omega),e]
  exact pU_ok r _ (fun x hx=>hd x (List.mem_cons_of_mem _ hx)) hv
theorem decD_ne(u:Nat):Lib.decDigits u≠[]:=fun hd=>by
 have:=congrArg List.length hd
 rw[Lib.decDigits] at this
 split at this<;>simp at this
theorem mag_dec{u:Nat}(hu:u≤999999999):Lib.parseMag (Lib.decDigits u) = .ok u:=by
 have hv:=decD_val u
 have hd:=decD_dg u
 unfold Lib.parseMag
 rw[if_neg (decD_ne u)]
 unfold valD at hv
 rw[pU_ok _ _ hd (by omega),hv]
theorem atoi_itoa{n:Int}(h : -999999999≤n∧n≤999999999):Lib.atoiAll (Lib.itoa n) = .ok n:=by
 unfold Lib.itoa
 split
 ·rename_i hn
  have h1:=mag_dec (u:=n.natAbs) (by omega)
  simp only[Lib.atoiAll]
  rw[if_pos (.inr (by decide)),h1]
  simp only
  rw[if_neg (by rintro⟨h,_⟩; exact h (by decide)),if_neg (by rintro⟨_,h⟩; omega),if_pos (by decide)]
  congr 1
  omega
 ·cases hd:Lib.decDigits n.toNat with
  | nil=>exact (decD_ne _ hd).elim
  | cons c r =>
   have hc:=decD_dg n.toNat c (by rw[hd]; exact List.mem_cons_self ..)
   have hc:48≤c.toNat∧c.toNat≤57:=by simpa [dgB] using hc
   have h1:=mag_dec (u:=n.toNat) (by omega)
   rw[hd] at h1
   simp only[Lib.atoiAll]
   rw[if_neg (by omega),h1]
   simp only
   rw[if_neg (by omega),if_neg (by omega),if_neg (by omega)]
   congr 1
   omega
def noNm(x:List UInt8):Prop:=∀c r,x=c::r→numB c=false
theorem noNm_cons{c:UInt8}{r:List UInt8}(h:numB c=false):noNm (c::r):=fun d s e=>by
 simp only[List.cons.injEq] at e
 rw[←e.1]; exact h
theorem noNm_nil:noNm []:=fun c r e=>by cases e
theorem itoa_nm(n:Int):∀c∈Lib.itoa n,numB c=true:=by
 unfold Lib.itoa
 split
 ·intro c hc
  rcases List.mem_cons.1 hc with rfl|hc
  ·rfl
  ·unfold numB; rw[decD_dg _ c hc]; rfl
 ·intro c hc
  unfold numB; rw[decD_dg _ c hc]; rfl
theorem take_nm{a x:List UInt8}(ha:∀c∈a,numB c=true)(hx:noNm x):(a++x).takeWhile numB=a:=by
 rw[List.takeWhile_append_of_pos ha]
 cases x with
 | nil=>simp
 | cons c r=>rw[List.takeWhile_cons_of_neg (by simp[hx c r rfl])]; simp
theorem pNum_itoa{n:Int}{x:List UInt8}(h : -999999999≤n∧n≤999999999)(hx:noNm x):pNum (Lib.itoa n++x)=some (n,x):=by
 unfold pNum
 rw[take_nm (itoa_nm n) hx,atoi_itoa h]
 simp only
 rw[if_pos ⟨trivial,h⟩,List.drop_left]
theorem pNum_eq{s u:List UInt8}{n:Int}(h:pNum s=some (n,u)):s=Lib.itoa n++u:=by
 unfold pNum at h
 split at h
 ·split at h
  ·rename_i h1
   simp only[Option.some.injEq,Prod.mk.injEq] at h
   obtain⟨rfl,rfl⟩:=h
   rw[h1.1]
   have h2:s.takeWhile numB <+: s:=List.takeWhile_prefix _
   obtain⟨t,ht⟩:=h2
   generalize s.takeWhile numB=a at ht
   subst ht
   rw[List.drop_left]
  ·cases h
 ·cases h
theorem cut_eq{s w:List UInt8}(h:cutB s w=true):s=w++s.drop w.length:=by
 have h1:=(cutB_iff s w).1 h
 conv=>lhs; rw[←List.take_append_drop w.length s,h1.2]
theorem cut_app(w u:List UInt8):cutB (w++u) w=true:=by
 rw[cutB_iff]
 simp
theorem cut_ne{c d:UInt8}{r w:List UInt8}(h:c≠d):cutB (c::r) (d::w)=false:=by
 show (d==c&&w.isPrefixOf r)=false
 rw[beq_eq_false_iff_ne.2 (Ne.symm h)]
 rfl
theorem cut_one(c:UInt8)(r:List UInt8):cutB (c::r) [c]=true:=cut_app [c] r
theorem stepC_of{c0 c:UInt8}{r u:List UInt8}(h:tRaw c0 r=some (c,u))(e:c0::r=qB c++u):tStepC c0 r=some (c,u):=by
 unfold tStepC
 rw[h]
 simp only
 have hl:(c0::r).length - u.length=(qB c).length:=by rw[e,List.length_append]; omega
 rw[hl,e,List.take_left,if_pos rfl]
theorem hexN_q:∀n:Fin 32,hexN (hexD (n.val / 16)) (hexD (n.val % 16))=(n.val:Int):=by decide
theorem tStep_q(c:UInt8)(u:List UInt8):tStep (qB c++u)=some (c,u):=by
 unfold qB
 split
 ·rename_i h
  refine stepC_of (r:=c::u) ?_ (by unfold qB; rw[if_pos h]; rfl)
  unfold tRaw
  rw[if_pos rfl]
  unfold pTold
  rw[if_neg (by rw[cut_ne (by rintro rfl; revert h; decide)]; simp),if_neg (by rw[cut_ne (by rintro rfl; revert h; decide)]; simp)]
  rfl
 rename_i h1
 split
 ·rename_i h
  subst h
  exact stepC_of (c:=10) (r:=110::u) rfl rfl
 rename_i h2
 split
 ·rename_i h
  have e:qB c=[92,117,48,48,hexD (c.toNat / 16),hexD (c.toNat % 16)]:=by unfold qB; rw[if_neg h1,if_neg h2,if_pos h]
  refine stepC_of (r:=117::48::48::hexD (c.toNat / 16)::hexD (c.toNat % 16)::u) ?_ (by rw[e]; rfl)
  unfold tRaw
  rw[if_pos rfl]
  unfold pTold
  rw[if_neg (by rw[cut_ne (by decide)]; simp),if_pos (show cutB (117::48::48::hexD (c.toNat / 16)::hexD (c.toNat % 16)::u) [117,48,48]=true from cut_app [117,48,48] _)]
  show tHex (hexD (c.toNat / 16)::hexD (c.toNat % 16)::u)=_
  have hx:hexN (hexD (c.toNat / 16)) (hexD (c.toNat % 16))=(c.toNat:Int):=hexN_q ⟨c.toNat,h⟩
  show (if hexN (hexD (c.toNat / 16)) (hexD (c.toNat % 16))<0 then none else some (UInt8.ofNat (hexN (hexD (c.toNat / 16)) (hexD (c.toNat % 16))).toNat,u))=some (c,u)
  rw[hx,if_neg (by omega)]
  simp
 ·rename_i h3
  refine stepC_of (r:=u) ?_ (by unfold qB; rw[if_neg h1,if_neg h2,if_neg h3]; rfl)
  unfold tRaw
  rw[if_neg fun h=>h1 (.inr h)]
theorem qB_cut(c:UInt8)(u:List UInt8):cutB (qB c++u) [34]=false:=by
 obtain⟨d,r,h1,h2⟩:=qB_head c
 rw[h1]
 exact cut_ne h2
theorem pTx_q:∀(t:List UInt8) (n:Nat) (acc u:List UInt8),t.length<n→pTx n acc (qL t++34::u)=some (acc++t,u)
 | t,0,acc,u,h=>by omega
 | [],n+1,acc,u,h=>by
  simp only[pTx,qL,List.flatMap_nil,List.nil_append]
  rw[if_pos (cut_one _ _)]
  simp
 | c::t,n+1,acc,u,h=>by
  have e:qL (c::t)++34::u=qB c++(qL t++34::u):=by simp[qL]
  rw[e]
  simp only[pTx]
  rw[if_neg (by rw[qB_cut]; simp),tStep_q]
  simp only
  rw[pTx_q t n _ u (by simp at h; omega)]
  simp
theorem pText_q(t u:List UInt8):pText (quoted t++u)=some (t,u):=by
 have e:quoted t++u=34::(qL t++34::u):=by simp[quoted]
 have hl:=qL_len t
 unfold pText
 rw[e,if_pos (cut_one _ _)]
 show pTx _ [] (qL t++34::u)=_
 rw[pTx_q t _ [] u (by simp; omega)]
 rfl
theorem pTx_eq:∀(n:Nat) (acc s t u:List UInt8),pTx n acc s=some (t,u)→∃t',t=acc++t'∧s=qL t'++34::u
 | 0,acc,s,t,u,h=>by cases h
 | n+1,acc,s,t,u,h=>by
  simp only[pTx] at h
  split at h
  ·rename_i h1
   simp only[Option.some.injEq,Prod.mk.injEq] at h
   obtain⟨rfl,rfl⟩:=h
   exact⟨[],by simp,by simpa [qL] using cut_eq h1⟩
  ·split at h
   ·cases h
   ·rename_i c v hs
    obtain⟨t',h1,h2⟩:=pTx_eq n _ _ _ _ h
    refine⟨c::t',by rw[h1]; simp,?_⟩
    rw[tStep_eq hs,h2]
    simp[qL]
theorem pText_eq{s t u:List UInt8}(h:pText s=some (t,u)):s=quoted t++u:=by
 unfold pText at h
 split at h
 ·rename_i h1
  obtain⟨t',h2,h3⟩:=pTx_eq _ _ _ _ _ h
  rw[cut_eq h1]
  show 34::s.drop 1=_
  rw[h3]
  simp[quoted,h2]
 ·cases h
theorem jS_oList(l:List Out):jS (oList l)=91::(Lib.join (l.map jS) [44]++[93]):=by rw[jS_eq]; simp[oList,Out.kind,Out.kids,jL_map]
theorem jS_oMap(ks:List (List UInt8))(l:List Out)(h:ks.length=l.length):jS (oMap ks l)=123::(Lib.join ((ks.zip l).map jPair) [44]++[125]):=by rw[jS_eq]; simp[oMap,Out.kind,Out.kids,Out.keys,jM_zip l ks h]
def partS{α:Type}(f:α→List UInt8)(first:Bool)(l:List α):List UInt8:=if first=true then Lib.join (l.map f) [44] else tail44 f l
theorem partS_nil{α:Type}(f:α→List UInt8)(first:Bool):partS f first []=[]:=by cases first<;>rfl
theorem partS_cons{α:Type}(f:α→List UInt8)(first:Bool)(a:α)(l:List α):partS f first (a::l)=(if first=true then [] else [44])++(f a++partS f false l):=by
 cases first with
 | true=>unfold partS; rw[if_pos rfl,join_tail]; simp
 | false=>simp[partS,tail44]
theorem comma_44(r:List UInt8):pComma false (44::r)=some r:=by
 unfold pComma
 rw[if_neg (by decide),if_pos (cut_one 44 r)]
 rfl
theorem len_app(a b:List UInt8):b.length≤(a++b).length:=by simp
theorem comma_eq{first:Bool}{s t:List UInt8}(h:pComma first s=some t):s=(if first=true then [] else [44])++t:=by
 unfold pComma at h
 split at h
 ·rename_i h1; rw[if_pos h1]; simpa using h
 ·rename_i h1
  rw[if_neg h1]
  split at h
  ·rename_i h2
   injection h with h
   rw[←h]
   exact cut_eq h2
  ·cases h
set_option maxHeartbeats 2000000 in
theorem pOut_eqs:∀n:Nat,(∀s o u,pOut n s=some (o,u)→s=jS o++u) ∧
  (∀first l s l' u,pItems n first l s=some (l',u)→∃k,l'=l++k∧s=partS jS first k++93::u) ∧
  (∀first ks l s ks' l' u,pPairs n first ks l s=some (ks',l',u)→∃kk k,ks'=ks++kk∧l'=l++k∧kk.length=k.length∧s=partS jPair first (kk.zip k)++125::u)
 | 0=>⟨fun s o u h=>by simp[pOut] at h,fun _ _ _ _ _ h=>by simp[pItems] at h,fun _ _ _ _ _ _ _ h=>by simp[pPairs] at h⟩
 | n+1=>by
  obtain⟨ih1,ih2,ih3⟩:=pOut_eqs n
  refine⟨fun s o u h=>?_,fun first l s l' u h=>?_,fun first ks l s ks' l' u h=>?_⟩
  ·simp only[pOut] at h
   split at h
   ·rename_i h1
    simp only[Option.some.injEq,Prod.mk.injEq] at h
    obtain⟨rfl,rfl⟩:=h
    exact cut_eq h1
   split at h
   ·obtain⟨p,hp,h2⟩:=Option.map_eq_some_iff.1 h
    simp only[Prod.mk.injEq] at h2
    obtain⟨rfl,rfl⟩:=h2
    exact pText_eq hp
   split at h
   ·rename_i h1
    obtain⟨p,hp,h2⟩:=Option.map_eq_some_iff.1 h
    simp only[Prod.mk.injEq] at h2
    obtain⟨rfl,rfl⟩:=h2
    obtain⟨k,h3,h4⟩:=ih2 _ _ _ _ _ hp
    have h5:s=91::s.drop 1:=cut_eq h1
    rw[h5,h4,h3,jS_oList]
    simp[partS]
   split at h
   ·rename_i h1
    obtain⟨p,hp,h2⟩:=Option.map_eq_some_iff.1 h
    simp only[Prod.mk.injEq] at h2
    obtain⟨rfl,rfl⟩:=h2
    obtain⟨kk,k,h3,h4,h6,h7⟩:=ih3 _ _ _ _ _ _ _ hp
    have h5:s=123::s.drop 1:=cut_eq h1
    rw[h5,h7,h3,h4,jS_oMap _ _ (by simpa using h6)]
    simp[partS]
   ·obtain⟨p,hp,h2⟩:=Option.map_eq_some_iff.1 h
    simp only[Prod.mk.injEq] at h2
    obtain⟨rfl,rfl⟩:=h2
    exact pNum_eq hp
  ·simp only[pItems] at h
   split at h
   ·rename_i h1
    simp only[Option.some.injEq,Prod.mk.injEq] at h
    obtain⟨rfl,rfl⟩:=h
    exact⟨[],by simp,by rw[partS_nil]; exact cut_eq h1⟩
   ·split at h
    ·cases h
    rename_i t ht
    split at h
    ·cases h
    rename_i o v ho
    obtain⟨k,h3,h4⟩:=ih2 _ _ _ _ _ h
    refine⟨o::k,by rw[h3]; simp,?_⟩
    rw[comma_eq ht,ih1 _ _ _ ho,h4,partS_cons]
    simp
  ·simp only[pPairs] at h
   split at h
   ·rename_i h1
    simp only[Option.some.injEq,Prod.mk.injEq] at h
    obtain⟨rfl,rfl,rfl⟩:=h
    exact⟨[],[],by simp,by simp,rfl,by rw[List.zip_nil_left,partS_nil]; exact cut_eq h1⟩
   ·split at h
    ·cases h
    rename_i t ht
    split at h
    ·cases h
    rename_i k0 v hv
    split at h
    ·rename_i hc
     split at h
     ·cases h
     rename_i o x ho
     obtain⟨kk,k,h3,h4,h6,h7⟩:=ih3 _ _ _ _ _ _ _ h
     have h8:v=58::v.drop 1:=cut_eq hc
     refine⟨k0::kk,o::k,by rw[h3]; simp,by rw[h4]; simp,by simp[h6],?_⟩
     rw[comma_eq ht,pText_eq hv,h8,ih1 _ _ _ ho,h7,List.zip_cons_cons,partS_cons]
     simp[jPair]
    ·cases h
theorem pOut_eq{n:Nat}{s u:List UInt8}{o:Out}(h:pOut n s=some (o,u)):s=jS o++u:=(pOut_eqs n).1 s o u h
theorem partS_nm{α:Type}(f:α→List UInt8)(l:List α){e:UInt8}{x:List UInt8}(he:numB e=false):noNm (partS f false l++e::x):=by
 cases l with
 | nil=>exact noNm_cons he
 | cons a r=>exact noNm_cons (c:=44) (by decide)
theorem pItems_of(n0:Nat)(hO:∀n,n≤n0→∀o u,fChkO o=0→noNm u→2*(jS o++u).length+1≤n→pOut n (jS o++u)=some (o,u)):∀(k:List Out) (n:Nat) (first:Bool) (l:List Out) (u:List UInt8),
  n≤n0+1→(∀o∈k,fChkO o=0)→2*(partS jS first k++93::u).length+2≤n→pItems n first l (partS jS first k++93::u)=some (l++k,u)
 | k,0,first,l,u,_,_,h=>by omega
 | [],n+1,first,l,u,hn,hk,h=>by
  simp only[pItems,partS_nil,List.nil_append]
  rw[if_pos (cut_one _ _)]
  simp
 | o::k,n+1,first,l,u,hn,hk,h=>by
  have ho:=hk o (List.mem_cons_self ..)
  obtain⟨c,r,e1,e2,e3,e4⟩:=jS_head ho
  rw[partS_cons,List.append_assoc,List.append_assoc] at h ⊢
  simp only[pItems]
  have g1:cutB ((if first=true then [] else [44])++(jS o++(partS jS false k++93::u))) [93]=false:=by
   cases first with
   | true=>rw[e1]; exact cut_ne e2
   | false=>exact cut_ne (c:=44) (by decide)
  have g2:pComma first ((if first=true then [] else [44])++(jS o++(partS jS false k++93::u)))=some (jS o++(partS jS false k++93::u)):=by
   cases first with
   | true=>rfl
   | false=>exact comma_44 _
  have hl:0<(jS o).length:=by rw[e1]; simp
  rw[if_neg (by rw[g1]; simp),g2]
  simp only
  have hlen:(jS o++(partS jS false k++93::u)).length≤((if first=true then [] else [44])++(jS o++(partS jS false k++93::u))).length:=by exact len_app _ _
  rw[hO n (by omega) o _ ho (partS_nm _ _ (by decide)) (by omega)]
  simp only
  rw[pItems_of n0 hO k n false (l++[o]) u (by omega) (fun x hx=>hk x (List.mem_cons_of_mem _ hx)) (by have:=@List.length_append _ (jS o) (partS jS false k++93::u); omega)]
  simp
theorem pPairs_of(n0:Nat)(hO:∀n,n≤n0→∀o u,fChkO o=0→noNm u→2*(jS o++u).length+1≤n→pOut n (jS o++u)=some (o,u)):∀(kk:List (List UInt8)) (k:List Out) (n:Nat) (first:Bool) (ks:List (List UInt8)) (l:List Out) (u:List UInt8),
  n≤n0+1→kk.length=k.length→(∀o∈k,fChkO o=0)→2*(partS jPair first (kk.zip k)++125::u).length+2≤n→pPairs n first ks l (partS jPair first (kk.zip k)++125::u)=some (ks++kk,l++k,u)
 | kk,k,0,first,ks,l,u,_,_,_,h=>by omega
 | [],[],n+1,first,ks,l,u,hn,_,hk,h=>by
  simp only[pPairs,List.zip_nil_left,partS_nil,List.nil_append]
  rw[if_pos (cut_one _ _)]
  simp
 | [],_::_,n+1,first,ks,l,u,hn,e,_,_=>by simp at e
 | _::_,[],n+1,first,ks,l,u,hn,e,_,_=>by simp at e
 | k0::kk,o::k,n+1,first,ks,l,u,hn,e,hk,h=>by
  have ho:=hk o (List.mem_cons_self ..)
  obtain⟨c,r,e1,e2,e3,e4⟩:=jS_head ho
  have hp:jPair (k0,o)++(partS jPair false (kk.zip k)++125::u)=quoted k0++(58::(jS o++(partS jPair false (kk.zip k)++125::u))):=by simp[jPair]
  rw[List.zip_cons_cons,partS_cons,List.append_assoc,List.append_assoc,hp] at h ⊢
  simp only[pPairs]
  have g1:cutB ((if first=true then [] else [44])++(quoted k0++(58::(jS o++(partS jPair false (kk.zip k)++125::u))))) [125]=false:=by
   cases first with
   | true=>exact cut_ne (c:=34) (by decide)
   | false=>exact cut_ne (c:=44) (by decide)
  have g2:pComma first ((if first=true then [] else [44])++(quoted k0++(58::(jS o++(partS jPair false (kk.zip k)++125::u)))))=some (quoted k0++(58::(jS o++(partS jPair false (kk.zip k)++125::u)))):=by
   cases first with
   | true=>rfl
   | false=>exact comma_44 _
  have hl:0<(jS o).length:=by rw[e1]; simp
  rw[if_neg (by rw[g1]; simp),g2]
  simp only
  rw[pText_q]
  simp only
  rw[if_pos (cut_one _ _)]
  show (match pOut n (jS o++(partS jPair false (kk.zip k)++125::u)) with
   | none=>none
   | some (o,v)=>pPairs n false (ks++[k0]) (l++[o]) v)=_
  have hlen:(jS o++(partS jPair false (kk.zip k)++125::u)).length+1≤((if first=true then [] else [44])++(quoted k0++(58::(jS o++(partS jPair false (kk.zip k)++125::u))))).length:=by
   have a1:=len_app (if first=true then [] else [44]) (quoted k0++(58::(jS o++(partS jPair false (kk.zip k)++125::u))))
   have a2:=len_app (quoted k0) (58::(jS o++(partS jPair false (kk.zip k)++125::u)))
   rw[List.length_cons] at a2
   omega
  rw[hO n (by omega) o _ ho (partS_nm _ _ (by decide)) (by omega)]
  simp only
  rw[pPairs_of n0 hO kk k n false (ks++[k0]) (l++[o]) u (by omega) (by simpa using e) (fun x hx=>hk x (List.mem_cons_of_mem _ hx)) (by have:=@List.length_append _ (jS o) (partS jPair false (kk.zip k)++125::u); omega)]
  simp
theorem pOut_null{n:Nat}{s:List UInt8}(h:cutB s [110,117,108,108]=true):pOut (n+1) s=some (oNone,s.drop 4):=by simp only[pOut]; rw[if_pos h]
theorem pOut_text{n:Nat}{s t u:List UInt8}(h1:cutB s [110,117,108,108]=false)(h2:cutB s [34]=true)(h:pText s=some (t,u)):pOut (n+1) s=some (oText t,u):=by
 simp only[pOut]; rw[h1,if_neg (by simp),if_pos h2,h]; rfl
theorem pOut_list{n:Nat}{s u:List UInt8}{l:List Out}(h1:cutB s [110,117,108,108]=false)(h2:cutB s [34]=false)(h3:cutB s [91]=true)(h:pItems n true [] (s.drop 1)=some (l,u)):pOut (n+1) s=some (oList l,u):=by
 simp only[pOut]; rw[h1,h2,if_neg (by simp),if_neg (by simp),if_pos h3,h]; rfl
theorem pOut_map{n:Nat}{s u:List UInt8}{ks:List (List UInt8)}{l:List Out}(h1:cutB s [110,117,108,108]=false)(h2:cutB s [34]=false)(h3:cutB s [91]=false)(h4:cutB s [123]=true)(h:pPairs n true [] [] (s.drop 1)=some (ks,l,u)):pOut (n+1) s=some (oMap ks l,u):=by
 simp only[pOut]; rw[h1,h2,h3,if_neg (by simp),if_neg (by simp),if_neg (by simp),if_pos h4,h]; rfl
theorem pOut_num{n:Nat}{s u:List UInt8}{i:Int}(h1:cutB s [110,117,108,108]=false)(h2:cutB s [34]=false)(h3:cutB s [91]=false)(h4:cutB s [123]=false)(h:pNum s=some (i,u)):pOut (n+1) s=some (oNum i,u):=by
 simp only[pOut]; rw[h1,h2,h3,h4,if_neg (by simp),if_neg (by simp),if_neg (by simp),if_neg (by simp),h]; rfl
set_option maxHeartbeats 2000000 in
theorem pOut_of:∀(N n:Nat) (o:Out) (u:List UInt8),n≤N→fChkO o=0→noNm u→2*(jS o++u).length+1≤n→pOut n (jS o++u)=some (o,u)
 | 0,n,o,u,hN,_,_,h=>by omega
 | N+1,0,o,u,hN,_,_,h=>by omega
 | N+1,n+1,o,u,hN,ho,hu,h=>by
  obtain⟨h1,h2⟩:=chkO_zero ho
  have hO:=fun m (hm:m≤n - 1) o u=>pOut_of N m o u (by omega)
  rcases jS_first o ho with⟨k,e⟩|⟨k,e⟩|⟨k,e⟩|⟨k,e⟩|⟨k,e⟩<;>rw[e] at h ⊢
  ·have ho':o=oNone:=Out.ext' k (h1.n0 (by omega)) (h1.t0 (by omega)) (h1.m0 (by omega)) (h1.l0 (by omega))
   exact (pOut_null (cut_app _ _)).trans (congrArg (fun x=>some (x,u)) ho'.symm)
  ·obtain⟨c,r,e1,e2⟩:=itoa_head o.n
   have hc:c≠110∧c≠34∧c≠91∧c≠123:=by refine⟨?_,?_,?_,?_⟩<;>rintro rfl<;>revert e2<;>decide
   have ho':o=oNum o.n:=Out.ext' k rfl (h1.t0 (by omega)) (h1.m0 (by omega)) (h1.l0 (by omega))
   have hn:=pNum_itoa (n:=o.n) h1.ni hu
   rw[e1] at hn ⊢
   exact (pOut_num (cut_ne hc.1) (cut_ne hc.2.1) (cut_ne hc.2.2.1) (cut_ne hc.2.2.2) hn).trans (congrArg (fun x=>some (x,u)) ho'.symm)
  ·have ho':o=oText o.text:=Out.ext' k (h1.n0 (by omega)) rfl (h1.m0 (by omega)) (h1.l0 (by omega))
   exact (pOut_text (cut_ne (c:=34) (by decide)) (cut_one _ _) (pText_q o.text u)).trans (congrArg (fun x=>some (x,u)) ho'.symm)
  ·have ho':o=oList o.kids:=Out.ext' k (h1.n0 (by omega)) (h1.t0 (by omega)) (h1.m0 (by omega)) rfl
   have hi:=pItems_of (n - 1) hO o.kids n true [] u (by omega) h2 (by simp[partS] at h ⊢; omega)
   have e5:(91::(Lib.join (o.kids.map jS) [44]++[93])++u).drop 1=partS jS true o.kids++93::u:=by simp[partS]
   rw[←e5] at hi
   exact (pOut_list (cut_ne (c:=91) (by decide)) (cut_ne (c:=91) (by decide)) (cut_one _ _) hi).trans (congrArg (fun x=>some (x,u)) ho'.symm)
  ·have ho':o=oMap o.keys o.kids:=Out.ext' k (h1.n0 (by omega)) (h1.t0 (by omega)) rfl rfl
   have hi:=pPairs_of (n - 1) hO o.keys o.kids n true [] [] u (by omega) (h1.ml k) h2 (by simp[partS] at h ⊢; omega)
   have e5:(123::(Lib.join ((o.keys.zip o.kids).map jPair) [44]++[125])++u).drop 1=partS jPair true (o.keys.zip o.kids)++125::u:=by simp[partS]
   rw[←e5] at hi
   exact (pOut_map (cut_ne (c:=123) (by decide)) (cut_ne (c:=123) (by decide)) (cut_ne (c:=123) (by decide)) (cut_one _ _) hi).trans (congrArg (fun x=>some (x,u)) ho'.symm)
def pAll(s:List UInt8):Option Out:=match pOut (2*s.length+1) s with
 | some (o,[])=>some o
 | _=>none
theorem pAll_of{o:Out}(h:fChkO o=0):pAll (jS o)=some o:=by
 have:=pOut_of (2*(jS o).length+1) _ o [] (Nat.le_refl _) h noNm_nil (by simp)
 rw[List.append_nil] at this
 unfold pAll
 rw[this]
theorem pAll_eq{s:List UInt8}{o:Out}(h:pAll s=some o):jS o=s:=by
 unfold pAll at h
 split at h
 ·rename_i o' h1
  injection h with h
  subst h
  have:=pOut_eq h1
  rw[List.append_nil] at this
  exact this.symm
 ·cases h
end Go.Am
