/- Parts of the proof: an abstract machine for Go functions, and what functions of the program give back (Qr1, Qr2, Qr3, Qr4). No condition. -/
import Derived.Test.YtgfmjhmjnnpcgaaGreatDoorYH
import Derived.Test.YtgfmjhmjnnpcgaaGreatDoorCcB
import Derived.Test.YtgfmjhmjnnpcgaaGreatDoorYI
namespace Go.Am
set_option linter.all false
open Go Go.RowKit Go.Proofs
set_option maxRecDepth 100000
set_option linter.all false
@[simp] theorem pureB_eTk (t:Tk):(eTk t).pureB=true:=rfl
@[simp] theorem pure_nums (l:List Int):pureL (l.map (AV.int .i64))=true:=pureL_map (fun _=>rfl) l
@[simp] theorem names_nums (S:Nat→Prop) (l:List Int):namesL S (l.map (AV.int .i64)):=namesL_pure _ (pure_nums l)
def tB(z l:List Tk):Bx:=⟨[.agg [.sl (l.map eTk)]],.agg [.sl (z.map eTk)],false,false⟩
theorem tB_eq(z l:List Tk):tB z l=⟨[.agg [.sl (l.map eTk)]],.agg [.sl (z.map eTk)],false,false⟩:=rfl
def rdT(J:Nat)(z:List Tk):Option (AV×List Tk)→Except AV (AV×List (Nat×Option Bx))
 | some (v,u)=>.ok (v,[(J,some (tB z u))])
 | none=>.error (erV 1)
theorem qFail_ok(e:Int)(id:Nat):FnE Tryz.prog 86 [.int .i64 e] [] id (.error (erV e)):=by
 refine fn_okE Tryz.func86 hcc86 (by decide) hcr86 (by simp[Tryz.ntmps86]) fun E hP hR hPn hl hid hB hu=>?_
 simp only[cr86] at hR
 refine w_go 9 ?_
 simp[cc86]
 refine w_panic (by simp<;>rfl) (by simp) ⟨by simp,hPn _ _ rfl rfl (by simp)⟩
theorem Is_ok(z l:List Tk)(c:UInt8)(J id:Nat):FnOk Tryz.prog 122 [.ptr J 0 0,.str [c]] [(J,tB z l)] id (.bool (isS l c)) []:=by
 rw[tB_eq]
 cases l with
 | nil =>
  refine fn_okc Tryz.func122 hcc122 (by decide) hcr122 (by simp[Tryz.ntmps122]) fun E hP hR hl hid=>?_
  simp only[cr122] at hR
  refine w_go 4000 ?_
  simp[cc122]
  have hJ:=hl (J,_) (List.mem_cons_self ..)
  simp only at hJ
  have J1:=lf hJ
  have hrn:rnOk []:=by simp[isS,J1,idO hid]
  rw[hR]
  refine rt_end (by simp<;>rfl) [] hrn ⟨?_,?_,?_,?_,?_,?_⟩<;>(try simp[isS,J1,idO hid])
  all_goals exact namesL_pure _ (by simp[pureL,pureB_eTk])
 | cons t l =>
  refine fn_okc Tryz.func122 hcc122 (by decide) hcr122 (by simp[Tryz.ntmps122]) fun E hP hR hl hid=>?_
  simp only[cr122] at hR
  refine w_go 4000 ?_
  simp[cc122]
  have hJ:=hl (J,_) (List.mem_cons_self ..)
  simp only at hJ
  have J1:=lf hJ
  simp[eTk,J1]
  have hrn:rnOk []:=by simp[isS,eTk,J1,idO hid]
  rw[hR]
  refine rt_end (by simp<;>rfl) [] hrn ⟨?_,?_,?_,?_,?_,?_⟩<;>(try simp[isS,eTk,J1,idO hid])
  all_goals exact namesL_pure _ (by simp[pureL,pureB_eTk])
theorem Done_ok(z l:List Tk)(J id:Nat):FnOk Tryz.prog 55 [.ptr J 0 0] [(J,tB z l)] id (.bool l.isEmpty) []:=by
 rw[tB_eq]
 cases l with
 | nil =>
  refine fn_okc Tryz.func55 hcc55 (by decide) hcr55 (by simp[Tryz.ntmps55]) fun E hP hR hl hid=>?_
  simp only[cr55] at hR
  refine w_go 4000 ?_
  simp[cc55]
  have hJ:=hl (J,_) (List.mem_cons_self ..)
  simp only at hJ
  have J1:=lf hJ
  have hrn:rnOk []:=by simp[J1,idO hid]
  rw[hR]
  refine rt_end (by simp<;>rfl) [] hrn ⟨?_,?_,?_,?_,?_,?_⟩<;>(try simp[J1,idO hid])
  all_goals exact namesL_pure _ (by simp[pureL,pureB_eTk])
 | cons t l =>
  have hne:(((l.length:Int)+1)==0)=false:=by rw[beq_eq_false_iff_ne]; omega
  refine fn_okc Tryz.func55 hcc55 (by decide) hcr55 (by simp[Tryz.ntmps55]) fun E hP hR hl hid=>?_
  simp only[cr55] at hR
  refine w_go 4000 ?_
  simp[cc55]
  have hJ:=hl (J,_) (List.mem_cons_self ..)
  simp only at hJ
  have J1:=lf hJ
  simp[hne,J1]
  have hrn:rnOk []:=by simp[J1,idO hid]
  rw[hR]
  refine rt_end (by simp<;>rfl) [] hrn ⟨?_,?_,?_,?_,?_,?_⟩<;>(try simp[J1,idO hid])
  all_goals exact namesL_pure _ (by simp[pureL,pureB_eTk])
theorem End_ok(z l:List Tk)(J id:Nat):FnE Tryz.prog 84 [.ptr J 0 0] [(J,tB z l)] id (if l=[] then .ok (.tup [],[]) else .error (erV 1)):=by
 have hf:=fun id=>qFail_ok 1 id
 rw[tB_eq]
 cases l with
 | nil =>
  refine fn_okE Tryz.func84 hcc84 (by decide) hcr84 (by simp[Tryz.ntmps84]) fun E hP hR hPn hl hid hB hu=>?_
  simp only[cr84] at hR
  refine w_go 4000 ?_
  simp[cc84]
  have hJ:=hl (J,_) (List.mem_cons_self ..)
  simp only at hJ
  have J1:=lf hJ
  have hrn:rnOk []:=by simp[J1,idO hid]
  refine hR _ _ _ (rfl) ?_
  refine rt_end (by simp[J1,idO hid]<;>rfl) [] hrn ⟨?_,?_,?_,?_,?_,?_⟩<;>(try simp[J1,idO hid])
  all_goals exact namesL_pure _ (by simp[pureL,pureB_eTk])
 | cons t l =>
  rw[if_neg (by simp)]
  refine fn_okE Tryz.func84 hcc84 (by decide) hcr84 (by simp[Tryz.ntmps84]) fun E hP hR hPn hl hid hB hu=>?_
  simp only[cr84] at hR
  refine w_go 4000 ?_
  simp[cc84]
  have hJ:=hl (J,_) (List.mem_cons_self ..)
  simp only at hJ
  have J1:=lf hJ
  refine w_callE hP rfl (hf _) (by simp[J1]) (by simp[J1]<;>rfl) (fun pv hpv=>⟨by simp[J1],by injection hpv with hpv; subst hpv; exact hPn _ _ (rfl) rfl (by simp[J1])⟩) (fun v wr h=>by cases h)
theorem IndexI_ok(ks:List Int)(x:Int)(id:Nat)(h8:ks.length≤1000000):FnOk Tryz.prog 154 [.sl (ks.map (.int .i64)),.int .i64 x] [] id (.int .i64 (findJ (fun y=>y==x) ks 0)) []:=by
 have hp:pureL (ks.map (AV.int .i64))=true:=pureL_map (fun _=>rfl) ks
 refine fn_okc Tryz.func154 hcc154 (by decide) hcr154 (by simp[Tryz.ntmps154]) fun E hP hR hl hid=>?_
 simp only[cr154] at hR
 refine w_go 4000 ?_
 simp[cc154]
 refine w_loop (X:=Nat) (fun i=>⟨[(0,true,.sl (ks.map (.int .i64))),(1,true,.int .i64 x),(7,true,.int .i64 ks.length),(8,true,.int .i64 i)],[],0⟩)
  (fun i=>i≤ks.length∧findJ (fun y=>y==x) (ks.drop i) i=findJ (fun y=>y==x) ks 0) (fun i=>ks.length - i) 0 ?_ ⟨by omega,rfl⟩ ?_
 ·have hrn:rnOk []:=by simp
  refine Conv.sub [] hrn ?_ ?_ ?_ ?_ ?_<;>(try simp)
 rintro i ⟨hi,hf⟩ p hpp
 rcases Nat.lt_or_ge i ks.length with h|h
 ·obtain⟨y,hy,hd⟩:=drop_cons h
  have hli:ks[i]=y:=by
   rw[List.getElem?_eq_getElem h] at hy
   injection hy
  have hi1:IntKind.i64.wrap ((i:Int)+1)=((i+1:Nat):Int):=wrap64 (by omega)
  rw[hd] at hf
  simp only[findJ] at hf
  refine w_go 4000 ?_
  simp[h,hli]
  by_cases hxy:y=x
  ·rw[if_pos (by simpa using hxy)] at hf
   rw[←hf] at hR
   refine goc_true (by simp[hxy]) ?_
   simp
   rw[hR]; exact rt_end (by simp<;>rfl) [] trivial (end_pure (by simp) (by simp) (by simp))
  ·rw[if_neg (by simpa using hxy)] at hf
   refine goc_false (by simpa using fun q=>hxy q.symm) ?_
   simp
   refine hpp _ (i+1) ⟨h,hf⟩ (by omega) ?_
   have hrn:rnOk []:=by simp[hi1]
   refine Conv.sub [] hrn ?_ ?_ ?_ ?_ ?_<;>(try simp[hi1])
 ·rw[List.drop_of_length_le h] at hf
  have hf : -1=findJ (fun y=>y==x) ks 0:=hf
  rw[←hf] at hR
  refine w_go 4000 ?_
  simp[Nat.not_lt.2 h]
  rw[hR]; exact rt_end (by simp<;>rfl) [] trivial (end_pure (by simp) (by simp) (by simp))
end Go.Am
namespace Go.Am
set_option linter.all false
open Go Go.RowKit Go.Proofs
set_option maxRecDepth 100000
set_option linter.all false
theorem ContainsI_ok(ks:List Int)(x:Int)(id:Nat)(h8:ks.length≤1000000):FnOk Tryz.prog 140 [.sl (ks.map (.int .i64)),.int .i64 x] [] id (.bool (ks.any (·==x))) []:=by
 have hI:=fun id=>IndexI_ok ks x id h8
 rw[←findJ_any (fun y=>y==x) ks 0]
 refine fn_okc Tryz.func140 hcc140 (by decide) hcr140 (by simp[Tryz.ntmps140]) fun E hP hR hl hid=>?_
 simp only[cr140] at hR
 refine w_go 4000 ?_
 simp[cc140]
 (refine w_call hP rfl (hI _) (by simp) (by simp<;>rfl) ?_; refine w_go 4000 ?_; simp)
 rw[hR]; exact rt_end (by simp<;>rfl) [] trivial (end_pure (by simp) (by simp) (by simp))
def isK(ks:List Int)(l:List Tk):Bool:=match l with
 | t::_=>ks.any (·==t.kind)
 | []=>false
set_option maxHeartbeats 4000000 in
theorem Next_ok(z l:List Tk)(t:Tk)(ks:List Int)(J id:Nat)(hk:ks.any (·==t.kind)=true)(h8:ks.length≤1000000):
  FnOk Tryz.prog 121 [.ptr J 0 0,.sl (ks.map (.int .i64))] [(J,tB z (t::l))] id (eTk t) [(J,some (tB z l))]:=by
 have hC:=fun id=>ContainsI_ok ks t.kind id h8
 rw[hk] at hC
 rw[tB_eq,tB_eq]
 have hne:(((l.length:Int)+1)==0)=false:=by rw[beq_eq_false_iff_ne]; omega
 have het:eTk t = .agg [.int .i64 t.kind,.str t.text,.int .i64 t.n]:=rfl
 refine fn_okc Tryz.func121 hcc121 (by decide) hcr121 (by simp[Tryz.ntmps121]) fun E hP hR hl hid=>?_
 simp only[cr121] at hR
 refine w_go 4000 ?_
 simp[cc121]
 have hJ:=hl (J,_) (List.mem_cons_self ..)
 simp only at hJ
 have J1:=lf hJ
 simp[hne,het,J1]
 (refine w_callg hP (by simp[hne,het,J1]) rfl (fun hc=>⟨hC _,by revert hc; simp[hne,het,J1]; try grind,by simp[hne,het,J1]⟩) ?_; refine w_go 4000 ?_; simp[hne,het,J1])
 refine⟨⟨fun a _=>rfl,by omega⟩,?_⟩
 have hrn:rnOk []:=by simp[het,J1,idO hid]
 rw[hR]
 refine rt_end (by simp<;>rfl) [] hrn ⟨?_,?_,?_,?_,?_,?_⟩<;>(try simp[het,J1,idO hid])
theorem Next_no(z l:List Tk)(ks:List Int)(J id:Nat)(hk:isK ks l=false)(h8:ks.length≤1000000):
  FnE Tryz.prog 121 [.ptr J 0 0,.sl (ks.map (.int .i64))] [(J,tB z l)] id (.error (erV 1)):=by
 have hf:=fun id=>qFail_ok 1 id
 rw[tB_eq]
 cases l with
 | nil =>
  refine fn_okE Tryz.func121 hcc121 (by decide) hcr121 (by simp[Tryz.ntmps121]) fun E hP hR hPn hl hid hB hu=>?_
  simp only[cr121] at hR
  refine w_go 4000 ?_
  simp[cc121]
  have hJ:=hl (J,_) (List.mem_cons_self ..)
  simp only at hJ
  have J1:=lf hJ
  simp[J1]
  refine w_callg hP (by simp) rfl (v:=.bool false) (rd:=[]) (fun hh=>by simp at hh) ?_
  refine w_go 4000 ?_
  simp[J1]
  refine w_callE hP rfl (hf _) (by simp[J1]) (by simp[J1]<;>rfl) (fun pv hpv=>⟨by simp[J1],by injection hpv with hpv; subst hpv; exact hPn _ _ (rfl) rfl (by simp[J1])⟩) (fun v wr h=>by cases h)
 | cons t l =>
  have hC:=fun id=>ContainsI_ok ks t.kind id h8
  have hk:ks.any (·==t.kind)=false:=hk
  rw[hk] at hC
  have hne:(((l.length:Int)+1)==0)=false:=by rw[beq_eq_false_iff_ne]; omega
  have het:eTk t = .agg [.int .i64 t.kind,.str t.text,.int .i64 t.n]:=rfl
  refine fn_okE Tryz.func121 hcc121 (by decide) hcr121 (by simp[Tryz.ntmps121]) fun E hP hR hPn hl hid hB hu=>?_
  simp only[cr121] at hR
  refine w_go 4000 ?_
  simp[cc121]
  have hJ:=hl (J,_) (List.mem_cons_self ..)
  simp only at hJ
  have J1:=lf hJ
  simp[hne,het,J1]
  (refine w_callg hP (by simp[hne,het,J1]) rfl (fun hc=>⟨hC _,by revert hc; simp[hne,het,J1]; try grind,by simp[hne,het,J1]⟩) ?_; refine w_go 4000 ?_; simp[hne,het,J1])
  refine w_callE hP rfl (hf _) (by simp[J1]) (by simp[J1]<;>rfl) (fun pv hpv=>⟨by simp[J1],by injection hpv with hpv; subst hpv; exact hPn _ _ (rfl) rfl (by simp[J1])⟩) (fun v wr h=>by cases h)
theorem Need_ok(z l:List Tk)(c:UInt8)(J id:Nat)(h:isS l c=true):
  FnOk Tryz.prog 87 [.ptr J 0 0,.str [c]] [(J,tB z l)] id (.tup []) [(J,some (tB z (l.drop 1)))]:=by
 have hI:=fun id=>Is_ok z l c J id
 rw[h] at hI
 cases l with
 | nil=>cases h
 | cons t l =>
  rw[tB_eq] at hI
  rw[List.drop_one,List.tail_cons,tB_eq,tB_eq]
  refine fn_okc Tryz.func87 hcc87 (by decide) hcr87 (by simp[Tryz.ntmps87]) fun E hP hR hl hid=>?_
  simp only[cr87] at hR
  refine w_go 4000 ?_
  simp[cc87]
  have hJ:=hl (J,_) (List.mem_cons_self ..)
  simp only at hJ
  have J1:=lf hJ
  (refine w_call hP rfl (hI _) (by simp[J1]) (by simp[J1]<;>rfl) ?_; refine w_go 4000 ?_; simp[J1])
  refine⟨by simp[eTk]; omega,?_⟩
  have hrn:rnOk []:=by simp[J1,idO hid]
  rw[hR]
  refine rt_end (by simp<;>rfl) [] hrn ⟨?_,?_,?_,?_,?_,?_⟩<;>(try simp[J1,idO hid])
theorem Need_no(z l:List Tk)(c:UInt8)(J id:Nat)(h:isS l c=false):
  FnE Tryz.prog 87 [.ptr J 0 0,.str [c]] [(J,tB z l)] id (.error (erV 1)):=by
 have hI:=fun id=>Is_ok z l c J id
 have hf:=fun id=>qFail_ok 1 id
 rw[h] at hI
 rw[tB_eq] at *
 refine fn_okE Tryz.func87 hcc87 (by decide) hcr87 (by simp[Tryz.ntmps87]) fun E hP hR hPn hl hid hB hu=>?_
 simp only[cr87] at hR
 refine w_go 4000 ?_
 simp[cc87]
 have hJ:=hl (J,_) (List.mem_cons_self ..)
 simp only at hJ
 have J1:=lf hJ
 (refine w_call hP rfl (hI _) (by simp[J1]) (by simp[J1]<;>rfl) ?_; refine w_go 4000 ?_; simp[J1])
 refine w_callE hP rfl (hf _) (by simp[J1]) (by simp[J1]<;>rfl) (fun pv hpv=>⟨by simp[J1],by injection hpv with hpv; subst hpv; exact hPn _ _ (rfl) rfl (by simp[J1])⟩) (fun v wr h=>by cases h)
def tryL(l:List Tk)(c:UInt8):List Tk:=if isS l c=true then l.drop 1 else l
theorem tryL_yes{l:List Tk}{c:UInt8}(h:isS l c=true):tryL l c=l.drop 1:=by unfold tryL; rw[if_pos h]
theorem tryL_no{l:List Tk}{c:UInt8}(h:isS l c=false):tryL l c=l:=by unfold tryL; rw[if_neg (by simp[h])]
theorem Try_ok(z l:List Tk)(c:UInt8)(J id:Nat):
  FnOk Tryz.prog 123 [.ptr J 0 0,.str [c]] [(J,tB z l)] id (.bool (isS l c)) [(J,some (tB z (tryL l c)))]:=by
 have hI:=fun id=>Is_ok z l c J id
 cases h:isS l c with
 | false =>
  rw[tryL_no h]
  rw[h] at hI
  rw[tB_eq] at *
  refine fn_okc Tryz.func123 hcc123 (by decide) hcr123 (by simp[Tryz.ntmps123]) fun E hP hR hl hid=>?_
  simp only[cr123] at hR
  refine w_go 4000 ?_
  simp[cc123]
  have hJ:=hl (J,_) (List.mem_cons_self ..)
  simp only at hJ
  have J1:=lf hJ
  (refine w_call hP rfl (hI _) (by simp[J1]) (by simp[J1]<;>rfl) ?_; refine w_go 4000 ?_; simp[J1])
  have hrn:rnOk []:=by simp[J1,idO hid]
  rw[hR]
  refine rt_end (by simp<;>rfl) [] hrn ⟨?_,?_,?_,?_,?_,?_⟩<;>(try simp[J1,idO hid])
 | true =>
  rw[tryL_yes h]
  rw[h] at hI
  cases l with
  | nil=>cases h
  | cons t l =>
   rw[tB_eq] at hI
   rw[List.drop_one,List.tail_cons,tB_eq,tB_eq]
   refine fn_okc Tryz.func123 hcc123 (by decide) hcr123 (by simp[Tryz.ntmps123]) fun E hP hR hl hid=>?_
   simp only[cr123] at hR
   refine w_go 4000 ?_
   simp[cc123]
   have hJ:=hl (J,_) (List.mem_cons_self ..)
   simp only at hJ
   have J1:=lf hJ
   (refine w_call hP rfl (hI _) (by simp[J1]) (by simp[J1]<;>rfl) ?_; refine w_go 4000 ?_; simp[J1])
   refine⟨by simp[eTk]; omega,?_⟩
   have hrn:rnOk []:=by simp[J1,idO hid]
   rw[hR]
   refine rt_end (by simp<;>rfl) [] hrn ⟨?_,?_,?_,?_,?_,?_⟩<;>(try simp[J1,idO hid])
theorem isW_K(l:List Tk):isK [1] l=isW l:=by
 cases l with
 | nil=>rfl
 | cons t l=>simp only[isK,isW,List.any_cons,List.any_nil,Bool.or_false]; exact BEq.comm
theorem Name_ok'(z l:List Tk)(t:Tk)(J id:Nat)(h:t.kind=1):
  FnOk Tryz.prog 85 [.ptr J 0 0] [(J,tB z (t::l))] id (.str t.text) [(J,some (tB z l))]:=by
 have hN:=fun id=>Next_ok z l t [1] J id (by simp[h]) (by simp)
 have het:eTk t = .agg [.int .i64 t.kind,.str t.text,.int .i64 t.n]:=rfl
 rw[het] at hN
 rw[tB_eq,tB_eq] at *
 refine fn_okc Tryz.func85 hcc85 (by decide) hcr85 (by simp[Tryz.ntmps85]) fun E hP hR hl hid=>?_
 simp only[cr85] at hR
 refine w_go 4000 ?_
 simp[cc85]
 have hJ:=hl (J,_) (List.mem_cons_self ..)
 simp only at hJ
 have J1:=lf hJ
 (refine w_callR hP rfl (hN _) (by simp[J1]<;>rfl) (by simp[J1]) (by simp[J1]<;>rfl) (by simp[J1]) ?_; refine w_go 4000 ?_; simp[J1])
 have hrn:rnOk []:=by simp[J1,idO hid]
 rw[hR]
 refine rt_end (by simp<;>rfl) [] hrn ⟨?_,?_,?_,?_,?_,?_⟩<;>(try simp[J1,idO hid])
theorem Name_no(z l:List Tk)(J id:Nat)(h:isW l=false):
  FnE Tryz.prog 85 [.ptr J 0 0] [(J,tB z l)] id (.error (erV 1)):=by
 have hN:=fun id=>Next_no z l [1] J id (by rw[isW_K,h]) (by simp)
 rw[tB_eq] at *
 refine fn_okE Tryz.func85 hcc85 (by decide) hcr85 (by simp[Tryz.ntmps85]) fun E hP hR hPn hl hid hB hu=>?_
 simp only[cr85] at hR
 refine w_go 4000 ?_
 simp[cc85]
 have hJ:=hl (J,_) (List.mem_cons_self ..)
 simp only at hJ
 have J1:=lf hJ
 refine w_callRE hP rfl (hN _) (by simp[J1]<;>rfl) (by simp[J1]) (by simp[J1]<;>rfl) (by simp[J1]) (fun pv hpv=>⟨by simp[J1],by injection hpv with hpv; subst hpv; exact hPn _ _ (rfl) rfl (by simp[J1])⟩) (fun v wr h=>by cases h)
end Go.Am
namespace Go.Am
set_option linter.all false
open Go Go.RowKit Go.Proofs
set_option maxRecDepth 100000
set_option linter.all false
theorem isW_cons{l:List Tk}(h:isW l=true):∃t r,l=t::r∧t.kind=1:=by
 cases l with
 | nil=>cases h
 | cons t r=>exact⟨t,r,rfl,by simpa [isW] using h⟩
theorem isS_cons{l:List Tk}{c:UInt8}(h:isS l c=true):∃t r,l=t::r:=by
 cases l with
 | nil=>cases h
 | cons t r=>exact⟨t,r,rfl⟩
theorem isV_cons{l:List Tk}(h:isV l=true):∃t r,l=t::r∧[2,3].any (·==t.kind)=true:=by
 cases l with
 | nil=>cases h
 | cons t r =>
  refine⟨t,r,rfl,?_⟩
  simp only[isV,Bool.or_eq_true,beq_iff_eq] at h
  simp only[List.any_cons,List.any_nil,Bool.or_false,Bool.or_eq_true,beq_iff_eq]
  exact h.imp Eq.symm Eq.symm
theorem isV_K{l:List Tk}(h:isV l=false):isK [2,3] l=false:=by
 cases l with
 | nil=>rfl
 | cons t r =>
  simp only[isV,Bool.or_eq_false_iff,beq_eq_false_iff_ne] at h
  simp only[isK,List.any_cons,List.any_nil,Bool.or_false,Bool.or_eq_false_iff,beq_eq_false_iff_ne]
  exact h.imp Ne.symm Ne.symm
theorem qarg_no(z l:List Tk)(J id:Nat)(h:pAg l=none):FnE Tryz.prog 129 [.ptr J 0 0] [(J,tB z l)] id (.error (erV 1)):=by
 unfold pAg at h
 by_cases h1:isW l=true
 rotate_left
 ·have hN:=fun id=>Name_no z l J id (by simpa using h1)
  rw[tB_eq] at *
  refine fn_okE Tryz.func129 hcc129 (by decide) hcr129 (by simp[Tryz.ntmps129]) fun E hP hR hPn hl hid hB hu=>?_
  simp only[cr129] at hR
  refine w_go 4000 ?_
  simp[cc129]
  have hJ:=hl (J,_) (List.mem_cons_self ..)
  simp only at hJ
  have J1:=lf hJ
  refine w_callE hP rfl (hN _) (by simp[J1]) (by simp[J1]<;>rfl) (fun pv hpv=>⟨by simp[J1],by injection hpv with hpv; subst hpv; exact hPn _ _ (rfl) rfl (by simp[J1])⟩) (fun v wr h=>by cases h)
 obtain⟨t,r,rfl,hk⟩:=isW_cons h1
 have hN:=fun id=>Name_ok' z r t J id hk
 by_cases h2:isS r 58=true
 rotate_left
 ·have hS:=fun id=>Need_no z r 58 J id (by simpa using h2)
  rw[tB_eq] at hS
  rw[tB_eq,tB_eq] at hN
  rw[tB_eq]
  refine fn_okE Tryz.func129 hcc129 (by decide) hcr129 (by simp[Tryz.ntmps129]) fun E hP hR hPn hl hid hB hu=>?_
  simp only[cr129] at hR
  refine w_go 4000 ?_
  simp[cc129]
  have hJ:=hl (J,_) (List.mem_cons_self ..)
  simp only at hJ
  have J1:=lf hJ
  (refine w_call hP rfl (hN _) (by simp[J1]) (by simp[J1]<;>rfl) ?_; refine w_go 4000 ?_; simp[J1])
  refine w_callE hP rfl (hS _) (by simp[J1]) (by simp[J1]<;>rfl) (fun pv hpv=>⟨by simp[J1],by injection hpv with hpv; subst hpv; exact hPn _ _ (rfl) rfl (by simp[J1])⟩) (fun v wr h=>by cases h)
 have hS:=fun id=>Need_ok z r 58 J id h2
 obtain⟨t2,r2,rfl⟩:=isS_cons h2
 have h3:isV r2=false:=by
  rw[Bool.eq_false_iff]; intro h3
  rw[if_pos ⟨h1,h2,h3⟩] at h; cases h
 have hV:=fun id=>Next_no z r2 [2,3] J id (isV_K h3) (by simp)
 rw[List.drop_one,List.tail_cons,tB_eq,tB_eq] at hS
 rw[tB_eq] at hV
 rw[tB_eq,tB_eq] at hN
 rw[tB_eq]
 refine fn_okE Tryz.func129 hcc129 (by decide) hcr129 (by simp[Tryz.ntmps129]) fun E hP hR hPn hl hid hB hu=>?_
 simp only[cr129] at hR
 refine w_go 4000 ?_
 simp[cc129]
 have hJ:=hl (J,_) (List.mem_cons_self ..)
 simp only at hJ
 have J1:=lf hJ
 (refine w_call hP rfl (hN _) (by simp[J1]) (by simp[J1]<;>rfl) ?_; refine w_go 4000 ?_; simp[J1])
 (refine w_call hP rfl (hS _) (by simp[J1]) (by simp[J1]<;>rfl) ?_; refine w_go 4000 ?_; simp[J1])
 refine w_callRE hP rfl (hV _) (by simp[J1]<;>rfl) (by simp[J1]) (by simp[J1]<;>rfl) (by simp[J1]) (fun pv hpv=>⟨by simp[J1],by injection hpv with hpv; subst hpv; exact hPn _ _ (rfl) rfl (by simp[J1])⟩) (fun v wr h=>by cases h)
set_option maxHeartbeats 4000000 in
theorem qarg_ok(z l:List Tk)(a:Ag)(u:List Tk)(J id:Nat)(h:pAg l=some (a,u)):FnOk Tryz.prog 129 [.ptr J 0 0] [(J,tB z l)] id (eAg a) [(J,some (tB z u))]:=by
 unfold pAg at h
 split at h
 rotate_left
 ·cases h
 rename_i hh
 obtain⟨h1,h2,h3⟩:=hh
 obtain⟨t,r,rfl,hk⟩:=isW_cons h1
 have hN:=fun id=>Name_ok' z r t J id hk
 rw[List.drop_one,List.tail_cons] at h2
 have hS:=fun id=>Need_ok z r 58 J id h2
 obtain⟨t2,r2,rfl⟩:=isS_cons h2
 obtain⟨t3,r3,rfl,hk3⟩:=isV_cons h3
 have hV:=fun id=>Next_ok z r3 t3 [2,3] J id hk3 (by simp)
 have het:eTk t3 = .agg [.int .i64 t3.kind,.str t3.text,.int .i64 t3.n]:=rfl
 rw[het] at hV
 injection h with h
 rw[Prod.mk.injEq] at h
 obtain⟨rfl,rfl⟩:=h
 show FnOk _ _ _ _ _ (.agg [.str t.text,.bool (t3.kind==3),.str t3.text,.int .i64 t3.n]) [(J,some (tB z r3))]
 rw[List.drop_one,List.tail_cons,tB_eq,tB_eq] at hS
 rw[tB_eq,tB_eq] at hV
 rw[tB_eq,tB_eq] at hN
 rw[tB_eq,tB_eq]
 refine fn_okc Tryz.func129 hcc129 (by decide) hcr129 (by simp[Tryz.ntmps129]) fun E hP hR hl hid=>?_
 simp only[cr129] at hR
 refine w_go 4000 ?_
 simp[cc129]
 have hJ:=hl (J,_) (List.mem_cons_self ..)
 simp only at hJ
 have J1:=lf hJ
 (refine w_call hP rfl (hN _) (by simp[J1]) (by simp[J1]<;>rfl) ?_; refine w_go 4000 ?_; simp[J1])
 (refine w_call hP rfl (hS _) (by simp[J1]) (by simp[J1]<;>rfl) ?_; refine w_go 4000 ?_; simp[J1])
 (refine w_callR hP rfl (hV _) (by simp[J1]<;>rfl) (by simp[J1]) (by simp[J1]<;>rfl) (by simp[J1]) ?_; refine w_go 4000 ?_; simp[J1])
 have hrn:rnOk []:=by simp[J1,idO hid]
 rw[hR]
 refine rt_end (by simp<;>rfl) [] hrn ⟨?_,?_,?_,?_,?_,?_⟩<;>(try simp[J1,idO hid])
 all_goals trace_state
end Go.Am
namespace Go.Am
set_option linter.all false
open Go Go.RowKit Go.Proofs
set_option maxRecDepth 100000
set_option linter.all false
theorem qfd_no(z l:List Tk)(J id:Nat)(h:pFd l=none):FnE Tryz.prog 90 [.ptr J 0 0] [(J,tB z l)] id (.error (erV 1)):=by
 unfold pFd at h
 by_cases h1:isW l=true
 rotate_left
 ·have hN:=fun id=>Name_no z l J id (by simpa using h1)
  rw[tB_eq] at *
  refine fn_okE Tryz.func90 hcc90 (by decide) hcr90 (by simp[Tryz.ntmps90]) fun E hP hR hPn hl hid hB hu=>?_
  simp only[cr90] at hR
  refine w_go 4000 ?_
  simp[cc90]
  have hJ:=hl (J,_) (List.mem_cons_self ..)
  simp only at hJ
  have J1:=lf hJ
  refine w_callE hP rfl (hN _) (by simp[J1]) (by simp[J1]<;>rfl) (fun pv hpv=>⟨by simp[J1],by injection hpv with hpv; subst hpv; exact hPn _ _ (rfl) rfl (by simp[J1])⟩) (fun v wr h=>by cases h)
 obtain⟨t,r,rfl,hk⟩:=isW_cons h1
 have hN:=fun id=>Name_ok' z r t J id hk
 rw[tB_eq,tB_eq] at hN
 by_cases h2:isS r 58=true
 rotate_left
 ·have hS:=fun id=>Need_no z r 58 J id (by simpa using h2)
  rw[tB_eq] at hS
  rw[tB_eq]
  refine fn_okE Tryz.func90 hcc90 (by decide) hcr90 (by simp[Tryz.ntmps90]) fun E hP hR hPn hl hid hB hu=>?_
  simp only[cr90] at hR
  refine w_go 4000 ?_
  simp[cc90]
  have hJ:=hl (J,_) (List.mem_cons_self ..)
  simp only at hJ
  have J1:=lf hJ
  (refine w_call hP rfl (hN _) (by simp[J1]) (by simp[J1]<;>rfl) ?_; refine w_go 4000 ?_; simp[J1])
  refine w_callE hP rfl (hS _) (by simp[J1]) (by simp[J1]<;>rfl) (fun pv hpv=>⟨by simp[J1],by injection hpv with hpv; subst hpv; exact hPn _ _ (rfl) rfl (by simp[J1])⟩) (fun v wr h=>by cases h)
 have hS:=fun id=>Need_ok z r 58 J id h2
 obtain⟨t2,r2,rfl⟩:=isS_cons h2
 rw[List.drop_one,List.tail_cons,tB_eq,tB_eq] at hS
 have hT:=fun id=>Try_ok z r2 91 J id
 rw[if_pos ⟨h1,h2⟩] at h
 by_cases h3:isS r2 91=true
 ·rw[h3,tryL_yes h3] at hT
  obtain⟨t3,r3,rfl⟩:=isS_cons h3
  rw[List.drop_one,List.tail_cons,tB_eq,tB_eq] at hT
  rw[if_pos (show isS (List.drop 2 (t::t2::t3::r3)) 91=true from h3)] at h
  by_cases h4:isW r3=true
  rotate_left
  ·have hN2:=fun id=>Name_no z r3 J id (by simpa using h4)
   rw[tB_eq] at hN2
   rw[tB_eq]
   refine fn_okE Tryz.func90 hcc90 (by decide) hcr90 (by simp[Tryz.ntmps90]) fun E hP hR hPn hl hid hB hu=>?_
   simp only[cr90] at hR
   refine w_go 4000 ?_
   simp[cc90]
   have hJ:=hl (J,_) (List.mem_cons_self ..)
   simp only at hJ
   have J1:=lf hJ
   (refine w_call hP rfl (hN _) (by simp[J1]) (by simp[J1]<;>rfl) ?_; refine w_go 4000 ?_; simp[J1])
   (refine w_call hP rfl (hS _) (by simp[J1]) (by simp[J1]<;>rfl) ?_; refine w_go 4000 ?_; simp[J1])
   (refine w_call hP rfl (hT _) (by simp[J1]) (by simp[J1]<;>rfl) ?_; refine w_go 4000 ?_; simp[J1])
   refine w_callE hP rfl (hN2 _) (by simp[J1]) (by simp[J1]<;>rfl) (fun pv hpv=>⟨by simp[J1],by injection hpv with hpv; subst hpv; exact hPn _ _ (rfl) rfl (by simp[J1])⟩) (fun v wr h=>by cases h)
  obtain⟨t4,r4,rfl,hk4⟩:=isW_cons h4
  have hN2:=fun id=>Name_ok' z r4 t4 J id hk4
  rw[tB_eq,tB_eq] at hN2
  have h5:isS r4 93=false:=by
   rw[Bool.eq_false_iff]; intro h5
   rw[if_pos ⟨h4,h5⟩] at h; cases h
  have hS2:=fun id=>Need_no z r4 93 J id h5
  rw[tB_eq] at hS2
  rw[tB_eq]
  refine fn_okE Tryz.func90 hcc90 (by decide) hcr90 (by simp[Tryz.ntmps90]) fun E hP hR hPn hl hid hB hu=>?_
  simp only[cr90] at hR
  refine w_go 4000 ?_
  simp[cc90]
  have hJ:=hl (J,_) (List.mem_cons_self ..)
  simp only at hJ
  have J1:=lf hJ
  (refine w_call hP rfl (hN _) (by simp[J1]) (by simp[J1]<;>rfl) ?_; refine w_go 4000 ?_; simp[J1])
  (refine w_call hP rfl (hS _) (by simp[J1]) (by simp[J1]<;>rfl) ?_; refine w_go 4000 ?_; simp[J1])
  (refine w_call hP rfl (hT _) (by simp[J1]) (by simp[J1]<;>rfl) ?_; refine w_go 4000 ?_; simp[J1])
  (refine w_call hP rfl (hN2 _) (by simp[J1]) (by simp[J1]<;>rfl) ?_; refine w_go 4000 ?_; simp[J1])
  refine w_callE hP rfl (hS2 _) (by simp[J1]) (by simp[J1]<;>rfl) (fun pv hpv=>⟨by simp[J1],by injection hpv with hpv; subst hpv; exact hPn _ _ (rfl) rfl (by simp[J1])⟩) (fun v wr h=>by cases h)
 have h3:isS r2 91=false:=by simpa using h3
 rw[h3,tryL_no h3] at hT
 rw[if_neg (by show ¬isS r2 91=true; simp[h3])] at h
 have h4:isW r2=false:=by
  rw[Bool.eq_false_iff]; intro h4
  rw[if_pos (show isW ((t::t2::r2).drop 2)=true from h4)] at h; cases h
 have hN2:=fun id=>Name_no z r2 J id h4
 rw[tB_eq] at hN2 hT
 rw[tB_eq]
 refine fn_okE Tryz.func90 hcc90 (by decide) hcr90 (by simp[Tryz.ntmps90]) fun E hP hR hPn hl hid hB hu=>?_
 simp only[cr90] at hR
 refine w_go 4000 ?_
 simp[cc90]
 have hJ:=hl (J,_) (List.mem_cons_self ..)
 simp only at hJ
 have J1:=lf hJ
 (refine w_call hP rfl (hN _) (by simp[J1]) (by simp[J1]<;>rfl) ?_; refine w_go 4000 ?_; simp[J1])
 (refine w_call hP rfl (hS _) (by simp[J1]) (by simp[J1]<;>rfl) ?_; refine w_go 4000 ?_; simp[J1])
 (refine w_call hP rfl (hT _) (by simp[J1]) (by simp[J1]<;>rfl) ?_; refine w_go 4000 ?_; simp[J1])
 refine w_callE hP rfl (hN2 _) (by simp[J1]) (by simp[J1]<;>rfl) (fun pv hpv=>⟨by simp[J1],by injection hpv with hpv; subst hpv; exact hPn _ _ (rfl) rfl (by simp[J1])⟩) (fun v wr h=>by cases h)
set_option maxHeartbeats 8000000 in
theorem qfd_ok(z l:List Tk)(f:Fd)(u:List Tk)(J id:Nat)(h:pFd l=some (f,u)):FnOk Tryz.prog 90 [.ptr J 0 0] [(J,tB z l)] id (eFd f) [(J,some (tB z u))]:=by
 unfold pFd at h
 split at h
 rotate_left
 ·cases h
 rename_i hh
 obtain⟨h1,h2⟩:=hh
 obtain⟨t,r,rfl,hk⟩:=isW_cons h1
 have hN:=fun id=>Name_ok' z r t J id hk
 rw[tB_eq,tB_eq] at hN
 rw[List.drop_one,List.tail_cons] at h2
 have hS:=fun id=>Need_ok z r 58 J id h2
 obtain⟨t2,r2,rfl⟩:=isS_cons h2
 rw[List.drop_one,List.tail_cons,tB_eq,tB_eq] at hS
 have hT:=fun id=>Try_ok z r2 91 J id
 by_cases h3:isS r2 91=true
 ·rw[h3,tryL_yes h3] at hT
  obtain⟨t3,r3,rfl⟩:=isS_cons h3
  rw[List.drop_one,List.tail_cons,tB_eq,tB_eq] at hT
  rw[if_pos (show isS (List.drop 2 (t::t2::t3::r3)) 91=true from h3)] at h
  split at h
  rotate_left
  ·cases h
  rename_i hh
  obtain⟨h4,h5⟩:=hh
  obtain⟨t4,r4,rfl,hk4⟩:=isW_cons (show isW r3=true from h4)
  have hN2:=fun id=>Name_ok' z r4 t4 J id hk4
  rw[tB_eq,tB_eq] at hN2
  have hS2:=fun id=>Need_ok z r4 93 J id h5
  obtain⟨t5,r5,rfl⟩:=isS_cons (show isS r4 93=true from h5)
  rw[List.drop_one,List.tail_cons,tB_eq,tB_eq] at hS2
  injection h with h
  rw[Prod.mk.injEq] at h
  obtain⟨rfl,rfl⟩:=h
  show FnOk _ _ _ _ _ (.agg [.str t.text,.int .i64 4,.str t4.text]) [(J,some (tB z r5))]
  rw[tB_eq,tB_eq]
  refine fn_okc Tryz.func90 hcc90 (by decide) hcr90 (by simp[Tryz.ntmps90]) fun E hP hR hl hid=>?_
  simp only[cr90] at hR
  refine w_go 4000 ?_
  simp[cc90]
  have hJ:=hl (J,_) (List.mem_cons_self ..)
  simp only at hJ
  have J1:=lf hJ
  (refine w_call hP rfl (hN _) (by simp[J1]) (by simp[J1]<;>rfl) ?_; refine w_go 4000 ?_; simp[J1])
  (refine w_call hP rfl (hS _) (by simp[J1]) (by simp[J1]<;>rfl) ?_; refine w_go 4000 ?_; simp[J1])
  (refine w_call hP rfl (hT _) (by simp[J1]) (by simp[J1]<;>rfl) ?_; refine w_go 4000 ?_; simp[J1])
  (refine w_call hP rfl (hN2 _) (by simp[J1]) (by simp[J1]<;>rfl) ?_; refine w_go 4000 ?_; simp[J1])
  (refine w_call hP rfl (hS2 _) (by simp[J1]) (by simp[J1]<;>rfl) ?_; refine w_go 4000 ?_; simp[J1])
  have hrn:rnOk []:=by simp[J1,idO hid]
  rw[hR]
  refine rt_end (by simp<;>rfl) [] hrn ⟨?_,?_,?_,?_,?_,?_⟩<;>(try simp[J1,idO hid])
 have h3:isS r2 91=false:=by simpa using h3
 rw[h3,tryL_no h3] at hT
 rw[if_neg (by show ¬isS r2 91=true; simp[h3])] at h
 split at h
 rotate_left
 ·cases h
 rename_i h4
 obtain⟨t4,r4,rfl,hk4⟩:=isW_cons (show isW r2=true from h4)
 have hN2:=fun id=>Name_ok' z r4 t4 J id hk4
 injection h with h
 rw[Prod.mk.injEq] at h
 obtain⟨rfl,rfl⟩:=h
 show FnOk _ _ _ _ _ (eFd (fdOf t.text t4.text)) [(J,some (tB z r4))]
 rw[tB_eq,tB_eq] at hN2
 rw[tB_eq] at hT
 rw[tB_eq,tB_eq]
 by_cases c1:t4.text=tNumber
 ·have e:fdOf t.text t4.text=⟨t.text,1,[]⟩:=by unfold fdOf; rw[if_pos c1]
  rw[e]
  show FnOk _ _ _ _ _ (.agg [.str t.text,.int .i64 1,.str []]) _
  rw[c1] at hN2
  unfold tNumber at hN2
  refine fn_okc Tryz.func90 hcc90 (by decide) hcr90 (by simp[Tryz.ntmps90]) fun E hP hR hl hid=>?_
  simp only[cr90] at hR
  refine w_go 4000 ?_
  simp[cc90]
  have hJ:=hl (J,_) (List.mem_cons_self ..)
  simp only at hJ
  have J1:=lf hJ
  (refine w_call hP rfl (hN _) (by simp[J1]) (by simp[J1]<;>rfl) ?_; refine w_go 4000 ?_; simp[J1])
  (refine w_call hP rfl (hS _) (by simp[J1]) (by simp[J1]<;>rfl) ?_; refine w_go 4000 ?_; simp[J1])
  (refine w_call hP rfl (hT _) (by simp[J1]) (by simp[J1]<;>rfl) ?_; refine w_go 4000 ?_; simp[J1])
  (refine w_call hP rfl (hN2 _) (by simp[J1]) (by simp[J1]<;>rfl) ?_; refine w_go 4000 ?_; simp[J1])
  have hrn:rnOk []:=by simp[J1,idO hid]
  rw[hR]
  refine rt_end (by simp<;>rfl) [] hrn ⟨?_,?_,?_,?_,?_,?_⟩<;>(try simp[J1,idO hid])
 have b1:(t4.text==[78,117,109,98,101,114])=false:=by simpa [tNumber] using c1
 by_cases c2:t4.text=tText
 ·have e:fdOf t.text t4.text=⟨t.text,2,[]⟩:=by unfold fdOf; rw[if_neg c1,if_pos c2]
  rw[e]
  show FnOk _ _ _ _ _ (.agg [.str t.text,.int .i64 2,.str []]) _
  rw[c2] at hN2
  unfold tText at hN2
  refine fn_okc Tryz.func90 hcc90 (by decide) hcr90 (by simp[Tryz.ntmps90]) fun E hP hR hl hid=>?_
  simp only[cr90] at hR
  refine w_go 4000 ?_
  simp[cc90]
  have hJ:=hl (J,_) (List.mem_cons_self ..)
  simp only at hJ
  have J1:=lf hJ
  (refine w_call hP rfl (hN _) (by simp[J1]) (by simp[J1]<;>rfl) ?_; refine w_go 4000 ?_; simp[J1])
  (refine w_call hP rfl (hS _) (by simp[J1]) (by simp[J1]<;>rfl) ?_; refine w_go 4000 ?_; simp[J1])
  (refine w_call hP rfl (hT _) (by simp[J1]) (by simp[J1]<;>rfl) ?_; refine w_go 4000 ?_; simp[J1])
  (refine w_call hP rfl (hN2 _) (by simp[J1]) (by simp[J1]<;>rfl) ?_; refine w_go 4000 ?_; simp[J1])
  have hrn:rnOk []:=by simp[J1,idO hid]
  rw[hR]
  refine rt_end (by simp<;>rfl) [] hrn ⟨?_,?_,?_,?_,?_,?_⟩<;>(try simp[J1,idO hid])
 have b2:(t4.text==[84,101,120,116])=false:=by simpa [tText] using c2
 have e:fdOf t.text t4.text=⟨t.text,3,t4.text⟩:=by unfold fdOf; rw[if_neg c1,if_neg c2]
 rw[e]
 show FnOk _ _ _ _ _ (.agg [.str t.text,.int .i64 3,.str t4.text]) _
 refine fn_okc Tryz.func90 hcc90 (by decide) hcr90 (by simp[Tryz.ntmps90]) fun E hP hR hl hid=>?_
 simp only[cr90] at hR
 refine w_go 4000 ?_
 simp[cc90]
 have hJ:=hl (J,_) (List.mem_cons_self ..)
 simp only at hJ
 have J1:=lf hJ
 (refine w_call hP rfl (hN _) (by simp[J1]) (by simp[J1]<;>rfl) ?_; refine w_go 4000 ?_; simp[J1])
 (refine w_call hP rfl (hS _) (by simp[J1]) (by simp[J1]<;>rfl) ?_; refine w_go 4000 ?_; simp[J1])
 (refine w_call hP rfl (hT _) (by simp[J1]) (by simp[J1]<;>rfl) ?_; refine w_go 4000 ?_; simp[J1])
 (refine w_call hP rfl (hN2 _) (by simp[J1]) (by simp[J1]<;>rfl) ?_; refine w_go 4000 ?_; simp[J1])
 refine goc_false b1 ?_
 simp[J1]
 refine goc_false b2 ?_
 simp[J1]
 have hrn:rnOk []:=by simp[J1,idO hid]
 rw[hR]
 refine rt_end (by simp<;>rfl) [] hrn ⟨?_,?_,?_,?_,?_,?_⟩<;>(try simp[J1,idO hid])
end Go.Am
