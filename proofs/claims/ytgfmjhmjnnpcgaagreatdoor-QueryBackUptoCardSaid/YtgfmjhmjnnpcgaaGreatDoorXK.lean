/- Parts of the proof: an abstract machine for Go functions, and what functions of the program give back (Sx1, Qr1, Qr2, Qx1, Qr3, Qr4, Qr5, Qr6, Am56, Qr7). No condition. -/
import Derived.Test.YtgfmjhmjnnpcgaaGreatDoorXI
import Derived.Test.YtgfmjhmjnnpcgaaGreatDoorXH
import Derived.Test.YtgfmjhmjnnpcgaaGreatDoorXJ
namespace Go.Am
set_option linter.all false
open Go Go.RowKit Go.Proofs
set_option maxRecDepth 100000
set_option linter.all false
def isS(l:List Tk)(c:UInt8):Bool:=match l with
 | t::_=>t.kind==4&&t.text==[c]
 | []=>false
def isW(l:List Tk):Bool:=match l with
 | t::_=>t.kind==1
 | []=>false
def txt(l:List Tk):List UInt8:=match l with
 | t::_=>t.text
 | []=>[]
def tType:List UInt8:=[116,121,112,101]
def fdOf(nm s:List UInt8):Fd:=if s=tNumber then ⟨nm,1,[]⟩ else if s=tText then ⟨nm,2,[]⟩ else ⟨nm,3,s⟩
def pFd(l:List Tk):Option (Fd×List Tk) :=
 if isW l=true∧isS (l.drop 1) 58=true then
  if isS (l.drop 2) 91=true then (if isW (l.drop 3)=true∧isS (l.drop 4) 93=true then some (⟨txt l,4,txt (l.drop 3)⟩,l.drop 5) else none)
  else if isW (l.drop 2)=true then some (fdOf (txt l) (txt (l.drop 2)),l.drop 3) else none
 else none
def pFds:Nat→List Fd→List Tk→Option (List Fd×List Tk)
 | 0,_,_=>none
 | n+1,acc,l=>match pFd l with
  | none=>none
  | some p=>if isS p.2 125=true then some (acc++[p.1],p.2.drop 1) else pFds n (acc++[p.1]) p.2
def pTy(l:List Tk):Option (Ty×List Tk) :=
 if (isW l=true∧txt l=tType)∧isW (l.drop 1)=true∧isS (l.drop 2) 123=true then (pFds (l.length+1) [] (l.drop 3)).map fun p=>(⟨txt (l.drop 1),p.1⟩,p.2) else none
def pTys:Nat→List Ty→List Tk→Option (List Ty)
 | 0,_,_=>none
 | n+1,acc,l=>match pTy l with
  | none=>none
  | some p=>if p.2=[] then some (acc++[p.1]) else pTys n (acc++[p.1]) p.2
def tysOf(l:List Tk):Option (List Ty):=pTys (l.length+1) [] l
def tkW(s:List UInt8):Tk:=⟨1,s,0⟩
def tkS(c:UInt8):Tk:=⟨4,[c],0⟩
theorem fIx_zero{α:Type}(f:Nat→α→Int):∀(l:List α) (i:Nat),firstIx f l i=0↔∀k x,l[k]?=some x→f (i+k) x=0
 | [],i=>by simp[firstIx]
 | x::l,i=>by
  have ih:=fIx_zero f l (i+1)
  unfold firstIx
  split
  ·rename_i h
   constructor
   ·intro q; exact (h q).elim
   ·intro q; exact (h (q 0 x rfl)).elim
  ·rename_i h
   have h:f i x=0:=by simpa using h
   rw[ih]
   constructor
   ·intro q k y hy
    cases k with
    | zero=>injection hy with hy; rw[←hy]; exact h
    | succ k=>rw[show i+(k+1)=i+1+k by omega]; exact q k y hy
   ·intro q k y hy
    rw[show i+1+k=i+(k+1) by omega]; exact q (k+1) y hy
theorem ite0{p:Prop}[Decidable p]{a b:Int}(h:(if p then a else b)=0)(ha:a≠0):¬p∧b=0:=by
 split at h
 ·exact (ha h).elim
 ·exact⟨‹_›,h⟩
theorem iteS{a b:Int}(h:(if a≠0 then a else b)=0):a=0∧b=0:=by
 split at h
 ·exact (‹a≠0› h).elim
 ·exact⟨by simpa using ‹¬a≠0›,h⟩
theorem mem_ix{α:Type}{l:List α}{x:α}(h:x∈l):∃i:Nat,l[i]?=some x:=by
 obtain⟨i,hi,e⟩:=List.getElem_of_mem h
 exact⟨i,by rw[List.getElem?_eq_getElem hi,e]⟩
theorem isW_w(s:List UInt8)(x:List Tk):isW (tkW s::x)=true:=rfl
theorem isS_s(c:UInt8)(x:List Tk):isS (tkS c::x) c=true:=by simp[isS,tkS]
theorem tkW_ok{s:List UInt8}(h:fName s=0):fTk (tkW s)=0:=by simp[fTk,tkW,h]
theorem fName_le{s:List UInt8}(h:fName s=0):s.length≤12:=by
 unfold fName at h
 split at h
 ·cases h
 ·omega
def wSum(l:List Tk):Nat:=(l.map fun t=>(wrTk t).length+1).sum
theorem wSum_app(a b:List Tk):wSum (a++b)=wSum a+wSum b:=by simp[wSum]
theorem tkB_len(l:List Tk):(tkB l).length≤wSum l:=by
 cases l with
 | nil=>simp[tkB_nil]
 | cons t l =>
  rw[tkB_cons]
  have:(l.flatMap fun x=>32::wrTk x).length=wSum l:=by
   induction l with
   | nil=>rfl
   | cons u l ih=>simp[wSum] at ih ⊢; omega
  rw[List.length_append,this]
  simp[wSum]
def Few(l:List Tk)(a b:Nat):Prop:=(∀t∈l,fTk t=0)∧l.length≤a∧wSum l≤b
theorem Few.app{l m:List Tk}{a b c d:Nat}(h1:Few l a b)(h2:Few m c d):Few (l++m) (a+c) (b+d):=by
 refine⟨fun t ht=>?_,?_,?_⟩
 ·rcases List.mem_append.1 ht with h|h
  ·exact h1.1 t h
  ·exact h2.1 t h
 ·have:=h1.2.1; have:=h2.2.1; simp; omega
 ·have:=h1.2.2; have:=h2.2.2; rw[wSum_app]; omega
theorem Few.mono{l:List Tk}{a b c d:Nat}(h:Few l a b)(h1:a≤c)(h2:b≤d):Few l c d:=⟨h.1,Nat.le_trans h.2.1 h1,Nat.le_trans h.2.2 h2⟩
end Go.Am
namespace Go.Am
set_option linter.all false
open Go Go.RowKit Go.Proofs
set_option maxRecDepth 100000
set_option linter.all false
@[simp] theorem pureB_eTk (t:Tk):(eTk t).pureB=true:=rfl
@[simp] theorem pure_nums (l:List Int):pureL (l.map (AV.int .i64))=true:=pureL_map (fun _=>rfl) l
@[simp] theorem names_nums (S:Nat→Prop) (l:List Int):namesL S (l.map (AV.int .i64)):=namesL_pure _ (pure_nums l)
def tB(z l:List Tk):Bx:=⟨[.agg [.sl (l.map eTk)]],.agg [.sl (z.map eTk)],false,false⟩
theorem tB_eq(z l:List Tk):tB z l=⟨[.agg [.sl (l.map eTk)]],.agg [.sl (z.map eTk)],false,false⟩:=rfl
def rdT(J:Nat)(z:List Tk):Option (AV×List Tk)→Except AV (AV×List (Nat×Option Bx))
 | some (v,u)=>.ok (v,[(J,some (tB z u))])
 | none=>.error (erV 1)
theorem qFail_ok(e:Int)(id:Nat):FnE Tryz.prog 86 [.int .i64 e] [] id (.error (erV e)):=by
 refine fn_okE Tryz.func86 hcc86 (by decide) hcr86 (by simp[Tryz.ntmps86]) fun E hP hR hPn hl hid hB hu=>?_
 simp only[cr86] at hR
 refine w_go 9 ?_
 simp[cc86]
 refine w_panic (by simp<;>rfl) (by simp) ⟨by simp,hPn _ _ rfl rfl (by simp)⟩
theorem Is_ok(z l:List Tk)(c:UInt8)(J id:Nat):FnOk Tryz.prog 122 [.ptr J 0 0,.str [c]] [(J,tB z l)] id (.bool (isS l c)) []:=by
 rw[tB_eq]
 cases l with
 | nil =>
  refine fn_okc Tryz.func122 hcc122 (by decide) hcr122 (by simp[Tryz.ntmps122]) fun E hP hR hl hid=>?_
  simp only[cr122] at hR
  refine w_go 4000 ?_
  simp[cc122]
  have hJ:=hl (J,_) (List.mem_cons_self ..)
  simp only at hJ
  have J1:=lf hJ
  have hrn:rnOk []:=by simp[isS,J1,idO hid]
  rw[hR]
  refine rt_end (by simp<;>rfl) [] hrn ⟨?_,?_,?_,?_,?_,?_⟩<;>(try simp[isS,J1,idO hid])
  all_goals exact namesL_pure _ (by simp[pureL,pureB_eTk])
 | cons t l =>
  refine fn_okc Tryz.func122 hcc122 (by decide) hcr122 (by simp[Tryz.ntmps122]) fun E hP hR hl hid=>?_
  simp only[cr122] at hR
  refine w_go 4000 ?_
  simp[cc122]
  have hJ:=hl (J,_) (List.mem_cons_self ..)
  simp only at hJ
  have J1:=lf hJ
  simp[eTk,J1]
  have hrn:rnOk []:=by simp[isS,eTk,J1,idO hid]
  rw[hR]
  refine rt_end (by simp<;>rfl) [] hrn ⟨?_,?_,?_,?_,?_,?_⟩<;>(try simp[isS,eTk,J1,idO hid])
  all_goals exact namesL_pure _ (by simp[pureL,pureB_eTk])
theorem End_ok(z l:List Tk)(J id:Nat):FnE Tryz.prog 84 [.ptr J 0 0] [(J,tB z l)] id (if l=[] then .ok (.tup [],[]) else .error (erV 1)):=by
 have hf:=fun id=>qFail_ok 1 id
 rw[tB_eq]
 cases l with
 | nil =>
  refine fn_okE Tryz.func84 hcc84 (by decide) hcr84 (by simp[Tryz.ntmps84]) fun E hP hR hPn hl hid hB hu=>?_
  simp only[cr84] at hR
  refine w_go 4000 ?_
  simp[cc84]
  have hJ:=hl (J,_) (List.mem_cons_self ..)
  simp only at hJ
  have J1:=lf hJ
  have hrn:rnOk []:=by simp[J1,idO hid]
  refine hR _ _ _ (rfl) ?_
  refine rt_end (by simp[J1,idO hid]<;>rfl) [] hrn ⟨?_,?_,?_,?_,?_,?_⟩<;>(try simp[J1,idO hid])
  all_goals exact namesL_pure _ (by simp[pureL,pureB_eTk])
 | cons t l =>
  rw[if_neg (by simp)]
  refine fn_okE Tryz.func84 hcc84 (by decide) hcr84 (by simp[Tryz.ntmps84]) fun E hP hR hPn hl hid hB hu=>?_
  simp only[cr84] at hR
  refine w_go 4000 ?_
  simp[cc84]
  have hJ:=hl (J,_) (List.mem_cons_self ..)
  simp only at hJ
  have J1:=lf hJ
  refine w_callE hP rfl (hf _) (by simp[J1]) (by simp[J1]<;>rfl) (fun pv hpv=>⟨by simp[J1],by injection hpv with hpv; subst hpv; exact hPn _ _ (rfl) rfl (by simp[J1])⟩) (fun v wr h=>by cases h)
theorem IndexI_ok(ks:List Int)(x:Int)(id:Nat)(h8:ks.length≤1000000):FnOk Tryz.prog 154 [.sl (ks.map (.int .i64)),.int .i64 x] [] id (.int .i64 (findJ (fun y=>y==x) ks 0)) []:=by
 have hp:pureL (ks.map (AV.int .i64))=true:=pureL_map (fun _=>rfl) ks
 refine fn_okc Tryz.func154 hcc154 (by decide) hcr154 (by simp[Tryz.ntmps154]) fun E hP hR hl hid=>?_
 simp only[cr154] at hR
 refine w_go 4000 ?_
 simp[cc154]
 refine w_loop (X:=Nat) (fun i=>⟨[(0,true,.sl (ks.map (.int .i64))),(1,true,.int .i64 x),(7,true,.int .i64 ks.length),(8,true,.int .i64 i)],[],0⟩)
  (fun i=>i≤ks.length∧findJ (fun y=>y==x) (ks.drop i) i=findJ (fun y=>y==x) ks 0) (fun i=>ks.length - i) 0 ?_ ⟨by omega,rfl⟩ ?_
 ·have hrn:rnOk []:=by simp
  refine Conv.sub [] hrn ?_ ?_ ?_ ?_ ?_<;>(try simp)
 rintro i ⟨hi,hf⟩ p hpp
 rcases Nat.lt_or_ge i ks.length with h|h
 ·obtain⟨y,hy,hd⟩:=drop_cons h
  have hli:ks[i]=y:=by
   rw[List.getElem?_eq_getElem h] at hy
   injection hy
  have hi1:IntKind.i64.wrap ((i:Int)+1)=((i+1:Nat):Int):=wrap64 (by omega)
  rw[hd] at hf
  simp only[findJ] at hf
  refine w_go 4000 ?_
  simp[h,hli]
  by_cases hxy:y=x
  ·rw[if_pos (by simpa using hxy)] at hf
   rw[←hf] at hR
   refine goc_true (by simp[hxy]) ?_
   simp
   rw[hR]; exact rt_end (by simp<;>rfl) [] trivial (end_pure (by simp) (by simp) (by simp))
  ·rw[if_neg (by simpa using hxy)] at hf
   refine goc_false (by simpa using fun q=>hxy q.symm) ?_
   simp
   refine hpp _ (i+1) ⟨h,hf⟩ (by omega) ?_
   have hrn:rnOk []:=by simp[hi1]
   refine Conv.sub [] hrn ?_ ?_ ?_ ?_ ?_<;>(try simp[hi1])
 ·rw[List.drop_of_length_le h] at hf
  have hf : -1=findJ (fun y=>y==x) ks 0:=hf
  rw[←hf] at hR
  refine w_go 4000 ?_
  simp[Nat.not_lt.2 h]
  rw[hR]; exact rt_end (by simp<;>rfl) [] trivial (end_pure (by simp) (by simp) (by simp))
end Go.Am
namespace Go.Am
set_option linter.all false
open Go Go.RowKit Go.Proofs
set_option maxRecDepth 100000
set_option linter.all false
theorem ContainsI_ok(ks:List Int)(x:Int)(id:Nat)(h8:ks.length≤1000000):FnOk Tryz.prog 140 [.sl (ks.map (.int .i64)),.int .i64 x] [] id (.bool (ks.any (·==x))) []:=by
 have hI:=fun id=>IndexI_ok ks x id h8
 rw[←findJ_any (fun y=>y==x) ks 0]
 refine fn_okc Tryz.func140 hcc140 (by decide) hcr140 (by simp[Tryz.ntmps140]) fun E hP hR hl hid=>?_
 simp only[cr140] at hR
 refine w_go 4000 ?_
 simp[cc140]
 (refine w_call hP rfl (hI _) (by simp) (by simp<;>rfl) ?_; refine w_go 4000 ?_; simp)
 rw[hR]; exact rt_end (by simp<;>rfl) [] trivial (end_pure (by simp) (by simp) (by simp))
def isK(ks:List Int)(l:List Tk):Bool:=match l with
 | t::_=>ks.any (·==t.kind)
 | []=>false
set_option maxHeartbeats 4000000 in
theorem Next_ok(z l:List Tk)(t:Tk)(ks:List Int)(J id:Nat)(hk:ks.any (·==t.kind)=true)(h8:ks.length≤1000000):
  FnOk Tryz.prog 121 [.ptr J 0 0,.sl (ks.map (.int .i64))] [(J,tB z (t::l))] id (eTk t) [(J,some (tB z l))]:=by
 have hC:=fun id=>ContainsI_ok ks t.kind id h8
 rw[hk] at hC
 rw[tB_eq,tB_eq]
 have hne:(((l.length:Int)+1)==0)=false:=by rw[beq_eq_false_iff_ne]; omega
 have het:eTk t = .agg [.int .i64 t.kind,.str t.text,.int .i64 t.n]:=rfl
 refine fn_okc Tryz.func121 hcc121 (by decide) hcr121 (by simp[Tryz.ntmps121]) fun E hP hR hl hid=>?_
 simp only[cr121] at hR
 refine w_go 4000 ?_
 simp[cc121]
 have hJ:=hl (J,_) (List.mem_cons_self ..)
 simp only at hJ
 have J1:=lf hJ
 simp[hne,het,J1]
 (refine w_callg hP (by simp[hne,het,J1]) rfl (fun hc=>⟨hC _,by revert hc; simp[hne,het,J1]; try grind,by simp[hne,het,J1]⟩) ?_; refine w_go 4000 ?_; simp[hne,het,J1])
 refine⟨⟨fun a _=>rfl,by omega⟩,?_⟩
 have hrn:rnOk []:=by simp[het,J1,idO hid]
 rw[hR]
 refine rt_end (by simp<;>rfl) [] hrn ⟨?_,?_,?_,?_,?_,?_⟩<;>(try simp[het,J1,idO hid])
theorem Next_no(z l:List Tk)(ks:List Int)(J id:Nat)(hk:isK ks l=false)(h8:ks.length≤1000000):
  FnE Tryz.prog 121 [.ptr J 0 0,.sl (ks.map (.int .i64))] [(J,tB z l)] id (.error (erV 1)):=by
 have hf:=fun id=>qFail_ok 1 id
 rw[tB_eq]
 cases l with
 | nil =>
  refine fn_okE Tryz.func121 hcc121 (by decide) hcr121 (by simp[Tryz.ntmps121]) fun E hP hR hPn hl hid hB hu=>?_
  simp only[cr121] at hR
  refine w_go 4000 ?_
  simp[cc121]
  have hJ:=hl (J,_) (List.mem_cons_self ..)
  simp only at hJ
  have J1:=lf hJ
  simp[J1]
  refine w_callg hP (by simp) rfl (v:=.bool false) (rd:=[]) (fun hh=>by simp at hh) ?_
  refine w_go 4000 ?_
  simp[J1]
  refine w_callE hP rfl (hf _) (by simp[J1]) (by simp[J1]<;>rfl) (fun pv hpv=>⟨by simp[J1],by injection hpv with hpv; subst hpv; exact hPn _ _ (rfl) rfl (by simp[J1])⟩) (fun v wr h=>by cases h)
 | cons t l =>
  have hC:=fun id=>ContainsI_ok ks t.kind id h8
  have hk:ks.any (·==t.kind)=false:=hk
  rw[hk] at hC
  have hne:(((l.length:Int)+1)==0)=false:=by rw[beq_eq_false_iff_ne]; omega
  have het:eTk t = .agg [.int .i64 t.kind,.str t.text,.int .i64 t.n]:=rfl
  refine fn_okE Tryz.func121 hcc121 (by decide) hcr121 (by simp[Tryz.ntmps121]) fun E hP hR hPn hl hid hB hu=>?_
  simp only[cr121] at hR
  refine w_go 4000 ?_
  simp[cc121]
  have hJ:=hl (J,_) (List.mem_cons_self ..)
  simp only at hJ
  have J1:=lf hJ
  simp[hne,het,J1]
  (refine w_callg hP (by simp[hne,het,J1]) rfl (fun hc=>⟨hC _,by revert hc; simp[hne,het,J1]; try grind,by simp[hne,het,J1]⟩) ?_; refine w_go 4000 ?_; simp[hne,het,J1])
  refine w_callE hP rfl (hf _) (by simp[J1]) (by simp[J1]<;>rfl) (fun pv hpv=>⟨by simp[J1],by injection hpv with hpv; subst hpv; exact hPn _ _ (rfl) rfl (by simp[J1])⟩) (fun v wr h=>by cases h)
theorem Need_ok(z l:List Tk)(c:UInt8)(J id:Nat)(h:isS l c=true):
  FnOk Tryz.prog 87 [.ptr J 0 0,.str [c]] [(J,tB z l)] id (.tup []) [(J,some (tB z (l.drop 1)))]:=by
 have hI:=fun id=>Is_ok z l c J id
 rw[h] at hI
 cases l with
 | nil=>cases h
 | cons t l =>
  rw[tB_eq] at hI
  rw[List.drop_one,List.tail_cons,tB_eq,tB_eq]
  refine fn_okc Tryz.func87 hcc87 (by decide) hcr87 (by simp[Tryz.ntmps87]) fun E hP hR hl hid=>?_
  simp only[cr87] at hR
  refine w_go 4000 ?_
  simp[cc87]
  have hJ:=hl (J,_) (List.mem_cons_self ..)
  simp only at hJ
  have J1:=lf hJ
  (refine w_call hP rfl (hI _) (by simp[J1]) (by simp[J1]<;>rfl) ?_; refine w_go 4000 ?_; simp[J1])
  refine⟨by simp[eTk]; omega,?_⟩
  have hrn:rnOk []:=by simp[J1,idO hid]
  rw[hR]
  refine rt_end (by simp<;>rfl) [] hrn ⟨?_,?_,?_,?_,?_,?_⟩<;>(try simp[J1,idO hid])
theorem Need_no(z l:List Tk)(c:UInt8)(J id:Nat)(h:isS l c=false):
  FnE Tryz.prog 87 [.ptr J 0 0,.str [c]] [(J,tB z l)] id (.error (erV 1)):=by
 have hI:=fun id=>Is_ok z l c J id
 have hf:=fun id=>qFail_ok 1 id
 rw[h] at hI
 rw[tB_eq] at *
 refine fn_okE Tryz.func87 hcc87 (by decide) hcr87 (by simp[Tryz.ntmps87]) fun E hP hR hPn hl hid hB hu=>?_
 simp only[cr87] at hR
 refine w_go 4000 ?_
 simp[cc87]
 have hJ:=hl (J,_) (List.mem_cons_self ..)
 simp only at hJ
 have J1:=lf hJ
 (refine w_call hP rfl (hI _) (by simp[J1]) (by simp[J1]<;>rfl) ?_; refine w_go 4000 ?_; simp[J1])
 refine w_callE hP rfl (hf _) (by simp[J1]) (by simp[J1]<;>rfl) (fun pv hpv=>⟨by simp[J1],by injection hpv with hpv; subst hpv; exact hPn _ _ (rfl) rfl (by simp[J1])⟩) (fun v wr h=>by cases h)
def tryL(l:List Tk)(c:UInt8):List Tk:=if isS l c=true then l.drop 1 else l
theorem tryL_yes{l:List Tk}{c:UInt8}(h:isS l c=true):tryL l c=l.drop 1:=by unfold tryL; rw[if_pos h]
theorem tryL_no{l:List Tk}{c:UInt8}(h:isS l c=false):tryL l c=l:=by unfold tryL; rw[if_neg (by simp[h])]
theorem Try_ok(z l:List Tk)(c:UInt8)(J id:Nat):
  FnOk Tryz.prog 123 [.ptr J 0 0,.str [c]] [(J,tB z l)] id (.bool (isS l c)) [(J,some (tB z (tryL l c)))]:=by
 have hI:=fun id=>Is_ok z l c J id
 cases h:isS l c with
 | false =>
  rw[tryL_no h]
  rw[h] at hI
  rw[tB_eq] at *
  refine fn_okc Tryz.func123 hcc123 (by decide) hcr123 (by simp[Tryz.ntmps123]) fun E hP hR hl hid=>?_
  simp only[cr123] at hR
  refine w_go 4000 ?_
  simp[cc123]
  have hJ:=hl (J,_) (List.mem_cons_self ..)
  simp only at hJ
  have J1:=lf hJ
  (refine w_call hP rfl (hI _) (by simp[J1]) (by simp[J1]<;>rfl) ?_; refine w_go 4000 ?_; simp[J1])
  have hrn:rnOk []:=by simp[J1,idO hid]
  rw[hR]
  refine rt_end (by simp<;>rfl) [] hrn ⟨?_,?_,?_,?_,?_,?_⟩<;>(try simp[J1,idO hid])
 | true =>
  rw[tryL_yes h]
  rw[h] at hI
  cases l with
  | nil=>cases h
  | cons t l =>
   rw[tB_eq] at hI
   rw[List.drop_one,List.tail_cons,tB_eq,tB_eq]
   refine fn_okc Tryz.func123 hcc123 (by decide) hcr123 (by simp[Tryz.ntmps123]) fun E hP hR hl hid=>?_
   simp only[cr123] at hR
   refine w_go 4000 ?_
   simp[cc123]
   have hJ:=hl (J,_) (List.mem_cons_self ..)
   simp only at hJ
   have J1:=lf hJ
   (refine w_call hP rfl (hI _) (by simp[J1]) (by simp[J1]<;>rfl) ?_; refine w_go 4000 ?_; simp[J1])
   refine⟨by simp[eTk]; omega,?_⟩
   have hrn:rnOk []:=by simp[J1,idO hid]
   rw[hR]
   refine rt_end (by simp<;>rfl) [] hrn ⟨?_,?_,?_,?_,?_,?_⟩<;>(try simp[J1,idO hid])
theorem isW_K(l:List Tk):isK [1] l=isW l:=by
 cases l with
 | nil=>rfl
 | cons t l=>simp only[isK,isW,List.any_cons,List.any_nil,Bool.or_false]; exact BEq.comm
theorem Name_ok'(z l:List Tk)(t:Tk)(J id:Nat)(h:t.kind=1):
  FnOk Tryz.prog 85 [.ptr J 0 0] [(J,tB z (t::l))] id (.str t.text) [(J,some (tB z l))]:=by
 have hN:=fun id=>Next_ok z l t [1] J id (by simp[h]) (by simp)
 have het:eTk t = .agg [.int .i64 t.kind,.str t.text,.int .i64 t.n]:=rfl
 rw[het] at hN
 rw[tB_eq,tB_eq] at *
 refine fn_okc Tryz.func85 hcc85 (by decide) hcr85 (by simp[Tryz.ntmps85]) fun E hP hR hl hid=>?_
 simp only[cr85] at hR
 refine w_go 4000 ?_
 simp[cc85]
 have hJ:=hl (J,_) (List.mem_cons_self ..)
 simp only at hJ
 have J1:=lf hJ
 (refine w_callR hP rfl (hN _) (by simp[J1]<;>rfl) (by simp[J1]) (by simp[J1]<;>rfl) (by simp[J1]) ?_; refine w_go 4000 ?_; simp[J1])
 have hrn:rnOk []:=by simp[J1,idO hid]
 rw[hR]
 refine rt_end (by simp<;>rfl) [] hrn ⟨?_,?_,?_,?_,?_,?_⟩<;>(try simp[J1,idO hid])
theorem Name_no(z l:List Tk)(J id:Nat)(h:isW l=false):
  FnE Tryz.prog 85 [.ptr J 0 0] [(J,tB z l)] id (.error (erV 1)):=by
 have hN:=fun id=>Next_no z l [1] J id (by rw[isW_K,h]) (by simp)
 rw[tB_eq] at *
 refine fn_okE Tryz.func85 hcc85 (by decide) hcr85 (by simp[Tryz.ntmps85]) fun E hP hR hPn hl hid hB hu=>?_
 simp only[cr85] at hR
 refine w_go 4000 ?_
 simp[cc85]
 have hJ:=hl (J,_) (List.mem_cons_self ..)
 simp only at hJ
 have J1:=lf hJ
 refine w_callRE hP rfl (hN _) (by simp[J1]<;>rfl) (by simp[J1]) (by simp[J1]<;>rfl) (by simp[J1]) (fun pv hpv=>⟨by simp[J1],by injection hpv with hpv; subst hpv; exact hPn _ _ (rfl) rfl (by simp[J1])⟩) (fun v wr h=>by cases h)
end Go.Am
namespace Go.Am
set_option linter.all false
open Go Go.RowKit Go.Proofs
set_option maxRecDepth 100000
set_option linter.all false
def isV(l:List Tk):Bool:=match l with
 | t::_=>t.kind==2||t.kind==3
 | []=>false
def agOf(nm:List UInt8)(l:List Tk):Ag:=match l with
 | t::_=>⟨nm,t.kind==3,t.text,t.n⟩
 | []=>⟨nm,false,[],0⟩
def pAg(l:List Tk):Option (Ag×List Tk):=if isW l=true∧isS (l.drop 1) 58=true∧isV (l.drop 2)=true then some (agOf (txt l) (l.drop 2),l.drop 3) else none
def pAgs:Nat→List Ag→List Tk→Option (List Ag×List Tk)
 | 0,_,_=>none
 | n+1,acc,l=>match pAg l with
  | none=>none
  | some p=>if isS p.2 41=true then some (acc++[p.1],p.2.drop 1) else pAgs n (acc++[p.1]) p.2
def pArgs(l:List Tk):Option (List Ag×List Tk):=if isS l 40=true then pAgs (l.length+1) [] (l.drop 1) else some ([],l)
def pHd(l:List Tk):Option (List UInt8×List UInt8×List Tk) :=
 if isW l=true then (if isS (l.drop 1) 58=true then (if isW (l.drop 2)=true then some (txt l,txt (l.drop 2),l.drop 3) else none) else some ([],txt l,l.drop 1)) else none
mutual
def pSel:Nat→List Tk→Option (Sel×List Tk)
 | 0,_=>none
 | n+1,l=>match pHd l with
  | none=>none
  | some (a,nm,u)=>match pArgs u with
   | none=>none
   | some (xs,v)=>if isS v 123=true then (match pSome n v with
     | none=>none
     | some (k,w)=>some (.mk a nm xs k,w)) else some (.mk a nm xs [],v)
def pSome:Nat→List Tk→Option (List Sel×List Tk)
 | 0,_=>none
 | n+1,l=>if isS l 123=true then pSels n [] (l.drop 1) else none
def pSels:Nat→List Sel→List Tk→Option (List Sel×List Tk)
 | 0,_,_=>none
 | n+1,acc,l=>match pSel n l with
  | none=>none
  | some (s,u)=>if isS u 125=true then some (acc++[s],u.drop 1) else pSels n (acc++[s]) u
end
def selsOf(l:List Tk):Option (List Sel):=match pSome (3*l.length+3) l with
 | none=>none
 | some (q,u)=>if u=[] then some q else none
def fQryT(o:Option (List Sel)):Except Int (List Sel):=match o with
 | none=>.error 1
 | some q=>if fQuery q=0 then .ok q else .error (fQuery q)
def fQry(s:List UInt8):Except Int (List Sel):=match fLex s with
 | .error e=>.error e
 | .ok l=>fQryT (selsOf l)
def tkV(a:Ag):Tk:=if a.isText=true then ⟨3,a.text,0⟩ else ⟨2,[],a.n⟩
def tkAg(a:Ag):List Tk:=[tkW a.name,tkS 58,tkV a]
def tkHd(a nm:List UInt8):List Tk:=if a≠[] then [tkW a,tkS 58,tkW nm] else [tkW nm]
def tkArgs(x:List Ag):List Tk:=if x≠[] then tkS 40::(x.flatMap tkAg++[tkS 41]) else []
mutual
def tkSel:Sel→List Tk
 | .mk a n x k=>tkHd a n++tkArgs x++tkKids k
def tkKids:List Sel→List Tk
 | []=>[]
 | s::r=>tkS 123::(tkSel s++tkL r++[tkS 125])
def tkL:List Sel→List Tk
 | []=>[]
 | s::r=>tkSel s++tkL r
end
def tkSels(l:List Sel):List Tk:=tkS 123::(tkL l++[tkS 125])
theorem tkKids_eq(k:List Sel):tkKids k=if k≠[] then tkSels k else []:=by
 cases k with
 | nil=>rfl
 | cons s r=>simp[tkKids,tkSels,tkL]
def AgP(a:Ag):Prop:=fName a.name=0∧fArg a=0
mutual
def SelP:Sel→Prop
 | .mk a n x k=>(a≠[]→fName a=0)∧fName n=0∧(∀y∈x,AgP y)∧SelsP k
def SelsP:List Sel→Prop
 | []=>True
 | s::r=>SelP s∧SelsP r
end
theorem arg_ok{a:Ag}(h:fArg a=0):(a.isText=true∧a.n=0∧a.text.length≤40)∨(a.isText=false∧a.text=[]∧-999999999≤a.n∧a.n≤999999999):=by
 unfold fArg at h
 obtain⟨h1,h⟩:=ite0 h (by decide)
 obtain⟨h2,h⟩:=ite0 h (by decide)
 obtain⟨h3,_⟩:=ite0 h (by decide)
 have h3:=Classical.byContradiction h3
 cases ht:a.isText with
 | true =>
  refine .inl ⟨rfl,?_,by omega⟩
  apply Classical.byContradiction
  intro q
  exact h1 (.inl ⟨ht,q⟩)
 | false =>
  refine .inr ⟨rfl,?_,h3⟩
  apply Classical.byContradiction
  intro q
  exact h1 (.inr ⟨ht,q⟩)
theorem ag_back{a:Ag}(h:fArg a=0)(nm:List UInt8)(hn:a.name=nm)(x:List Tk):agOf nm (tkV a::x)=a∧isV (tkV a::x)=true:=by
 obtain⟨b,t,tx,n⟩:=a
 simp only at hn
 subst hn
 rcases arg_ok h with⟨h1,h2,_⟩|⟨h1,h2,_⟩<;>(simp only at h1 h2; subst h1; subst h2; exact⟨rfl,rfl⟩)
theorem pAg_back{a:Ag}(h:AgP a)(x:List Tk):pAg (tkAg a++x)=some (a,x):=by
 unfold pAg
 show (if isW (tkW a.name::tkS 58::tkV a::x)=true∧isS (tkS 58::tkV a::x) 58=true∧isV (tkV a::x)=true then some (agOf a.name (tkV a::x),x) else none)=_
 obtain⟨h1,h2⟩:=ag_back h.2 a.name rfl x
 rw[h1,h2,if_pos ⟨rfl,isS_s _ _,rfl⟩]
theorem pAgs_back:∀(fs:List Ag) (n:Nat) (acc:List Ag) (x:List Tk),fs≠[]→(∀f∈fs,AgP f)→fs.length<n→pAgs n acc (fs.flatMap tkAg++tkS 41::x)=some (acc++fs,x)
 | [],_,_,_,h,_,_=>(h rfl).elim
 | f::fs,n,acc,x,_,h,hn=>by
  obtain⟨n,rfl⟩:=Nat.exists_eq_succ_of_ne_zero (show n≠0 by omega)
  simp only[Nat.succ_eq_add_one,pAgs,List.flatMap_cons,List.append_assoc]
  rw[pAg_back (h f (List.mem_cons_self ..))]
  simp only
  cases fs with
  | nil=>simp[isS_s]
  | cons g fs =>
   have ih:=pAgs_back (g::fs) n (acc++[f]) x (by simp) (fun y hy=>h y (List.mem_cons_of_mem _ hy)) (by simp at hn ⊢; omega)
   rw[ih]
   rw[List.flatMap_cons,List.append_assoc,show isS (tkAg g++(fs.flatMap tkAg++tkS 41::x)) 41=false from rfl,if_neg (by simp)]
   simp
theorem tkAgs_len(fs:List Ag):fs.length≤(fs.flatMap tkAg).length:=by
 induction fs with
 | nil=>simp
 | cons f fs ih =>
  have:1≤(tkAg f).length:=by simp[tkAg]
  rw[List.flatMap_cons,List.length_append,List.length_cons]; omega
def noSg(x:List Tk):Prop:=isS x 40=false∧isS x 58=false∧isS x 123=false
theorem pArgs_back{xs:List Ag}(h:∀f∈xs,AgP f){x:List Tk}(hx:isS x 40=false):pArgs (tkArgs xs++x)=some (xs,x):=by
 unfold pArgs tkArgs
 by_cases hn:xs=[]
 ·subst hn
  show (if isS x 40=true then _ else some ([],x))=_
  rw[hx,if_neg (by simp)]
 ·rw[if_pos (show xs≠[] from hn)]
  simp only[List.cons_append,List.append_assoc,List.nil_append,List.drop_succ_cons,List.drop_zero]
  rw[isS_s,if_pos rfl,pAgs_back xs _ [] x hn h (by
   have:=tkAgs_len xs
   simp only[List.length_cons,List.length_append]; omega)]
  rfl
theorem pHd_back{a n:List UInt8}{x:List Tk}(hx:isS x 58=false):pHd (tkHd a n++x)=some (a,n,x):=by
 unfold pHd tkHd
 by_cases ha:a=[]
 ·subst ha
  show (if isW (tkW n::x)=true then (if isS x 58=true then _ else some ([],n,x)) else none)=_
  rw[if_pos (isW_w _ _),hx,if_neg (by simp)]
 ·rw[if_pos (show a≠[] from ha)]
  show (if isW (tkW a::tkS 58::tkW n::x)=true then (if isS (tkS 58::tkW n::x) 58=true then (if isW (tkW n::x)=true then some (a,n,x) else none) else _) else none)=_
  rw[if_pos (isW_w _ _),isS_s,if_pos rfl,if_pos (isW_w _ _)]
theorem sel_no(s:Sel)(x:List Tk)(c:UInt8):isS (tkSel s++x) c=false:=by
 obtain⟨a,n,xs,k⟩:=s
 unfold tkSel tkHd
 by_cases ha:a=[]
 ·subst ha; rfl
 ·rw[if_pos ha]; rfl
theorem args_head(x:List Ag)(y:List Tk):(x=[]∧tkArgs x++y=y)∨∃z,tkArgs x++y=tkS 40::z:=by
 unfold tkArgs
 by_cases h:x=[]
 ·subst h; exact .inl ⟨rfl,rfl⟩
 ·rw[if_pos h]; exact .inr ⟨_,rfl⟩
theorem kids_head(k:List Sel)(y:List Tk):(k=[]∧tkKids k++y=y)∨∃z,tkKids k++y=tkS 123::z:=by
 cases k with
 | nil=>exact .inl ⟨rfl,rfl⟩
 | cons s r=>exact .inr ⟨_,rfl⟩
theorem isS_ne{c d:UInt8}(h:c≠d)(x:List Tk):isS (tkS c::x) d=false:=by
 simp[isS,tkS,h]
mutual
theorem pSel_back:∀(s:Sel) (n:Nat) (x:List Tk),SelP s→noSg x→(tkSel s).length*2<n→pSel n (tkSel s++x)=some (s,x)
 | .mk a nm xs k,n,x,hp,hx,hn=>by
  obtain⟨n,rfl⟩:=Nat.exists_eq_succ_of_ne_zero (show n≠0 by omega)
  have hk:=hp.2.2.2
  have e:tkSel (.mk a nm xs k)++x=tkHd a nm++(tkArgs xs++(tkKids k++x)):=by simp[tkSel]
  have hlen:(tkKids k).length+1≤(tkSel (.mk a nm xs k)).length:=by
   have:1≤(tkHd a nm).length:=by unfold tkHd; split<;>simp
   simp only[tkSel,List.length_append]; omega
  have h1:isS (tkArgs xs++(tkKids k++x)) 58=false:=by
   rcases args_head xs (tkKids k++x) with⟨_,e1⟩|⟨z,e1⟩
   ·rw[e1]
    rcases kids_head k x with⟨_,e2⟩|⟨z,e2⟩
    ·rw[e2]; exact hx.2.1
    ·rw[e2]; exact isS_ne (by decide) _
   ·rw[e1]; exact isS_ne (by decide) _
  have h2:isS (tkKids k++x) 40=false:=by
   rcases kids_head k x with⟨_,e2⟩|⟨z,e2⟩
   ·rw[e2]; exact hx.1
   ·rw[e2]; exact isS_ne (by decide) _
  rw[e]
  simp only[Nat.succ_eq_add_one,pSel]
  rw[pHd_back h1]
  simp only
  rw[pArgs_back hp.2.2.1 h2]
  simp only
  cases k with
  | nil =>
   show (if isS x 123=true then _ else some (Sel.mk a nm xs [],x))=_
   rw[hx.2.2,if_neg (by simp)]
  | cons s r =>
   have hb:=pSome_back (s::r) n x (by simp) hk (by
    have:(tkSels (s::r)).length=(tkKids (s::r)).length:=by rw[tkKids_eq,if_pos (by simp)]
    omega)
   have e3:tkKids (s::r)=tkSels (s::r):=by rw[tkKids_eq,if_pos (by simp)]
   rw[e3,hb]
   rw[show isS (tkSels (s::r)++x) 123=true from isS_s _ _,if_pos rfl]
theorem pSome_back:∀(l:List Sel) (n:Nat) (x:List Tk),l≠[]→SelsP l→(tkSels l).length*2<n→pSome n (tkSels l++x)=some (l,x)
 | [],_,_,h,_,_=>(h rfl).elim
 | s::r,n,x,_,hp,hn=>by
  obtain⟨n,rfl⟩:=Nat.exists_eq_succ_of_ne_zero (show n≠0 by omega)
  simp only[Nat.succ_eq_add_one,pSome]
  rw[show isS (tkSels (s::r)++x) 123=true from isS_s _ _,if_pos rfl]
  have e:(tkSels (s::r)++x).drop 1=tkSel s++(tkL r++tkS 125::x):=by simp[tkSels,tkL]
  have hl:(tkSels (s::r)).length=(tkSel s).length+(tkL r).length+2:=by simp[tkSels,tkL]; omega
  rw[e,pSels_back s r n [] x hp.1 hp.2 (by omega)]
  rfl
theorem pSels_back:∀(s:Sel) (r:List Sel) (n:Nat) (acc:List Sel) (x:List Tk),SelP s→SelsP r→((tkSel s).length+(tkL r).length)*2+1<n→pSels n acc (tkSel s++(tkL r++tkS 125::x))=some (acc++s::r,x)
 | s,[],n,acc,x,hs,_,hn=>by
  obtain⟨n,rfl⟩:=Nat.exists_eq_succ_of_ne_zero (show n≠0 by omega)
  have hb:=pSel_back s n (tkS 125::x) hs ⟨isS_ne (by decide) _,isS_ne (by decide) _,isS_ne (by decide) _⟩ (by omega)
  simp only[Nat.succ_eq_add_one,pSels,tkL,List.nil_append]
  rw[hb]
  simp only
  rw[isS_s,if_pos rfl]
  rfl
 | s,u::r,n,acc,x,hs,hr,hn=>by
  obtain⟨n,rfl⟩:=Nat.exists_eq_succ_of_ne_zero (show n≠0 by omega)
  have h1:1≤(tkSel s).length:=by
   obtain⟨a,nm,xs,k⟩:=s
   simp only[tkSel,List.length_append]
   have:1≤(tkHd a nm).length:=by unfold tkHd; split<;>simp
   omega
  have e:tkL (u::r)++tkS 125::x=tkSel u++(tkL r++tkS 125::x):=by simp[tkL]
  have hl:(tkL (u::r)).length=(tkSel u).length+(tkL r).length:=by simp[tkL]
  have hb:=pSel_back s n (tkSel u++(tkL r++tkS 125::x)) hs ⟨sel_no u _ _,sel_no u _ _,sel_no u _ _⟩ (by omega)
  have ih:=pSels_back u r n (acc++[s]) x hr.1 hr.2 (by omega)
  simp only[Nat.succ_eq_add_one,pSels]
  rw[e,hb]
  simp only
  rw[sel_no,if_neg (by simp),ih]
  simp
end
theorem sels_back{l:List Sel}(hn:l≠[])(h:SelsP l):selsOf (tkSels l)=some l:=by
 have:=pSome_back l (3*(tkSels l).length+3) [] hn h (by omega)
 unfold selsOf
 rw[List.append_nil] at this
 rw[this]
 simp only
 rw[if_pos trivial]
end Go.Am
namespace Go.Am
set_option linter.all false
open Go Go.RowKit Go.Proofs
set_option maxRecDepth 100000
set_option linter.all false
theorem isW_cons{l:List Tk}(h:isW l=true):∃t r,l=t::r∧t.kind=1:=by
 cases l with
 | nil=>cases h
 | cons t r=>exact⟨t,r,rfl,by simpa [isW] using h⟩
theorem isS_cons{l:List Tk}{c:UInt8}(h:isS l c=true):∃t r,l=t::r:=by
 cases l with
 | nil=>cases h
 | cons t r=>exact⟨t,r,rfl⟩
theorem isV_cons{l:List Tk}(h:isV l=true):∃t r,l=t::r∧[2,3].any (·==t.kind)=true:=by
 cases l with
 | nil=>cases h
 | cons t r =>
  refine⟨t,r,rfl,?_⟩
  simp only[isV,Bool.or_eq_true,beq_iff_eq] at h
  simp only[List.any_cons,List.any_nil,Bool.or_false,Bool.or_eq_true,beq_iff_eq]
  exact h.imp Eq.symm Eq.symm
theorem isV_K{l:List Tk}(h:isV l=false):isK [2,3] l=false:=by
 cases l with
 | nil=>rfl
 | cons t r =>
  simp only[isV,Bool.or_eq_false_iff,beq_eq_false_iff_ne] at h
  simp only[isK,List.any_cons,List.any_nil,Bool.or_false,Bool.or_eq_false_iff,beq_eq_false_iff_ne]
  exact h.imp Ne.symm Ne.symm
theorem qarg_no(z l:List Tk)(J id:Nat)(h:pAg l=none):FnE Tryz.prog 129 [.ptr J 0 0] [(J,tB z l)] id (.error (erV 1)):=by
 unfold pAg at h
 by_cases h1:isW l=true
 rotate_left
 ·have hN:=fun id=>Name_no z l J id (by simpa using h1)
  rw[tB_eq] at *
  refine fn_okE Tryz.func129 hcc129 (by decide) hcr129 (by simp[Tryz.ntmps129]) fun E hP hR hPn hl hid hB hu=>?_
  simp only[cr129] at hR
  refine w_go 4000 ?_
  simp[cc129]
  have hJ:=hl (J,_) (List.mem_cons_self ..)
  simp only at hJ
  have J1:=lf hJ
  refine w_callE hP rfl (hN _) (by simp[J1]) (by simp[J1]<;>rfl) (fun pv hpv=>⟨by simp[J1],by injection hpv with hpv; subst hpv; exact hPn _ _ (rfl) rfl (by simp[J1])⟩) (fun v wr h=>by cases h)
 obtain⟨t,r,rfl,hk⟩:=isW_cons h1
 have hN:=fun id=>Name_ok' z r t J id hk
 by_cases h2:isS r 58=true
 rotate_left
 ·have hS:=fun id=>Need_no z r 58 J id (by simpa using h2)
  rw[tB_eq] at hS
  rw[tB_eq,tB_eq] at hN
  rw[tB_eq]
  refine fn_okE Tryz.func129 hcc129 (by decide) hcr129 (by simp[Tryz.ntmps129]) fun E hP hR hPn hl hid hB hu=>?_
  simp only[cr129] at hR
  refine w_go 4000 ?_
  simp[cc129]
  have hJ:=hl (J,_) (List.mem_cons_self ..)
  simp only at hJ
  have J1:=lf hJ
  (refine w_call hP rfl (hN _) (by simp[J1]) (by simp[J1]<;>rfl) ?_; refine w_go 4000 ?_; simp[J1])
  refine w_callE hP rfl (hS _) (by simp[J1]) (by simp[J1]<;>rfl) (fun pv hpv=>⟨by simp[J1],by injection hpv with hpv; subst hpv; exact hPn _ _ (rfl) rfl (by simp[J1])⟩) (fun v wr h=>by cases h)
 have hS:=fun id=>Need_ok z r 58 J id h2
 obtain⟨t2,r2,rfl⟩:=isS_cons h2
 have h3:isV r2=false:=by
  rw[Bool.eq_false_iff]; intro h3
  rw[if_pos ⟨h1,h2,h3⟩] at h; cases h
 have hV:=fun id=>Next_no z r2 [2,3] J id (isV_K h3) (by simp)
 rw[List.drop_one,List.tail_cons,tB_eq,tB_eq] at hS
 rw[tB_eq] at hV
 rw[tB_eq,tB_eq] at hN
 rw[tB_eq]
 refine fn_okE Tryz.func129 hcc129 (by decide) hcr129 (by simp[Tryz.ntmps129]) fun E hP hR hPn hl hid hB hu=>?_
 simp only[cr129] at hR
 refine w_go 4000 ?_
 simp[cc129]
 have hJ:=hl (J,_) (List.mem_cons_self ..)
 simp only at hJ
 have J1:=lf hJ
 (refine w_call hP rfl (hN _) (by simp[J1]) (by simp[J1]<;>rfl) ?_; refine w_go 4000 ?_; simp[J1])
 (refine w_call hP rfl (hS _) (by simp[J1]) (by simp[J1]<;>rfl) ?_; refine w_go 4000 ?_; simp[J1])
 refine w_callRE hP rfl (hV _) (by simp[J1]<;>rfl) (by simp[J1]) (by simp[J1]<;>rfl) (by simp[J1]) (fun pv hpv=>⟨by simp[J1],by injection hpv with hpv; subst hpv; exact hPn _ _ (rfl) rfl (by simp[J1])⟩) (fun v wr h=>by cases h)
set_option maxHeartbeats 4000000 in
theorem qarg_ok(z l:List Tk)(a:Ag)(u:List Tk)(J id:Nat)(h:pAg l=some (a,u)):FnOk Tryz.prog 129 [.ptr J 0 0] [(J,tB z l)] id (eAg a) [(J,some (tB z u))]:=by
 unfold pAg at h
 split at h
 rotate_left
 ·cases h
 rename_i hh
 obtain⟨h1,h2,h3⟩:=hh
 obtain⟨t,r,rfl,hk⟩:=isW_cons h1
 have hN:=fun id=>Name_ok' z r t J id hk
 rw[List.drop_one,List.tail_cons] at h2
 have hS:=fun id=>Need_ok z r 58 J id h2
 obtain⟨t2,r2,rfl⟩:=isS_cons h2
 obtain⟨t3,r3,rfl,hk3⟩:=isV_cons h3
 have hV:=fun id=>Next_ok z r3 t3 [2,3] J id hk3 (by simp)
 have het:eTk t3 = .agg [.int .i64 t3.kind,.str t3.text,.int .i64 t3.n]:=rfl
 rw[het] at hV
 injection h with h
 rw[Prod.mk.injEq] at h
 obtain⟨rfl,rfl⟩:=h
 show FnOk _ _ _ _ _ (.agg [.str t.text,.bool (t3.kind==3),.str t3.text,.int .i64 t3.n]) [(J,some (tB z r3))]
 rw[List.drop_one,List.tail_cons,tB_eq,tB_eq] at hS
 rw[tB_eq,tB_eq] at hV
 rw[tB_eq,tB_eq] at hN
 rw[tB_eq,tB_eq]
 refine fn_okc Tryz.func129 hcc129 (by decide) hcr129 (by simp[Tryz.ntmps129]) fun E hP hR hl hid=>?_
 simp only[cr129] at hR
 refine w_go 4000 ?_
 simp[cc129]
 have hJ:=hl (J,_) (List.mem_cons_self ..)
 simp only at hJ
 have J1:=lf hJ
 (refine w_call hP rfl (hN _) (by simp[J1]) (by simp[J1]<;>rfl) ?_; refine w_go 4000 ?_; simp[J1])
 (refine w_call hP rfl (hS _) (by simp[J1]) (by simp[J1]<;>rfl) ?_; refine w_go 4000 ?_; simp[J1])
 (refine w_callR hP rfl (hV _) (by simp[J1]<;>rfl) (by simp[J1]) (by simp[J1]<;>rfl) (by simp[J1]) ?_; refine w_go 4000 ?_; simp[J1])
 have hrn:rnOk []:=by simp[J1,idO hid]
 rw[hR]
 refine rt_end (by simp<;>rfl) [] hrn ⟨?_,?_,?_,?_,?_,?_⟩<;>(try simp[J1,idO hid])
end Go.Am
namespace Go.Am
set_option linter.all false
open Go Go.RowKit Go.Proofs
set_option maxRecDepth 100000
set_option linter.all false
end Go.Am
namespace Go.Am
set_option linter.all false
open Go Go.RowKit Go.Proofs
set_option maxRecDepth 100000
set_option linter.all false
theorem apt4{a b c d:Nat}(h:[a,b,c,d].Nodup):((a=b)=False∧(b=a)=False)∧((a=c)=False∧(c=a)=False)∧((a=d)=False∧(d=a)=False)∧((b=c)=False∧(c=b)=False)∧((b=d)=False∧(d=b)=False)∧(c=d)=False∧(d=c)=False:=by
 simp at h
 obtain⟨⟨h1,h2,h3⟩,⟨h4,h5⟩,h6⟩:=h
 exact⟨⟨eq_false h1,eq_false (Ne.symm h1)⟩,⟨eq_false h2,eq_false (Ne.symm h2)⟩,⟨eq_false h3,eq_false (Ne.symm h3)⟩,⟨eq_false h4,eq_false (Ne.symm h4)⟩,⟨eq_false h5,eq_false (Ne.symm h5)⟩,eq_false h6,eq_false (Ne.symm h6)⟩
def rpB(J:Nat):Bx:=⟨[.ptr J 0 0],.ptr J 0 0,false,false⟩
theorem rpB_eq(J:Nat):rpB J=⟨[.ptr J 0 0],.ptr J 0 0,false,false⟩:=rfl
def sK(al nm:List UInt8)(v:AV):Bx:=⟨[.agg [.str al,.str nm,v,.nils]],.agg [.str [],.str [],.nils,.nils],false,false⟩
theorem sK_eq(al nm:List UInt8)(v:AV):sK al nm v=⟨[.agg [.str al,.str nm,v,.nils]],.agg [.str [],.str [],.nils,.nils],false,false⟩:=rfl
def aB(l:List Ag):Bx:=⟨l.map eAg,.agg [.str [],.bool false,.str [],.int .i64 0],false,false⟩
theorem aB_eq(l:List Ag):aB l=⟨l.map eAg,.agg [.str [],.bool false,.str [],.int .i64 0],false,false⟩:=rfl
theorem agC_no(z t:List Tk)(l:List Ag)(al nm:List UInt8)(J V K M id:Nat)(hd:[J,V,K,M].Nodup)(h:pAg t=none):
  FnE Tryz.prog 128 [.ptr K 0 0,.ptr V 0 0] [(J,tB z t),(V,rpB J),(K,sK al nm (.bsl M 0 l.length)),(M,aB l)] id (.error (erV 1)):=by
 have d:=apt4 hd
 have hA:=fun id=>qarg_no z t J id h
 rw[tB_eq] at *
 rw[rpB_eq,sK_eq,aB_eq]
 refine fn_okE Tryz.func128 hcc128 (by decide) hcr128 (by simp[Tryz.ntmps128]) fun E hP hR hPn hl hid hB hu=>?_
 simp only[cr128] at hR
 refine w_go 4000 ?_
 simp[cc128]
 have hJ:=hl (J,_) (List.mem_cons_self ..)
 simp only at hJ
 have J1:=lf hJ
 have hV:=hl (V,_) (List.mem_cons_of_mem _ (List.mem_cons_self ..))
 simp only at hV
 have V1:=lf hV
 have hK:=hl (K,_) (List.mem_cons_of_mem _ (List.mem_cons_of_mem _ (List.mem_cons_self ..)))
 simp only at hK
 have K1:=lf hK
 have hM:=hl (M,_) (List.mem_cons_of_mem _ (List.mem_cons_of_mem _ (List.mem_cons_of_mem _ (List.mem_cons_self ..))))
 simp only at hM
 have M1:=lf hM
 simp[J1,V1,K1,M1,d]
 refine w_callE hP rfl (hA _) (by simp[J1,V1,K1,M1,d]) (by simp[J1,V1,K1,M1,d]<;>rfl) (fun pv hpv=>⟨by simp[J1,V1,K1,M1,d],by injection hpv with hpv; subst hpv; exact hPn _ _ (rfl) rfl (by simp[J1,V1,K1,M1,d])⟩) (fun v wr h=>by cases h)
set_option maxHeartbeats 8000000 in
theorem agC_ok(z t:List Tk)(l:List Ag)(a:Ag)(u:List Tk)(al nm:List UInt8)(J V K M id:Nat)(hd:[J,V,K,M].Nodup)(h:pAg t=some (a,u))(hl8:l.length≤1099511627776):
  FnOk Tryz.prog 128 [.ptr K 0 0,.ptr V 0 0] [(J,tB z t),(V,rpB J),(K,sK al nm (.bsl M 0 l.length)),(M,aB l)] id (.tup []) [(J,some (tB z u)),(K,some (sK al nm (.bsl id 0 (l.length+1)))),(M,none),(id,some (aB (l++[a])))]:=by
 have d:=apt4 hd
 have hA:=fun id=>qarg_ok z t a u J id h
 have hex:(l++[a]).map eAg=l.map eAg++[eAg a]:=by simp
 have hoe:eAg a = .agg [.str a.name,.bool a.isText,.str a.text,.int .i64 a.n]:=rfl
 rw[hoe] at hA hex
 rw[tB_eq,tB_eq] at hA
 rw[tB_eq,tB_eq,rpB_eq,sK_eq,sK_eq,aB_eq,aB_eq,hex]
 refine fn_okc Tryz.func128 hcc128 (by decide) hcr128 (by simp[Tryz.ntmps128]) fun E hP hR hl hid=>?_
 simp only[cr128] at hR
 refine w_go 4000 ?_
 simp[cc128]
 have hJ:=hl (J,_) (List.mem_cons_self ..)
 simp only at hJ
 have J1:=lf hJ
 have hV:=hl (V,_) (List.mem_cons_of_mem _ (List.mem_cons_self ..))
 simp only at hV
 have V1:=lf hV
 have hK:=hl (K,_) (List.mem_cons_of_mem _ (List.mem_cons_of_mem _ (List.mem_cons_self ..)))
 simp only at hK
 have K1:=lf hK
 have hM:=hl (M,_) (List.mem_cons_of_mem _ (List.mem_cons_of_mem _ (List.mem_cons_of_mem _ (List.mem_cons_self ..))))
 simp only at hM
 have M1:=lf hM
 simp[J1,V1,K1,M1,d]
 (refine w_call hP rfl (hA _) (by simp[J1,V1,K1,M1,d]) (by simp[J1,V1,K1,M1,d]<;>rfl) ?_; refine w_go 4000 ?_; simp[J1,V1,K1,M1,d])
 refine⟨⟨by omega,by omega⟩,?_⟩
 have hrn:rnOk [(id,E.n0+5120)]:=by simp[J1,V1,K1,M1,d,idO hid]
 rw[hR]
 refine rt_end (by simp<;>rfl) [(id,E.n0+5120)] hrn ⟨?_,?_,?_,?_,?_,?_⟩<;>(try simp[J1,V1,K1,M1,d,idO hid])
 exact renL_pure rfl (pureL_append (pure_ags _) rfl)
end Go.Am
namespace Go.Am
set_option linter.all false
open Go Go.RowKit Go.Proofs
set_option maxRecDepth 100000
set_option linter.all false
theorem pAg_lt{t u:List Tk}{a:Ag}(h:pAg t=some (a,u)):u.length+3≤t.length:=by
 unfold pAg at h
 split at h
 ·rename_i hh
  obtain⟨h1,h2,h3⟩:=hh
  injection h with h
  rw[Prod.mk.injEq] at h
  rw[←h.2,List.length_drop]
  obtain⟨_,_,e,_⟩:=isV_cons h3
  have:=congrArg List.length e
  rw[List.length_drop,List.length_cons] at this
  omega
 ·cases h
def agS(n0 J V K M:Nat)(z:List Tk)(al nm:List UInt8):Bool→List Ag→List Tk→St
 | true,l,t=>⟨[(0,true,.ptr J 0 0),(1,true,.str [41]),(2,true,.fn 128 [.ptr K 0 0,.ptr V 0 0])],[(J,some (tB z t)),(V,some (rpB J)),(K,some (sK al nm (.bsl M 0 l.length))),(M,some (aB l))],0⟩
 | false,l,t=>⟨[(0,true,.ptr J 0 0),(1,true,.str [41]),(2,true,.fn 128 [.ptr K 0 0,.ptr V 0 0])],[(J,some (tB z t)),(V,some (rpB J)),(K,some (sK al nm (.bsl n0 0 l.length))),(M,none),(n0,some (aB l))],1⟩
def agMR(J K M id:Nat)(z:List Tk)(al nm:List UInt8):Option (List Ag×List Tk)→Except AV (AV×List (Nat×Option Bx))
 | none=>.error (erV 1)
 | some (l,u)=>.ok (.tup [],[(J,some (tB z u)),(K,some (sK al nm (.bsl id 0 l.length))),(M,none),(id,some (aB l))])
set_option maxHeartbeats 8000000 in
theorem agM_ok(n:Nat)(z s:List Tk)(al nm:List UInt8)(J V K M id:Nat)(hd:[J,V,K,M].Nodup)(hn:s.length<n)(h8:s.length≤1099511627776):
  FnE Tryz.prog 88 [.ptr J 0 0,.str [41],.fn 128 [.ptr K 0 0,.ptr V 0 0]] [(J,tB z s),(V,rpB J),(K,sK al nm (.bsl M 0 0)),(M,aB [])] id (agMR J K M id z al nm (pAgs n [] s)):=by
 have d:=apt4 hd
 rw[tB_eq,rpB_eq,sK_eq,aB_eq]
 refine fn_okE Tryz.func88 hcc88 (by decide) hcr88 (by simp[Tryz.ntmps88]) fun E hP hR hPn hl hid hB hu=>?_
 simp only[cr88] at hR
 refine w_go 4000 ?_
 simp[cc88]
 have hJ:=hl (J,_) (List.mem_cons_self ..)
 simp only at hJ
 have J1:=lf hJ
 have hV:=hl (V,_) (List.mem_cons_of_mem _ (List.mem_cons_self ..))
 simp only at hV
 have V1:=lf hV
 have hK:=hl (K,_) (List.mem_cons_of_mem _ (List.mem_cons_of_mem _ (List.mem_cons_self ..)))
 simp only at hK
 have K1:=lf hK
 have hM:=hl (M,_) (List.mem_cons_of_mem _ (List.mem_cons_of_mem _ (List.mem_cons_of_mem _ (List.mem_cons_self ..))))
 simp only at hM
 have M1:=lf hM
 refine w_loop (X:=Bool×List Ag×List Tk×Nat) (fun q=>agS E.n0 J V K M z al nm q.1 q.2.1 q.2.2.1)
  (fun q=>(pAgs q.2.2.2 q.2.1 q.2.2.1=pAgs n [] s∧q.2.2.1.length<q.2.2.2)∧q.2.1.length+q.2.2.1.length≤s.length∧(q.1=true→q.2.1=[])) (fun q=>q.2.2.1.length) (true,[],s,n) ?_ ⟨⟨rfl,hn⟩,by simp,fun _=>rfl⟩ ?_
 ·have hrn:rnOk []:=by simp[agS,tB,rpB,sK,aB,J1,V1,K1,M1,d]
  refine Conv.sub [] hrn ?_ ?_ ?_ ?_ ?_<;>(try simp[agS,tB,rpB,sK,aB,J1,V1,K1,M1,d])
 rintro⟨first,l,t,m⟩ ⟨⟨hx,hm⟩,hll,hfl⟩ p hp
 simp only at hx hm hll hfl
 obtain⟨m,rfl⟩:=Nat.exists_eq_succ_of_ne_zero (show m≠0 by omega)
 cases first with
 | true =>
  obtain rfl:=hfl rfl
  cases hq:pAg t with
  | none =>
   have hdo:=fun id=>agC_no z t [] al nm J V K M id hd hq
   have e:agMR J K M id z al nm (pAgs n [] s) = .error (erV 1):=by
    rw[←hx]; simp only[Nat.succ_eq_add_one,pAgs]; rw[hq]; rfl
   rw[tB_eq,rpB_eq,sK_eq,aB_eq] at hdo
   unfold agS
   refine w_go 4000 ?_
   simp[tB,rpB,sK,aB,J1,V1,K1,M1,d]
   refine w_callvE hP (by simp<;>exact⟨rfl,rfl⟩) rfl (hdo _) (by simp[J1,V1,K1,M1,d]) (by simp[J1,V1,K1,M1,d]<;>rfl) (fun pv hpv=>⟨by simp[J1,V1,K1,M1,d],by injection hpv with hpv; subst hpv; exact hPn _ _ (e) rfl (by simp[J1,V1,K1,M1,d])⟩) (fun v wr h=>by cases h)
  | some w =>
   obtain⟨a,u⟩:=w
   have hlt:=pAg_lt hq
   have hdo:=fun id=>agC_ok z t [] a u al nm J V K M id hd hq (by simp)
   have hT:=fun id=>Try_ok z u 41 J id
   have e0:pAgs n [] s=if isS u 41=true then some ([a],u.drop 1) else pAgs m [a] u:=by
    rw[←hx]; simp only[Nat.succ_eq_add_one,pAgs]; rw[hq]; rfl
   have hoe:eAg a = .agg [.str a.name,.bool a.isText,.str a.text,.int .i64 a.n]:=rfl
   rw[tB_eq,rpB_eq,sK_eq,aB_eq,tB_eq,aB_eq] at hdo
   simp only[sK_eq] at hdo
   by_cases hs:isS u 41=true
   ·rw[if_pos hs] at e0
    rw[hs,tryL_yes hs] at hT
    generalize u.drop 1=v at *
    rw[tB_eq,tB_eq] at hT
    have e:agMR J K M id z al nm (pAgs n [] s) = .ok (.tup [],[(J,some (tB z v)),(K,some (sK al nm (.bsl id 0 1))),(M,none),(id,some (aB [a]))]):=by rw[e0]; rfl
    unfold agS
    refine w_go 4000 ?_
    simp[tB,rpB,sK,aB,J1,V1,K1,M1,d]
    (refine w_callv hP (by simp<;>exact⟨rfl,rfl⟩) rfl (hdo _) (by simp[J1,V1,K1,M1,d]) (by simp[J1,V1,K1,M1,d]<;>rfl) ?_; refine w_go 4000 ?_; simp[J1,V1,K1,M1,d])
    (refine w_call hP rfl (hT _) (by simp[J1,V1,K1,M1,d]) (by simp[J1,V1,K1,M1,d]<;>rfl) ?_; refine w_go 4000 ?_; simp[J1,V1,K1,M1,d])
    have hrn:rnOk [(id,E.n0+1024)]:=by simp[tB,rpB,sK,aB,hoe,J1,V1,K1,M1,d,idO hid]
    refine hR _ _ _ (e) ?_
    refine rt_end (by simp[tB,rpB,sK,aB,hoe,J1,V1,K1,M1,d,idO hid]<;>rfl) [(id,E.n0+1024)] hrn ⟨?_,?_,?_,?_,?_,?_⟩<;>(try simp[tB,rpB,sK,aB,hoe,J1,V1,K1,M1,d,idO hid])
   ·have hs:isS u 41=false:=by simpa using hs
    rw[if_neg (by simp[hs])] at e0
    rw[hs,tryL_no hs,tB_eq] at hT
    unfold agS
    refine w_go 4000 ?_
    simp[tB,rpB,sK,aB,J1,V1,K1,M1,d]
    (refine w_callv hP (by simp<;>exact⟨rfl,rfl⟩) rfl (hdo _) (by simp[J1,V1,K1,M1,d]) (by simp[J1,V1,K1,M1,d]<;>rfl) ?_; refine w_go 4000 ?_; simp[J1,V1,K1,M1,d])
    (refine w_call hP rfl (hT _) (by simp[J1,V1,K1,M1,d]) (by simp[J1,V1,K1,M1,d]<;>rfl) ?_; refine w_go 4000 ?_; simp[J1,V1,K1,M1,d])
    refine hp _ (false,[a],u,m) ⟨⟨e0.symm,by simp; omega⟩,by simp at hll ⊢; omega,by simp⟩ (by simp; omega) ?_
    have hrn:rnOk [(E.n0,E.n0+1024)]:=by simp[agS,tB,rpB,sK,aB,hoe,J1,V1,K1,M1,d]
    refine Conv.sub [(E.n0,E.n0+1024)] hrn ?_ ?_ ?_ ?_ ?_<;>(try simp[agS,tB,rpB,sK,aB,hoe,J1,V1,K1,M1,d])
 | false =>
  have hne0:([J,V,K,E.n0]:List Nat).Nodup:=by simp[J1,V1,K1,M1,d]
  cases hq:pAg t with
  | none =>
   have hdo:=fun id=>agC_no z t l al nm J V K E.n0 id hne0 hq
   have e:agMR J K M id z al nm (pAgs n [] s) = .error (erV 1):=by
    rw[←hx]; simp only[Nat.succ_eq_add_one,pAgs]; rw[hq]; rfl
   rw[tB_eq,rpB_eq,sK_eq,aB_eq] at hdo
   unfold agS
   refine w_go 4000 ?_
   simp[tB,rpB,sK,aB,J1,V1,K1,M1,d]
   refine w_callvE hP (by simp<;>exact⟨rfl,rfl⟩) rfl (hdo _) (by simp[J1,V1,K1,M1,d]) (by simp[J1,V1,K1,M1,d]<;>rfl) (fun pv hpv=>⟨by simp[J1,V1,K1,M1,d],by injection hpv with hpv; subst hpv; exact hPn _ _ (e) rfl (by simp[J1,V1,K1,M1,d])⟩) (fun v wr h=>by cases h)
  | some w =>
   obtain⟨a,u⟩:=w
   have hlt:=pAg_lt hq
   have hdo:=fun id=>agC_ok z t l a u al nm J V K E.n0 id hne0 hq (by omega)
   have hT:=fun id=>Try_ok z u 41 J id
   have e0:pAgs n [] s=if isS u 41=true then some (l++[a],u.drop 1) else pAgs m (l++[a]) u:=by
    rw[←hx]; simp only[Nat.succ_eq_add_one,pAgs]; rw[hq]
   have hex:(l++[a]).map eAg=l.map eAg++[eAg a]:=by simp
   have hoe:eAg a = .agg [.str a.name,.bool a.isText,.str a.text,.int .i64 a.n]:=rfl
   rw[hoe] at hex
   rw[tB_eq,rpB_eq,sK_eq,aB_eq,tB_eq,aB_eq] at hdo
   simp only[sK_eq,hex] at hdo
   by_cases hs:isS u 41=true
   ·rw[if_pos hs] at e0
    rw[hs,tryL_yes hs] at hT
    generalize u.drop 1=v at *
    rw[tB_eq,tB_eq] at hT
    have e:agMR J K M id z al nm (pAgs n [] s) = .ok (.tup [],[(J,some (tB z v)),(K,some (sK al nm (.bsl id 0 (l.length+1)))),(M,none),(id,some (aB (l++[a])))]):=by rw[e0]; simp[agMR]
    unfold agS
    refine w_go 4000 ?_
    simp[tB,rpB,sK,aB,J1,V1,K1,M1,d]
    (refine w_callv hP (by simp<;>exact⟨rfl,rfl⟩) rfl (hdo _) (by simp[J1,V1,K1,M1,d]) (by simp[J1,V1,K1,M1,d]<;>rfl) ?_; refine w_go 4000 ?_; simp[J1,V1,K1,M1,d])
    (refine w_call hP rfl (hT _) (by simp[J1,V1,K1,M1,d]) (by simp[J1,V1,K1,M1,d]<;>rfl) ?_; refine w_go 4000 ?_; simp[J1,V1,K1,M1,d])
    have hrn:rnOk [(id,E.n0+1025)]:=by simp[tB,rpB,sK,aB,hoe,J1,V1,K1,M1,d,idO hid]
    refine hR _ _ _ (e) ?_
    refine rt_end (by simp[tB,rpB,sK,aB,hoe,J1,V1,K1,M1,d,idO hid]<;>rfl) [(id,E.n0+1025)] hrn ⟨?_,?_,?_,?_,?_,?_⟩<;>(try simp[tB,rpB,sK,aB,hoe,J1,V1,K1,M1,d,idO hid])
    all_goals exact renL_pure rfl (pureL_append (pure_ags _) rfl)
   ·have hs:isS u 41=false:=by simpa using hs
    rw[if_neg (by simp[hs])] at e0
    rw[hs,tryL_no hs,tB_eq] at hT
    unfold agS
    refine w_go 4000 ?_
    simp[tB,rpB,sK,aB,J1,V1,K1,M1,d]
    (refine w_callv hP (by simp<;>exact⟨rfl,rfl⟩) rfl (hdo _) (by simp[J1,V1,K1,M1,d]) (by simp[J1,V1,K1,M1,d]<;>rfl) ?_; refine w_go 4000 ?_; simp[J1,V1,K1,M1,d])
    (refine w_call hP rfl (hT _) (by simp[J1,V1,K1,M1,d]) (by simp[J1,V1,K1,M1,d]<;>rfl) ?_; refine w_go 4000 ?_; simp[J1,V1,K1,M1,d])
    refine hp _ (false,l++[a],u,m) ⟨⟨e0.symm,by simp; omega⟩,by simp at hll ⊢; omega,by simp⟩ (by simp; omega) ?_
    have hrn:rnOk [(E.n0,E.n0+1025)]:=by simp[agS,tB,rpB,sK,aB,hoe,J1,V1,K1,M1,d]
    refine Conv.sub [(E.n0,E.n0+1025)] hrn ?_ ?_ ?_ ?_ ?_<;>(try simp[agS,tB,rpB,sK,aB,hoe,J1,V1,K1,M1,d])
    all_goals exact renL_pure rfl (pureL_append (pure_ags _) rfl)
end Go.Am
namespace Go.Am
set_option linter.all false
open Go Go.RowKit
set_option linter.all false
section
variable {E:Env} {σ:St} {k:List Itm}
theorem w_post{cc r:CC}{P:St→Prop}(h:Wk E (.code cc::.post P::k) σ)(hk:∀τ,P τ→Wk E (.code r::k) τ):Wk E (.code (.seq cc r)::k) σ:=by
 refine w_seq fun c hc G a w hD=>?_
 refine wp_mono (h c hc G a w hD) fun e a' w' hq=>?_
 cases e with
 | normal =>
  obtain⟨σ',G',h1,h2⟩:=hq
  exact⟨σ',G',h1,hk _ h2⟩
 | _=>exact hq
theorem w_join{r:CC}{X:Type}{inv:X→St}{ok:X→Prop}(hk:∀x,ok x→Wk E (.code r::k) (inv x))(τ:St)(h:∃x,ok x∧Conv E τ (inv x)):Wk E (.code r::k) τ:=by
 obtain⟨x,h1,h2⟩:=h
 exact w_conv h2 (hk x h1)
theorem w_cut2{a b r:CC}{X:Type}(inv:X→St)(ok:X→Prop)(h:∀p:St→Prop,(∀σ' x,ok x→Conv E σ' (inv x)→p σ')→Wk E (.code a::.code b::.post p::k) σ)
  (hk:∀x,ok x→Wk E (.code r::k) (inv x)):Wk E (.code (.seq a (.seq b r))::k) σ :=
 w_seq (wk_mono (.code a) (fun _ q=>w_post q (w_join hk)) (fun _ _ q=>q) (h (fun σ'=>∃x,ok x∧Conv E σ' (inv x)) fun σ' x h1 h2=>⟨x,h1,h2⟩))
theorem w_cut3{a b c r:CC}{X:Type}(inv:X→St)(ok:X→Prop)(h:∀p:St→Prop,(∀σ' x,ok x→Conv E σ' (inv x)→p σ')→Wk E (.code a::.code b::.code c::.post p::k) σ)
  (hk:∀x,ok x→Wk E (.code r::k) (inv x)):Wk E (.code (.seq a (.seq b (.seq c r)))::k) σ :=
 w_seq (wk_mono (.code a) (fun _ q=>w_seq (wk_mono (.code b) (fun _ q=>w_post q (w_join hk)) (fun _ _ q=>q) q)) (fun _ _ q=>q) (h (fun σ'=>∃x,ok x∧Conv E σ' (inv x)) fun σ' x h1 h2=>⟨x,h1,h2⟩))
end
end Go.Am
namespace Go.Am
set_option linter.all false
open Go Go.RowKit Go.Proofs
set_option maxRecDepth 100000
set_option linter.all false
def oInv(E:Env)(J:Nat)(z:List Tk)(al nm:List UInt8)(xs:List Ag)(u:List Tk):St :=
 ⟨[(1,true,.ptr E.n0 0 0),(2,true,.ptr (E.n0+1) 0 0),(3,true,.ptr (E.n0+2) 0 0)],
  [(J,some (tB z u)),(E.n0,some (rpB J)),(E.n0+1,some (sK [] [] .nils)),(E.n0+2,some (sK al nm (.bsl (E.n0+3) 0 xs.length))),(E.n0+3,some (aB xs))],4⟩
theorem void_sel(i:Nat)(al nm:List UInt8):VoidR i (.agg [.str al,.str nm,.nils,.nils]) (.agg [.str al,.str nm,.bsl i 0 0,.nils]):=.agg _ _ rfl fun m x y h1 h2=>by
 match m,h1,h2 with
 | 0,h1,h2|1,h1,h2|3,h1,h2=>simp at h1 h2; exact .inl (h1.symm.trans h2)
 | 2,h1,h2=>simp at h1 h2; exact .inr ⟨h1.symm,h2.symm⟩
 | m+4,h1,h2=>simp at h1
section
variable (E:Env) (hP:E.P=Tryz.prog) (z l:List Tk) (J id:Nat) (hJ:J<E.n0∧(J<id∨id+1024≤J))
include hP hJ
set_option maxHeartbeats 8000000 in
theorem one_hd{a b c r:CC}(ha:a = .r [.bx 1 0,.al 2 .zQ])(hb:b = .r [.l 4 1,.c 5 85 [4],⟨some 6,none,[5],.build [.str [],.str [],.nils,.nils] [(1,1,.t 5)]⟩,.al 3 .zQ,.st 4 3 6])
  (hc:c = .seq (.r [.l 7 1,⟨some 8,none,[7],.call 123 [.t 7,.c (.str [58])]⟩]) (.cond (.t 8) (.seq (.r [.f 9 1 3,.l 10 9,.f 11 0 3,.st 1 11 10]) (.r [.l 12 1,.c 13 85 [12],.f 14 1 3,.st 1 14 13])) CC.skip))
  {al nm:List UInt8} {u:List Tk} (hh:pHd l=some (al,nm,u)) {k:List Itm} (hk:Wk E (.code r::k) (oInv E J z al nm [] u)) :
  Wk E (.code (.seq a (.seq b (.seq c r)))::k) ⟨[(0,true,.ptr J 0 0)],[(J,some (tB z l))],0⟩:=by
 subst ha hb hc
 have J1:=lf hJ
 refine w_cut3 (X:=Unit) (fun _=>oInv E J z al nm [] u) (fun _=>True) (fun p hp=>?_) fun _ _=>hk
 unfold pHd at hh
 split at hh
 rotate_left
 ·cases hh
 rename_i h1
 obtain⟨t,r,rfl,hkd⟩:=isW_cons h1
 have hN:=fun id=>Name_ok' z r t J id hkd
 have hT:=fun id=>Try_ok z r 58 J id
 rw[tB_eq,tB_eq] at hN
 rw[List.drop_one,List.tail_cons] at hh
 by_cases h2:isS r 58=true
 ·rw[if_pos h2] at hh
  rw[h2,tryL_yes h2] at hT
  obtain⟨t2,r2,rfl⟩:=isS_cons h2
  rw[List.drop_one,List.tail_cons,tB_eq,tB_eq] at hT
  split at hh
  rotate_left
  ·cases hh
  rename_i h3
  obtain⟨t3,r3,rfl,hk3⟩:=isW_cons (show isW r2=true from h3)
  have hN2:=fun id=>Name_ok' z r3 t3 J id hk3
  rw[tB_eq,tB_eq] at hN2
  simp only[txt,List.drop_succ_cons,List.drop_zero,Option.some.injEq,Prod.mk.injEq] at hh
  obtain⟨rfl,rfl,rfl⟩:=hh
  rw[tB_eq]
  refine w_go 4000 ?_
  simp[J1]
  (refine w_call hP rfl (hN _) (by simp[J1]) (by simp[J1]<;>rfl) ?_; refine w_go 4000 ?_; simp[J1])
  (refine w_call hP rfl (hT _) (by simp[J1]) (by simp[J1]<;>rfl) ?_; refine w_go 4000 ?_; simp[J1])
  (refine w_call hP rfl (hN2 _) (by simp[J1]) (by simp[J1]<;>rfl) ?_; refine w_go 4000 ?_; simp[J1])
  refine hp _ () trivial ?_
  refine Conv.trans (Conv.voidBox (E.n0+5120) (by simp[J1]; rfl) rfl (void_sel _ _ _) (.agg [.str [],.bool false,.str [],.int .i64 0])) ?_
  unfold oInv
  have hrn:rnOk [(E.n0,E.n0),(E.n0+1,E.n0+1024),(E.n0+2,E.n0+5120),(E.n0+3,E.n0+17408)]:=by simp[tB,rpB,sK,aB,J1]
  refine Conv.sub [(E.n0,E.n0),(E.n0+1,E.n0+1024),(E.n0+2,E.n0+5120),(E.n0+3,E.n0+17408)] hrn ?_ ?_ ?_ ?_ ?_<;>(try simp[tB,rpB,sK,aB,J1])
 ·have h2:isS r 58=false:=by simpa using h2
  rw[if_neg (by simp[h2])] at hh
  rw[h2,tryL_no h2,tB_eq] at hT
  simp only[txt,List.drop_succ_cons,List.drop_zero,Option.some.injEq,Prod.mk.injEq] at hh
  obtain⟨rfl,rfl,rfl⟩:=hh
  rw[tB_eq]
  refine w_go 4000 ?_
  simp[J1]
  (refine w_call hP rfl (hN _) (by simp[J1]) (by simp[J1]<;>rfl) ?_; refine w_go 4000 ?_; simp[J1])
  (refine w_call hP rfl (hT _) (by simp[J1]) (by simp[J1]<;>rfl) ?_; refine w_go 4000 ?_; simp[J1])
  refine hp _ () trivial ?_
  refine Conv.trans (Conv.voidBox (E.n0+5120) (by simp[J1]; rfl) rfl (void_sel _ _ _) (.agg [.str [],.bool false,.str [],.int .i64 0])) ?_
  unfold oInv
  have hrn:rnOk [(E.n0,E.n0),(E.n0+1,E.n0+1024),(E.n0+2,E.n0+5120),(E.n0+3,E.n0+9216)]:=by simp[tB,rpB,sK,aB,J1]
  refine Conv.sub [(E.n0,E.n0),(E.n0+1,E.n0+1024),(E.n0+2,E.n0+5120),(E.n0+3,E.n0+9216)] hrn ?_ ?_ ?_ ?_ ?_<;>(try simp[tB,rpB,sK,aB,J1])
theorem one_args{x r:CC}(hx:x = .seq (.r [.l 15 1,⟨some 16,none,[15],.call 123 [.t 15,.c (.str [40])]⟩]) (.cond (.t 16) (.r [.l 17 1,⟨some 18,none,[3,1],.mkf 128 [.t 3,.t 1]⟩,⟨some 19,none,[17,18],.call 88 [.t 17,.c (.str [41]),.t 18]⟩]) CC.skip))
  {al nm:List UInt8} {xs:List Ag} {u v:List Tk} (h8:u.length≤1099511627776) (hh:pArgs u=some (xs,v)) {k:List Itm} (hk:Wk E (.code r::k) (oInv E J z al nm xs v)) :
  Wk E (.code (.seq x r)::k) (oInv E J z al nm [] u):=by
 subst hx
 have J1:=lf hJ
 refine w_seq (w_cut (X:=Unit) (fun _=>oInv E J z al nm xs v) (fun _=>True) (fun p hp=>?_) fun _ _=>hk)
 have hT:=fun id=>Try_ok z u 40 J id
 unfold pArgs at hh
 by_cases h1:isS u 40=true
 ·rw[if_pos h1] at hh
  rw[h1,tryL_yes h1] at hT
  have hlen:(u.drop 1).length<u.length+1:=by rw[List.length_drop]; omega
  have hM:=fun id=>agM_ok (u.length+1) z (u.drop 1) al nm J E.n0 (E.n0+2) (E.n0+3) id (by simp[J1]) hlen (by omega)
  rw[hh] at hM
  have hM:∀id,FnOk Tryz.prog 88 [.ptr J 0 0,.str [41],.fn 128 [.ptr (E.n0+2) 0 0,.ptr E.n0 0 0]] [(J,tB z (u.drop 1)),(E.n0,rpB J),(E.n0+2,sK al nm (.bsl (E.n0+3) 0 0)),(E.n0+3,aB [])] id (.tup [])
    [(J,some (tB z v)),(E.n0+2,some (sK al nm (.bsl id 0 xs.length))),(E.n0+3,none),(id,some (aB xs))]:=hM
  generalize u.drop 1=w at *
  rw[tB_eq,tB_eq] at hT
  rw[tB_eq,rpB_eq,sK_eq,aB_eq,tB_eq,aB_eq] at hM
  simp only[sK_eq] at hM
  unfold oInv
  refine w_go 4000 ?_
  simp[tB,rpB,sK,aB,J1]
  (refine w_call hP rfl (hT _) (by simp[J1]) (by simp[J1]<;>rfl) ?_; refine w_go 4000 ?_; simp[J1])
  (refine w_call hP rfl (hM _) (by simp[J1]) (by simp[J1]<;>rfl) ?_; refine w_go 4000 ?_; simp[J1])
  refine hp _ () trivial ?_
  unfold oInv
  have hrn:rnOk [(E.n0,E.n0),(E.n0+1,E.n0+1),(E.n0+2,E.n0+2),(E.n0+3,E.n0+4100)]:=by simp[tB,rpB,sK,aB,J1]
  refine Conv.sub [(E.n0,E.n0),(E.n0+1,E.n0+1),(E.n0+2,E.n0+2),(E.n0+3,E.n0+4100)] hrn ?_ ?_ ?_ ?_ ?_<;>(try simp[tB,rpB,sK,aB,J1])
 ·have h1:isS u 40=false:=by simpa using h1
  rw[if_neg (by simp[h1])] at hh
  simp only[Option.some.injEq,Prod.mk.injEq] at hh
  obtain⟨rfl,rfl⟩:=hh
  rw[h1,tryL_no h1,tB_eq] at hT
  unfold oInv
  refine w_go 4000 ?_
  simp[tB,rpB,sK,aB,J1]
  (refine w_call hP rfl (hT _) (by simp[J1]) (by simp[J1]<;>rfl) ?_; refine w_go 4000 ?_; simp[J1])
  refine hp _ () trivial ?_
  unfold oInv
  have hrn:rnOk [(E.n0,E.n0),(E.n0+1,E.n0+1),(E.n0+2,E.n0+2),(E.n0+3,E.n0+3)]:=by simp[tB,rpB,sK,aB,J1]
  refine Conv.sub [(E.n0,E.n0),(E.n0+1,E.n0+1),(E.n0+2,E.n0+2),(E.n0+3,E.n0+3)] hrn ?_ ?_ ?_ ?_ ?_<;>(try simp[tB,rpB,sK,aB,J1])
end
end Go.Am
