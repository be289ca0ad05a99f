/- Parts of the proof: an abstract machine for Go functions, and what functions of the program give back (Lx13, Lx14, Sx1, Lx15). No condition. -/
import Derived.Test.YtgfmjhmjnnpcgaaGreatDoorYG
import Derived.Test.YtgfmjhmjnnpcgaaGreatDoorYA
import Derived.Test.YtgfmjhmjnnpcgaaGreatDoorYC
import Derived.Test.YtgfmjhmjnnpcgaaGreatDoorXH
namespace Go.Am
set_option linter.all false
open Go Go.RowKit Go.Proofs
set_option maxRecDepth 100000
set_option linter.all false
theorem Read_ok(s:List UInt8)(id:Nat):FnOk Tryz.prog 13 [.str s] [] id (lexV (fLex s)) []:=by
 by_cases h:2000<s.length
 ·have e:lexV (fLex s) = .tup [.nils,.int .i64 2]:=by unfold fLex; rw[if_pos h]; rfl
  rw[e]
  refine fn_okc Tryz.func13 hcc13 (by decide) hcr13 (by simp[Tryz.ntmps13]) fun E hP hR hl hid=>?_
  simp only[cr13] at hR
  refine w_go 4000 ?_
  simp[cc13]
  refine goc_true (by simp; omega) ?_
  simp
  rw[hR]; exact rt_end (by simp<;>rfl) [] trivial (end_pure (by simp) (by simp) (by simp))
 ·have e:fLex s=fAll s:=by unfold fLex; rw[if_neg h]
  have hA:=fun id=>All_ok s id (by omega)
  rw[e]
  cases hf:fAll s with
  | ok l =>
   rw[hf] at hA
   have hA:∀id,FnOk Tryz.prog 37 [.str s] [] id (.tup [.sl (l.map eTk),.int .i64 0]) []:=hA
   show FnOk _ _ _ _ _ (.tup [.sl (l.map eTk),.int .i64 0]) _
   refine fn_okc Tryz.func13 hcc13 (by decide) hcr13 (by simp[Tryz.ntmps13]) fun E hP hR hl hid=>?_
   simp only[cr13] at hR
   refine w_go 4000 ?_
   simp[cc13]
   refine goc_false (by simp; omega) ?_
   simp
   (refine w_call hP rfl (hA _) (by simp) (by simp<;>rfl) ?_; refine w_go 4000 ?_; simp)
   rw[hR]; exact rt_end (by simp<;>rfl) [] trivial (end_pure (by simp) (by simp) (by simp))
  | error e =>
   rw[hf] at hA
   have hA:∀id,FnOk Tryz.prog 37 [.str s] [] id (.tup [.nils,.int .i64 e]) []:=hA
   show FnOk _ _ _ _ _ (.tup [.nils,.int .i64 e]) _
   refine fn_okc Tryz.func13 hcc13 (by decide) hcr13 (by simp[Tryz.ntmps13]) fun E hP hR hl hid=>?_
   simp only[cr13] at hR
   refine w_go 4000 ?_
   simp[cc13]
   refine goc_false (by simp; omega) ?_
   simp
   (refine w_call hP rfl (hA _) (by simp) (by simp<;>rfl) ?_; refine w_go 4000 ?_; simp)
   rw[hR]; exact rt_end (by simp<;>rfl) [] trivial (end_pure (by simp) (by simp) (by simp))
end Go.Am
namespace Go.Am
set_option linter.all false
open Go Go.RowKit Go.Proofs
set_option maxRecDepth 100000
set_option linter.all false
end Go.Am
namespace Go.Am
set_option linter.all false
open Go Go.RowKit Go.Proofs
set_option maxRecDepth 100000
set_option linter.all false
def isS(l:List Tk)(c:UInt8):Bool:=match l with
 | t::_=>t.kind==4&&t.text==[c]
 | []=>false
def isW(l:List Tk):Bool:=match l with
 | t::_=>t.kind==1
 | []=>false
def txt(l:List Tk):List UInt8:=match l with
 | t::_=>t.text
 | []=>[]
def tType:List UInt8:=[116,121,112,101]
def fdOf(nm s:List UInt8):Fd:=if s=tNumber then ⟨nm,1,[]⟩ else if s=tText then ⟨nm,2,[]⟩ else ⟨nm,3,s⟩
def pFd(l:List Tk):Option (Fd×List Tk) :=
 if isW l=true∧isS (l.drop 1) 58=true then
  if isS (l.drop 2) 91=true then (if isW (l.drop 3)=true∧isS (l.drop 4) 93=true then some (⟨txt l,4,txt (l.drop 3)⟩,l.drop 5) else none)
  else if isW (l.drop 2)=true then some (fdOf (txt l) (txt (l.drop 2)),l.drop 3) else none
 else none
def pFds:Nat→List Fd→List Tk→Option (List Fd×List Tk)
 | 0,_,_=>none
 | n+1,acc,l=>match pFd l with
  | none=>none
  | some p=>if isS p.2 125=true then some (acc++[p.1],p.2.drop 1) else pFds n (acc++[p.1]) p.2
def pTy(l:List Tk):Option (Ty×List Tk) :=
 if (isW l=true∧txt l=tType)∧isW (l.drop 1)=true∧isS (l.drop 2) 123=true then (pFds (l.length+1) [] (l.drop 3)).map fun p=>(⟨txt (l.drop 1),p.1⟩,p.2) else none
def pTys:Nat→List Ty→List Tk→Option (List Ty)
 | 0,_,_=>none
 | n+1,acc,l=>match pTy l with
  | none=>none
  | some p=>if p.2=[] then some (acc++[p.1]) else pTys n (acc++[p.1]) p.2
def tysOf(l:List Tk):Option (List Ty):=pTys (l.length+1) [] l
def fSchT(o:Option (List Ty)):Except Int (List Ty):=match o with
 | none=>.error 1
 | some ts=>if fCheckT ts=0 then .ok ts else .error (fCheckT ts)
def fSchema(s:List UInt8):Except Int (List Ty):=match fLex s with
 | .error e=>.error e
 | .ok l=>fSchT (tysOf l)
def tkW(s:List UInt8):Tk:=⟨1,s,0⟩
def tkS(c:UInt8):Tk:=⟨4,[c],0⟩
def tkOf(f:Fd):List Tk:=if f.kind=1 then [tkW tNumber] else if f.kind=2 then [tkW tText] else if f.kind=3 then [tkW f.of] else if f.kind=4 then [tkS 91,tkW f.of,tkS 93] else []
def tkFd(f:Fd):List Tk:=tkW f.name::tkS 58::tkOf f
def tkTy(t:Ty):List Tk:=tkW tType::tkW t.name::tkS 123::(t.fields.flatMap tkFd++[tkS 125])
def tkSch(l:List Ty):List Tk:=l.flatMap tkTy
structure FdP(f:Fd):Prop where
 name:fName f.name=0
 kind:(f.kind=1∧f.of=[])∨(f.kind=2∧f.of=[])∨(f.kind=3∧f.of≠tNumber∧f.of≠tText∧fName f.of=0)∨(f.kind=4∧fName f.of=0)
structure TyP(t:Ty):Prop where
 name:fName t.name=0
 ne:t.fields≠[]
 le:t.fields.length≤6
 fd:∀f∈t.fields,FdP f
theorem fIx_zero{α:Type}(f:Nat→α→Int):∀(l:List α) (i:Nat),firstIx f l i=0↔∀k x,l[k]?=some x→f (i+k) x=0
 | [],i=>by simp[firstIx]
 | x::l,i=>by
  have ih:=fIx_zero f l (i+1)
  unfold firstIx
  split
  ·rename_i h
   constructor
   ·intro q; exact (h q).elim
   ·intro q; exact (h (q 0 x rfl)).elim
  ·rename_i h
   have h:f i x=0:=by simpa using h
   rw[ih]
   constructor
   ·intro q k y hy
    cases k with
    | zero=>injection hy with hy; rw[←hy]; exact h
    | succ k=>rw[show i+(k+1)=i+1+k by omega]; exact q k y hy
   ·intro q k y hy
    rw[show i+1+k=i+(k+1) by omega]; exact q (k+1) y hy
theorem ite0{p:Prop}[Decidable p]{a b:Int}(h:(if p then a else b)=0)(ha:a≠0):¬p∧b=0:=by
 split at h
 ·exact (ha h).elim
 ·exact⟨‹_›,h⟩
theorem iteS{a b:Int}(h:(if a≠0 then a else b)=0):a=0∧b=0:=by
 split at h
 ·exact (‹a≠0› h).elim
 ·exact⟨by simpa using ‹¬a≠0›,h⟩
structure FdOk(l:List Ty)(f:Fd)(ahead:List Fd):Prop where
 name:fName f.name=0
 id:f.name≠tId
 once:hasF ahead f.name=false
 kind:1≤f.kind∧f.kind≤4
 plain:f.kind≤2→f.of=[]
 link:3≤f.kind→hasT l f.of=true
theorem fField_zero{l:List Ty}{f:Fd}{ahead:List Fd}:fField l f ahead=0↔FdOk l f ahead:=by
 constructor
 ·intro h
  unfold fField at h
  obtain⟨h1,h⟩:=iteS h
  obtain⟨h2,h⟩:=ite0 h (by decide)
  obtain⟨h3,h⟩:=ite0 h (by decide)
  obtain⟨h4,h⟩:=ite0 h (by decide)
  obtain⟨h5,h⟩:=ite0 h (by decide)
  obtain⟨h6,_⟩:=ite0 h (by decide)
  have h4:1≤f.kind∧f.kind≤4:=Classical.byContradiction h4
  refine⟨h1,h2,by simpa using h3,h4,fun hk=>?_,fun hk=>?_⟩
  ·apply Classical.byContradiction
   intro q
   exact h5 ⟨by omega,q⟩
  ·apply Classical.byContradiction
   intro q
   exact h6 ⟨by omega,q⟩
 ·rintro⟨h1,h2,h3,h4,h5,h6⟩
  unfold fField
  rw[if_neg (by simpa using h1),if_neg h2,if_neg (by simp[h3]),if_neg (by simpa using h4),if_neg (by rintro⟨q1,q2⟩; exact q2 (h5 (by omega))),if_neg (by rintro⟨q1,q2⟩; exact q2 (h6 (by omega)))]
structure TyOk(l:List Ty)(i:Nat)(t:Ty):Prop where
 name:fName t.name=0
 own:t.name≠tNumber∧t.name≠tText
 once:hasT (l.take i) t.name=false
 ne:t.fields≠[]
 le:t.fields.length≤6
 fd:∀k f,t.fields[k]?=some f→FdOk l f (t.fields.take k)
theorem fType_zero{l:List Ty}{i:Nat}{t:Ty}:fType l i t=0↔TyOk l i t:=by
 constructor
 ·intro h
  unfold fType at h
  obtain⟨h1,h⟩:=iteS h
  obtain⟨h2,h⟩:=ite0 h (by decide)
  obtain⟨h3,h⟩:=ite0 h (by decide)
  obtain⟨h4,h⟩:=ite0 h (by decide)
  obtain⟨h5,h⟩:=ite0 h (by decide)
  refine⟨h1,⟨fun q=>h2 (.inl q),fun q=>h2 (.inr q)⟩,by simpa using h3,h4,by omega,fun k f hf=>?_⟩
  have:=(fIx_zero _ _ _).1 h k f hf
  rw[Nat.zero_add] at this
  exact fField_zero.1 this
 ·rintro⟨h1,h2,h3,h4,h5,h6⟩
  unfold fType
  rw[if_neg (by simpa using h1),if_neg (by rintro (q|q); exact h2.1 q; exact h2.2 q),if_neg (by simp[h3]),if_neg h4,if_neg (by omega)]
  refine (fIx_zero _ _ _).2 fun k f hf=>?_
  rw[Nat.zero_add]
  exact fField_zero.2 (h6 k f hf)
theorem fCheckT_zero{l:List Ty}:fCheckT l=0↔l≠[]∧l.length≤5∧∀i t,l[i]?=some t→TyOk l i t:=by
 constructor
 ·intro h
  unfold fCheckT at h
  obtain⟨h1,h⟩:=ite0 h (by decide)
  obtain⟨h2,h⟩:=ite0 h (by decide)
  refine⟨h1,by omega,fun i t ht=>?_⟩
  have:=(fIx_zero _ _ _).1 h i t ht
  rw[Nat.zero_add] at this
  exact fType_zero.1 this
 ·rintro⟨h1,h2,h3⟩
  unfold fCheckT
  rw[if_neg h1,if_neg (by omega)]
  refine (fIx_zero _ _ _).2 fun i t ht=>?_
  rw[Nat.zero_add]
  exact fType_zero.2 (h3 i t ht)
theorem hasT_iff{l:List Ty}{n:List UInt8}:hasT l n=true↔∃t∈l,t.name=n:=by simp[hasT]
theorem mem_ix{α:Type}{l:List α}{x:α}(h:x∈l):∃i:Nat,l[i]?=some x:=by
 obtain⟨i,hi,e⟩:=List.getElem_of_mem h
 exact⟨i,by rw[List.getElem?_eq_getElem hi,e]⟩
theorem tyP_of{l:List Ty}(h:fCheckT l=0):∀t∈l,TyP t:=by
 obtain⟨h1,h2,h3⟩:=fCheckT_zero.1 h
 intro t ht
 obtain⟨i,hi⟩:=mem_ix ht
 have hT:=h3 i t hi
 refine⟨hT.name,hT.ne,hT.le,fun f hf=>?_⟩
 obtain⟨k,hk⟩:=mem_ix hf
 have hF:=hT.fd k f hk
 refine⟨hF.name,?_⟩
 have hof:3≤f.kind→f.of≠tNumber∧f.of≠tText∧fName f.of=0:=fun h=>by
  obtain⟨u,hu,e⟩:=hasT_iff.1 (hF.link h)
  obtain⟨j,hj⟩:=mem_ix hu
  have:=h3 j u hj
  rw[←e]
  exact⟨this.own.1,this.own.2,this.name⟩
 have hk:=hF.kind
 rcases (show f.kind=1∨f.kind=2∨f.kind=3∨f.kind=4 by omega) with q|q|q|q
 ·exact .inl ⟨q,hF.plain (by omega)⟩
 ·exact .inr (.inl ⟨q,hF.plain (by omega)⟩)
 ·exact .inr (.inr (.inl ⟨q,hof (by omega)⟩))
 ·exact .inr (.inr (.inr ⟨q,(hof (by omega)).2.2⟩))
theorem tkW_ok{s:List UInt8}(h:fName s=0):fTk (tkW s)=0:=by simp[fTk,tkW,h]
theorem fName_le{s:List UInt8}(h:fName s=0):s.length≤12:=by
 unfold fName at h
 split at h
 ·cases h
 ·omega
def wSum(l:List Tk):Nat:=(l.map fun t=>(wrTk t).length+1).sum
theorem wSum_app(a b:List Tk):wSum (a++b)=wSum a+wSum b:=by simp[wSum]
theorem tkB_len(l:List Tk):(tkB l).length≤wSum l:=by
 cases l with
 | nil=>simp[tkB_nil]
 | cons t l =>
  rw[tkB_cons]
  have:(l.flatMap fun x=>32::wrTk x).length=wSum l:=by
   induction l with
   | nil=>rfl
   | cons u l ih=>simp[wSum] at ih ⊢; omega
  rw[List.length_append,this]
  simp[wSum]
def Few(l:List Tk)(a b:Nat):Prop:=(∀t∈l,fTk t=0)∧l.length≤a∧wSum l≤b
theorem Few.app{l m:List Tk}{a b c d:Nat}(h1:Few l a b)(h2:Few m c d):Few (l++m) (a+c) (b+d):=by
 refine⟨fun t ht=>?_,?_,?_⟩
 ·rcases List.mem_append.1 ht with h|h
  ·exact h1.1 t h
  ·exact h2.1 t h
 ·have:=h1.2.1; have:=h2.2.1; simp; omega
 ·have:=h1.2.2; have:=h2.2.2; rw[wSum_app]; omega
theorem few_w{s:List UInt8}(h:fName s=0):Few [tkW s] 1 13:=by
 refine⟨fun t ht=>?_,by simp,?_⟩
 ·obtain rfl:=List.mem_singleton.1 ht
  exact tkW_ok h
 ·have:=fName_le h
  simp[wSum,wrTk,tkW]; omega
theorem few_s{c:UInt8}(h:sgC c=true):Few [tkS c] 1 2:=by
 refine⟨fun t ht=>?_,by simp,?_⟩
 ·obtain rfl:=List.mem_singleton.1 ht
  simp[fTk,tkS,h]
 ·simp[wSum,wrTk,tkS]
theorem Few.mono{l:List Tk}{a b c d:Nat}(h:Few l a b)(h1:a≤c)(h2:b≤d):Few l c d:=⟨h.1,Nat.le_trans h.2.1 h1,Nat.le_trans h.2.2 h2⟩
theorem few_of{f:Fd}(h:FdP f):Few (tkOf f) 3 17:=by
 unfold tkOf
 rcases h.kind with⟨hk,_⟩|⟨hk,_⟩|⟨hk,_,_,ho⟩|⟨hk,ho⟩
 ·rw[if_pos hk]; exact (few_w (by decide)).mono (by omega) (by omega)
 ·rw[if_neg (by omega),if_pos hk]; exact (few_w (by decide)).mono (by omega) (by omega)
 ·rw[if_neg (by omega),if_neg (by omega),if_pos hk]; exact (few_w ho).mono (by omega) (by omega)
 ·rw[if_neg (by omega),if_neg (by omega),if_neg (by omega),if_pos hk]
  exact (few_s (c:=91) (by decide)).app ((few_w ho).app (few_s (c:=93) (by decide)))
theorem few_fd{f:Fd}(h:FdP f):Few (tkFd f) 5 32:=(few_w h.name).app ((few_s (c:=58) (by decide)).app (few_of h))
theorem few_fds:∀fs:List Fd,(∀f∈fs,FdP f)→Few (fs.flatMap tkFd) (5*fs.length) (32*fs.length)
 | [],_=>⟨fun t ht=>absurd ht (by simp),by simp,by simp[wSum]⟩
 | f::fs,h=>by
  have:=(few_fd (h f (List.mem_cons_self ..))).app (few_fds fs fun y hy=>h y (List.mem_cons_of_mem _ hy))
  rw[List.flatMap_cons]
  exact this.mono (by simp; omega) (by simp; omega)
theorem few_ty{t:Ty}(h:TyP t):Few (tkTy t) 34 222:=by
 have:=(few_w (s:=tType) (by decide)).app ((few_w h.name).app ((few_s (c:=123) (by decide)).app ((few_fds t.fields h.fd).app (few_s (c:=125) (by decide)))))
 have hl:=h.le
 exact this.mono (by omega) (by omega)
theorem few_sch:∀l:List Ty,(∀t∈l,TyP t)→Few (tkSch l) (34*l.length) (222*l.length)
 | [],_=>⟨fun t ht=>absurd ht (by simp[tkSch]),by simp[tkSch],by simp[wSum,tkSch]⟩
 | t::l,h=>by
  have:=(few_ty (h t (List.mem_cons_self ..))).app (few_sch l fun y hy=>h y (List.mem_cons_of_mem _ hy))
  have e:tkSch (t::l)=tkTy t++tkSch l:=by simp[tkSch]
  rw[e]
  exact this.mono (by simp; omega) (by simp; omega)
theorem sch_ok{s:List UInt8}{l:List Ty}(h:fSchema s = .ok l):fCheckT l=0:=by
 unfold fSchema at h
 split at h
 ·cases h
 ·unfold fSchT at h
  split at h
  ·cases h
  ·split at h
   ·rename_i h2
    injection h with h
    rw[←h]; exact h2
   ·cases h
end Go.Am
namespace Go.Am
set_option linter.all false
open Go Go.RowKit Go.Proofs
set_option maxRecDepth 100000
set_option linter.all false
def Wri(t:Tk):Prop:=∀id,FnOk Tryz.prog 76 [eTk t] [] id (.str (wrTk t)) []
theorem wri_oth(k n:Int)(tx:List UInt8)(h2:k≠2)(h3:k≠3):Wri ⟨k,tx,n⟩:=fun id=>by
 unfold eTk
 have e:wrTk ⟨k,tx,n⟩=tx:=by simp[wrTk,h2,h3]
 rw[e]
 have e2:(k==2)=false:=by simpa using h2
 have e3:(k==3)=false:=by simpa using h3
 refine fn_okc Tryz.func76 hcc76 (by decide) hcr76 (by simp[Tryz.ntmps76]) fun E hP hR hl hid=>?_
 simp only[cr76] at hR
 refine w_go 4000 ?_
 simp[cc76]
 refine goc_false e2 ?_
 simp
 refine goc_false e3 ?_
 simp
 rw[hR]; exact rt_end (by simp<;>rfl) [] trivial (end_pure (by simp) (by simp) (by simp))
theorem pure_strs(l:List (List UInt8)):pureL (l.map AV.str)=true:=pureL_map (fun _=>rfl) l
theorem pureL_tk{l:List AV}(h:pureL l=true)(n:Nat):pureL (l.take n)=true:=pureL_of fun i x hx=>by
 rw[List.getElem?_take] at hx
 split at hx
 ·exact pureL_get h hx
 ·cases hx
set_option maxHeartbeats 4000000 in
theorem tBytes_ok(l:List Tk)(id:Nat)(hW:∀t∈l,Wri t)(h8:wSum l≤1099511627776)(h9:l.length≤1099511627776):FnOk Tryz.prog 39 [.sl (l.map eTk)] [] id (.str (tkB l)) []:=by
 have hjl:(Lib.join (l.map wrTk) [32]).length≤140737488355328:=by
  have:=tkB_len l
  unfold tkB at this; omega
 have hres:(.str (tkB l):AV) = .str (Lib.join (l.map wrTk) [32]):=rfl
 rw[hres]
 have hxi:∀(i:Nat) (t:Tk),l[i]?=some t→(l.map wrTk)[i]?=some (wrTk t):=fun i t h=>by rw[List.getElem?_map,h]; rfl
 have hxl:(l.map wrTk).length=l.length:=by simp
 generalize l.map wrTk=xs at *
 refine fn_okc Tryz.func39 hcc39 (by decide) hcr39 (by simp[Tryz.ntmps39]) fun E hP hR hl hid=>?_
 simp only[cr39] at hR
 refine w_go 4000 ?_
 simp[cc39]
 refine w_loop (X:=Nat) (fun i=>⟨[(3,true,.bsl E.n0 0 i),(6,true,.sl (l.map eTk)),(7,true,.int .i64 l.length),(8,true,.int .i64 i)],[(E.n0,some ⟨(xs.map AV.str).take i,.str [],false,false⟩)],1⟩)
  (fun i=>i≤l.length) (fun i=>l.length - i) 0 ?_ (by omega) ?_
 ·refine Conv.trans (Conv.voidSlot 3 (x:=.nils) (y:=.bsl (E.n0+5120) 0 0) (by simp) .nils (.str [])) ?_
  have hrn:rnOk [(E.n0,E.n0+5120)]:=by simp
  refine Conv.sub [(E.n0,E.n0+5120)] hrn ?_ ?_ ?_ ?_ ?_<;>(try simp)
 rintro i hi p hp
 rcases Nat.lt_or_ge i l.length with h|h
 ·obtain⟨t,ht,hd⟩:=drop_cons h
  have hli:l[i]=t:=by
   rw[List.getElem?_eq_getElem h] at ht
   injection ht
  have hi1:IntKind.i64.wrap ((i:Int)+1)=((i+1:Nat):Int):=wrap64 (by omega)
  have hw:=hW t (List.mem_of_getElem? ht)
  unfold Wri eTk at hw
  have hst:(xs.map AV.str).take (i+1)=(xs.map AV.str).take i++[.str (wrTk t)]:=take_snoc (by rw[List.getElem?_map,hxi i t ht]; rfl)
  refine w_go 4000 ?_
  simp[h,hli,eTk]
  (refine w_call hP rfl (hw _) (by simp) (by simp<;>rfl) ?_; refine w_go 4000 ?_; simp)
  refine⟨⟨by omega,by omega,by omega⟩,?_⟩
  refine hp _ (i+1) h (by omega) ?_
  have hrn:rnOk [(E.n0,E.n0+9217)]:=by simp[hi1,hst]
  refine Conv.sub [(E.n0,E.n0+9217)] hrn ?_ ?_ ?_ ?_ ?_<;>(try simp[hi1,hst])
  exact renL_pure rfl (pureL_append (pureL_tk (pure_strs _) _) rfl)
 ·have hil:i=l.length:=by omega
  have hka:(xs.map AV.str).take i=xs.map AV.str:=List.take_of_length_le (by simp; omega)
  have hle:i≤xs.length:=by omega
  have hJo:=fun id=>Join_ok xs [32] id (by omega) hjl
  refine w_go 4000 ?_
  simp[Nat.not_lt.2 h,hka]
  (refine w_callR hP rfl (hJo _) (by simp[hka,hle]<;>rfl) (by simp[hka,hle]) (by simp[hka,hle]<;>rfl) (by simp[hka,hle]) ?_; refine w_go 4000 ?_; simp[hka,hle])
  rw[hR]; exact rt_end (by simp<;>rfl) [] trivial (end_pure (by simp) (by simp) (by simp))
end Go.Am
