/- Parts of the proof: an abstract machine for Go functions, and what functions of the program give back (Vl1, Vl2, Vl3, Vl4). No condition. -/
import Derived.Test.YtgfmjhmjnnpcgaaGreatDoorCcB
import Derived.Test.YtgfmjhmjnnpcgaaGreatDoorXH
import Derived.Test.YtgfmjhmjnnpcgaaGreatDoorXF
namespace Go.Am
set_option linter.all false
open Go Go.RowKit Go.Proofs
set_option maxRecDepth 100000
set_option linter.all false
structure Ag where
 name:List UInt8
 isText:Bool
 text:List UInt8
 n:Int
def eAg(a:Ag):AV:=.agg [.str a.name,.bool a.isText,.str a.text,.int .i64 a.n]
theorem eAg_eq(a:Ag):eAg a = .agg [.str a.name,.bool a.isText,.str a.text,.int .i64 a.n]:=rfl
theorem pure_eAg(f:Ag):(eAg f).pureB=true:=rfl
@[simp] theorem pure_ags (l:List Ag):pureL (l.map eAg)=true:=pureL_map pure_eAg l
@[simp] theorem names_ags (S:Nat→Prop) (l:List Ag):namesL S (l.map eAg):=namesL_pure _ (pure_ags l)
@[simp] theorem ren_ags (R:Rn) (S:Nat→Prop) (l:List Ag):RenL R S (l.map eAg) (l.map eAg):=renL_pure rfl (pure_ags l)
inductive Sel where
 | mk (alias name:List UInt8) (args:List Ag) (kids:List Sel)
def Sel.alias:Sel→List UInt8 | .mk a _ _ _=>a
def Sel.name:Sel→List UInt8 | .mk _ n _ _=>n
def Sel.args:Sel→List Ag | .mk _ _ x _=>x
def Sel.kids:Sel→List Sel | .mk _ _ _ k=>k
mutual
def eSel:Sel→AV
 | .mk a n x k=>.agg [.str a,.str n,.sl (x.map eAg),.sl (eSels k)]
def eSels:List Sel→List AV
 | []=>[]
 | s::r=>eSel s::eSels r
end
theorem eSels_map(l:List Sel):eSels l=l.map eSel:=by
 induction l with
 | nil=>rfl
 | cons s r ih=>simp[eSels,ih]
theorem eSel_eq(s:Sel):eSel s = .agg [.str s.alias,.str s.name,.sl (s.args.map eAg),.sl (s.kids.map eSel)]:=by
 cases s with
 | mk a n x k=>simp[eSel,eSels_map,Sel.alias,Sel.name,Sel.args,Sel.kids]
mutual
theorem pure_eSel:∀s:Sel,(eSel s).pureB=true
 | .mk a n x k=>by simp[eSel,pure_eSels k]
theorem pure_eSels:∀l:List Sel,pureL (eSels l)=true
 | []=>rfl
 | s::r=>by simp[eSels,pure_eSel s,pure_eSels r]
end
@[simp] theorem ren_ag (R:Rn) (S:Nat→Prop) (a:Ag):RenR R S (eAg a) (eAg a):=renR_pure rfl rfl
@[simp] theorem ren_sel (R:Rn) (S:Nat→Prop) (s:Sel):RenR R S (eSel s) (eSel s):=renR_pure rfl (pure_eSel s)
@[simp] theorem pure_sels (l:List Sel):pureL (l.map eSel)=true:=pureL_map pure_eSel l
@[simp] theorem names_sels (S:Nat→Prop) (l:List Sel):namesL S (l.map eSel):=namesL_pure _ (pure_sels l)
@[simp] theorem ren_sels (R:Rn) (S:Nat→Prop) (l:List Sel):RenL R S (l.map eSel) (l.map eSel):=renL_pure rfl (pure_sels l)
mutual
def Sel.sz:Sel→Nat
 | .mk _ _ x k=>1+x.length+szL k
def szL:List Sel→Nat
 | []=>0
 | s::r=>s.sz+szL r
end
theorem sz_eq(s:Sel):s.sz=1+s.args.length+szL s.kids:=by cases s; rfl
theorem szL_len(l:List Sel):l.length≤szL l:=by
 induction l with
 | nil=>simp[szL]
 | cons s r ih=>have:=sz_eq s; simp[szL]; omega
theorem szL_mem{l:List Sel}{s:Sel}(h:s∈l):s.sz≤szL l:=by
 induction l with
 | nil=>cases h
 | cons x r ih =>
  simp only[szL]
  rcases List.mem_cons.1 h with rfl|h
  ·omega
  ·have:=ih h; omega
theorem szL_kids{l:List Sel}{s:Sel}(h:s∈l):szL s.kids<szL l:=by
 have:=szL_mem h; have:=sz_eq s; omega
def called(s:Sel):List UInt8:=if s.alias≠[] then s.alias else s.name
def fArg(a:Ag):Int :=
 if (a.isText=true∧a.n≠0)∨(a.isText=false∧a.text≠[]) then 1 else if 40<a.text.length then 2 else if ¬(-999999999≤a.n∧a.n≤999999999) then 3 else 0
def hasA(l:List Ag)(n:List UInt8):Bool:=l.any fun x=>x.name==n
def fArg1(a:Ag)(ahead:List Ag):Int :=
 if fName a.name≠0 then fName a.name else if hasA ahead a.name=true then 6 else fArg a
def fArgs(l:List Ag):Int:=if 5<l.length then 2 else firstIx (fun k a=>fArg1 a (l.take k)) l 0
theorem Called_ok(s:Sel)(id:Nat):FnOk Tryz.prog 97 [eSel s] [] id (.str (called s)) []:=by
 rw[eSel_eq]
 refine fn_okc Tryz.func97 hcc97 (by decide) hcr97 (by simp[Tryz.ntmps97]) fun E hP hR hl hid=>?_
 simp only[cr97] at hR
 refine w_go 4000 ?_
 simp[cc97]
 refine goc (fun h=>?_) (fun h=>?_)<;>simp
 ·rw[hR]; exact rt_end (by simp<;>rfl) [] trivial (end_pure (by simp; simp at h; unfold called; rw[if_pos h]) (by simp) (by simp))
 ·have h:¬s.alias≠[]:=by simpa using h
  rw[hR]; exact rt_end (by simp<;>rfl) [] trivial (end_pure (by simp; unfold called; rw[if_neg h]) (by simp) (by simp))
theorem checkArg_ok(a:Ag)(id:Nat):FnOk Tryz.prog 126 [eAg a] [] id (.int .i64 (fArg a)) []:=by
 unfold eAg
 refine fn_okc Tryz.func126 hcc126 (by decide) hcr126 (by simp[Tryz.ntmps126]) fun E hP hR hl hid=>?_
 simp only[cr126] at hR
 refine w_go 4000 ?_
 simp[cc126]
 repeat' first
  | (refine And.intro ?_ ?_)
  | (refine goc (fun h=>?_) (fun h=>?_)<;>simp)
  | (refine w_call hP rfl (lexInt_ok _ _) (by simp) (by simp<;>rfl) ?_; refine w_go 4000 ?_; simp)
 all_goals first
  | (rw[hR]; refine rt_end (by simp<;>rfl) [] trivial (end_pure ?_ (by simp) (by simp)); simp; done)
  | (rw[hR]; refine rt_end (by simp<;>rfl) [] trivial (end_pure ?_ (by simp) (by simp)); (try simp); simp[fArg] at *; grind; done)
  | omega
  | (simp_all; done)
  | grind
theorem args1_ok(x:Ag)(j:Nat)(a:Ag)(id:Nat):FnOk Tryz.prog 125 [eAg x,.ptr j 0 0] [(j,⟨[eAg a],.agg [.str [],.bool false,.str [],.int .i64 0],false,false⟩)] id (.bool (x.name==a.name)) []:=by
 unfold eAg
 refine fn_okc Tryz.func125 hcc125 (by decide) hcr125 (by simp[Tryz.ntmps125]) fun E hP hR hl hid=>?_
 simp only[cr125] at hR
 refine w_go 4000 ?_
 simp[cc125]
 have hj:=hl (j,_) (List.mem_cons_self ..)
 simp only at hj
 have j1:=lf hj
 simp[j1]
 have hrn:rnOk []:=by simp[j1,idO hid]
 rw[hR]
 refine rt_end (by simp<;>rfl) [] hrn ⟨?_,?_,?_,?_,?_,?_⟩<;>(try simp[j1,idO hid])
theorem IndexAg_ok(l:List Ag)(j:Nat)(a:Ag)(id:Nat)(hl8:l.length<9223372036854775807):FnOk Tryz.prog 141 [.sl (l.map eAg),.fn 125 [.ptr j 0 0]] [(j,⟨[eAg a],.agg [.str [],.bool false,.str [],.int .i64 0],false,false⟩)] id (.int .i64 (findJ (fun x=>x.name==a.name) l 0)) []:=by
 refine fn_okc Tryz.func141 hcc141 (by decide) hcr141 (by simp[Tryz.ntmps141]) fun E hP hR hl hid=>?_
 simp only[cr141] at hR
 refine w_go 4000 ?_
 simp[cc141]
 have hj:=hl (j,_) (List.mem_cons_self ..)
 simp only at hj
 have j1:=lf hj
 refine w_loop (X:=Nat) (fun i=>⟨[(0,true,.sl (l.map eAg)),(1,true,.fn 125 [.ptr j 0 0]),(7,true,.int .i64 l.length),(8,true,.int .i64 i)],[(j,some (⟨[eAg a],.agg [.str [],.bool false,.str [],.int .i64 0],false,false⟩))],0⟩) (fun i=>i≤l.length∧findJ (fun x=>x.name==a.name) (l.drop i) i=findJ (fun x=>x.name==a.name) l 0) (fun i=>l.length - i) 0 ?_ ⟨by omega,rfl⟩ ?_
 ·have hrn:rnOk []:=by simp[j1]
  refine Conv.sub [] hrn ?_ ?_ ?_ ?_ ?_<;>(try simp[j1])
 ·rintro i ⟨hi,hf⟩ p hp
  refine w_go 4000 ?_
  simp
  refine goc (fun h=>?_) (fun h=>?_)
  ·have h:=of_decide_eq_true h
   obtain⟨x,hx,hd⟩:=drop_cons h
   have hcl:=args1_ok x j a
   simp only[eAg_eq x] at hcl
   rw[hd] at hf
   simp only[findJ] at hf
   have hi1:IntKind.i64.wrap ((i:Int)+1)=((i+1:Nat):Int):=wrap64 (by omega)
   simp[hx,eAg_eq x]
   refine⟨h,?_⟩
   refine w_callv hP rfl rfl (hcl _) (by simp) (by simp[j1]<;>rfl) ?_
   refine w_go 4000 ?_
   simp[j1]
   refine goc (fun h1=>?_) (fun h1=>?_)
   ·simp[j1]
    rw[if_pos h1] at hf
    rw[←hf] at hR
    have hrn:rnOk []:=by simp[j1,findJ,idO hid]
    rw[hR]
    refine rt_end (by simp<;>rfl) [] hrn ⟨?_,?_,?_,?_,?_,?_⟩<;>(try simp[j1,findJ,idO hid])
   ·simp[j1]
    rw[if_neg (by simpa using h1)] at hf
    refine hp _ (i+1) ⟨h,hf⟩ (by omega) ?_
    have hrn:rnOk []:=by simp[hi1,j1]
    refine Conv.sub [] hrn ?_ ?_ ?_ ?_ ?_<;>(try simp[hi1,j1])
  ·have h:=of_decide_eq_false h
   simp
   rw[List.drop_of_length_le (by omega)] at hf
   rw[←hf] at hR
   have hrn:rnOk []:=by simp[j1,findJ,idO hid]
   rw[hR]
   refine rt_end (by simp<;>rfl) [] hrn ⟨?_,?_,?_,?_,?_,?_⟩<;>(try simp[j1,findJ,idO hid])
theorem ContainsAg_ok(l:List Ag)(j:Nat)(a:Ag)(id:Nat)(hl8:l.length<9223372036854775807):FnOk Tryz.prog 124 [.sl (l.map eAg),.fn 125 [.ptr j 0 0]] [(j,⟨[eAg a],.agg [.str [],.bool false,.str [],.int .i64 0],false,false⟩)] id (.bool (hasA l a.name)) []:=by
 refine fn_okc Tryz.func124 hcc124 (by decide) hcr124 (by simp[Tryz.ntmps124]) fun E hP hR hl hid=>?_
 simp only[cr124] at hR
 refine w_go 4000 ?_
 simp[cc124]
 have hj:=hl (j,_) (List.mem_cons_self ..)
 simp only at hj
 have j1:=lf hj
 (refine w_call hP rfl (IndexAg_ok l j a _ hl8) (by simp[j1]) (by simp[j1]<;>rfl) ?_; refine w_go 4000 ?_; simp[j1])
 have hrn:rnOk []:=by simp[j1,idO hid]
 rw[hR]
 refine rt_end (by simp<;>rfl) [] hrn ⟨?_,?_,?_,?_,?_,?_⟩<;>(try simp[j1,idO hid])
 exact findJ_any _ l 0
theorem check1_ok(x:Sel)(j:Nat)(s:Sel)(id:Nat):FnOk Tryz.prog 96 [eSel x,.ptr j 0 0] [(j,⟨[eSel s],.agg [.str [],.str [],.nils,.nils],false,false⟩)] id (.bool (called x==called s)) []:=by
 have h1:=Called_ok x
 have h2:=Called_ok s
 rw[eSel_eq] at h1 h2
 rw[eSel_eq x,eSel_eq s]
 refine fn_okc Tryz.func96 hcc96 (by decide) hcr96 (by simp[Tryz.ntmps96]) fun E hP hR hl hid=>?_
 simp only[cr96] at hR
 refine w_go 4000 ?_
 simp[cc96]
 have hj:=hl (j,_) (List.mem_cons_self ..)
 simp only at hj
 have j1:=lf hj
 (refine w_call hP rfl (h1 _) (by simp[j1]) (by simp[j1]<;>rfl) ?_; refine w_go 4000 ?_; simp[j1])
 (refine w_call hP rfl (h2 _) (by simp[j1]) (by simp[j1]<;>rfl) ?_; refine w_go 4000 ?_; simp[j1])
 have hrn:rnOk []:=by simp[j1,idO hid]
 rw[hR]
 refine rt_end (by simp<;>rfl) [] hrn ⟨?_,?_,?_,?_,?_,?_⟩<;>(try simp[j1,idO hid])
theorem IndexSel_ok(l:List Sel)(j:Nat)(s:Sel)(id:Nat)(hl8:l.length<9223372036854775807):FnOk Tryz.prog 127 [.sl (l.map eSel),.fn 96 [.ptr j 0 0]] [(j,⟨[eSel s],.agg [.str [],.str [],.nils,.nils],false,false⟩)] id (.int .i64 (findJ (fun x=>called x==called s) l 0)) []:=by
 refine fn_okc Tryz.func127 hcc127 (by decide) hcr127 (by simp[Tryz.ntmps127]) fun E hP hR hl hid=>?_
 simp only[cr127] at hR
 refine w_go 4000 ?_
 simp[cc127]
 have hj:=hl (j,_) (List.mem_cons_self ..)
 simp only at hj
 have j1:=lf hj
 refine w_loop (X:=Nat) (fun i=>⟨[(0,true,.sl (l.map eSel)),(1,true,.fn 96 [.ptr j 0 0]),(7,true,.int .i64 l.length),(8,true,.int .i64 i)],[(j,some (⟨[eSel s],.agg [.str [],.str [],.nils,.nils],false,false⟩))],0⟩) (fun i=>i≤l.length∧findJ (fun x=>called x==called s) (l.drop i) i=findJ (fun x=>called x==called s) l 0) (fun i=>l.length - i) 0 ?_ ⟨by omega,rfl⟩ ?_
 ·have hrn:rnOk []:=by simp[j1]
  refine Conv.sub [] hrn ?_ ?_ ?_ ?_ ?_<;>(try simp[j1])
 ·rintro i ⟨hi,hf⟩ p hp
  refine w_go 4000 ?_
  simp
  refine goc (fun h=>?_) (fun h=>?_)
  ·have h:=of_decide_eq_true h
   obtain⟨x,hx,hd⟩:=drop_cons h
   have hcl:=check1_ok x j s
   simp only[eSel_eq x] at hcl
   rw[hd] at hf
   simp only[findJ] at hf
   have hi1:IntKind.i64.wrap ((i:Int)+1)=((i+1:Nat):Int):=wrap64 (by omega)
   simp[hx,eSel_eq x]
   refine⟨h,?_⟩
   refine w_callv hP rfl rfl (hcl _) (by simp) (by simp[j1]<;>rfl) ?_
   refine w_go 4000 ?_
   simp[j1]
   refine goc (fun h1=>?_) (fun h1=>?_)
   ·simp[j1]
    rw[if_pos h1] at hf
    rw[←hf] at hR
    have hrn:rnOk []:=by simp[j1,findJ,idO hid]
    rw[hR]
    refine rt_end (by simp<;>rfl) [] hrn ⟨?_,?_,?_,?_,?_,?_⟩<;>(try simp[j1,findJ,idO hid])
   ·simp[j1]
    rw[if_neg (by simpa using h1)] at hf
    refine hp _ (i+1) ⟨h,hf⟩ (by omega) ?_
    have hrn:rnOk []:=by simp[hi1,j1]
    refine Conv.sub [] hrn ?_ ?_ ?_ ?_ ?_<;>(try simp[hi1,j1])
  ·have h:=of_decide_eq_false h
   simp
   rw[List.drop_of_length_le (by omega)] at hf
   rw[←hf] at hR
   have hrn:rnOk []:=by simp[j1,findJ,idO hid]
   rw[hR]
   refine rt_end (by simp<;>rfl) [] hrn ⟨?_,?_,?_,?_,?_,?_⟩<;>(try simp[j1,findJ,idO hid])
theorem ContainsSel_ok(l:List Sel)(j:Nat)(s:Sel)(id:Nat)(hl8:l.length<9223372036854775807):FnOk Tryz.prog 95 [.sl (l.map eSel),.fn 96 [.ptr j 0 0]] [(j,⟨[eSel s],.agg [.str [],.str [],.nils,.nils],false,false⟩)] id (.bool (l.any fun x=>called x==called s)) []:=by
 refine fn_okc Tryz.func95 hcc95 (by decide) hcr95 (by simp[Tryz.ntmps95]) fun E hP hR hl hid=>?_
 simp only[cr95] at hR
 refine w_go 4000 ?_
 simp[cc95]
 have hj:=hl (j,_) (List.mem_cons_self ..)
 simp only at hj
 have j1:=lf hj
 (refine w_call hP rfl (IndexSel_ok l j s _ hl8) (by simp[j1]) (by simp[j1]<;>rfl) ?_; refine w_go 4000 ?_; simp[j1])
 have hrn:rnOk []:=by simp[j1,idO hid]
 rw[hR]
 refine rt_end (by simp<;>rfl) [] hrn ⟨?_,?_,?_,?_,?_,?_⟩<;>(try simp[j1,idO hid])
 exact findJ_any _ l 0
end Go.Am
namespace Go.Am
set_option linter.all false
open Go Go.RowKit Go.Proofs
set_option maxRecDepth 100000
set_option linter.all false
set_option maxHeartbeats 1000000 in
theorem args_ok(l:List Ag)(id:Nat):FnOk Tryz.prog 94 [.sl (l.map eAg)] [] id (.int .i64 (fArgs l)) []:=by
 refine fn_okc Tryz.func94 hcc94 (by decide) hcr94 (by simp[Tryz.ntmps94]) fun E hP hR hl hid=>?_
 simp only[cr94] at hR
 refine w_go 4000 ?_
 simp[cc94]
 refine goc (fun h=>?_) (fun h=>?_)<;>simp
 ·rw[hR]; exact rt_end (by simp<;>rfl) [] trivial (end_pure (by simp; simp at h; unfold fArgs; rw[if_pos (by omega)]) (by simp) (by simp))
 have h5:¬5<l.length:=by simp at h; omega
 have hft:fArgs l=firstIx (fun k a=>fArg1 a (l.take k)) l 0:=by unfold fArgs; rw[if_neg h5]
 rw[hft] at hR
 refine w_loop (X:=Nat) (fun i=>⟨[(0,true,.sl (l.map eAg)),(9,true,.sl (l.map eAg)),(10,true,.int .i64 l.length),(11,true,.int .i64 i)],[],0⟩) (fun i=>i≤l.length∧firstIx (fun k a=>fArg1 a (l.take k)) (l.drop i) i=firstIx (fun k a=>fArg1 a (l.take k)) l 0) (fun i=>l.length - i) 0 ?_ ⟨by omega,rfl⟩ ?_
 ·have hrn:rnOk []:=by simp
  refine Conv.sub [] hrn ?_ ?_ ?_ ?_ ?_<;>(try simp)
 ·rintro i ⟨hi,hf⟩ p hp
  refine w_go 4000 ?_
  simp
  refine goc (fun h=>?_) (fun h=>?_)
  ·have h:=of_decide_eq_true h
   obtain⟨x,hx,hd⟩:=drop_cons h
   rw[hd] at hf
   simp only[firstIx] at hf
   have hi1:IntKind.i64.wrap ((i:Int)+1)=((i+1:Nat):Int):=wrap64 (by omega)
   have hC:=fun j=>ContainsAg_ok (l.take i) j x
   simp only[List.map_take] at hC
   have hA:=checkArg_ok x
   rw[eAg_eq] at hA
   simp[hx,eAg_eq x]
   refine⟨h,?_⟩
   (refine w_call hP rfl (Name_ok x.name _) (by simp) (by simp<;>rfl) ?_; refine w_go 4000 ?_; simp)
   refine⟨fun h0=>⟨h0,fun a _=>rfl,hi⟩,?_⟩
   refine w_callg hP (by simp) rfl (fun hc=>⟨hC (E.n0+4096) _ (by simp; omega),by revert hc; simp; try grind,by simp<;>rfl⟩) ?_
   refine w_go 4000 ?_
   simp
   refine goc (fun h1=>?_) (fun h1=>?_)<;>simp
   ·simp at h1
    have hv:fArg1 x (l.take i)=6:=by unfold fArg1; rw[if_neg (by simp[h1.1]),if_pos h1.2]
    rw[hv,if_pos (by decide)] at hf
    rw[hR]; exact rt_end (by simp<;>rfl) [] trivial (end_pure (by simp; exact hf) (by simp) (by simp))
   ·refine goc (fun h2=>?_) (fun h2=>?_)<;>simp
    ·simp at h1 h2
     have hv:fArg1 x (l.take i)=fArg x:=by unfold fArg1; rw[if_neg (by simp[h2]),if_neg (by simp[h1 h2])]
     rw[hv] at hf
     (refine w_call hP rfl (hA _) (by simp) (by simp<;>rfl) ?_; refine w_go 4000 ?_; simp)
     refine goc (fun h3=>?_) (fun h3=>?_)<;>simp
     ·rw[if_pos (by simpa using h3)] at hf
      rw[hR]; exact rt_end (by simp<;>rfl) [] trivial (end_pure (by simp; exact hf) (by simp) (by simp))
     ·rw[if_neg (by simpa using h3)] at hf
      refine hp _ (i+1) ⟨h,hf⟩ (by omega) ?_
      have hrn:rnOk []:=by simp[hi1]
      refine Conv.sub [] hrn ?_ ?_ ?_ ?_ ?_<;>(try simp[hi1])
    ·have h2:fName x.name≠0:=by simpa using h2
     have hv:fArg1 x (l.take i)=fName x.name:=by unfold fArg1; rw[if_pos h2]
     rw[hv,if_pos h2] at hf
     refine goc_true (by simpa using h2) ?_
     simp
     rw[hR]; exact rt_end (by simp<;>rfl) [] trivial (end_pure (by simp; exact hf) (by simp) (by simp))
  ·have h:=of_decide_eq_false h
   simp
   rw[List.drop_of_length_le (by omega)] at hf
   rw[hR]; exact rt_end (by simp<;>rfl) [] trivial (end_pure (by simp; exact hf) (by simp) (by simp))
end Go.Am
namespace Go.Am
set_option linter.all false
open Go Go.RowKit Go.Proofs
set_option maxRecDepth 100000
set_option linter.all false
def manyL:Nat→List Sel→Nat
 | 0,l=>l.length
 | m+1,l=>l.length+(l.map fun s=>manyL m s.kids).sum
def deepL:Nat→List Sel→Nat
 | 0,l=>min l.length 1
 | m+1,l=>l.foldl (fun d s=>max d (deepL m s.kids+1)) (min l.length 1)
def manyP(m:Nat)(l:List Sel)(i:Nat):Nat:=l.length+((l.take i).map fun s=>manyL m s.kids).sum
def deepP(m:Nat)(l:List Sel)(i:Nat):Nat:=(l.take i).foldl (fun d s=>max d (deepL m s.kids+1)) (min l.length 1)
theorem manyP_zero(m:Nat)(l:List Sel):manyP m l 0=l.length:=by simp[manyP]
theorem deepP_zero(m:Nat)(l:List Sel):deepP m l 0=min l.length 1:=by simp[deepP]
theorem take_snoc{α:Type}{l:List α}{i:Nat}{x:α}(hx:l[i]?=some x):l.take (i+1)=l.take i++[x]:=by rw[List.take_succ,hx]; rfl
theorem manyP_succ{m:Nat}{l:List Sel}{i:Nat}{x:Sel}(hx:l[i]?=some x):manyP m l (i+1)=manyP m l i+manyL m x.kids:=by
 simp[manyP,take_snoc hx]; omega
theorem deepP_succ{m:Nat}{l:List Sel}{i:Nat}{x:Sel}(hx:l[i]?=some x):deepP m l (i+1)=max (deepP m l i) (deepL m x.kids+1):=by
 simp[deepP,take_snoc hx]
theorem manyP_end{m:Nat}{l:List Sel}{i:Nat}(h:l.length≤i):manyP m l i=manyL (m+1) l:=by simp[manyP,manyL,List.take_of_length_le h]
theorem deepP_end{m:Nat}{l:List Sel}{i:Nat}(h:l.length≤i):deepP m l i=deepL (m+1) l:=by simp[deepP,deepL,List.take_of_length_le h]
theorem many_sum{m:Nat}(h:∀l,manyL m l≤szL l):∀l:List Sel,l.length+(l.map fun s=>manyL m s.kids).sum≤szL l
 | []=>by simp
 | s::r=>by
  have h1:=many_sum h r
  have h2:=h s.kids
  have h3:=sz_eq s
  simp only[szL,List.length_cons,List.map_cons,List.sum_cons]
  omega
theorem manyL_le:∀(m:Nat) (l:List Sel),manyL m l≤szL l
 | 0,l=>szL_len l
 | m+1,l=>many_sum (manyL_le m) l
theorem manyP_le(m:Nat)(l:List Sel)(i:Nat):manyP m l i≤szL l:=by
 have h1:=many_sum (manyL_le m) l
 have h2:((l.take i).map fun s=>manyL m s.kids).sum+((l.drop i).map fun s=>manyL m s.kids).sum=(l.map fun s=>manyL m s.kids).sum:=by
  rw[←List.sum_append,←List.map_append,List.take_append_drop]
 unfold manyP
 omega
theorem deep_fold{m k:Nat}(h:∀l,deepL m l≤k):∀(l:List Sel) (a:Nat),a≤k+1→l.foldl (fun d s=>max d (deepL m s.kids+1)) a≤k+1
 | [],a,ha=>ha
 | s::r,a,ha=>by
  simp only[List.foldl_cons]
  exact deep_fold h r _ (by have:=h s.kids; omega)
theorem deepL_le:∀(m:Nat) (l:List Sel),deepL m l≤m+1
 | 0,l=>by simp only[deepL]; omega
 | m+1,l=>deep_fold (deepL_le m) l _ (by omega)
set_option maxHeartbeats 1000000 in
theorem size_ok:∀(m:Nat) (l:List Sel) (id:Nat),m≤1000→szL l≤1099511627776→FnOk Tryz.prog 64 [.sl (l.map eSel),.int .i64 m] [] id (.tup [.int .i64 (manyL m l),.int .i64 (deepL m l)]) []
 | 0,l,id,hm,hl=>by
  have hlen:=szL_len l
  refine fn_okc Tryz.func64 hcc64 (by decide) hcr64 (by simp[Tryz.ntmps64]) fun E hP hR hl hid=>?_
  simp only[cr64] at hR
  refine w_go 4000 ?_
  simp[cc64]
  refine w_loop (X:=Unit) (fun _=>⟨[(0,true,.sl (l.map eSel)),(1,true,.int .i64 0),(6,true,.int .i64 l.length),(7,true,.int .i64 (deepL 0 l)),(17,true,.sl (l.map eSel)),(18,true,.int .i64 l.length),(19,true,.int .i64 0)],[],0⟩) (fun _=>True) (fun _=>0) () ?_ trivial ?_
  ·have hrn:rnOk []:=by simp[deepL]
   refine Conv.sub [] hrn ?_ ?_ ?_ ?_ ?_<;>(try simp[deepL])
   all_goals omega
  ·rintro i - p hp
   refine w_go 4000 ?_
   simp
   refine goc (fun h=>?_) (fun h=>?_)
   ·have h:=of_decide_eq_true h
    obtain⟨x,hx,hd⟩:=drop_cons (l:=l) (i:=0) (by omega)
    simp[hx,eSel_eq x]
    refine⟨by omega,?_⟩
    rw[hR]; exact rt_end (by simp<;>rfl) [] trivial (end_pure (by simp; simp[manyL]) (by simp) (by simp))
   ·simp
    rw[hR]; exact rt_end (by simp<;>rfl) [] trivial (end_pure (by simp; simp[manyL]) (by simp) (by simp))
 | m+1,l,id,hm,hl=>by
  have hlen:=szL_len l
  refine fn_okc Tryz.func64 hcc64 (by decide) hcr64 (by simp[Tryz.ntmps64]) fun E hP hR hl hid=>?_
  simp only[cr64] at hR
  refine w_go 4000 ?_
  simp[cc64]
  refine w_loop (X:=Nat) (fun i=>⟨[(0,true,.sl (l.map eSel)),(1,true,.int .i64 (m+1)),(6,true,.int .i64 (manyP m l i)),(7,true,.int .i64 (deepP m l i)),(17,true,.sl (l.map eSel)),(18,true,.int .i64 l.length),(19,true,.int .i64 i)],[],0⟩) (fun i=>i≤l.length) (fun i=>l.length - i) 0 ?_ (by omega) ?_
  ·have hrn:rnOk []:=by simp[manyP_zero,deepP_zero]
   refine Conv.sub [] hrn ?_ ?_ ?_ ?_ ?_<;>(try simp[manyP_zero,deepP_zero])
   all_goals omega
  ·rintro i hi p hp
   refine w_go 4000 ?_
   simp
   refine goc (fun h=>?_) (fun h=>?_)
   ·have h:=of_decide_eq_true h
    obtain⟨x,hx,hd⟩:=drop_cons h
    have hi1:IntKind.i64.wrap ((i:Int)+1)=((i+1:Nat):Int):=wrap64 (by omega)
    have hxm:x∈l:=List.mem_of_getElem? hx
    have ih:=size_ok m x.kids
    simp[hx,eSel_eq x]
    refine⟨h,goc_false (by simp; omega) ?_⟩
    have hm1:IntKind.i64.wrap (m:Int)=(m:Int):=wrap64 (by omega)
    have hsz:=szL_kids hxm
    have hs:=manyP_succ (m:=m) hx
    have hsd:=deepP_succ (m:=m) hx
    have hs1:IntKind.i64.wrap ((manyP m l i:Int)+manyL m x.kids)=((manyP m l (i+1):Nat):Int):=by rw[hs,wrap64 (by have:=manyP_le m l (i+1); omega)]; omega
    have hs2:IntKind.i64.wrap ((deepL m x.kids:Int)+1)=((deepL m x.kids+1:Nat):Int):=wrap64 (by have:=deepL_le m x.kids; omega)
    simp[hm1]
    (refine w_call hP rfl (ih _ (by omega) (by omega)) (by simp[hs1,hs2]) (by simp[hs1,hs2]<;>rfl) ?_; refine w_go 4000 ?_; simp[hs1,hs2])
    refine hp _ (i+1) (by omega) (by omega) ?_
    have hrn:rnOk []:=by simp[hi1,hsd]
    refine Conv.sub [] hrn ?_ ?_ ?_ ?_ ?_<;>(try simp[hi1,hsd])
    all_goals trace "TAIL 1"
    all_goals trace_state
    all_goals omega
   ·have h:=of_decide_eq_false h
    simp
    rw[hR]; exact rt_end (by simp<;>rfl) [] trivial (end_pure (by simp; rw[manyP_end (by omega),deepP_end (by omega)]; exact⟨rfl,rfl⟩) (by simp) (by simp))
end Go.Am
namespace Go.Am
set_option linter.all false
open Go Go.RowKit Go.Proofs
set_option maxRecDepth 100000
set_option linter.all false
def fSel1(s:Sel)(ah:List Sel):Int :=
 if fName s.name≠0 then fName s.name else if s.alias≠[]∧fName s.alias≠0 then fName s.alias else if fArgs s.args≠0 then fArgs s.args
 else if (ah.any fun x=>called x==called s)=true then 6 else 0
mutual
def fChkK:Sel→Int
 | .mk _ _ _ k=>fChkL k []
def fChkL:List Sel→List Sel→Int
 | [],_=>0
 | s::r,ah=>if fSel1 s ah≠0 then fSel1 s ah else if fChkK s≠0 then fChkK s else fChkL r (ah++[s])
end
def fNm(s:Sel):Int:=if fName s.name≠0 then fName s.name else if s.alias≠[] then fName s.alias else 0
theorem fSel1_nm(s:Sel)(ah:List Sel):fSel1 s ah=if fNm s≠0 then fNm s else if fArgs s.args≠0 then fArgs s.args else if (ah.any fun x=>called x==called s)=true then 6 else 0:=by
 unfold fSel1 fNm
 split
 ·rfl
 ·split
  ·rename_i h; rw[if_pos h.1,if_pos h.2]
  ·rename_i h
   by_cases ha:s.alias≠[]
   ·have:fName s.alias=0:=Classical.byContradiction fun h0=>h ⟨ha,h0⟩
    rw[if_pos ha,this]; rfl
   ·rw[if_neg ha]; rfl
theorem fChkK_eq(s:Sel):fChkK s=fChkL s.kids []:=by cases s; rfl
set_option maxHeartbeats 2000000 in
theorem check_ok:∀(n:Nat) (l:List Sel) (id:Nat),szL l<n→szL l≤1099511627776→FnOk Tryz.prog 65 [.sl (l.map eSel)] [] id (.int .i64 (fChkL l [])) []
 | 0,l,id,hn,hl=>by omega
 | n+1,l,id,hn,hl=>by
  have ih:=check_ok n
  have hlen:=szL_len l
  refine fn_okc Tryz.func65 hcc65 (by decide) hcr65 (by simp[Tryz.ntmps65]) fun E hP hR hl hid=>?_
  simp only[cr65] at hR
  refine w_go 4000 ?_
  simp[cc65]
  refine w_loop (X:=Nat) (fun i=>⟨[(0,true,.sl (l.map eSel)),(6,true,.sl (l.map eSel)),(7,true,.int .i64 l.length),(8,true,.int .i64 i)],[],0⟩) (fun i=>i≤l.length∧fChkL (l.drop i) (l.take i)=fChkL l []) (fun i=>l.length - i) 0 ?_ ⟨by omega,rfl⟩ ?_
  ·have hrn:rnOk []:=by simp
   refine Conv.sub [] hrn ?_ ?_ ?_ ?_ ?_<;>(try simp)
  ·rintro i ⟨hi,hf⟩ p hp
   refine w_go 4000 ?_
   simp
   refine goc (fun h=>?_) (fun h=>?_)
   ·have h:=of_decide_eq_true h
    obtain⟨x,hx,hd⟩:=drop_cons h
    rw[hd] at hf
    simp only[fChkL] at hf
    rw[←take_snoc hx] at hf
    have hi1:IntKind.i64.wrap ((i:Int)+1)=((i+1:Nat):Int):=wrap64 (by omega)
    have hxm:x∈l:=List.mem_of_getElem? hx
    have hsz:=szL_kids hxm
    have hC:=fun j=>ContainsSel_ok (l.take i) j x
    simp only[List.map_take] at hC
    simp[hx,eSel_eq x]
    refine⟨h,?_⟩
    refine w_call hP rfl (Name_ok x.name _) (by simp) (by simp<;>rfl) ?_
    refine w_cutS (X:=Int) (fun e=>⟨[(0,true,.sl (l.map eSel)),(3,true,.int .i64 i),(4,true,.ptr E.n0 0 0),(5,true,.int .i64 e),(6,true,.sl (l.map eSel)),(7,true,.int .i64 l.length),(8,true,.int .i64 i)],[(E.n0,some ⟨[.agg [.str x.alias,.str x.name,.sl (x.args.map eAg),.sl (x.kids.map eSel)]],.agg [.str [],.str [],.nils,.nils],false,false⟩)],1⟩) (fun e=>e=fNm x) (fun q hq=>?_) (fun e he=>?_)
    ·refine w_go 4000 ?_
     simp
     refine goc (fun h1=>?_) (fun h1=>?_)<;>simp
     ·simp at h1
      (refine w_call hP rfl (Name_ok x.alias _) (by simp) (by simp<;>rfl) ?_; refine w_go 4000 ?_; simp)
      refine hq _ (fName x.alias) (by unfold fNm; rw[if_neg (by simp[h1.1]),if_pos h1.2]) ?_
      have hrn:rnOk [(E.n0,E.n0+4096)]:=by simp
      refine Conv.sub [(E.n0,E.n0+4096)] hrn ?_ ?_ ?_ ?_ ?_<;>(try simp)
     ·simp at h1
      refine hq _ (fName x.name) (by
       unfold fNm
       split
       ·rfl
       ·rename_i h0
        have h0:fName x.name=0:=by simpa using h0
        rw[if_neg (by simp[h1 h0]),h0]) ?_
      have hrn:rnOk [(E.n0,E.n0+4096)]:=by simp
      refine Conv.sub [(E.n0,E.n0+4096)] hrn ?_ ?_ ?_ ?_ ?_<;>(try simp)
    ·subst he
     rw[fSel1_nm] at hf
     refine w_go 4000 ?_
     simp
     refine goc (fun h2=>?_) (fun h2=>?_)<;>simp
     ·have h2:fNm x=0:=by simpa using h2
      rw[h2] at hf
      simp only[ne_eq,not_true_eq_false,if_false] at hf
      (refine w_call hP rfl (args_ok x.args _) (by simp) (by simp<;>rfl) ?_; refine w_go 4000 ?_; simp)
      refine⟨fun h0=>⟨h0,fun a _=>by rw[eSel_eq]; rfl,hi⟩,?_⟩
      refine w_callg hP (by simp) rfl (fun hc=>⟨hC E.n0 _ (by simp; omega),by revert hc; simp; try grind,by simp[eSel_eq x]<;>rfl⟩) ?_
      refine w_go 4000 ?_
      simp
      refine goc (fun h3=>?_) (fun h3=>?_)<;>simp
      ·simp only[Bool.and_eq_true,beq_iff_eq] at h3
       rw[h3.1] at hf
       simp only[ne_eq,not_true_eq_false,if_false] at hf
       rw[if_pos h3.2,if_pos (by decide)] at hf
       rw[hR]; exact rt_end (by simp<;>rfl) [] trivial (end_pure (by simp; exact hf) (by simp) (by simp))
      ·refine goc (fun h4=>?_) (fun h4=>?_)<;>simp
       ·have h4:fArgs x.args=0:=by simpa using h4
        rw[h4] at hf
        simp only[ne_eq,not_true_eq_false,if_false] at hf
        have h3':¬((l.take i).any fun y=>called y==called x)=true:=by
         rw[h4] at h3
         simpa using h3
        rw[if_neg h3'] at hf
        simp only[ne_eq,not_true_eq_false,if_false] at hf
        rw[fChkK_eq] at hf
        (refine w_call hP rfl (ih x.kids _ (by omega) (by omega)) (by simp) (by simp<;>rfl) ?_; refine w_go 4000 ?_; simp)
        refine goc (fun h5=>?_) (fun h5=>?_)<;>simp
        ·rw[if_pos (by simpa using h5)] at hf
         rw[hR]; exact rt_end (by simp<;>rfl) [] trivial (end_pure (by simp; exact hf) (by simp) (by simp))
        ·rw[if_neg (by simpa using h5)] at hf
         refine hp _ (i+1) ⟨h,hf⟩ (by omega) ?_
         have hrn:rnOk []:=by simp[hi1]
         refine Conv.sub [] hrn ?_ ?_ ?_ ?_ ?_<;>(try simp[hi1])
       ·have h4:fArgs x.args≠0:=by simpa using h4
        rw[if_pos h4,if_pos h4] at hf
        refine goc_true (by simpa using h4) ?_
        simp
        rw[hR]; exact rt_end (by simp<;>rfl) [] trivial (end_pure (by simp; exact hf) (by simp) (by simp))
     ·have h2:fNm x≠0:=by simpa using h2
      rw[if_pos h2,if_pos h2] at hf
      refine⟨fun h0=>(h2 h0).elim,?_⟩
      refine w_split (.bool false) (by simp) (fun hg=>by simp at hg; exact (h2 hg).elim) (fun _=>?_)
      refine w_go 4000 ?_
      simp[h2]
      refine goc_false (by simpa using h2) ?_
      simp
      refine goc_true (by simpa using h2) ?_
      simp
      rw[hR]; exact rt_end (by simp<;>rfl) [] trivial (end_pure (by simp; exact hf) (by simp) (by simp))
   ·have h:=of_decide_eq_false h
    simp
    rw[List.drop_of_length_le (by omega)] at hf
    rw[hR]; exact rt_end (by simp<;>rfl) [] trivial (end_pure (by simp; exact hf) (by simp) (by simp))
def fQuery(l:List Sel):Int:=if l=[] then 5 else if 40<manyL 5 l∨5<deepL 5 l then 2 else fChkL l []
theorem size5_ok(l:List Sel)(id:Nat)(h:szL l≤1099511627776):FnOk Tryz.prog 64 [.sl (l.map eSel),.int .i64 5] [] id (.tup [.int .i64 (manyL 5 l),.int .i64 (deepL 5 l)]) []:=size_ok 5 l id (by omega) h
theorem qCheck_ok(l:List Sel)(id:Nat)(h:szL l≤1099511627776):FnOk Tryz.prog 30 [.sl (l.map eSel)] [] id (.int .i64 (fQuery l)) []:=by
 refine fn_okc Tryz.func30 hcc30 (by decide) hcr30 (by simp[Tryz.ntmps30]) fun E hP hR hl hid=>?_
 simp only[cr30] at hR
 refine w_go 4000 ?_
 simp[cc30]
 refine goc (fun h1=>?_) (fun h1=>?_)<;>simp
 ·rw[hR]; exact rt_end (by simp<;>rfl) [] trivial (end_pure (by simp; simp at h1; unfold fQuery; rw[if_pos h1]) (by simp) (by simp))
 have h1:¬l=[]:=by simpa using h1
 (refine w_call hP rfl (size5_ok l _ h) (by simp) (by simp<;>rfl) ?_; refine w_go 4000 ?_; simp)
 refine goc (fun h2=>?_) (fun h2=>?_)<;>simp
 ·rw[hR]; exact rt_end (by simp<;>rfl) [] trivial (end_pure (by simp; simp at h2; unfold fQuery; rw[if_neg h1,if_pos (by omega)]) (by simp) (by simp))
 ·have h2:¬(40<manyL 5 l∨5<deepL 5 l):=by simp at h2; omega
  (refine w_call hP rfl (check_ok (szL l+1) l _ (by omega) h) (by simp) (by simp<;>rfl) ?_; refine w_go 4000 ?_; simp)
  rw[hR]; exact rt_end (by simp<;>rfl) [] trivial (end_pure (by simp; unfold fQuery; rw[if_neg h1,if_neg h2]) (by simp) (by simp))
end Go.Am
