/- Parts of the proof: an abstract machine for Go functions, and what functions of the program give back (Ch1, Ch2, Ch3, Ch4, Ch5, Ch6). No condition. -/
import Derived.Test.YtblnaikecokobaaGreatXI
import Derived.Test.YtblnaikecokobaaGreatXF
import Derived.Test.YtblnaikecokobaaGreatXJ
import Derived.Test.YtblnaikecokobaaGreatXH
namespace Go.Am
set_option linter.all false
open Go Go.RowKit Go.Proofs
set_option maxRecDepth 100000
set_option linter.all false
theorem findJ_spec{α:Type}(p:α→Bool):∀(l:List α) (i:Nat),(l.find? p=none∧findJ p l i = -1)∨∃k x,l[k]?=some x∧findJ p l i=((i+k:Nat):Int)∧l.find? p=some x
 | [],i=>.inl ⟨rfl,rfl⟩
 | y::r,i=>by
  by_cases hy:p y=true
  ·exact .inr ⟨0,y,rfl,by simp[findJ,hy],by simp[hy]⟩
  ·rcases findJ_spec p r (i+1) with⟨h1,h2⟩|⟨k,x,h1,h2,h3⟩
   ·exact .inl ⟨by simp[hy,h1],by simp[findJ,hy,h2]⟩
   ·refine .inr ⟨k+1,x,by simpa using h1,?_,by simp[hy,h3]⟩
    rw[findJ,if_neg hy,h2]; congr 1; omega
def ag0:Ag:=⟨[],false,[],0⟩
def getA(l:List Ag)(n:List UInt8):Ag:=(l.find? (fun x=>x.name==n)).getD ag0
theorem findA(l:List Ag)(n:List UInt8):(findJ (fun x=>x.name==n) l 0 = -1∧hasA l n=false∧getA l n=ag0)∨∃k:Nat,findJ (fun x=>x.name==n) l 0=(k:Int)∧k<l.length∧l[k]?=some (getA l n)∧hasA l n=true:=by
 have ha:decide (0≤findJ (fun x:Ag=>x.name==n) l 0)=hasA l n:=findJ_any _ l 0
 rcases findJ_spec (fun x:Ag=>x.name==n) l 0 with⟨h1,h2⟩|⟨k,x,h1,h2,h3⟩
 ·refine .inl ⟨h2,?_,?_⟩
  ·rw[←ha,h2]; rfl
  ·unfold getA; rw[h1]; rfl
 ·have hk:k<l.length:=by
   have:=List.getElem?_eq_some_iff.1 h1
   exact this.1
  refine .inr ⟨k,by rw[h2]; simp,hk,?_,?_⟩
  ·unfold getA; rw[h3,h1]; rfl
  ·rw[←ha,h2]; simp
def eMk(l:List Ty)(s:Sel):AV:=.agg [.sl (l.map eTy),.str s.alias,.str s.name,.sl (s.args.map eAg),.sl (s.kids.map eSel)]
theorem find1_ok(x:Ag)(j:Nat)(name:List UInt8)(id:Nat):FnOk Tryz.prog 107 [eAg x,.ptr j 0 0] [(j,⟨[.str name],.str name,false,false⟩)] id (.bool (x.name==name)) []:=by
 unfold eAg
 refine fn_okc Tryz.func107 hcc107 (by decide) hcr107 (by simp[Tryz.ntmps107]) fun E hP hR hl hid=>?_
 simp only[cr107] at hR
 refine w_go 4000 ?_
 simp[cc107]
 have hj:=hl (j,_) (List.mem_cons_self ..)
 simp only at hj
 have j1:=lf hj
 simp[j1]
 have hrn:rnOk []:=by simp[j1,idO hid]
 rw[hR]
 refine rt_end (by simp<;>rfl) [] hrn ⟨?_,?_,?_,?_,?_,?_⟩<;>(try simp[j1,idO hid])
theorem IndexFi_ok(l:List Ag)(j:Nat)(name:List UInt8)(id:Nat)(hl8:l.length<9223372036854775807):FnOk Tryz.prog 106 [.sl (l.map eAg),.fn 107 [.ptr j 0 0]] [(j,⟨[.str name],.str name,false,false⟩)] id (.int .i64 (findJ (fun x=>x.name==name) l 0)) []:=by
 refine fn_okc Tryz.func106 hcc106 (by decide) hcr106 (by simp[Tryz.ntmps106]) fun E hP hR hl hid=>?_
 simp only[cr106] at hR
 refine w_go 4000 ?_
 simp[cc106]
 have hj:=hl (j,_) (List.mem_cons_self ..)
 simp only at hj
 have j1:=lf hj
 refine w_loop (X:=Nat) (fun i=>⟨[(0,true,.sl (l.map eAg)),(1,true,.fn 107 [.ptr j 0 0]),(7,true,.int .i64 l.length),(8,true,.int .i64 i)],[(j,some (⟨[.str name],.str name,false,false⟩))],0⟩) (fun i=>i≤l.length∧findJ (fun x=>x.name==name) (l.drop i) i=findJ (fun x=>x.name==name) l 0) (fun i=>l.length - i) 0 ?_ ⟨by omega,rfl⟩ ?_
 ·have hrn:rnOk []:=by simp[j1]
  refine Conv.sub [] hrn ?_ ?_ ?_ ?_ ?_<;>(try simp[j1])
 ·rintro i ⟨hi,hf⟩ p hp
  refine w_go 4000 ?_
  simp
  refine goc (fun h=>?_) (fun h=>?_)
  ·have h:=of_decide_eq_true h
   obtain⟨x,hx,hd⟩:=drop_cons h
   have hcl:=find1_ok x j name
   simp only[eAg_eq x] at hcl
   rw[hd] at hf
   simp only[findJ] at hf
   have hi1:IntKind.i64.wrap ((i:Int)+1)=((i+1:Nat):Int):=wrap64 (by omega)
   simp[hx,eAg_eq x]
   refine⟨h,?_⟩
   refine w_callv hP rfl rfl (hcl _) (by simp) (by simp[j1]<;>rfl) ?_
   refine w_go 4000 ?_
   simp[j1]
   refine goc (fun h1=>?_) (fun h1=>?_)
   ·simp[j1]
    rw[if_pos h1] at hf
    rw[←hf] at hR
    have hrn:rnOk []:=by simp[j1,findJ,idO hid]
    rw[hR]
    refine rt_end (by simp<;>rfl) [] hrn ⟨?_,?_,?_,?_,?_,?_⟩<;>(try simp[j1,findJ,idO hid])
   ·simp[j1]
    rw[if_neg (by simpa using h1)] at hf
    refine hp _ (i+1) ⟨h,hf⟩ (by omega) ?_
    have hrn:rnOk []:=by simp[hi1,j1]
    refine Conv.sub [] hrn ?_ ?_ ?_ ?_ ?_<;>(try simp[hi1,j1])
  ·have h:=of_decide_eq_false h
   simp
   rw[List.drop_of_length_le (by omega)] at hf
   rw[←hf] at hR
   have hrn:rnOk []:=by simp[j1,findJ,idO hid]
   rw[hR]
   refine rt_end (by simp<;>rfl) [] hrn ⟨?_,?_,?_,?_,?_,?_⟩<;>(try simp[j1,findJ,idO hid])
theorem mFind_ok(l:List Ty)(s:Sel)(J:Nat)(name:List UInt8)(id:Nat)(hl8:s.args.length<9223372036854775807):FnOk Tryz.prog 89 [.ptr J 0 0,.str name] [(J,⟨[eMk l s],eMk l s,false,false⟩)] id (.tup [eAg (getA s.args name),.bool (hasA s.args name)]) []:=by
 have hI:=fun id=>IndexFi_ok s.args id name
 unfold eMk
 simp only[eAg_eq (getA s.args name)]
 refine fn_okc Tryz.func89 hcc89 (by decide) hcr89 (by simp[Tryz.ntmps89]) fun E hP hR hl hid=>?_
 simp only[cr89] at hR
 refine w_go 4000 ?_
 simp[cc89]
 have hJ:=hl (J,_) (List.mem_cons_self ..)
 simp only at hJ
 have J1:=lf hJ
 simp[J1]
 (refine w_call hP rfl (hI E.n0 _ hl8) (by simp[J1]) (by simp[J1]<;>rfl) ?_; refine w_go 4000 ?_; simp[J1])
 rcases findA s.args name with⟨h1,h2,h3⟩|⟨k,h1,hk,h2,h3⟩
 ·rw[h2,h3] at hR
  refine goc_true (by rw[h1]; decide) ?_
  simp[J1]
  have hrn:rnOk []:=by simp[J1,ag0,idO hid]
  rw[hR]
  refine rt_end (by simp<;>rfl) [] hrn ⟨?_,?_,?_,?_,?_,?_⟩<;>(try simp[J1,ag0,idO hid])
 ·rw[h3] at hR
  refine goc_false (by rw[h1]; simp) ?_
  rw[h1]
  simp[J1,h2,eAg_eq (getA s.args name)]
  refine⟨hk,?_⟩
  have hrn:rnOk []:=by simp[J1,idO hid]
  rw[hR]
  refine rt_end (by simp<;>rfl) [] hrn ⟨?_,?_,?_,?_,?_,?_⟩<;>(try simp[J1,idO hid])
end Go.Am
namespace Go.Am
set_option linter.all false
open Go Go.RowKit Go.Proofs
set_option maxRecDepth 100000
set_option linter.all false
def nType:List UInt8:=[116,121,112,101]
def nId:List UInt8:=[105,100]
def nField:List UInt8:=[102,105,101,108,100]
def nText:List UInt8:=[116,101,120,116]
def nNumber:List UInt8:=[110,117,109,98,101,114]
def nTo:List UInt8:=[116,111]
def nMake:List UInt8:=[109,97,107,101]
def nDrop:List UInt8:=[100,114,111,112]
def nSet:List UInt8:=[115,101,116]
def nLink:List UInt8:=[108,105,110,107]
def nCut:List UInt8:=[99,117,116]
def evK(s:Sel):Int:=if s.name=nMake then 1 else if s.name=nDrop then 2 else if s.name=nSet then (if hasA s.args nText=true then 4 else 3) else if s.name=nLink then 5 else if s.name=nCut then 6 else 0
def valN(k:Int):List UInt8:=if k=3 then nNumber else if k=4 then nText else nTo
def namesK(k:Int):List (List UInt8):=if k=1∨k=2 then [nType,nId] else [nType,nId,nField,valN k]
def namV(k:Int):AV:=if k=0 then .nils else .sl ((namesK k).map .str)
theorem namV1{k:Int}(h:k=1∨k=2):namV k = .sl [.str [116,121,112,101],.str [105,100]]:=by
 unfold namV namesK; rw[if_neg (by omega),if_pos h]; rfl
theorem namV3:namV 3 = .sl [.str [116,121,112,101],.str [105,100],.str [102,105,101,108,100],.str [110,117,109,98,101,114]]:=rfl
theorem namV4:namV 4 = .sl [.str [116,121,112,101],.str [105,100],.str [102,105,101,108,100],.str [116,101,120,116]]:=rfl
theorem namV5{k:Int}(h:k=5∨k=6):namV k = .sl [.str [116,121,112,101],.str [105,100],.str [102,105,101,108,100],.str [116,111]]:=by
 unfold namV namesK valN; rw[if_neg (by omega),if_neg (by omega),if_neg (by omega),if_neg (by omega)]; rfl
theorem evK1{s:Sel}(h:(s.name==nMake)=true):evK s=1:=by unfold evK; rw[if_pos (by simpa using h)]
theorem evK2{s:Sel}(a:(s.name==nMake)=false)(h:(s.name==nDrop)=true):evK s=2:=by unfold evK; rw[if_neg (by simpa using a),if_pos (by simpa using h)]
theorem evK4{s:Sel}(a:(s.name==nMake)=false)(b:(s.name==nDrop)=false)(h:(s.name==nSet)=true)(t:hasA s.args nText=true):evK s=4:=by
 unfold evK; rw[if_neg (by simpa using a),if_neg (by simpa using b),if_pos (by simpa using h),if_pos t]
theorem evK3{s:Sel}(a:(s.name==nMake)=false)(b:(s.name==nDrop)=false)(h:(s.name==nSet)=true)(t:hasA s.args nText=false):evK s=3:=by
 unfold evK; rw[if_neg (by simpa using a),if_neg (by simpa using b),if_pos (by simpa using h),if_neg (by simpa using t)]
theorem evK5{s:Sel}(a:(s.name==nMake)=false)(b:(s.name==nDrop)=false)(c:(s.name==nSet)=false)(h:(s.name==nLink)=true):evK s=5:=by
 unfold evK; rw[if_neg (by simpa using a),if_neg (by simpa using b),if_neg (by simpa using c),if_pos (by simpa using h)]
theorem evK6{s:Sel}(a:(s.name==nMake)=false)(b:(s.name==nDrop)=false)(c:(s.name==nSet)=false)(d:(s.name==nLink)=false)(h:(s.name==nCut)=true):evK s=6:=by
 unfold evK; rw[if_neg (by simpa using a),if_neg (by simpa using b),if_neg (by simpa using c),if_neg (by simpa using d),if_pos (by simpa using h)]
theorem evK0{s:Sel}(a:(s.name==nMake)=false)(b:(s.name==nDrop)=false)(c:(s.name==nSet)=false)(d:(s.name==nLink)=false)(h:(s.name==nCut)=false):evK s=0:=by
 unfold evK; rw[if_neg (by simpa using a),if_neg (by simpa using b),if_neg (by simpa using c),if_neg (by simpa using d),if_neg (by simpa using h)]
set_option maxHeartbeats 1000000 in
theorem names_ok(l:List Ty)(s:Sel)(J:Nat)(id:Nat)(hl8:s.args.length<9223372036854775807):FnOk Tryz.prog 86 [.ptr J 0 0] [(J,⟨[eMk l s],eMk l s,false,false⟩)] id (namV (evK s)) []:=by
 have hF:=fun id=>mFind_ok l s J nText id hl8
 unfold eMk nText at hF
 simp only[eAg_eq] at hF
 unfold eMk
 refine fn_okc Tryz.func86 hcc86 (by decide) hcr86 (by simp[Tryz.ntmps86]) fun E hP hR hl hid=>?_
 simp only[cr86] at hR
 refine w_go 4000 ?_
 simp[cc86]
 have hJ:=hl (J,_) (List.mem_cons_self ..)
 simp only at hJ
 have J1:=lf hJ
 refine goc (fun h1=>?_) (fun h1=>?_)<;>simp
 ·refine goc_true h1 ?_
  simp
  rw[evK1 h1,namV1 (.inl rfl)] at hR
  have hrn:rnOk []:=by simp[J1,idO hid]
  rw[hR]
  refine rt_endR (by simp<;>rfl) (by simp[J1,idO hid]<;>exact⟨rfl,rfl⟩) [] hrn ⟨?_,?_,?_,?_,?_,?_⟩<;>(try simp[J1,idO hid])
  exact namesL_pure _ rfl
 refine goc (fun h2=>?_) (fun h2=>?_)<;>simp
 ·rw[evK2 h1 h2,namV1 (.inr rfl)] at hR
  have hrn:rnOk []:=by simp[J1,idO hid]
  rw[hR]
  refine rt_endR (by simp<;>rfl) (by simp[J1,idO hid]<;>exact⟨rfl,rfl⟩) [] hrn ⟨?_,?_,?_,?_,?_,?_⟩<;>(try simp[J1,idO hid])
  exact namesL_pure _ rfl
 refine goc (fun h3=>?_) (fun h3=>?_)<;>simp
 ·(refine w_call hP rfl (hF _) (by simp[J1]) (by simp[J1]<;>rfl) ?_; refine w_go 4000 ?_; simp[J1])
  refine goc (fun h4=>?_) (fun h4=>?_)<;>simp
  ·rw[evK4 h1 h2 h3 h4,namV4] at hR
   have hrn:rnOk []:=by simp[J1,idO hid]
   rw[hR]
   refine rt_endR (by simp<;>rfl) (by simp[J1,idO hid]<;>exact⟨rfl,rfl⟩) [] hrn ⟨?_,?_,?_,?_,?_,?_⟩<;>(try simp[J1,idO hid])
   exact namesL_pure _ rfl
  ·rw[evK3 h1 h2 h3 h4,namV3] at hR
   have hrn:rnOk []:=by simp[J1,idO hid]
   rw[hR]
   refine rt_endR (by simp<;>rfl) (by simp[J1,idO hid]<;>exact⟨rfl,rfl⟩) [] hrn ⟨?_,?_,?_,?_,?_,?_⟩<;>(try simp[J1,idO hid])
   exact namesL_pure _ rfl
 refine goc (fun h4=>?_) (fun h4=>?_)<;>simp
 ·refine goc_true h4 ?_
  simp
  rw[evK5 h1 h2 h3 h4,namV5 (.inl rfl)] at hR
  have hrn:rnOk []:=by simp[J1,idO hid]
  rw[hR]
  refine rt_endR (by simp<;>rfl) (by simp[J1,idO hid]<;>exact⟨rfl,rfl⟩) [] hrn ⟨?_,?_,?_,?_,?_,?_⟩<;>(try simp[J1,idO hid])
  exact namesL_pure _ rfl
 refine goc (fun h5=>?_) (fun h5=>?_)<;>simp
 ·rw[evK6 h1 h2 h3 h4 h5,namV5 (.inr rfl)] at hR
  have hrn:rnOk []:=by simp[J1,idO hid]
  rw[hR]
  refine rt_endR (by simp<;>rfl) (by simp[J1,idO hid]<;>exact⟨rfl,rfl⟩) [] hrn ⟨?_,?_,?_,?_,?_,?_⟩<;>(try simp[J1,idO hid])
  exact namesL_pure _ rfl
 ·rw[evK0 h1 h2 h3 h4 h5,show namV 0 = .nils from rfl] at hR
  have hrn:rnOk []:=by simp[J1,idO hid]
  rw[hR]
  refine rt_end (by simp<;>rfl) [] hrn ⟨?_,?_,?_,?_,?_,?_⟩<;>(try simp[J1,idO hid])
set_option maxHeartbeats 1000000 in
theorem kind_ok(l:List Ty)(s:Sel)(J:Nat)(id:Nat)(hl8:s.args.length<9223372036854775807)(hk:evK s≠0):FnOk Tryz.prog 88 [.ptr J 0 0] [(J,⟨[eMk l s],eMk l s,false,false⟩)] id (.int .i64 (evK s)) []:=by
 have hF:=fun id=>mFind_ok l s J nText id hl8
 unfold eMk nText at hF
 simp only[eAg_eq] at hF
 unfold eMk
 refine fn_okc Tryz.func88 hcc88 (by decide) hcr88 (by simp[Tryz.ntmps88]) fun E hP hR hl hid=>?_
 simp only[cr88] at hR
 refine w_go 4000 ?_
 simp[cc88]
 have hJ:=hl (J,_) (List.mem_cons_self ..)
 simp only at hJ
 have J1:=lf hJ
 refine goc (fun h1=>?_) (fun h1=>?_)<;>simp
 ·rw[evK1 h1] at hR
  have hrn:rnOk []:=by simp[J1,idO hid]
  rw[hR]
  refine rt_end (by simp<;>rfl) [] hrn ⟨?_,?_,?_,?_,?_,?_⟩<;>(try simp[J1,idO hid])
 refine goc (fun h2=>?_) (fun h2=>?_)<;>simp
 ·rw[evK2 h1 h2] at hR
  have hrn:rnOk []:=by simp[J1,idO hid]
  rw[hR]
  refine rt_end (by simp<;>rfl) [] hrn ⟨?_,?_,?_,?_,?_,?_⟩<;>(try simp[J1,idO hid])
 refine goc (fun h4=>?_) (fun h4=>?_)<;>simp
 ·have h3:(s.name==nSet)=false:=by
   have:s.name=nLink:=by simpa [nLink] using h4
   rw[this]; rfl
  rw[evK5 h1 h2 h3 h4] at hR
  have hrn:rnOk []:=by simp[J1,idO hid]
  rw[hR]
  refine rt_end (by simp<;>rfl) [] hrn ⟨?_,?_,?_,?_,?_,?_⟩<;>(try simp[J1,idO hid])
 refine goc (fun h5=>?_) (fun h5=>?_)<;>simp
 ·have h3:(s.name==nSet)=false:=by
   have:s.name=nCut:=by simpa [nCut] using h5
   rw[this]; rfl
  rw[evK6 h1 h2 h3 h4 h5] at hR
  have hrn:rnOk []:=by simp[J1,idO hid]
  rw[hR]
  refine rt_end (by simp<;>rfl) [] hrn ⟨?_,?_,?_,?_,?_,?_⟩<;>(try simp[J1,idO hid])
 have h3:(s.name==nSet)=true:=Classical.byContradiction fun h3=>hk (evK0 h1 h2 (by simpa using h3) h4 h5)
 (refine w_call hP rfl (hF _) (by simp[J1]) (by simp[J1]<;>rfl) ?_; refine w_go 4000 ?_; simp[J1])
 refine goc (fun h6=>?_) (fun h6=>?_)<;>simp
 ·rw[evK4 h1 h2 h3 h6] at hR
  have hrn:rnOk []:=by simp[J1,idO hid]
  rw[hR]
  refine rt_end (by simp<;>rfl) [] hrn ⟨?_,?_,?_,?_,?_,?_⟩<;>(try simp[J1,idO hid])
 ·rw[evK3 h1 h2 h3 h6] at hR
  have hrn:rnOk []:=by simp[J1,idO hid]
  rw[hR]
  refine rt_end (by simp<;>rfl) [] hrn ⟨?_,?_,?_,?_,?_,?_⟩<;>(try simp[J1,idO hid])
end Go.Am
namespace Go.Am
set_option linter.all false
open Go Go.RowKit Go.Proofs
set_option maxRecDepth 100000
set_option linter.all false
def isT(n:List UInt8):Bool:=n==nType||n==nField||n==nText
def argsG(l:List Ag):List (List UInt8)→Int→Int
 | [],w=>w
 | n::r,w=>if hasA l n=false then 1 else argsG l r (if (getA l n).isText=isT n then w else 7)
def argsE(l:List Ag)(ns:List (List UInt8)):Int:=if l.length≠ns.length then 1 else argsG l ns 0
theorem names_strs(S:Nat→Prop)(l:List (List UInt8)):namesL S (l.map .str):=namesL_pure _ (pureL_map (fun _=>rfl) l)
set_option maxHeartbeats 1000000 in
theorem mArgs_ok(l:List Ty)(s:Sel)(ns:List (List UInt8))(J:Nat)(id:Nat)(hl8:s.args.length<9223372036854775807)(hn8:ns.length≤1000):FnOk Tryz.prog 87 [.ptr J 0 0,.sl (ns.map .str)] [(J,⟨[eMk l s],eMk l s,false,false⟩)] id (.int .i64 (argsE s.args ns)) []:=by
 have hF:=fun n id=>mFind_ok l s J n id hl8
 unfold eMk at hF
 simp only[eAg_eq (getA _ _)] at hF
 unfold eMk
 refine fn_okc Tryz.func87 hcc87 (by decide) hcr87 (by simp[Tryz.ntmps87]) fun E hP hR hl hid=>?_
 simp only[cr87] at hR
 refine w_go 4000 ?_
 simp[cc87]
 have hJ:=hl (J,_) (List.mem_cons_self ..)
 simp only at hJ
 have J1:=lf hJ
 refine goc (fun h1=>?_) (fun h1=>?_)<;>simp
 ·have e:argsE s.args ns=1:=by unfold argsE; rw[if_pos (by simp at h1; omega)]
  rw[e] at hR
  have hrn:rnOk []:=by simp[J1,idO hid]
  rw[hR]
  refine rt_end (by simp<;>rfl) [] hrn ⟨?_,?_,?_,?_,?_,?_⟩<;>(try simp[J1,idO hid])
 have e:argsE s.args ns=argsG s.args ns 0:=by unfold argsE; rw[if_neg (by simp at h1; omega)]
 rw[e] at hR
 refine w_loop (X:=Nat×Int) (fun x=>⟨[(0,true,.ptr J 0 0),(5,true,.int .i64 x.2),(19,true,.sl (ns.map .str)),(20,true,.int .i64 ns.length),(21,true,.int .i64 x.1)],[(J,some ⟨[.agg [.sl (l.map eTy),.str s.alias,.str s.name,.sl (s.args.map eAg),.sl (s.kids.map eSel)]],.agg [.sl (l.map eTy),.str s.alias,.str s.name,.sl (s.args.map eAg),.sl (s.kids.map eSel)],false,false⟩)],0⟩) (fun x=>x.1≤ns.length∧argsG s.args (ns.drop x.1) x.2=argsG s.args ns 0) (fun x=>ns.length - x.1) (0,0) ?_ ⟨by simp,rfl⟩ ?_
 ·have hrn:rnOk []:=by simp[names_strs,J1]
  refine Conv.sub [] hrn ?_ ?_ ?_ ?_ ?_<;>(try simp[names_strs,J1])
 ·rintro⟨i,w⟩ ⟨hi,hf⟩ p hp
  simp only at hi hf hp
  refine w_go 4000 ?_
  simp
  refine goc (fun h=>?_) (fun h=>?_)
  ·have h:=of_decide_eq_true h
   obtain⟨x,hx,hd⟩:=drop_cons h
   rw[hd] at hf
   simp only[argsG] at hf
   have hi1:IntKind.i64.wrap ((i:Int)+1)=((i+1:Nat):Int):=wrap64 (by omega)
   simp[hx]
   refine⟨h,?_⟩
   (refine w_call hP rfl (hF x _) (by simp[J1]) (by simp[J1]<;>rfl) ?_; refine w_go 4000 ?_; simp[J1])
   refine goc (fun h2=>?_) (fun h2=>?_)<;>simp[J1]
   ·rw[if_pos (by simpa using h2)] at hf
    rw[←hf] at hR
    have hrn:rnOk []:=by simp[J1,idO hid]
    rw[hR]
    refine rt_end (by simp<;>rfl) [] hrn ⟨?_,?_,?_,?_,?_,?_⟩<;>(try simp[J1,idO hid])
   ·rw[if_neg (by simpa using h2)] at hf
    refine goc (fun h3=>?_) (fun h3=>?_)<;>simp[J1]
    ·refine hp _ (i+1,7) ⟨h,?_⟩ (by simp only[]; omega) ?_
     ·rw[←hf,if_neg]
      simpa [isT,nType,nField,nText] using h3
     ·have hrn:rnOk []:=by simp[hi1,names_strs,J1]
      refine Conv.sub [] hrn ?_ ?_ ?_ ?_ ?_<;>(try simp[hi1,names_strs,J1])
    ·refine hp _ (i+1,w) ⟨h,?_⟩ (by simp only[]; omega) ?_
     ·rw[←hf,if_pos]
      simpa [isT,nType,nField,nText] using h3
     ·have hrn:rnOk []:=by simp[hi1,names_strs,J1]
      refine Conv.sub [] hrn ?_ ?_ ?_ ?_ ?_<;>(try simp[hi1,names_strs,J1])
  ·have h:=of_decide_eq_false h
   simp
   rw[List.drop_of_length_le (by omega)] at hf
   rw[←hf] at hR
   have hrn:rnOk []:=by simp[J1,argsG,idO hid]
   rw[hR]
   refine rt_end (by simp<;>rfl) [] hrn ⟨?_,?_,?_,?_,?_,?_⟩<;>(try simp[J1,argsG,idO hid])
end Go.Am
namespace Go.Am
set_option linter.all false
open Go Go.RowKit Go.Proofs
set_option maxRecDepth 100000
set_option linter.all false
theorem fArgs_arg{l:List Ag}(h:fArgs l=0):l.length≤5∧∀a∈l,fArg a=0:=by
 unfold fArgs at h
 split at h
 ·omega
 ·refine⟨by omega,fun a ha=>?_⟩
  obtain⟨i,hi⟩:=List.mem_iff_getElem?.1 ha
  have h0:=firstIx_zero _ _ _ h i a hi
  unfold fArg1 at h0
  split at h0
  ·rename_i g; exact (g h0).elim
  ·split at h0
   ·omega
   ·exact h0
theorem fArg_zero{a:Ag}(h:fArg a=0): -999999999≤a.n∧a.n≤999999999∧a.text.length≤40:=by
 unfold fArg at h
 split at h
 ·omega
 ·split at h
  ·omega
  ·split at h
   ·omega
   ·rename_i g; omega
theorem getA_mem(l:List Ag)(n:List UInt8):getA l n=ag0∨getA l n∈l:=by
 rcases findA l n with⟨_,_,h⟩|⟨k,_,_,h,_⟩
 ·exact .inl h
 ·exact .inr (List.mem_of_getElem? h)
theorem getA_ok{l:List Ag}(h:fArgs l=0)(n:List UInt8): -999999999≤(getA l n).n∧(getA l n).n≤999999999∧(getA l n).text.length≤40:=by
 rcases getA_mem l n with e|e
 ·rw[e]; exact⟨by decide,by decide,by decide⟩
 ·exact fArg_zero ((fArgs_arg h).2 _ e)
theorem getA_none{l:List Ag}{n:List UInt8}(h:hasA l n=false):getA l n=ag0:=by
 rcases findA l n with⟨_,_,e⟩|⟨k,_,_,_,e⟩
 ·exact e
 ·rw[h] at e; cases e
theorem argsG_zero{l:List Ag}:∀{ns:List (List UInt8)} {w:Int},argsG l ns w=0→w=0∧∀n∈ns,hasA l n=true∧(getA l n).isText=isT n
 | [],w,h=>⟨h,fun n hn=>by cases hn⟩
 | n::r,w,h=>by
  simp only[argsG] at h
  split at h
  ·omega
  ·rename_i g
   obtain⟨e,hr⟩:=argsG_zero h
   split at e
   ·rename_i g2
    refine⟨e,fun m hm=>?_⟩
    rcases List.mem_cons.1 hm with rfl|hm
    ·exact⟨by simpa using g,g2⟩
    ·exact hr m hm
   ·omega
theorem pigeon{n:List UInt8}:∀{ns l:List (List UInt8)},ns.Nodup→(∀m∈ns,m∈l)→n∈l→n∉ns→ns.length<l.length
 | [],l,_,_,hn,_=>List.length_pos_of_mem hn
 | a::r,l,hd,hs,hn,hnn=>by
  obtain⟨h1,h2⟩:=List.nodup_cons.1 hd
  have ha:=hs a (by simp)
  have ih:=pigeon (n:=n) (ns:=r) (l:=l.erase a) h2 (fun m hm=>(List.mem_erase_of_ne (by rintro rfl; exact h1 hm)).2 (hs m (by simp[hm]))) ((List.mem_erase_of_ne (by rintro rfl; exact hnn (by simp))).2 hn) (fun e=>hnn (by simp[e]))
  have h3:=List.length_erase_of_mem ha
  have h4:=List.length_pos_of_mem ha
  simp only[List.length_cons]
  omega
theorem hasA_mem{l:List Ag}{n:List UInt8}:hasA l n=true↔n∈l.map Ag.name:=by
 unfold hasA
 rw[List.any_eq_true,List.mem_map]
 constructor
 ·rintro⟨a,h1,h2⟩; exact⟨a,h1,by simpa using h2⟩
 ·rintro⟨a,h1,h2⟩; exact⟨a,h1,by simpa using h2⟩
theorem not_there{l:List Ag}{ns:List (List UInt8)}{n:List UInt8}(hd:ns.Nodup)(hl:l.length=ns.length)(ha:∀m∈ns,hasA l m=true)(hn:n∉ns):hasA l n=false:=by
 refine Classical.byContradiction fun h=>?_
 have h:hasA l n=true:=by simpa using h
 have:=pigeon hd (fun m hm=>hasA_mem.1 (ha m hm)) (hasA_mem.1 h) hn
 simp at this
 omega
theorem evK_le(s:Sel):0≤evK s∧evK s≤6:=by
 unfold evK
 repeat' split
 all_goals omega
theorem evK_cases(s:Sel):evK s=0∨evK s=1∨evK s=2∨evK s=3∨evK s=4∨evK s=5∨evK s=6:=by have:=evK_le s; omega
def nrest(k:Int):List (List UInt8):=if k=1∨k=2 then [] else [nField,valN k]
theorem namesK_cons(k:Int):namesK k=nType::nId::nrest k:=by unfold namesK nrest; split<;>rfl
theorem namesK_nodup{k:Int}(h:1≤k∧k≤6):(namesK k).Nodup:=by
 have:k=1∨k=2∨k=3∨k=4∨k=5∨k=6:=by omega
 rcases this with rfl|rfl|rfl|rfl|rfl|rfl<;>decide
def tyI(l:List Ty)(s:Sel):Int:=kindOf l (getA s.args nType).text
def fdI(l:List Ty)(s:Sel):Int:=findJ (fun f=>f.name==(getA s.args nField).text) (fldsAt l (tyI l s)) 0
def mkE(l:List Ty)(s:Sel):Int :=
 if s.kids≠[] then 4 else if evK s=0 then 5 else if argsE s.args (namesK (evK s))≠0 then argsE s.args (namesK (evK s))
 else if tyI l s<0 then 5 else if 2<evK s∧fdI l s<0 then 5 else 0
def valA(s:Sel):Ag:=if 2<evK s then getA s.args (valN (evK s)) else ag0
def mkX(l:List Ty)(s:Sel):Ev:=⟨evK s,tyI l s,(getA s.args nId).n,if 2<evK s then fdI l s else 0,(valA s).n,(valA s).text⟩
def evX(l:List Ty)(s:Sel):Ev:=if mkE l s=0 then mkX l s else ⟨0,0,0,0,0,[]⟩
def nm3:Nat→List UInt8|0=>nNumber|1=>nTo|_=>nText
def sN(l:List Ag):Nat→Int|0=>0|i+1=>sN l i+(getA l (nm3 i)).n
def sT(l:List Ag):Nat→List UInt8|0=>[]|i+1=>sT l i++(getA l (nm3 i)).text
theorem s_le{l:List Ag}(h:fArgs l=0):∀i:Nat,-(999999999*(i:Int))≤sN l i∧sN l i≤999999999*(i:Int)∧(sT l i).length≤40*i
 | 0=>⟨by simp[sN],by simp[sN],by simp[sT]⟩
 | i+1=>by
  have h1:=s_le h i
  have h2:=getA_ok h (nm3 i)
  simp only[sN,sT,List.length_append]
  omega
theorem s3{s:Sel}(hk:evK s≠0)(h:argsE s.args (namesK (evK s))=0):sN s.args 3=(valA s).n∧sT s.args 3=(valA s).text:=by
 unfold argsE at h
 split at h
 ·omega
 rename_i hl
 have hl:s.args.length=(namesK (evK s)).length:=by omega
 have ha:=fun m hm=>((argsG_zero h).2 m hm).1
 have hd:=namesK_nodup (k:=evK s) (by have:=evK_le s; omega)
 have no:=fun (n:List UInt8) (hn:n∉namesK (evK s))=>getA_none (not_there hd hl ha hn)
 simp only[sN,sT,nm3]
 unfold valA
 have c:=evK_cases s
 generalize evK s=k at *
 rcases c with rfl|rfl|rfl|rfl|rfl|rfl|rfl
 ·exact (hk rfl).elim
 ·rw[no nNumber (by decide),no nTo (by decide),no nText (by decide),if_neg (by decide)]; exact⟨rfl,rfl⟩
 ·rw[no nNumber (by decide),no nTo (by decide),no nText (by decide),if_neg (by decide)]; exact⟨rfl,rfl⟩
 ·rw[no nTo (by decide),no nText (by decide),if_pos (by decide),show valN 3=nNumber from rfl]; simp[ag0]
 ·rw[no nTo (by decide),no nNumber (by decide),if_pos (by decide),show valN 4=nText from rfl]; simp[ag0]
 ·rw[no nText (by decide),no nNumber (by decide),if_pos (by decide),show valN 5=nTo from rfl]; simp[ag0]
 ·rw[no nText (by decide),no nNumber (by decide),if_pos (by decide),show valN 6=nTo from rfl]; simp[ag0]
theorem has_field{s:Sel}(hk:evK s≠0)(h:argsE s.args (namesK (evK s))=0):hasA s.args nField=decide (2<evK s):=by
 unfold argsE at h
 split at h
 ·omega
 rename_i hl
 have hl:s.args.length=(namesK (evK s)).length:=by omega
 have ha:=fun m hm=>((argsG_zero h).2 m hm).1
 have hd:=namesK_nodup (k:=evK s) (by have:=evK_le s; omega)
 have no:=fun (n:List UInt8) (hn:n∉namesK (evK s))=>not_there hd hl ha hn
 have c:=evK_cases s
 generalize evK s=k at *
 rcases c with rfl|rfl|rfl|rfl|rfl|rfl|rfl
 ·exact (hk rfl).elim
 ·rw[no nField (by decide)]; rfl
 ·rw[no nField (by decide)]; rfl
 all_goals rw[ha nField (by decide)]; rfl
end Go.Am
namespace Go.Am
set_option linter.all false
open Go Go.RowKit Go.Proofs
set_option maxRecDepth 100000
set_option linter.all false
theorem fldsAt_get{l:List Ty}{i:Int}{t:Ty}(h:l[i.toNat]?=some t):fldsAt l i=t.fields:=by unfold fldsAt; rw[h]; rfl
theorem tyI_get{l:List Ty}{s:Sel}(h:¬tyI l s<0):∃(k:Nat) (t:Ty),tyI l s=k∧k<l.length∧l[k]?=some t:=by
 unfold tyI kindOf at *
 rcases findJ_spec (fun t:Ty=>t.name==(getA s.args nType).text) l 0 with⟨_,h2⟩|⟨k,x,h1,h2,_⟩
 ·rw[h2] at h; exact (h (by decide)).elim
 ·exact⟨k,x,by rw[h2]; simp,(List.getElem?_eq_some_iff.1 h1).1,h1⟩
theorem evX_bad{l:List Ty}{s:Sel}{w:Int}(h:mkE l s=w)(hw:w≠0):eEv (evX l s) = .agg [.int .i64 0,.int .i64 0,.int .i64 0,.int .i64 0,.int .i64 0,.str []]:=by unfold evX; rw[if_neg (by rw[h]; exact hw)]; rfl
set_option maxHeartbeats 4000000 in
theorem event_ok(l:List Ty)(s:Sel)(J:Nat)(id:Nat)(hA:fArgs s.args=0)(hl8:l.length≤1000)(hf8:∀t∈l,t.fields.length≤1000):FnOk Tryz.prog 57 [.ptr J 0 0] [(J,⟨[eMk l s],eMk l s,false,false⟩)] id (.tup [eEv (evX l s),.int .i64 (mkE l s)]) []:=by
 have ha8:s.args.length<9223372036854775807:=by have:=(fArgs_arg hA).1; omega
 have hF:=fun n id=>mFind_ok l s J n id ha8
 have hmk:mkE l s=if s.kids≠[] then 4 else if evK s=0 then 5 else if argsE s.args (namesK (evK s))≠0 then argsE s.args (namesK (evK s)) else if tyI l s<0 then 5 else if 2<evK s∧fdI l s<0 then 5 else 0:=rfl
 have hFt:=fun id=>Find_ok l (getA s.args nType).text id (by omega)
 rw[show findJ (fun x:Ty=>x.name==(getA s.args nType).text) l 0=tyI l s from rfl] at hFt
 have hFT:=hF nType
 have hFI:=hF nId
 have hFF:=hF nField
 have hF0:=hF nNumber
 have hF1:=hF nTo
 have hF2:=hF nText
 have hb:=getA_ok hA
 have hs0:=s_le hA 0
 have hs1:=s_le hA 1
 have hs2:=s_le hA 2
 have hb0:=hb nNumber
 have hb1:=hb nTo
 have hb2:=hb nText
 have hxe:∀w,mkE l s=w→w=0→(evK s≠0→argsE s.args (namesK (evK s))=0→eEv (evX l s) = .agg [.int .i64 (evK s),.int .i64 (tyI l s),.int .i64 (getA s.args nId).n,.int .i64 (if 2<evK s then fdI l s else 0),.int .i64 (sN s.args 3),.str (sT s.args 3)]):=fun w h1 h2 h3 h4=>by
  obtain⟨g1,g2⟩:=s3 h3 h4
  unfold evX; rw[if_pos (h1.trans h2),g1,g2]; rfl
 have st1:sN s.args 1=sN s.args 0+(getA s.args nNumber).n∧sT s.args 1=sT s.args 0++(getA s.args nNumber).text:=⟨rfl,rfl⟩
 have st2:sN s.args 2=sN s.args 1+(getA s.args nTo).n∧sT s.args 2=sT s.args 1++(getA s.args nTo).text:=⟨rfl,rfl⟩
 have st3:sN s.args 3=sN s.args 2+(getA s.args nText).n∧sT s.args 3=sT s.args 2++(getA s.args nText).text:=⟨rfl,rfl⟩
 generalize hT:getA s.args nType=aT at *
 generalize hI:getA s.args nId=aI at *
 generalize hFd:getA s.args nField=aF at *
 generalize hn0:getA s.args nNumber=a0 at *
 generalize hn1:getA s.args nTo=a1 at *
 generalize hn2:getA s.args nText=a2 at *
 unfold nType at hFT
 unfold nId at hFI
 unfold nField at hFF
 unfold nNumber at hF0
 unfold nTo at hF1
 unfold nText at hF2
 simp only[eAg_eq aT] at hFT
 simp only[eAg_eq aI] at hFI
 simp only[eAg_eq aF] at hFF
 simp only[eAg_eq a0] at hF0
 simp only[eAg_eq a1] at hF1
 simp only[eAg_eq a2] at hF2
 have hNm:=fun id=>names_ok l s J id ha8
 have hKd:=fun id hk=>kind_ok l s J id ha8 hk
 have hG:=fun id=>mArgs_ok l s (namesK (evK s)) J id ha8 (by rw[namesK_cons]; unfold nrest; split<;>simp)
 rw[namesK_cons,List.map_cons,List.map_cons,←namesK_cons] at hG
 unfold eMk at *
 refine fn_okc Tryz.func57 hcc57 (by decide) hcr57 (by simp[Tryz.ntmps57]) fun E hP hR hl hid=>?_
 simp only[cr57] at hR
 refine w_go 4000 ?_
 simp[cc57]
 have hJ:=hl (J,_) (List.mem_cons_self ..)
 simp only at hJ
 have J1:=lf hJ
 (refine w_call hP rfl (hNm _) (by simp[J1]) (by simp[J1]<;>rfl) ?_; refine w_go 4000 ?_; simp[J1])
 refine goc (fun h0=>?_) (fun h0=>?_)
 ·have h0:s.kids≠[]:=by intro e; rw[e] at h0; simp at h0
  rw[if_pos h0] at hmk
  rw[hmk,evX_bad hmk (by decide)] at hR
  simp[J1]
  have hrn:rnOk []:=by simp[J1,idO hid]
  rw[hR]
  refine rt_end (by simp<;>rfl) [] hrn ⟨?_,?_,?_,?_,?_,?_⟩<;>(try simp[J1,idO hid])
 have h0:¬s.kids≠[]:=by
  intro e
  have:=List.length_pos_iff.2 e
  simp at h0
  exact e h0
 rw[if_neg h0] at hmk
 by_cases hk:evK s=0
 ·rw[if_pos hk] at hmk
  rw[hmk,evX_bad hmk (by decide)] at hR
  rw[hk,show namV 0 = .nils from rfl]
  simp[J1]
  have hrn:rnOk []:=by simp[J1,idO hid]
  rw[hR]
  refine rt_end (by simp<;>rfl) [] hrn ⟨?_,?_,?_,?_,?_,?_⟩<;>(try simp[J1,idO hid])
 rw[if_neg hk] at hmk
 have hnv:namV (evK s) = .sl (.str nType::.str nId::(nrest (evK s)).map .str):=by unfold namV; rw[if_neg hk,namesK_cons]; rfl
 have hps:∀S,namesL S ((nrest (evK s)).map AV.str):=fun S=>names_strs S _
 rw[hnv]
 generalize (nrest (evK s)).map AV.str=NR at *
 simp[J1]
 (refine w_call hP rfl (hG _) (by simp[J1]) (by simp[J1]<;>rfl) ?_; refine w_go 4000 ?_; simp[J1])
 refine goc (fun h1=>?_) (fun h1=>?_)<;>simp[J1]
 ·have h1:argsE s.args (namesK (evK s))≠0:=by simpa using h1
  rw[if_pos h1] at hmk
  rw[hmk,evX_bad hmk h1] at hR
  have hrn:rnOk []:=by simp[J1,idO hid]
  rw[hR]
  refine rt_end (by simp<;>rfl) [] hrn ⟨?_,?_,?_,?_,?_,?_⟩<;>(try simp[J1,idO hid])
 have h1:argsE s.args (namesK (evK s))=0:=by simpa using h1
 rw[if_neg (by simpa using h1)] at hmk
 have hhf:hasA s.args [102,105,101,108,100]=decide (2<evK s):=has_field hk h1
 rw[hhf] at hFF
 (refine w_call hP rfl (hKd _ hk) (by simp[J1]) (by simp[J1]<;>rfl) ?_; refine w_go 4000 ?_; simp[J1])
 (refine w_call hP rfl (hFT _) (by simp[J1]) (by simp[J1]<;>rfl) ?_; refine w_go 4000 ?_; simp[J1])
 (refine w_call hP rfl (hFI _) (by simp[J1]) (by simp[J1]<;>rfl) ?_; refine w_go 4000 ?_; simp[J1])
 (refine w_call hP rfl (hFt _) (by simp[J1]) (by simp[J1]<;>rfl) ?_; refine w_go 4000 ?_; simp[J1])
 refine goc (fun h2=>?_) (fun h2=>?_)<;>simp[J1]
 ·rw[if_pos (by simpa using h2)] at hmk
  rw[hmk,evX_bad hmk (by decide)] at hR
  have hrn:rnOk []:=by simp[J1,idO hid]
  rw[hR]
  refine rt_end (by simp<;>rfl) [] hrn ⟨?_,?_,?_,?_,?_,?_⟩<;>(try simp[J1,idO hid])
 have h2:¬tyI l s<0:=by simpa using h2
 rw[if_neg h2] at hmk
 obtain⟨k,t,hty,hkl,hlk⟩:=tyI_get h2
 have hfl:fldsAt l (tyI l s)=t.fields:=fldsAt_get (by rw[hty]; exact hlk)
 have hFo:=fun id=>FieldOf_ok t.fields t.name aF.text id (by have:=hf8 t (List.mem_of_getElem? hlk); omega)
 rw[show findJ (fun x=>x.name==aF.text) t.fields 0=fdI l s by unfold fdI; rw[hfl,hFd]] at hFo
 have hxT:eTy t = .agg [.str t.name,.sl (t.fields.map eFd)]:=rfl
 refine w_call hP rfl (hFF _) (by simp[J1]) (by simp[J1]<;>rfl) ?_
 refine w_go 28 ?_
 simp[J1]
 refine w_go 6 ?_
 simp[J1]
 refine w_cut (X:=Unit) (fun _=>⟨[(0,true,.ptr J 0 0),(2,true,.ptr E.n0 0 0),(6,true,.ptr (E.n0+1) 0 0)],[(J,some ⟨[.agg [.sl (l.map eTy),.str s.alias,.str s.name,.sl (s.args.map eAg),.sl (s.kids.map eSel)]],.agg [.sl (l.map eTy),.str s.alias,.str s.name,.sl (s.args.map eAg),.sl (s.kids.map eSel)],false,false⟩),(E.n0,some ⟨[.agg [.int .i64 0,.int .i64 0,.int .i64 0,.int .i64 0,.int .i64 0,.str []]],.agg [.int .i64 0,.int .i64 0,.int .i64 0,.int .i64 0,.int .i64 0,.str []],false,false⟩),(E.n0+1,some ⟨[.agg [.int .i64 (evK s),.int .i64 (tyI l s),.int .i64 aI.n,.int .i64 (if 2<evK s then fdI l s else 0),.int .i64 (0),.str ([])]],.agg [.int .i64 0,.int .i64 0,.int .i64 0,.int .i64 0,.int .i64 0,.str []],false,false⟩)],2⟩) (fun _=>¬(2<evK s∧fdI l s<0)) (fun p hp=>?_) fun _ h5=>?_
 ·refine w_go 4000 ?_
  simp
  refine goc (fun h3=>?_) (fun h3=>?_)
  ·have h3:2<evK s:=by simpa using h3
   rw[hty]
   simp[J1,hlk,hxT]
   refine⟨hkl,?_⟩
   (refine w_call hP rfl (hFo _) (by simp[J1]) (by simp[J1]<;>rfl) ?_; refine w_go 4000 ?_; simp[J1])
   refine goc (fun h4=>?_) (fun h4=>?_)<;>simp[J1]
   ·rw[if_pos ⟨h3,by simpa using h4⟩] at hmk
    rw[hmk,evX_bad hmk (by decide)] at hR
    have hrn:rnOk []:=by simp[J1,idO hid]
    rw[hR]
    refine rt_end (by simp<;>rfl) [] hrn ⟨?_,?_,?_,?_,?_,?_⟩<;>(try simp[J1,idO hid])
   ·refine hp _ () (fun g=>by simp at h4; omega) ?_
    have hrn:rnOk [(E.n0,E.n0),(E.n0+1,E.n0+23552)]:=by simp[J1,h3,hty]
    refine Conv.sub [(E.n0,E.n0),(E.n0+1,E.n0+23552)] hrn ?_ ?_ ?_ ?_ ?_<;>(try simp[J1,h3,hty])
  ·have h3:¬2<evK s:=by simpa using h3
   simp[J1]
   refine hp _ () (fun g=>h3 g.1) ?_
   have hrn:rnOk [(E.n0,E.n0),(E.n0+1,E.n0+23552)]:=by simp[J1,h3,hty]
   refine Conv.sub [(E.n0,E.n0),(E.n0+1,E.n0+23552)] hrn ?_ ?_ ?_ ?_ ?_<;>(try simp[J1,h3,hty])
 ·rw[if_neg h5] at hmk
  have hxx:=hxe _ hmk rfl hk h1
  rw[hmk,hxx] at hR
  refine w_go 4000 ?_
  simp[J1]
  refine w_loop (X:=Nat) (fun i=>⟨[(0,true,.ptr J 0 0),(2,true,.ptr E.n0 0 0),(6,true,.ptr (E.n0+1) 0 0),(87,true,.bsl (E.n0+2) 0 3),(88,true,.int .i64 3),(89,true,.int .i64 i)],[(J,some ⟨[.agg [.sl (l.map eTy),.str s.alias,.str s.name,.sl (s.args.map eAg),.sl (s.kids.map eSel)]],.agg [.sl (l.map eTy),.str s.alias,.str s.name,.sl (s.args.map eAg),.sl (s.kids.map eSel)],false,false⟩),(E.n0,some ⟨[.agg [.int .i64 0,.int .i64 0,.int .i64 0,.int .i64 0,.int .i64 0,.str []]],.agg [.int .i64 0,.int .i64 0,.int .i64 0,.int .i64 0,.int .i64 0,.str []],false,false⟩),(E.n0+1,some ⟨[.agg [.int .i64 (evK s),.int .i64 (tyI l s),.int .i64 aI.n,.int .i64 (if 2<evK s then fdI l s else 0),.int .i64 (sN s.args i),.str (sT s.args i)]],.agg [.int .i64 0,.int .i64 0,.int .i64 0,.int .i64 0,.int .i64 0,.str []],false,false⟩),(E.n0+2,some ⟨[.str [110,117,109,98,101,114],.str [116,111],.str [116,101,120,116]],.str [],false,false⟩)],3⟩) (fun i=>i≤3) (fun i=>3 - i) 0 ?_ (by omega) ?_
  ·have hrn:rnOk [(E.n0,E.n0),(E.n0+1,E.n0+1),(E.n0+2,E.n0+2)]:=by simp[J1,sN,sT]
   refine Conv.sub [(E.n0,E.n0),(E.n0+1,E.n0+1),(E.n0+2,E.n0+2)] hrn ?_ ?_ ?_ ?_ ?_<;>(try simp[J1,sN,sT])
  ·rintro i hi p hp
   have hc:i=0∨i=1∨i=2∨i=3:=by omega
   refine w_go 4000 ?_
   rcases hc with rfl|rfl|rfl|rfl
   ·have hw:IntKind.i64.wrap (sN s.args 0+a0.n)=sN s.args 1:=by rw[st1.1]; exact wrap64 (by omega)
    simp[J1]
    (refine w_call hP rfl (hF0 _) (by simp[J1]) (by simp[J1]<;>rfl) ?_; refine w_go 4000 ?_; simp[J1])
    refine⟨by omega,?_⟩
    simp[J1,hw,←st1.2]
    refine hp _ 1 (by omega) (by omega) ?_
    have hrn:rnOk [(E.n0,E.n0),(E.n0+1,E.n0+1),(E.n0+2,E.n0+2)]:=by simp[J1,names_strs]
    refine Conv.sub [(E.n0,E.n0),(E.n0+1,E.n0+1),(E.n0+2,E.n0+2)] hrn ?_ ?_ ?_ ?_ ?_<;>(try simp[J1,names_strs])
    rfl
   ·have hw:IntKind.i64.wrap (sN s.args 1+a1.n)=sN s.args 2:=by rw[st2.1]; exact wrap64 (by omega)
    simp[J1]
    (refine w_call hP rfl (hF1 _) (by simp[J1]) (by simp[J1]<;>rfl) ?_; refine w_go 4000 ?_; simp[J1])
    refine⟨by omega,?_⟩
    simp[J1,hw,←st2.2]
    refine hp _ 2 (by omega) (by omega) ?_
    have hrn:rnOk [(E.n0,E.n0),(E.n0+1,E.n0+1),(E.n0+2,E.n0+2)]:=by simp[J1,names_strs]
    refine Conv.sub [(E.n0,E.n0),(E.n0+1,E.n0+1),(E.n0+2,E.n0+2)] hrn ?_ ?_ ?_ ?_ ?_<;>(try simp[J1,names_strs])
    rfl
   ·have hw:IntKind.i64.wrap (sN s.args 2+a2.n)=sN s.args 3:=by rw[st3.1]; exact wrap64 (by omega)
    simp[J1]
    (refine w_call hP rfl (hF2 _) (by simp[J1]) (by simp[J1]<;>rfl) ?_; refine w_go 4000 ?_; simp[J1])
    refine⟨by omega,?_⟩
    simp[J1,hw,←st3.2]
    refine hp _ 3 (by omega) (by omega) ?_
    have hrn:rnOk [(E.n0,E.n0),(E.n0+1,E.n0+1),(E.n0+2,E.n0+2)]:=by simp[J1,names_strs]
    refine Conv.sub [(E.n0,E.n0),(E.n0+1,E.n0+1),(E.n0+2,E.n0+2)] hrn ?_ ?_ ?_ ?_ ?_<;>(try simp[J1,names_strs])
    rfl
   ·simp[J1]
    have hrn:rnOk []:=by simp[J1,idO hid]
    rw[hR]
    refine rt_end (by simp<;>rfl) [] hrn ⟨?_,?_,?_,?_,?_,?_⟩<;>(try simp[J1,idO hid])
end Go.Am
namespace Go.Am
set_option linter.all false
open Go Go.RowKit Go.Proofs
set_option maxRecDepth 100000
set_option linter.all false
def ofE(l:List Ty)(q:List Sel):Int:=if firstE (mkE l) q≠0 then firstE (mkE l) q else if 8<q.length then 2 else 0
def evsOf(l:List Ty)(q:List Sel):List Ev:=q.map (mkX l)
def evV(w:Int)(ev:List Ev):AV:=if w=0 then .sl (ev.map eEv) else .nils
theorem evX_ok{l:List Ty}{s:Sel}(h:mkE l s=0):evX l s=mkX l s:=by unfold evX; rw[if_pos h]
set_option maxHeartbeats 2000000 in
theorem Of_ok(l:List Ty)(q:List Sel)(id:Nat)(hA:∀s∈q,fArgs s.args=0)(hl8:l.length≤1000)(hf8:∀t∈l,t.fields.length≤1000)(hq8:q.length≤1000000):FnOk Tryz.prog 22 [.sl (l.map eTy),.sl (q.map eSel)] [] id (.tup [evV (ofE l q) (evsOf l q),.int .i64 (ofE l q)]) []:=by
 have hE:=fun s (hs:s∈q) J id=>event_ok l s J id (hA s hs) hl8 hf8
 unfold eMk at hE
 refine fn_okc Tryz.func22 hcc22 (by decide) hcr22 (by simp[Tryz.ntmps22]) fun E hP hR hl hid=>?_
 simp only[cr22] at hR
 refine w_go 4000 ?_
 simp[cc22]
 refine w_loop (X:=Nat) (fun i=>⟨[(0,true,.sl (l.map eTy)),(6,true,.bsl E.n0 0 i),(12,true,.sl (q.map eSel)),(13,true,.int .i64 q.length),(14,true,.int .i64 i)],[(E.n0,some ⟨((evsOf l q).take i).map eEv,.agg [.int .i64 0,.int .i64 0,.int .i64 0,.int .i64 0,.int .i64 0,.str []],false,false⟩)],1⟩)
  (fun i=>i≤q.length∧firstE (mkE l) (q.drop i)=firstE (mkE l) q) (fun i=>q.length - i) 0 ?_ ⟨by simp,rfl⟩ ?_
 ·refine Conv.trans (Conv.voidSlot 6 (x:=.nils) (y:=.bsl (E.n0+6144) 0 0) (by simp) .nils (.agg [.int .i64 0,.int .i64 0,.int .i64 0,.int .i64 0,.int .i64 0,.str []])) ?_
  have hrn:rnOk [(E.n0,E.n0+6144)]:=by simp
  refine Conv.sub [(E.n0,E.n0+6144)] hrn ?_ ?_ ?_ ?_ ?_<;>(try simp)
 ·rintro i ⟨hi,hf⟩ p hp
  refine w_go 4000 ?_
  simp
  refine goc (fun h=>?_) (fun h=>?_)
  ·have h:=of_decide_eq_true h
   obtain⟨x,hx,hd⟩:=drop_cons h
   have hi1:IntKind.i64.wrap ((i:Int)+1)=((i+1:Nat):Int):=wrap64 (by omega)
   have hxm:=List.mem_of_getElem? hx
   rw[hd] at hf
   simp only[firstE] at hf
   simp[hx,eSel_eq x]
   refine⟨h,?_⟩
   have hEx:=hE x hxm
   have hxe:mkE l x=0→evX l x=mkX l x:=evX_ok
   generalize evX l x=e at *
   simp only[show eEv e = .agg [.int .i64 e.kind,.int .i64 e.type,.int .i64 e.id,.int .i64 e.field,.int .i64 e.n,.str e.text] from rfl] at hEx
   (refine w_call hP rfl (hEx (E.n0+8193) _) (by simp) (by simp<;>rfl) ?_; refine w_go 4000 ?_; simp)
   refine goc (fun h1=>?_) (fun h1=>?_)<;>simp
   ·have h1:mkE l x≠0:=by simpa using h1
    rw[if_pos h1] at hf
    have hv:ofE l q=mkE l x:=by unfold ofE; rw[←hf,if_pos h1]
    have hw:evV (mkE l x) (evsOf l q) = .nils:=by unfold evV; rw[if_neg h1]
    rw[hv,hw] at hR
    rw[hR]; exact rt_end (by simp<;>rfl) [] trivial (end_pure (by simp) (by simp) (by simp))
   ·have h1:mkE l x=0:=by simpa using h1
    rw[if_neg (by simpa using h1)] at hf
    have he:=hxe h1
    have hxs:((evsOf l q).map eEv)[i]?=some (eEv (mkX l x)):=by unfold evsOf; simp[hx]
    have hts:=take_snoc hxs
    rw[←he] at hts
    refine⟨⟨by simp[evsOf]; omega,by omega,by omega⟩,?_⟩
    refine hp _ (i+1) ⟨h,hf⟩ (by omega) ?_
    have hrn:rnOk [(E.n0,E.n0+23553)]:=by simp[hi1]
    refine Conv.sub [(E.n0,E.n0+23553)] hrn ?_ ?_ ?_ ?_ ?_<;>(try simp[hi1])
    exact renL_pure hts.symm (by rw[←List.map_take,←List.map_take] at hts; rw[←List.map_take]; exact pureL_append (pure_evs _) rfl)
  ·have h:=of_decide_eq_false h
   have hiq:i=q.length:=by omega
   have htk:((evsOf l q).map eEv).take i=(evsOf l q).map eEv:=List.take_of_length_le (by simp[evsOf]; omega)
   simp
   rw[List.drop_of_length_le (by omega)] at hf
   have hf:firstE (mkE l) q=0:=hf.symm
   refine goc (fun h1=>?_) (fun h1=>?_)<;>simp
   ·have hv:ofE l q=2:=by unfold ofE; rw[if_neg (by simpa using hf),if_pos (by simp at h1; omega)]
    rw[hv,show evV 2 (evsOf l q) = .nils from rfl] at hR
    rw[hR]; exact rt_end (by simp<;>rfl) [] trivial (end_pure (by simp) (by simp) (by simp))
   ·have hv:ofE l q=0:=by unfold ofE; rw[if_neg (by simpa using hf),if_neg (by simp at h1; omega)]
    rw[hv,show evV 0 (evsOf l q) = .sl ((evsOf l q).map eEv) from rfl] at hR
    have hln:(evsOf l q).length=q.length:=by simp[evsOf]
    subst hiq
    have hrn:rnOk []:=by simp[htk,hln,idO hid]
    rw[hR]
    refine rt_endR (by simp<;>rfl) (by simp[htk,hln,idO hid]<;>exact⟨rfl,rfl⟩) [] hrn ⟨?_,?_,?_,?_,?_,?_⟩<;>(try simp[htk,hln,idO hid])
end Go.Am
