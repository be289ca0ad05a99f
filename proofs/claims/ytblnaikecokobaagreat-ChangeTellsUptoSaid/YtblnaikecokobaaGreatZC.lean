/- Parts of the proof: an abstract machine for Go functions, and what functions of the program give back (Ch9, Ch10, Ch11). No condition. -/
import Derived.Test.YtblnaikecokobaaGreatZB
import Derived.Test.YtblnaikecokobaaGreatXD
namespace Go.Am
set_option linter.all false
open Go Go.RowKit Go.Proofs
set_option maxRecDepth 100000
set_option linter.all false
theorem getA_cons(x:Ag)(r:List Ag)(n:List UInt8):getA (x::r) n=if (x.name==n)=true then x else getA r n:=by
 unfold getA
 rw[List.find?_cons]
 by_cases h:(x.name==n)=true
 ·rw[h]; simp
 ·rw[if_neg h,show (x.name==n)=false by simpa using h]
theorem hasA_cons(x:Ag)(r:List Ag)(n:List UInt8):hasA (x::r) n=((x.name==n)||hasA r n):=rfl
set_option maxHeartbeats 1000000 in
theorem argOf_ok(s:Sel)(name:List UInt8)(id:Nat)(hl8:s.args.length<9223372036854775807):FnOk Tryz.prog 61 [eSel s,.str name] [] id (.tup [eAg (getA s.args name),.bool (hasA s.args name)]) []:=by
 have hE:∀a:Ag,eAg a = .agg [.str a.name,.bool a.isText,.str a.text,.int .i64 a.n]:=eAg_eq
 rw[eSel_eq,hE]
 refine fn_okc Tryz.func61 hcc61 (by decide) hcr61 (by simp[Tryz.ntmps61]) fun E hP hR hl hid=>?_
 simp only[cr61] at hR
 refine w_go 4000 ?_
 simp[cc61]
 refine w_loop (X:=Nat) (fun i=>⟨[(1,true,.str name),(2,true,.ptr E.n0 0 0),(4,true,.ptr (E.n0+1) 0 0),(6,true,.int .i64 i)],[(E.n0,some ⟨[.agg [.str s.alias,.str s.name,.sl (s.args.map eAg),.sl (s.kids.map eSel)]],.agg [.str s.alias,.str s.name,.sl (s.args.map eAg),.sl (s.kids.map eSel)],false,false⟩),(E.n0+1,some ⟨[.agg [.str [],.bool false,.str [],.int .i64 0]],.agg [.str [],.bool false,.str [],.int .i64 0],false,false⟩)],2⟩)
  (fun i=>i≤s.args.length∧getA (s.args.drop i) name=getA s.args name∧hasA (s.args.drop i) name=hasA s.args name) (fun i=>s.args.length - i) 0 ?_ ⟨by simp,rfl,rfl⟩ ?_
 ·have hrn:rnOk [(E.n0,E.n0),(E.n0+1,E.n0+1024)]:=by simp
  refine Conv.sub [(E.n0,E.n0),(E.n0+1,E.n0+1024)] hrn ?_ ?_ ?_ ?_ ?_<;>(try simp)
 ·rintro i ⟨hi,hf,hg⟩ p hp
  refine w_go 4000 ?_
  simp
  refine goc (fun h=>?_) (fun h=>?_)
  ·have h:i<s.args.length:=by simpa using h
   obtain⟨x,hx,hd⟩:=drop_cons h
   have hi1:IntKind.i64.wrap ((i:Int)+1)=((i+1:Nat):Int):=wrap64 (by omega)
   rw[hd,getA_cons] at hf
   rw[hd,hasA_cons] at hg
   simp[hx,hE x]
   refine⟨h,?_⟩
   refine goc (fun h1=>?_) (fun h1=>?_)<;>simp[hx,hE x]
   ·rw[if_pos h1] at hf
    rw[h1,Bool.true_or] at hg
    rw[←hf,←hg] at hR
    refine⟨h,?_⟩
    rw[hR]; exact rt_end (by simp<;>rfl) [] trivial (end_pure (by simp) (by simp) (by simp))
   ·rw[if_neg (by simpa using h1)] at hf
    rw[h1,Bool.false_or] at hg
    refine hp _ (i+1) ⟨h,hf,hg⟩ (by omega) ?_
    have hrn:rnOk [(E.n0,E.n0),(E.n0+1,E.n0+1)]:=by simp[hi1]
    refine Conv.sub [(E.n0,E.n0),(E.n0+1,E.n0+1)] hrn ?_ ?_ ?_ ?_ ?_<;>(try simp[hi1])
  ·have h:¬i<s.args.length:=by simpa using h
   simp
   rw[List.drop_of_length_le (by omega)] at hf hg
   rw[←hf,←hg] at hR
   simp only[show getA [] name=⟨[],false,[],0⟩ from rfl,show hasA [] name=false from rfl] at hR
   rw[hR]; exact rt_end (by simp<;>rfl) [] trivial (end_pure (by simp) (by simp) (by simp))
end Go.Am
namespace Go.Am
set_option linter.all false
open Go Go.RowKit Go.Proofs
set_option maxRecDepth 100000
set_option linter.all false
def vNm(k:Int):List UInt8:=if k=1∨k=2 then [] else valN k
theorem argsG_no{l:List Ag}{n:List UInt8}(h:hasA l n=false):∀{ns:List (List UInt8)} {w:Int},n∈ns→argsG l ns w=1
 | [],w,hn=>by cases hn
 | m::r,w,hn=>by
  simp only[argsG]
  split
  ·rfl
  ·rename_i g
   rcases List.mem_cons.1 hn with rfl|hn
   ·exact (g h).elim
   ·exact argsG_no h hn
theorem argsG_all{l:List Ag}:∀{ns:List (List UInt8)} {w:Int},(∀n∈ns,hasA l n=true)→argsG l ns w=if (∀n∈ns,(getA l n).isText=isT n) then w else 7
 | [],w,h=>by simp[argsG]
 | m::r,w,h=>by
  simp only[argsG]
  rw[if_neg (by simp[h m (by simp)]),argsG_all fun n hn=>h n (by simp[hn])]
  by_cases h1:(getA l m).isText=isT m<;>simp[h1]
theorem namesK_get{k:Int}{i:Nat}(h:i<(namesK k).length):∃n,(namesK k)[i]?=some n∧n∈namesK k∧(namesK k).take (i+1)=(namesK k).take i++[n] :=
 ⟨(namesK k)[i],List.getElem?_eq_getElem h,List.getElem_mem h,take_snoc (List.getElem?_eq_getElem h)⟩
theorem namesK_le(k:Int):(namesK k).length≤4:=by unfold namesK; split<;>simp
set_option maxHeartbeats 4000000 in
theorem eventOf_ok(l:List Ty)(s:Sel)(id:Nat)(hA:fArgs s.args=0)(hl8:l.length≤1000)(hf8:∀t∈l,t.fields.length≤1000):FnOk Tryz.prog 31 [.sl (l.map eTy),eSel s] [] id (.tup [eEv (evX l s),.int .i64 (mkE l s)]) []:=by
 have ha8:s.args.length<9223372036854775807:=by have:=(fArgs_arg hA).1; omega
 have hF:=fun n id=>argOf_ok s n id ha8
 have hmk:mkE l s=if s.kids≠[] then 4 else if evK s=0 then 5 else if argsE s.args (namesK (evK s))≠0 then argsE s.args (namesK (evK s)) else if tyI l s<0 then 5 else if 2<evK s∧fdI l s<0 then 5 else 0:=rfl
 have hFt:=fun id=>TypeAt_ok l (getA s.args nType).text id (by omega)
 rw[show findJ (fun x:Ty=>x.name==(getA s.args nType).text) l 0=tyI l s from rfl] at hFt
 have hxe:mkE l s=0→eEv (evX l s) = .agg [.int .i64 (evK s),.int .i64 (tyI l s),.int .i64 (getA s.args nId).n,.int .i64 (if 2<evK s then fdI l s else 0),.int .i64 (valA s).n,.str (valA s).text]:=fun h=>by unfold evX; rw[if_pos h]; rfl
 have hFm:=hF nText
 unfold nText at hFm
 simp only[eSel_eq s,eAg_eq (getA _ _)] at hF hFm
 have hFT:=hF nType
 have hFI:=hF nId
 have hFF:=hF nField
 have hFV:=hF (vNm (evK s))
 generalize hT:getA s.args nType=aT at hFT hFt
 generalize hI:getA s.args nId=aI at hFI hxe
 generalize hFd:getA s.args nField=aF at hFF
 generalize hVa:getA s.args (vNm (evK s))=aV at hFV
 unfold nType at hFT
 unfold nId at hFI
 unfold nField at hFF
 rw[eSel_eq s]
 refine fn_okc Tryz.func31 hcc31 (by decide) hcr31 (by simp[Tryz.ntmps31]) fun E hP hR hl hid=>?_
 simp only[cr31] at hR
 refine w_go 68 ?_
 simp[cc31]
 refine goc (fun h0=>?_) (fun h0=>?_)<;>simp
 ·have h0:s.kids≠[]:=by intro e; rw[e] at h0; simp at h0
  rw[if_pos h0] at hmk
  rw[hmk,evX_bad hmk (by decide)] at hR
  rw[hR]; exact rt_end (by simp<;>rfl) [] trivial (end_pure (by simp) (by simp) (by simp))
 have h0:¬s.kids≠[]:=by
  intro e
  have:=List.length_pos_iff.2 e
  simp at h0
  exact e h0
 rw[if_neg h0] at hmk
 refine w_cut (X:=Unit) (fun _=>⟨[(0,true,.sl (l.map eTy)),(3,true,.ptr E.n0 0 0),(4,true,.ptr (E.n0+1) 0 0),(6,true,.ptr (E.n0+2) 0 0),(7,true,.str (vNm (evK s)))],[(E.n0,some ⟨[.agg [.str s.alias,.str s.name,.sl (s.args.map eAg),.sl (s.kids.map eSel)]],.agg [.str s.alias,.str s.name,.sl (s.args.map eAg),.sl (s.kids.map eSel)],false,false⟩),(E.n0+1,some ⟨[.agg [.int .i64 0,.int .i64 0,.int .i64 0,.int .i64 0,.int .i64 0,.str []]],.agg [.int .i64 0,.int .i64 0,.int .i64 0,.int .i64 0,.int .i64 0,.str []],false,false⟩),(E.n0+2,some ⟨[.agg [.int .i64 (evK s),.int .i64 0,.int .i64 0,.int .i64 0,.int .i64 0,.str []]],.agg [.int .i64 0,.int .i64 0,.int .i64 0,.int .i64 0,.int .i64 0,.str []],false,false⟩)],3⟩) (fun _=>evK s≠0) (fun p hp=>?_) fun _ hk=>?_
 ·refine w_go 4000 ?_
  simp
  refine goc (fun h1=>?_) (fun h1=>?_)<;>simp
  ·have e:=evK1 h1
   refine hp _ () (by rw[e]; decide) ?_
   have hrn:rnOk [(E.n0,E.n0),(E.n0+1,E.n0+1024),(E.n0+2,E.n0+3072)]:=by simp[e,show vNm 1=[] from rfl]
   refine Conv.sub [(E.n0,E.n0),(E.n0+1,E.n0+1024),(E.n0+2,E.n0+3072)] hrn ?_ ?_ ?_ ?_ ?_<;>(try simp[e,show vNm 1=[] from rfl])
  refine goc (fun h2=>?_) (fun h2=>?_)<;>simp
  ·have e:=evK2 h1 h2
   refine hp _ () (by rw[e]; decide) ?_
   have hrn:rnOk [(E.n0,E.n0),(E.n0+1,E.n0+1024),(E.n0+2,E.n0+3072)]:=by simp[e,show vNm 2=[] from rfl]
   refine Conv.sub [(E.n0,E.n0),(E.n0+1,E.n0+1024),(E.n0+2,E.n0+3072)] hrn ?_ ?_ ?_ ?_ ?_<;>(try simp[e,show vNm 2=[] from rfl])
  refine goc (fun h3=>?_) (fun h3=>?_)<;>simp
  ·(refine w_call hP rfl (hFm _) (by simp) (by simp<;>rfl) ?_; refine w_go 4000 ?_; simp)
   refine goc (fun h4=>?_) (fun h4=>?_)<;>simp
   ·have e:=evK4 h1 h2 h3 h4
    refine hp _ () (by rw[e]; decide) ?_
    have hrn:rnOk [(E.n0,E.n0),(E.n0+1,E.n0+1024),(E.n0+2,E.n0+3072)]:=by simp[e,show vNm 4=[116,101,120,116] from rfl]
    refine Conv.sub [(E.n0,E.n0),(E.n0+1,E.n0+1024),(E.n0+2,E.n0+3072)] hrn ?_ ?_ ?_ ?_ ?_<;>(try simp[e,show vNm 4=[116,101,120,116] from rfl])
   ·have e:=evK3 h1 h2 h3 h4
    refine hp _ () (by rw[e]; decide) ?_
    have hrn:rnOk [(E.n0,E.n0),(E.n0+1,E.n0+1024),(E.n0+2,E.n0+3072)]:=by simp[e,show vNm 3=[110,117,109,98,101,114] from rfl]
    refine Conv.sub [(E.n0,E.n0),(E.n0+1,E.n0+1024),(E.n0+2,E.n0+3072)] hrn ?_ ?_ ?_ ?_ ?_<;>(try simp[e,show vNm 3=[110,117,109,98,101,114] from rfl])
  refine goc (fun h4=>?_) (fun h4=>?_)<;>simp
  ·have e:=evK5 h1 h2 h3 h4
   refine hp _ () (by rw[e]; decide) ?_
   have hrn:rnOk [(E.n0,E.n0),(E.n0+1,E.n0+1024),(E.n0+2,E.n0+3072)]:=by simp[e,show vNm 5=[116,111] from rfl]
   refine Conv.sub [(E.n0,E.n0),(E.n0+1,E.n0+1024),(E.n0+2,E.n0+3072)] hrn ?_ ?_ ?_ ?_ ?_<;>(try simp[e,show vNm 5=[116,111] from rfl])
  refine goc (fun h5=>?_) (fun h5=>?_)<;>simp
  ·have e:=evK6 h1 h2 h3 h4 h5
   refine hp _ () (by rw[e]; decide) ?_
   have hrn:rnOk [(E.n0,E.n0),(E.n0+1,E.n0+1024),(E.n0+2,E.n0+3072)]:=by simp[e,show vNm 6=[116,111] from rfl]
   refine Conv.sub [(E.n0,E.n0),(E.n0+1,E.n0+1024),(E.n0+2,E.n0+3072)] hrn ?_ ?_ ?_ ?_ ?_<;>(try simp[e,show vNm 6=[116,111] from rfl])
  ·have e:=evK0 h1 h2 h3 h4 h5
   rw[if_pos e] at hmk
   rw[hmk,evX_bad hmk (by decide)] at hR
   rw[hR]; exact rt_end (by simp<;>rfl) [] trivial (end_pure (by simp) (by simp) (by simp))
 ·rw[if_neg hk] at hmk
  refine w_go 13 ?_
  simp
  refine w_cut (X:=Unit) (fun _=>⟨[(0,true,.sl (l.map eTy)),(3,true,.ptr E.n0 0 0),(4,true,.ptr (E.n0+1) 0 0),(6,true,.ptr (E.n0+2) 0 0),(7,true,.str (vNm (evK s))),(10,true,.sl ((namesK (evK s)).map .str))],[(E.n0,some ⟨[.agg [.str s.alias,.str s.name,.sl (s.args.map eAg),.sl (s.kids.map eSel)]],.agg [.str s.alias,.str s.name,.sl (s.args.map eAg),.sl (s.kids.map eSel)],false,false⟩),(E.n0+1,some ⟨[.agg [.int .i64 0,.int .i64 0,.int .i64 0,.int .i64 0,.int .i64 0,.str []]],.agg [.int .i64 0,.int .i64 0,.int .i64 0,.int .i64 0,.int .i64 0,.str []],false,false⟩),(E.n0+2,some ⟨[.agg [.int .i64 (evK s),.int .i64 0,.int .i64 0,.int .i64 0,.int .i64 0,.str []]],.agg [.int .i64 0,.int .i64 0,.int .i64 0,.int .i64 0,.int .i64 0,.str []],false,false⟩)],3⟩) (fun _=>True) (fun p hp=>?_) fun _ _=>?_
  ·refine w_go 4000 ?_
   simp
   refine goc (fun h3=>?_) (fun h3=>?_)<;>simp
   ·have hN:(namesK (evK s)).map AV.str=[.str [116,121,112,101],.str [105,100],.str [102,105,101,108,100],.str (vNm (evK s))]:=by
     have h3:2<evK s:=by simpa using h3
     unfold namesK vNm
     rw[if_neg (by omega),if_neg (by omega)]; rfl
    refine hp _ () trivial ?_
    rw[hN]
    refine Conv.trans (Conv.frz 10 (x:=.bsl (E.n0+8195) 0 4) (x':=.sl [.str [116,121,112,101],.str [105,100],.str [102,105,101,108,100],.str (vNm (evK s))]) (fz:=[(E.n0+8195,⟨[.str [116,121,112,101],.str [105,100],.str [102,105,101,108,100],.str (vNm (evK s))],.str [],false,false⟩)]) (by simp) (by simp) (by simp) (by simp)) ?_
    have hrn:rnOk [(E.n0,E.n0),(E.n0+1,E.n0+1),(E.n0+2,E.n0+2)]:=by simp
    refine Conv.sub [(E.n0,E.n0),(E.n0+1,E.n0+1),(E.n0+2,E.n0+2)] hrn ?_ ?_ ?_ ?_ ?_<;>(try simp)
    exact namesL_pure _ rfl
   ·have hN:(namesK (evK s)).map AV.str=[.str [116,121,112,101],.str [105,100]]:=by
     have h3:¬2<evK s:=by simpa using h3
     have:=evK_le s
     unfold namesK
     rw[if_pos (by omega)]; rfl
    refine hp _ () trivial ?_
    rw[hN]
    refine Conv.trans (Conv.frz 10 (x:=.bsl (E.n0+3) 0 2) (x':=.sl [.str [116,121,112,101],.str [105,100]]) (fz:=[(E.n0+3,⟨[.str [116,121,112,101],.str [105,100]],.str [],false,false⟩)]) (by simp) (by simp) (by simp) (by simp)) ?_
    have hrn:rnOk [(E.n0,E.n0),(E.n0+1,E.n0+1),(E.n0+2,E.n0+2)]:=by simp
    refine Conv.sub [(E.n0,E.n0),(E.n0+1,E.n0+1),(E.n0+2,E.n0+2)] hrn ?_ ?_ ?_ ?_ ?_<;>(try simp)
    exact namesL_pure _ rfl
  refine w_go 4000 ?_
  simp
  refine goc (fun h5=>?_) (fun h5=>?_)<;>simp
  ·have e:argsE s.args (namesK (evK s))=1:=by unfold argsE; rw[if_pos (by simp at h5; omega)]
   rw[e,if_pos (by decide)] at hmk
   rw[hmk,evX_bad hmk (by decide)] at hR
   rw[hR]; exact rt_end (by simp<;>rfl) [] trivial (end_pure (by simp) (by simp) (by simp))
  have e:argsE s.args (namesK (evK s))=argsG s.args (namesK (evK s)) 0:=by unfold argsE; rw[if_neg (by simp at h5; omega)]
  have hn4:=namesK_le (evK s)
  refine w_loop (X:=Nat) (fun i=>⟨[(0,true,.sl (l.map eTy)),(3,true,.ptr E.n0 0 0),(4,true,.ptr (E.n0+1) 0 0),(6,true,.ptr (E.n0+2) 0 0),(7,true,.str (vNm (evK s))),(10,true,.sl ((namesK (evK s)).map .str)),(11,true,.int .i64 i)],[(E.n0,some ⟨[.agg [.str s.alias,.str s.name,.sl (s.args.map eAg),.sl (s.kids.map eSel)]],.agg [.str s.alias,.str s.name,.sl (s.args.map eAg),.sl (s.kids.map eSel)],false,false⟩),(E.n0+1,some ⟨[.agg [.int .i64 0,.int .i64 0,.int .i64 0,.int .i64 0,.int .i64 0,.str []]],.agg [.int .i64 0,.int .i64 0,.int .i64 0,.int .i64 0,.int .i64 0,.str []],false,false⟩),(E.n0+2,some ⟨[.agg [.int .i64 (evK s),.int .i64 0,.int .i64 0,.int .i64 0,.int .i64 0,.str []]],.agg [.int .i64 0,.int .i64 0,.int .i64 0,.int .i64 0,.int .i64 0,.str []],false,false⟩)],3⟩) (fun i=>i≤(namesK (evK s)).length∧∀m∈(namesK (evK s)).take i,hasA s.args m=true) (fun i=>(namesK (evK s)).length - i) 0 ?_ ⟨by omega,by simp⟩ ?_
  ·have hrn:rnOk [(E.n0,E.n0),(E.n0+1,E.n0+1),(E.n0+2,E.n0+2)]:=by simp[names_strs]
   refine Conv.sub [(E.n0,E.n0),(E.n0+1,E.n0+1),(E.n0+2,E.n0+2)] hrn ?_ ?_ ?_ ?_ ?_<;>(try simp[names_strs])
  ·rintro i ⟨hi,hf⟩ p hp
   refine w_go 4000 ?_
   simp
   refine goc (fun h=>?_) (fun h=>?_)
   ·have h:=of_decide_eq_true h
    obtain⟨x,hx,hxm,htk⟩:=namesK_get (by omega:i<(namesK (evK s)).length)
    have hi1:IntKind.i64.wrap ((i:Int)+1)=((i+1:Nat):Int):=wrap64 (by omega)
    simp[hx]
    refine⟨by omega,?_⟩
    (refine w_call hP rfl (hF x _) (by simp) (by simp<;>rfl) ?_; refine w_go 4000 ?_; simp)
    refine goc (fun h6=>?_) (fun h6=>?_)<;>simp
    ·have h6:hasA s.args x=false:=by simpa using h6
     rw[e,argsG_no h6 hxm,if_pos (by decide)] at hmk
     rw[hmk,evX_bad hmk (by decide)] at hR
     rw[hR]; exact rt_end (by simp<;>rfl) [] trivial (end_pure (by simp) (by simp) (by simp))
    ·refine hp _ (i+1) ⟨by omega,fun m hm=>?_⟩ (by omega) ?_
     ·rw[htk] at hm
      rcases List.mem_append.1 hm with hm|hm
      ·exact hf m hm
      ·rw[List.mem_singleton.1 hm]; simpa using h6
     ·have hrn:rnOk [(E.n0,E.n0),(E.n0+1,E.n0+1),(E.n0+2,E.n0+2)]:=by simp[hi1,names_strs]
      refine Conv.sub [(E.n0,E.n0),(E.n0+1,E.n0+1),(E.n0+2,E.n0+2)] hrn ?_ ?_ ?_ ?_ ?_<;>(try simp[hi1,names_strs])
   ·have h:=of_decide_eq_false h
    rw[List.take_of_length_le (by omega)] at hf
    simp
    refine w_loop (X:=Nat) (fun i=>⟨[(0,true,.sl (l.map eTy)),(3,true,.ptr E.n0 0 0),(4,true,.ptr (E.n0+1) 0 0),(6,true,.ptr (E.n0+2) 0 0),(7,true,.str (vNm (evK s))),(10,true,.sl ((namesK (evK s)).map .str)),(14,true,.int .i64 i)],[(E.n0,some ⟨[.agg [.str s.alias,.str s.name,.sl (s.args.map eAg),.sl (s.kids.map eSel)]],.agg [.str s.alias,.str s.name,.sl (s.args.map eAg),.sl (s.kids.map eSel)],false,false⟩),(E.n0+1,some ⟨[.agg [.int .i64 0,.int .i64 0,.int .i64 0,.int .i64 0,.int .i64 0,.str []]],.agg [.int .i64 0,.int .i64 0,.int .i64 0,.int .i64 0,.int .i64 0,.str []],false,false⟩),(E.n0+2,some ⟨[.agg [.int .i64 (evK s),.int .i64 0,.int .i64 0,.int .i64 0,.int .i64 0,.str []]],.agg [.int .i64 0,.int .i64 0,.int .i64 0,.int .i64 0,.int .i64 0,.str []],false,false⟩)],3⟩) (fun i=>i≤(namesK (evK s)).length∧∀m∈(namesK (evK s)).take i,(getA s.args m).isText=isT m) (fun i=>(namesK (evK s)).length - i) 0 ?_ ⟨by omega,by simp⟩ ?_
    ·have hrn:rnOk [(E.n0,E.n0),(E.n0+1,E.n0+1),(E.n0+2,E.n0+2)]:=by simp[names_strs]
     refine Conv.sub [(E.n0,E.n0),(E.n0+1,E.n0+1),(E.n0+2,E.n0+2)] hrn ?_ ?_ ?_ ?_ ?_<;>(try simp[names_strs])
    ·rintro i ⟨hi,hg⟩ p hp
     refine w_go 4000 ?_
     simp
     refine goc (fun h=>?_) (fun h=>?_)
     ·have h:=of_decide_eq_true h
      obtain⟨x,hx,hxm,htk⟩:=namesK_get (by omega:i<(namesK (evK s)).length)
      have hi1:IntKind.i64.wrap ((i:Int)+1)=((i+1:Nat):Int):=wrap64 (by omega)
      simp[hx]
      refine⟨by omega,?_⟩
      (refine w_call hP rfl (hF x _) (by simp[hx]) (by simp[hx]<;>rfl) ?_; refine w_go 4000 ?_; simp[hx])
      refine⟨by omega,fun a=>⟨a,by omega⟩,fun a b=>⟨⟨a,b⟩,by omega⟩,?_⟩
      refine goc (fun h6=>?_) (fun h6=>?_)<;>simp
      ·have h6:¬(getA s.args x).isText=isT x:=by simpa [isT,nType,nField,nText] using h6
       have e7:argsG s.args (namesK (evK s)) 0=7:=by rw[argsG_all hf,if_neg (fun g=>h6 (g x hxm))]
       rw[e,e7,if_pos (by decide)] at hmk
       rw[hmk,evX_bad hmk (by decide)] at hR
       rw[hR]; exact rt_end (by simp<;>rfl) [] trivial (end_pure (by simp) (by simp) (by simp))
      ·have h6:(getA s.args x).isText=isT x:=by simpa [isT,nType,nField,nText] using h6
       refine hp _ (i+1) ⟨by omega,fun m hm=>?_⟩ (by omega) ?_
       ·rw[htk] at hm
        rcases List.mem_append.1 hm with hm|hm
        ·exact hg m hm
        ·rw[List.mem_singleton.1 hm]; exact h6
       ·have hrn:rnOk [(E.n0,E.n0),(E.n0+1,E.n0+1),(E.n0+2,E.n0+2)]:=by simp[hi1,names_strs]
        refine Conv.sub [(E.n0,E.n0),(E.n0+1,E.n0+1),(E.n0+2,E.n0+2)] hrn ?_ ?_ ?_ ?_ ?_<;>(try simp[hi1,names_strs])
     ·have h:=of_decide_eq_false h
      rw[List.take_of_length_le (by omega)] at hg
      rw[argsG_all hf,if_pos hg] at e
      rw[e,if_neg (by decide)] at hmk
      simp
      (refine w_call hP rfl (hFT _) (by simp) (by simp<;>rfl) ?_; refine w_go 4000 ?_; simp)
      (refine w_call hP rfl (hFt _) (by simp) (by simp<;>rfl) ?_; refine w_go 4000 ?_; simp)
      refine goc (fun h7=>?_) (fun h7=>?_)<;>simp
      ·rw[if_pos (by simpa using h7)] at hmk
       rw[hmk,evX_bad hmk (by decide)] at hR
       rw[hR]; exact rt_end (by simp<;>rfl) [] trivial (end_pure (by simp) (by simp) (by simp))
      have h7:¬tyI l s<0:=by simpa using h7
      rw[if_neg h7] at hmk
      obtain⟨k,t,hty,hkl,hlk⟩:=tyI_get h7
      have hfl:fldsAt l (tyI l s)=t.fields:=fldsAt_get (by rw[hty]; exact hlk)
      have hFo:=fun id=>FieldAt_ok t.fields aF.text id (by have:=hf8 t (List.mem_of_getElem? hlk); omega)
      rw[show findJ (fun x=>x.name==aF.text) t.fields 0=fdI l s by unfold fdI; rw[hfl,hFd]] at hFo
      have hxT:eTy t = .agg [.str t.name,.sl (t.fields.map eFd)]:=rfl
      (refine w_call hP rfl (hFI _) (by simp) (by simp<;>rfl) ?_; refine w_go 4000 ?_; simp)
      refine goc (fun h8=>?_) (fun h8=>?_)<;>simp
      ·have h8:2<evK s:=by simpa using h8
       (refine w_call hP rfl (hFF _) (by simp) (by simp<;>rfl) ?_; refine w_go 4000 ?_; simp)
       rw[hty]
       simp[hlk,hxT]
       refine⟨hkl,?_⟩
       (refine w_call hP rfl (hFo _) (by simp[hlk,hxT]) (by simp[hlk,hxT]<;>rfl) ?_; refine w_go 4000 ?_; simp[hlk,hxT])
       refine goc (fun h9=>?_) (fun h9=>?_)<;>simp
       ·rw[if_pos ⟨h8,by simpa using h9⟩] at hmk
        rw[hmk,evX_bad hmk (by decide)] at hR
        rw[hR]; exact rt_end (by simp<;>rfl) [] trivial (end_pure (by simp) (by simp) (by simp))
       ·rw[if_neg (fun g=>by simp at h9; omega)] at hmk
        have hv:valA s=aV:=by
         unfold valA
         rw[if_pos h8,←hVa]
         unfold vNm
         rw[if_neg (by omega)]
        rw[hmk,hxe hmk,if_pos h8,hv,hty] at hR
        (refine w_call hP rfl (hFV _) (by simp) (by simp<;>rfl) ?_; refine w_go 4000 ?_; simp)
        rw[hR]; exact rt_end (by simp<;>rfl) [] trivial (end_pure (by simp) (by simp) (by simp))
      ·have h8:¬2<evK s:=by simpa using h8
       rw[if_neg (fun g=>h8 g.1)] at hmk
       have hv:valA s=ag0:=by unfold valA; rw[if_neg h8]
       rw[hmk,hxe hmk,if_neg h8,hv] at hR
       rw[hR]; exact rt_end (by simp<;>rfl) [] trivial (end_pure (by simp; simp[ag0]) (by simp) (by simp))
end Go.Am
namespace Go.Am
set_option linter.all false
open Go Go.RowKit Go.Proofs
set_option maxRecDepth 100000
set_option linter.all false
set_option maxHeartbeats 2000000 in
theorem EventsOf_ok(l:List Ty)(q:List Sel)(id:Nat)(hA:∀s∈q,fArgs s.args=0)(hl8:l.length≤1000)(hf8:∀t∈l,t.fields.length≤1000)(hq8:q.length≤1000000):FnOk Tryz.prog 10 [.sl (l.map eTy),.sl (q.map eSel)] [] id (.tup [evV (ofE l q) (evsOf l q),.int .i64 (ofE l q)]) []:=by
 have hE:=fun s (hs:s∈q) id=>eventOf_ok l s id (hA s hs) hl8 hf8
 refine fn_okc Tryz.func10 hcc10 (by decide) hcr10 (by simp[Tryz.ntmps10]) fun E hP hR hl hid=>?_
 simp only[cr10] at hR
 refine w_go 4000 ?_
 simp[cc10]
 refine w_loop (X:=Nat) (fun i=>⟨[(0,true,.sl (l.map eTy)),(1,true,.sl (q.map eSel)),(6,true,.bsl E.n0 0 i),(7,true,.int .i64 i)],[(E.n0,some ⟨((evsOf l q).take i).map eEv,.agg [.int .i64 0,.int .i64 0,.int .i64 0,.int .i64 0,.int .i64 0,.str []],false,false⟩)],1⟩)
  (fun i=>i≤q.length∧firstE (mkE l) (q.drop i)=firstE (mkE l) q) (fun i=>q.length - i) 0 ?_ ⟨by simp,rfl⟩ ?_
 ·refine Conv.trans (Conv.voidSlot 6 (x:=.nils) (y:=.bsl (E.n0+4096) 0 0) (by simp) .nils (.agg [.int .i64 0,.int .i64 0,.int .i64 0,.int .i64 0,.int .i64 0,.str []])) ?_
  have hrn:rnOk [(E.n0,E.n0+4096)]:=by simp
  refine Conv.sub [(E.n0,E.n0+4096)] hrn ?_ ?_ ?_ ?_ ?_<;>(try simp)
 ·rintro i ⟨hi,hf⟩ p hp
  refine w_go 4000 ?_
  simp
  refine goc (fun h=>?_) (fun h=>?_)
  ·have h:=of_decide_eq_true h
   obtain⟨x,hx,hd⟩:=drop_cons h
   have hi1:IntKind.i64.wrap ((i:Int)+1)=((i+1:Nat):Int):=wrap64 (by omega)
   have hxm:=List.mem_of_getElem? hx
   rw[hd] at hf
   simp only[firstE] at hf
   simp[hx,eSel_eq x]
   refine⟨h,?_⟩
   have hEx:=hE x hxm
   have hxe:mkE l x=0→evX l x=mkX l x:=evX_ok
   generalize evX l x=e at *
   simp only[eSel_eq x,show eEv e = .agg [.int .i64 e.kind,.int .i64 e.type,.int .i64 e.id,.int .i64 e.field,.int .i64 e.n,.str e.text] from rfl] at hEx
   (refine w_call hP rfl (hEx _) (by simp) (by simp<;>rfl) ?_; refine w_go 4000 ?_; simp)
   refine goc (fun h1=>?_) (fun h1=>?_)<;>simp
   ·have h1:mkE l x≠0:=by simpa using h1
    rw[if_pos h1] at hf
    have hv:ofE l q=mkE l x:=by unfold ofE; rw[←hf,if_pos h1]
    rw[hv,evV_bad h1] at hR
    rw[hR]; exact rt_end (by simp<;>rfl) [] trivial (end_pure (by simp) (by simp) (by simp))
   ·have h1:mkE l x=0:=by simpa using h1
    rw[if_neg (by simpa using h1)] at hf
    have he:=hxe h1
    have hxs:((evsOf l q).map eEv)[i]?=some (eEv (mkX l x)):=by unfold evsOf; simp[hx]
    have hts:=take_snoc hxs
    rw[←he] at hts
    refine⟨⟨by simp[evsOf]; omega,by omega,by omega⟩,?_⟩
    refine hp _ (i+1) ⟨h,hf⟩ (by omega) ?_
    have hrn:rnOk [(E.n0,E.n0+21505)]:=by simp[hi1]
    refine Conv.sub [(E.n0,E.n0+21505)] hrn ?_ ?_ ?_ ?_ ?_<;>(try simp[hi1])
    exact renL_pure hts.symm (by rw[←List.map_take,←List.map_take] at hts; rw[←List.map_take]; exact pureL_append (pure_evs _) rfl)
  ·have h:=of_decide_eq_false h
   have hiq:i=q.length:=by omega
   have htk:((evsOf l q).map eEv).take i=(evsOf l q).map eEv:=List.take_of_length_le (by simp[evsOf]; omega)
   simp
   rw[List.drop_of_length_le (by omega)] at hf
   have hf:firstE (mkE l) q=0:=hf.symm
   refine goc (fun h1=>?_) (fun h1=>?_)<;>simp
   ·have hv:ofE l q=2:=by unfold ofE; rw[if_neg (by simpa using hf),if_pos (by simp at h1; omega)]
    rw[hv,show evV 2 (evsOf l q) = .nils from rfl] at hR
    rw[hR]; exact rt_end (by simp<;>rfl) [] trivial (end_pure (by simp) (by simp) (by simp))
   ·have hv:ofE l q=0:=by unfold ofE; rw[if_neg (by simpa using hf),if_neg (by simp at h1; omega)]
    rw[hv,show evV 0 (evsOf l q) = .sl ((evsOf l q).map eEv) from rfl] at hR
    have hln:(evsOf l q).length=q.length:=by simp[evsOf]
    subst hiq
    have hrn:rnOk []:=by simp[htk,hln,idO hid]
    rw[hR]
    refine rt_endR (by simp<;>rfl) (by simp[htk,hln,idO hid]<;>exact⟨rfl,rfl⟩) [] hrn ⟨?_,?_,?_,?_,?_,?_⟩<;>(try simp[htk,hln,idO hid])
end Go.Am
