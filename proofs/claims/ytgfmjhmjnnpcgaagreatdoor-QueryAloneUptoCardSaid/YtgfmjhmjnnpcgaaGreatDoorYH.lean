/- Parts of the proof: an abstract machine for Go functions, and what functions of the program give back (Lx13, Lx14, Sx1, Lx15). No condition. -/
import Derived.Test.YtgfmjhmjnnpcgaaGreatDoorYG
import Derived.Test.YtgfmjhmjnnpcgaaGreatDoorYA
import Derived.Test.YtgfmjhmjnnpcgaaGreatDoorYC
import Derived.Test.YtgfmjhmjnnpcgaaGreatDoorXH
namespace Go.Am
set_option linter.all false
open Go Go.RowKit Go.Proofs
set_option maxRecDepth 100000
set_option linter.all false
theorem Read_ok(s:List UInt8)(id:Nat):FnOk Tryz.prog 13 [.str s] [] id (lexV (fLex s)) []:=by
 by_cases h:2000<s.length
 ·have e:lexV (fLex s) = .tup [.nils,.int .i64 2]:=by unfold fLex; rw[if_pos h]; rfl
  rw[e]
  refine fn_okc Tryz.func13 hcc13 (by decide) hcr13 (by simp[Tryz.ntmps13]) fun E hP hR hl hid=>?_
  simp only[cr13] at hR
  refine w_go 4000 ?_
  simp[cc13]
  refine goc_true (by simp; omega) ?_
  simp
  rw[hR]; exact rt_end (by simp<;>rfl) [] trivial (end_pure (by simp) (by simp) (by simp))
 ·have e:fLex s=fAll s:=by unfold fLex; rw[if_neg h]
  have hA:=fun id=>All_ok s id (by omega)
  rw[e]
  cases hf:fAll s with
  | ok l =>
   rw[hf] at hA
   have hA:∀id,FnOk Tryz.prog 37 [.str s] [] id (.tup [.sl (l.map eTk),.int .i64 0]) []:=hA
   show FnOk _ _ _ _ _ (.tup [.sl (l.map eTk),.int .i64 0]) _
   refine fn_okc Tryz.func13 hcc13 (by decide) hcr13 (by simp[Tryz.ntmps13]) fun E hP hR hl hid=>?_
   simp only[cr13] at hR
   refine w_go 4000 ?_
   simp[cc13]
   refine goc_false (by simp; omega) ?_
   simp
   (refine w_call hP rfl (hA _) (by simp) (by simp<;>rfl) ?_; refine w_go 4000 ?_; simp)
   rw[hR]; exact rt_end (by simp<;>rfl) [] trivial (end_pure (by simp) (by simp) (by simp))
  | error e =>
   rw[hf] at hA
   have hA:∀id,FnOk Tryz.prog 37 [.str s] [] id (.tup [.nils,.int .i64 e]) []:=hA
   show FnOk _ _ _ _ _ (.tup [.nils,.int .i64 e]) _
   refine fn_okc Tryz.func13 hcc13 (by decide) hcr13 (by simp[Tryz.ntmps13]) fun E hP hR hl hid=>?_
   simp only[cr13] at hR
   refine w_go 4000 ?_
   simp[cc13]
   refine goc_false (by simp; omega) ?_
   simp
   (refine w_call hP rfl (hA _) (by simp) (by simp<;>rfl) ?_; refine w_go 4000 ?_; simp)
   rw[hR]; exact rt_end (by simp<;>rfl) [] trivial (end_pure (by simp) (by simp) (by simp))
end Go.Am
namespace Go.Am
set_option linter.all false
open Go Go.RowKit Go.Proofs
set_option maxRecDepth 100000
set_option linter.all false
end Go.Am
namespace Go.Am
set_option linter.all false
open Go Go.RowKit Go.Proofs
set_option maxRecDepth 100000
set_option linter.all false
def isS(l:List Tk)(c:UInt8):Bool:=match l with
 | t::_=>t.kind==4&&t.text==[c]
 | []=>false
def isW(l:List Tk):Bool:=match l with
 | t::_=>t.kind==1
 | []=>false
def txt(l:List Tk):List UInt8:=match l with
 | t::_=>t.text
 | []=>[]
def tkW(s:List UInt8):Tk:=⟨1,s,0⟩
def tkS(c:UInt8):Tk:=⟨4,[c],0⟩
theorem fIx_zero{α:Type}(f:Nat→α→Int):∀(l:List α) (i:Nat),firstIx f l i=0↔∀k x,l[k]?=some x→f (i+k) x=0
 | [],i=>by simp[firstIx]
 | x::l,i=>by
  have ih:=fIx_zero f l (i+1)
  unfold firstIx
  split
  ·rename_i h
   constructor
   ·intro q; exact (h q).elim
   ·intro q; exact (h (q 0 x rfl)).elim
  ·rename_i h
   have h:f i x=0:=by simpa using h
   rw[ih]
   constructor
   ·intro q k y hy
    cases k with
    | zero=>injection hy with hy; rw[←hy]; exact h
    | succ k=>rw[show i+(k+1)=i+1+k by omega]; exact q k y hy
   ·intro q k y hy
    rw[show i+1+k=i+(k+1) by omega]; exact q (k+1) y hy
theorem ite0{p:Prop}[Decidable p]{a b:Int}(h:(if p then a else b)=0)(ha:a≠0):¬p∧b=0:=by
 split at h
 ·exact (ha h).elim
 ·exact⟨‹_›,h⟩
theorem iteS{a b:Int}(h:(if a≠0 then a else b)=0):a=0∧b=0:=by
 split at h
 ·exact (‹a≠0› h).elim
 ·exact⟨by simpa using ‹¬a≠0›,h⟩
theorem mem_ix{α:Type}{l:List α}{x:α}(h:x∈l):∃i:Nat,l[i]?=some x:=by
 obtain⟨i,hi,e⟩:=List.getElem_of_mem h
 exact⟨i,by rw[List.getElem?_eq_getElem hi,e]⟩
theorem tkW_ok{s:List UInt8}(h:fName s=0):fTk (tkW s)=0:=by simp[fTk,tkW,h]
theorem fName_le{s:List UInt8}(h:fName s=0):s.length≤12:=by
 unfold fName at h
 split at h
 ·cases h
 ·omega
def wSum(l:List Tk):Nat:=(l.map fun t=>(wrTk t).length+1).sum
theorem wSum_app(a b:List Tk):wSum (a++b)=wSum a+wSum b:=by simp[wSum]
theorem tkB_len(l:List Tk):(tkB l).length≤wSum l:=by
 cases l with
 | nil=>simp[tkB_nil]
 | cons t l =>
  rw[tkB_cons]
  have:(l.flatMap fun x=>32::wrTk x).length=wSum l:=by
   induction l with
   | nil=>rfl
   | cons u l ih=>simp[wSum] at ih ⊢; omega
  rw[List.length_append,this]
  simp[wSum]
def Few(l:List Tk)(a b:Nat):Prop:=(∀t∈l,fTk t=0)∧l.length≤a∧wSum l≤b
theorem Few.app{l m:List Tk}{a b c d:Nat}(h1:Few l a b)(h2:Few m c d):Few (l++m) (a+c) (b+d):=by
 refine⟨fun t ht=>?_,?_,?_⟩
 ·rcases List.mem_append.1 ht with h|h
  ·exact h1.1 t h
  ·exact h2.1 t h
 ·have:=h1.2.1; have:=h2.2.1; simp; omega
 ·have:=h1.2.2; have:=h2.2.2; rw[wSum_app]; omega
theorem Few.mono{l:List Tk}{a b c d:Nat}(h:Few l a b)(h1:a≤c)(h2:b≤d):Few l c d:=⟨h.1,Nat.le_trans h.2.1 h1,Nat.le_trans h.2.2 h2⟩
end Go.Am
namespace Go.Am
set_option linter.all false
open Go Go.RowKit Go.Proofs
set_option maxRecDepth 100000
set_option linter.all false
def Wri(t:Tk):Prop:=∀id,FnOk Tryz.prog 76 [eTk t] [] id (.str (wrTk t)) []
theorem wri_num(n:Int)(tx:List UInt8)(h : -999999999≤n∧n≤999999999):Wri ⟨2,tx,n⟩:=fun id=>by
 have hI:=fun id=>Itoa_ok n id (by unfold I64; omega)
 unfold eTk
 have e:wrTk ⟨2,tx,n⟩=Lib.itoa n:=by simp[wrTk]
 rw[e]
 refine fn_okc Tryz.func76 hcc76 (by decide) hcr76 (by simp[Tryz.ntmps76]) fun E hP hR hl hid=>?_
 simp only[cr76] at hR
 refine w_go 4000 ?_
 simp[cc76]
 (refine w_call hP rfl (hI _) (by simp) (by simp<;>rfl) ?_; refine w_go 4000 ?_; simp)
 rw[hR]; exact rt_end (by simp<;>rfl) [] trivial (end_pure (by simp) (by simp) (by simp))
theorem wri_oth(k n:Int)(tx:List UInt8)(h2:k≠2)(h3:k≠3):Wri ⟨k,tx,n⟩:=fun id=>by
 unfold eTk
 have e:wrTk ⟨k,tx,n⟩=tx:=by simp[wrTk,h2,h3]
 rw[e]
 have e2:(k==2)=false:=by simpa using h2
 have e3:(k==3)=false:=by simpa using h3
 refine fn_okc Tryz.func76 hcc76 (by decide) hcr76 (by simp[Tryz.ntmps76]) fun E hP hR hl hid=>?_
 simp only[cr76] at hR
 refine w_go 4000 ?_
 simp[cc76]
 refine goc_false e2 ?_
 simp
 refine goc_false e3 ?_
 simp
 rw[hR]; exact rt_end (by simp<;>rfl) [] trivial (end_pure (by simp) (by simp) (by simp))
theorem pure_strs(l:List (List UInt8)):pureL (l.map AV.str)=true:=pureL_map (fun _=>rfl) l
theorem pureL_tk{l:List AV}(h:pureL l=true)(n:Nat):pureL (l.take n)=true:=pureL_of fun i x hx=>by
 rw[List.getElem?_take] at hx
 split at hx
 ·exact pureL_get h hx
 ·cases hx
set_option maxHeartbeats 4000000 in
theorem tBytes_ok(l:List Tk)(id:Nat)(hW:∀t∈l,Wri t)(h8:wSum l≤1099511627776)(h9:l.length≤1099511627776):FnOk Tryz.prog 39 [.sl (l.map eTk)] [] id (.str (tkB l)) []:=by
 have hjl:(Lib.join (l.map wrTk) [32]).length≤140737488355328:=by
  have:=tkB_len l
  unfold tkB at this; omega
 have hres:(.str (tkB l):AV) = .str (Lib.join (l.map wrTk) [32]):=rfl
 rw[hres]
 have hxi:∀(i:Nat) (t:Tk),l[i]?=some t→(l.map wrTk)[i]?=some (wrTk t):=fun i t h=>by rw[List.getElem?_map,h]; rfl
 have hxl:(l.map wrTk).length=l.length:=by simp
 generalize l.map wrTk=xs at *
 refine fn_okc Tryz.func39 hcc39 (by decide) hcr39 (by simp[Tryz.ntmps39]) fun E hP hR hl hid=>?_
 simp only[cr39] at hR
 refine w_go 4000 ?_
 simp[cc39]
 refine w_loop (X:=Nat) (fun i=>⟨[(3,true,.bsl E.n0 0 i),(6,true,.sl (l.map eTk)),(7,true,.int .i64 l.length),(8,true,.int .i64 i)],[(E.n0,some ⟨(xs.map AV.str).take i,.str [],false,false⟩)],1⟩)
  (fun i=>i≤l.length) (fun i=>l.length - i) 0 ?_ (by omega) ?_
 ·refine Conv.trans (Conv.voidSlot 3 (x:=.nils) (y:=.bsl (E.n0+5120) 0 0) (by simp) .nils (.str [])) ?_
  have hrn:rnOk [(E.n0,E.n0+5120)]:=by simp
  refine Conv.sub [(E.n0,E.n0+5120)] hrn ?_ ?_ ?_ ?_ ?_<;>(try simp)
 rintro i hi p hp
 rcases Nat.lt_or_ge i l.length with h|h
 ·obtain⟨t,ht,hd⟩:=drop_cons h
  have hli:l[i]=t:=by
   rw[List.getElem?_eq_getElem h] at ht
   injection ht
  have hi1:IntKind.i64.wrap ((i:Int)+1)=((i+1:Nat):Int):=wrap64 (by omega)
  have hw:=hW t (List.mem_of_getElem? ht)
  unfold Wri eTk at hw
  have hst:(xs.map AV.str).take (i+1)=(xs.map AV.str).take i++[.str (wrTk t)]:=take_snoc (by rw[List.getElem?_map,hxi i t ht]; rfl)
  refine w_go 4000 ?_
  simp[h,hli,eTk]
  (refine w_call hP rfl (hw _) (by simp) (by simp<;>rfl) ?_; refine w_go 4000 ?_; simp)
  refine⟨⟨by omega,by omega,by omega⟩,?_⟩
  refine hp _ (i+1) h (by omega) ?_
  have hrn:rnOk [(E.n0,E.n0+9217)]:=by simp[hi1,hst]
  refine Conv.sub [(E.n0,E.n0+9217)] hrn ?_ ?_ ?_ ?_ ?_<;>(try simp[hi1,hst])
  exact renL_pure rfl (pureL_append (pureL_tk (pure_strs _) _) rfl)
 ·have hil:i=l.length:=by omega
  have hka:(xs.map AV.str).take i=xs.map AV.str:=List.take_of_length_le (by simp; omega)
  have hle:i≤xs.length:=by omega
  have hJo:=fun id=>Join_ok xs [32] id (by omega) hjl
  refine w_go 4000 ?_
  simp[Nat.not_lt.2 h,hka]
  (refine w_callR hP rfl (hJo _) (by simp[hka,hle]<;>rfl) (by simp[hka,hle]) (by simp[hka,hle]<;>rfl) (by simp[hka,hle]) ?_; refine w_go 4000 ?_; simp[hka,hle])
  rw[hR]; exact rt_end (by simp<;>rfl) [] trivial (end_pure (by simp) (by simp) (by simp))
end Go.Am
