/- Parts of the proof: an abstract machine for Go functions, and what functions of the program give back (Qr15, Qr16, Qr17, Lx14, Lx15, Qr18, St1, St2, Am57, CcRp, Lk1, Rp1, Am58, Rp2, Rp3). No condition. -/
import Derived.Test.YtgfmjhmjnnpcgaaGreatDoorXL
import Derived.Test.YtgfmjhmjnnpcgaaGreatDoorXJ
import Derived.Test.YtgfmjhmjnnpcgaaGreatDoorXH
import Derived.Test.YtgfmjhmjnnpcgaaGreatDoorXK
import Derived.Test.YtgfmjhmjnnpcgaaGreatDoorXE
import Derived.Test.YtgfmjhmjnnpcgaaGreatDoorProg
import Derived.KernelRfl
import Derived.Conc.MuLone
import Derived.Laws.LoneSync
import Derived.Tactics
import Derived.Tactics2
import Derived.Defers
import Derived.Laws.Pointers
import Derived.RegionTactic
import Derived.RegionCalls
import Derived.ChangeAlike
namespace Go.Am
set_option linter.all false
open Go Go.RowKit Go.Proofs
set_option maxRecDepth 100000
set_option linter.all false
end Go.Am
namespace Go.Am
set_option linter.all false
open Go Go.RowKit Go.Proofs
set_option maxRecDepth 100000
set_option linter.all false
def toB(l:List Tk):Bx:=⟨l.map eTk,.agg [.int .i64 0,.str [],.int .i64 0],false,false⟩
end Go.Am
namespace Go.Am
set_option linter.all false
open Go Go.RowKit Go.Proofs
set_option maxRecDepth 100000
set_option linter.all false
end Go.Am
namespace Go.Am
set_option linter.all false
open Go Go.RowKit Go.Proofs
set_option maxRecDepth 100000
set_option linter.all false
set_option maxHeartbeats 4000000 in
theorem tCheck_ok(l:List Tk)(id:Nat):FnOk Tryz.prog 20 [.sl (l.map eTk)] [] id (.int .i64 (fTks l)) []:=by
 by_cases hm:300<l.length
 ·have e:fTks l=2:=by unfold fTks; rw[if_pos hm]
  rw[e]
  refine fn_okc Tryz.func20 hcc20 (by decide) hcr20 (by simp[Tryz.ntmps20]) fun E hP hR hl hid=>?_
  simp only[cr20] at hR
  refine w_go 4000 ?_
  simp[cc20]
  refine goc_true (by simp; omega) ?_
  simp
  rw[hR]; exact rt_end (by simp<;>rfl) [] trivial (end_pure (by simp) (by simp) (by simp))
 have e:fTks l=fTkL l:=by unfold fTks; rw[if_neg hm]
 rw[e]
 refine fn_okc Tryz.func20 hcc20 (by decide) hcr20 (by simp[Tryz.ntmps20]) fun E hP hR hl hid=>?_
 simp only[cr20] at hR
 refine w_go 4000 ?_
 simp[cc20]
 refine goc_false (by simp; omega) ?_
 simp
 refine w_loop (X:=Nat) (fun i=>⟨[(9,true,.sl (l.map eTk)),(10,true,.int .i64 l.length),(11,true,.int .i64 i)],[],0⟩)
  (fun i=>i≤l.length∧fTkL (l.drop i)=fTkL l) (fun i=>l.length - i) 0 ?_ ⟨by omega,rfl⟩ ?_
 ·have hrn:rnOk []:=by simp
  refine Conv.sub [] hrn ?_ ?_ ?_ ?_ ?_<;>(try simp)
 rintro i ⟨hi,hf⟩ p hp
 rcases Nat.lt_or_ge i l.length with h|h
 ·obtain⟨t,ht,hd⟩:=drop_cons h
  have hi1:IntKind.i64.wrap ((i:Int)+1)=((i+1:Nat):Int):=wrap64 (by omega)
  have hO:=fun id=>one_ok t id
  unfold eTk at hO
  have hli:l[i]=t:=by
   rw[List.getElem?_eq_getElem h] at ht
   injection ht
  rw[hd] at hf
  simp only[fTkL] at hf
  refine w_go 4000 ?_
  simp[h,hli,eTk]
  (refine w_call hP rfl (hO _) (by simp) (by simp<;>rfl) ?_; refine w_go 4000 ?_; simp)
  by_cases h0:fTk t=0
  ·rw[if_neg (by simpa using h0)] at hf
   refine goc_false (by simp[h0]) ?_
   simp
   refine hp _ (i+1) ⟨h,hf⟩ (by omega) ?_
   have hrn:rnOk []:=by simp[hi1]
   refine Conv.sub [] hrn ?_ ?_ ?_ ?_ ?_<;>(try simp[hi1])
  ·rw[if_pos h0] at hf
   rw[←hf] at hR
   refine goc_true (by simpa using h0) ?_
   simp
   rw[hR]; exact rt_end (by simp<;>rfl) [] trivial (end_pure (by simp) (by simp) (by simp))
 ·rw[List.drop_of_length_le h] at hf
  have hf:0=fTkL l:=hf
  rw[←hf] at hR
  refine w_go 4000 ?_
  simp[Nat.not_lt.2 h]
  rw[hR]; exact rt_end (by simp<;>rfl) [] trivial (end_pure (by simp) (by simp) (by simp))
end Go.Am
namespace Go.Am
set_option linter.all false
open Go Go.RowKit Go.Proofs
set_option maxRecDepth 100000
set_option linter.all false
def Wri(t:Tk):Prop:=∀id,FnOk Tryz.prog 76 [eTk t] [] id (.str (wrTk t)) []
theorem wri_num(n:Int)(tx:List UInt8)(h : -999999999≤n∧n≤999999999):Wri ⟨2,tx,n⟩:=fun id=>by
 have hI:=fun id=>Itoa_ok n id (by unfold I64; omega)
 unfold eTk
 have e:wrTk ⟨2,tx,n⟩=Lib.itoa n:=by simp[wrTk]
 rw[e]
 refine fn_okc Tryz.func76 hcc76 (by decide) hcr76 (by simp[Tryz.ntmps76]) fun E hP hR hl hid=>?_
 simp only[cr76] at hR
 refine w_go 4000 ?_
 simp[cc76]
 (refine w_call hP rfl (hI _) (by simp) (by simp<;>rfl) ?_; refine w_go 4000 ?_; simp)
 rw[hR]; exact rt_end (by simp<;>rfl) [] trivial (end_pure (by simp) (by simp) (by simp))
theorem wri_oth(k n:Int)(tx:List UInt8)(h2:k≠2)(h3:k≠3):Wri ⟨k,tx,n⟩:=fun id=>by
 unfold eTk
 have e:wrTk ⟨k,tx,n⟩=tx:=by simp[wrTk,h2,h3]
 rw[e]
 have e2:(k==2)=false:=by simpa using h2
 have e3:(k==3)=false:=by simpa using h3
 refine fn_okc Tryz.func76 hcc76 (by decide) hcr76 (by simp[Tryz.ntmps76]) fun E hP hR hl hid=>?_
 simp only[cr76] at hR
 refine w_go 4000 ?_
 simp[cc76]
 refine goc_false e2 ?_
 simp
 refine goc_false e3 ?_
 simp
 rw[hR]; exact rt_end (by simp<;>rfl) [] trivial (end_pure (by simp) (by simp) (by simp))
theorem pure_strs(l:List (List UInt8)):pureL (l.map AV.str)=true:=pureL_map (fun _=>rfl) l
theorem pureL_tk{l:List AV}(h:pureL l=true)(n:Nat):pureL (l.take n)=true:=pureL_of fun i x hx=>by
 rw[List.getElem?_take] at hx
 split at hx
 ·exact pureL_get h hx
 ·cases hx
set_option maxHeartbeats 4000000 in
theorem tBytes_ok(l:List Tk)(id:Nat)(hW:∀t∈l,Wri t)(h8:wSum l≤1099511627776)(h9:l.length≤1099511627776):FnOk Tryz.prog 39 [.sl (l.map eTk)] [] id (.str (tkB l)) []:=by
 have hjl:(Lib.join (l.map wrTk) [32]).length≤140737488355328:=by
  have:=tkB_len l
  unfold tkB at this; omega
 have hres:(.str (tkB l):AV) = .str (Lib.join (l.map wrTk) [32]):=rfl
 rw[hres]
 have hxi:∀(i:Nat) (t:Tk),l[i]?=some t→(l.map wrTk)[i]?=some (wrTk t):=fun i t h=>by rw[List.getElem?_map,h]; rfl
 have hxl:(l.map wrTk).length=l.length:=by simp
 generalize l.map wrTk=xs at *
 refine fn_okc Tryz.func39 hcc39 (by decide) hcr39 (by simp[Tryz.ntmps39]) fun E hP hR hl hid=>?_
 simp only[cr39] at hR
 refine w_go 4000 ?_
 simp[cc39]
 refine w_loop (X:=Nat) (fun i=>⟨[(3,true,.bsl E.n0 0 i),(6,true,.sl (l.map eTk)),(7,true,.int .i64 l.length),(8,true,.int .i64 i)],[(E.n0,some ⟨(xs.map AV.str).take i,.str [],false,false⟩)],1⟩)
  (fun i=>i≤l.length) (fun i=>l.length - i) 0 ?_ (by omega) ?_
 ·refine Conv.trans (Conv.voidSlot 3 (x:=.nils) (y:=.bsl (E.n0+5120) 0 0) (by simp) .nils (.str [])) ?_
  have hrn:rnOk [(E.n0,E.n0+5120)]:=by simp
  refine Conv.sub [(E.n0,E.n0+5120)] hrn ?_ ?_ ?_ ?_ ?_<;>(try simp)
 rintro i hi p hp
 rcases Nat.lt_or_ge i l.length with h|h
 ·obtain⟨t,ht,hd⟩:=drop_cons h
  have hli:l[i]=t:=by
   rw[List.getElem?_eq_getElem h] at ht
   injection ht
  have hi1:IntKind.i64.wrap ((i:Int)+1)=((i+1:Nat):Int):=wrap64 (by omega)
  have hw:=hW t (List.mem_of_getElem? ht)
  unfold Wri eTk at hw
  have hst:(xs.map AV.str).take (i+1)=(xs.map AV.str).take i++[.str (wrTk t)]:=take_snoc (by rw[List.getElem?_map,hxi i t ht]; rfl)
  refine w_go 4000 ?_
  simp[h,hli,eTk]
  (refine w_call hP rfl (hw _) (by simp) (by simp<;>rfl) ?_; refine w_go 4000 ?_; simp)
  refine⟨⟨by omega,by omega,by omega⟩,?_⟩
  refine hp _ (i+1) h (by omega) ?_
  have hrn:rnOk [(E.n0,E.n0+9217)]:=by simp[hi1,hst]
  refine Conv.sub [(E.n0,E.n0+9217)] hrn ?_ ?_ ?_ ?_ ?_<;>(try simp[hi1,hst])
  exact renL_pure rfl (pureL_append (pureL_tk (pure_strs _) _) rfl)
 ·have hil:i=l.length:=by omega
  have hka:(xs.map AV.str).take i=xs.map AV.str:=List.take_of_length_le (by simp; omega)
  have hle:i≤xs.length:=by omega
  have hJo:=fun id=>Join_ok xs [32] id (by omega) hjl
  refine w_go 4000 ?_
  simp[Nat.not_lt.2 h,hka]
  (refine w_callR hP rfl (hJo _) (by simp[hka,hle]<;>rfl) (by simp[hka,hle]) (by simp[hka,hle]<;>rfl) (by simp[hka,hle]) ?_; refine w_go 4000 ?_; simp[hka,hle])
  rw[hR]; exact rt_end (by simp<;>rfl) [] trivial (end_pure (by simp) (by simp) (by simp))
end Go.Am
namespace Go.Am
set_option linter.all false
open Go Go.RowKit Go.Proofs
set_option maxRecDepth 100000
set_option linter.all false
end Go.Am
namespace Go.Am
set_option linter.all false
open Go Go.RowKit Go.Proofs
set_option maxRecDepth 100000
set_option linter.all false
theorem rSign_ok(s:List UInt8)(id:Nat):FnOk Tryz.prog 43 [.str s] [] id (.bool (decide (s.length=1)&&s.all sgC)) []:=by
 have hb:∀s:List UInt8,(decide (s.length=1)&&s.all sgC)=(s==[123]||s==[125]||s==[40]||s==[41]||s==[58]||s==[91]||s==[93]):=fun s =>
  match s with
  | []=>by rfl
  | [c]=>by
   simp only[sgC,List.contains_cons,List.contains_nil,Bool.or_false,List.all_cons,List.all_nil,Bool.and_true,List.length_singleton,decide_true,Bool.true_and,List.cons_beq_cons,BEq.rfl,Bool.or_assoc]
  | c::d::r=>by simp
 refine fn_okc Tryz.func43 hcc43 (by decide) hcr43 (by simp[Tryz.ntmps43]) fun E hP hR hl hid=>?_
 simp only[cr43] at hR
 refine w_go 4000 ?_
 simp[cc43]
 refine⟨by grind,by grind,by grind,by grind,by grind,by grind,?_⟩
 rw[hR]; exact rt_end (by simp<;>rfl) [] trivial (end_pure (by simp; rw[hb,show ((s.length:Int)==1)=decide (s.length=1) from by rw[Bool.eq_iff_iff]; simp; omega]; cases hd:decide (s.length=1)<;>simp; refine⟨⟨⟨⟨⟨⟨?_,?_⟩,?_⟩,?_⟩,?_⟩,?_⟩,?_⟩<;>(rintro rfl; simp at hd)) (by simp) (by simp))
end Go.Am
namespace Go.Am
set_option linter.all false
open Go Go.RowKit Go.Proofs
set_option maxRecDepth 100000
set_option linter.all false
theorem lQ_len(c:UInt8):1≤(lQ c).length∧(lQ c).length≤2:=by
 unfold lQ
 repeat' split
 all_goals simp
theorem lQs_take{s:List UInt8}{i:Nat}{c:UInt8}(h:s[i]?=some c):lQs (s.take (i+1))=lQs (s.take i)++lQ c:=by
 rw[List.take_succ,h]; simp[lQs]
theorem lQs_le(s:List UInt8):s.length≤(lQs s).length:=by
 induction s with
 | nil=>simp[lQs]
 | cons c r ih =>
  have:=(lQ_len c).1
  simp[lQs] at ih ⊢; omega
theorem lQs_ln(s:List UInt8):(lQs s).length≤2*s.length:=by
 induction s with
 | nil=>simp[lQs]
 | cons c r ih =>
  have:=(lQ_len c).2
  simp[lQs] at ih ⊢; omega
set_option maxHeartbeats 4000000 in
theorem rQuoted_ok(s:List UInt8)(id:Nat)(h8:s.length≤1099511627776):FnOk Tryz.prog 48 [.str s] [] id (.str (34::(lQs s++[34]))) []:=by
 refine fn_okc Tryz.func48 hcc48 (by decide) hcr48 (by simp[Tryz.ntmps48]) fun E hP hR hl hid=>?_
 simp only[cr48] at hR
 refine w_go 4000 ?_
 simp[cc48]
 refine w_loop (X:=Nat) (fun i=>⟨[(0,true,.str s),(3,true,.str (34::lQs (s.take i))),(4,true,.int .i64 i)],[],0⟩)
  (fun i=>i≤s.length) (fun i=>s.length - i) 0 ?_ (by omega) ?_
 ·have h1:lQs []=[]:=rfl
  have hrn:rnOk []:=by simp[h1]
  refine Conv.sub [] hrn ?_ ?_ ?_ ?_ ?_<;>(try simp[h1])
 rintro i hi p hp
 have h34:∀(c:UInt8) (n:Nat),n<256→(((c.toNat:Int)==(n:Int))=true↔c=UInt8.ofNat n):=fun c n hn=>by
  rw[beq_iff_eq]
  constructor
  ·intro h
   have h:c.toNat=n:=by omega
   rw[←h]; simp
  ·intro h
   subst h
   simp; omega
 have hql:=lQs_ln (s.take i)
 rw[List.length_take] at hql
 refine w_go 4000 ?_
 simp
 refine goc (fun h=>?_) (fun h=>?_)
 ·have h:=of_decide_eq_true h
  obtain⟨c,hc,hd⟩:=drop_cons h
  have hi1:IntKind.i64.wrap ((i:Int)+1)=((i+1:Nat):Int):=wrap64 (by omega)
  have hst:=lQs_take hc
  have hc8:=c.toNat_lt
  have hone:(s.take (i+1)).drop i=[c]:=by
   rw[List.take_succ,hc]
   rw[List.drop_append_of_le_length (by simp; omega),List.drop_of_length_le (by simp; omega)]; rfl
  simp[hc]
  refine⟨h,?_⟩
  refine goc (fun g=>?_) (fun g=>?_)<;>simp
  ·have g:c=34:=(h34 c 34 (by omega)).1 g
   have hq:lQ c=[92,34]:=by unfold lQ; rw[if_pos g]
   rw[hq] at hst
   refine⟨by omega,?_⟩
   refine hp _ (i+1) h (by omega) ?_
   have hrn:rnOk []:=by simp[hi1,hst]
   refine Conv.sub [] hrn ?_ ?_ ?_ ?_ ?_<;>(try simp[hi1,hst])
  have g:c≠34:=fun e=>absurd ((h34 c 34 (by omega)).2 e) (by rw[Bool.not_eq_true]; exact g)
  refine goc (fun g1=>?_) (fun g1=>?_)<;>simp
  ·have g1:c=92:=(h34 c 92 (by omega)).1 g1
   have hq:lQ c=[92,92]:=by unfold lQ; rw[if_neg g,if_pos g1]
   rw[hq] at hst
   refine⟨by omega,?_⟩
   refine hp _ (i+1) h (by omega) ?_
   have hrn:rnOk []:=by simp[hi1,hst]
   refine Conv.sub [] hrn ?_ ?_ ?_ ?_ ?_<;>(try simp[hi1,hst])
  have g1:c≠92:=fun e=>absurd ((h34 c 92 (by omega)).2 e) (by rw[Bool.not_eq_true]; exact g1)
  refine goc (fun g2=>?_) (fun g2=>?_)<;>simp
  ·have g2:c=10:=(h34 c 10 (by omega)).1 g2
   have hq:lQ c=[92,110]:=by unfold lQ; rw[if_neg g,if_neg g1,if_pos g2]
   rw[hq] at hst
   refine⟨by omega,?_⟩
   refine hp _ (i+1) h (by omega) ?_
   have hrn:rnOk []:=by simp[hi1,hst]
   refine Conv.sub [] hrn ?_ ?_ ?_ ?_ ?_<;>(try simp[hi1,hst])
  have g2:c≠10:=fun e=>absurd ((h34 c 10 (by omega)).2 e) (by rw[Bool.not_eq_true]; exact g2)
  have hq:lQ c=[c]:=by unfold lQ; rw[if_neg g,if_neg g1,if_neg g2]
  rw[hq] at hst
  simp[hi1,hone]
  refine⟨by omega,by omega,?_⟩
  refine hp _ (i+1) h (by omega) ?_
  have hrn:rnOk []:=by simp[hi1,hst]
  refine Conv.sub [] hrn ?_ ?_ ?_ ?_ ?_<;>(try simp[hi1,hst])
 ·have h:=of_decide_eq_false h
  have hie:i=s.length:=by omega
  subst hie
  rw[List.take_length] at hql
  simp
  refine⟨by omega,?_⟩
  rw[hR]; exact rt_end (by simp<;>rfl) [] trivial (end_pure (by simp) (by simp) (by simp))
theorem tkB_snoc(a:List Tk)(t:Tk):tkB (a++[t])=tkB a++((if a=[] then [] else [32])++wrTk t):=by
 cases a with
 | nil=>rw[List.nil_append,tkB_cons,tkB_nil]; simp
 | cons x r=>rw[List.cons_append,tkB_cons,tkB_cons]; simp
theorem wSum_take(l:List Tk)(i:Nat):wSum (l.take i)≤wSum l:=by
 have:=wSum_app (l.take i) (l.drop i)
 rw[List.take_append_drop] at this
 omega
set_option maxHeartbeats 4000000 in
theorem rBytes_ok(l:List Tk)(id:Nat)(hn:∀t∈l,t.kind=2→-999999999≤t.n∧t.n≤999999999)(h8:wSum l≤1099511627776)(h9:l.length≤1099511627776):FnOk Tryz.prog 19 [.sl (l.map eTk)] [] id (.str (tkB l)) []:=by
 refine fn_okc Tryz.func19 hcc19 (by decide) hcr19 (by simp[Tryz.ntmps19]) fun E hP hR hl hid=>?_
 simp only[cr19] at hR
 refine w_go 4000 ?_
 simp[cc19]
 refine w_loop (X:=Nat) (fun i=>⟨[(0,true,.sl (l.map eTk)),(3,true,.str (tkB (l.take i))),(4,true,.int .i64 i)],[],0⟩)
  (fun i=>i≤l.length) (fun i=>l.length - i) 0 ?_ (by omega) ?_
 ·have hrn:rnOk []:=by simp[tkB_nil]
  refine Conv.sub [] hrn ?_ ?_ ?_ ?_ ?_<;>(try simp[tkB_nil])
 rintro i hi p hp
 have hbl:=tkB_len (l.take i)
 have hbw:=wSum_take l i
 refine w_go 4000 ?_
 simp
 refine goc (fun h=>?_) (fun h=>?_)
 ·have h:=of_decide_eq_true h
  obtain⟨t,hx,hd⟩:=drop_cons h
  have htm:=List.mem_of_getElem? hx
  have hi1:IntKind.i64.wrap ((i:Int)+1)=((i+1:Nat):Int):=wrap64 (by omega)
  have hst:tkB (l.take (i+1))=tkB (l.take i)++((if i=0 then [] else [32])++wrTk t):=by
   rw[List.take_succ,hx]
   refine (tkB_snoc _ _).trans ?_
   have:(l.take i=[])↔i=0:=by
    constructor
    ·intro e
     have:=congrArg List.length e
     rw[List.length_take] at this
     simp only[List.length_nil] at this
     omega
    ·rintro rfl; rfl
   simp[this]
  have hbl2:=tkB_len (l.take (i+1))
  have hbw2:=wSum_take l (i+1)
  rw[hst] at hbl2
  simp only[List.length_append] at hbl2
  have hwr:wrTk t=if t.kind=2 then Lib.itoa t.n else if t.kind=3 then 34::lQs t.text++[34] else t.text:=rfl
  simp[hx,eTk]
  refine goc (fun g=>?_) (fun g=>?_)<;>simp[hx,eTk]
  ·have g:i≠0:=by simp at g; omega
   rw[if_neg g] at hst hbl2
   simp only[List.length_cons,List.length_nil] at hbl2
   refine⟨by omega,h,?_⟩
   refine goc (fun g1=>?_) (fun g1=>?_)<;>simp[hx,eTk]
   ·have g1:t.kind=2:=by simpa using g1
    have hD:=fun id=>Digits_all t.n id (hn t htm g1)
    rw[if_pos g1] at hwr
    rw[hwr] at hst hbl2
    refine⟨h,?_⟩
    (refine w_call hP rfl (hD _) (by simp[hx,eTk]) (by simp[hx,eTk]<;>rfl) ?_; refine w_go 4000 ?_; simp[hx,eTk])
    refine⟨by omega,?_⟩
    refine hp _ (i+1) h (by omega) ?_
    have hrn:rnOk []:=by simp[hi1,hst,g]
    refine Conv.sub [] hrn ?_ ?_ ?_ ?_ ?_<;>(try simp[hi1,hst,g])
   have g1:¬t.kind=2:=by simpa using g1
   refine goc (fun g2=>?_) (fun g2=>?_)<;>simp[hx,eTk]
   ·have g2:t.kind=3:=by simpa using g2
    rw[if_neg g1,if_pos g2] at hwr
    rw[hwr] at hst hbl2
    simp only[List.length_append,List.length_cons,List.length_nil] at hbl2
    have hQ:=fun id=>rQuoted_ok t.text id (by have:=lQs_le t.text; omega)
    refine⟨h,?_⟩
    (refine w_call hP rfl (hQ _) (by simp[hx,eTk]) (by simp[hx,eTk]<;>rfl) ?_; refine w_go 4000 ?_; simp[hx,eTk])
    refine⟨by omega,?_⟩
    refine hp _ (i+1) h (by omega) ?_
    have hrn:rnOk []:=by simp[hi1,hst,g]
    refine Conv.sub [] hrn ?_ ?_ ?_ ?_ ?_<;>(try simp[hi1,hst,g])
   have g2:¬t.kind=3:=by simpa using g2
   rw[if_neg g1,if_neg g2] at hwr
   rw[hwr] at hst hbl2
   refine⟨h,by omega,?_⟩
   refine hp _ (i+1) h (by omega) ?_
   have hrn:rnOk []:=by simp[hi1,hst,g]
   refine Conv.sub [] hrn ?_ ?_ ?_ ?_ ?_<;>(try simp[hi1,hst,g])
  ·have g:i=0:=by simp at g; omega
   rw[if_pos g] at hst hbl2
   have hw1:IntKind.i64.wrap (1:Int)=1:=wrap64 (by omega)
   subst g
   have hbw3:=wSum_take l 1
   simp only[List.take_zero,tkB_nil,List.nil_append,Nat.zero_add] at hst hbl2
   refine⟨h,?_⟩
   refine goc (fun g1=>?_) (fun g1=>?_)<;>simp[hx,eTk]
   ·have g1:t.kind=2:=by simpa using g1
    have hD:=fun id=>Digits_all t.n id (hn t htm g1)
    rw[if_pos g1] at hwr
    rw[hwr] at hst hbl2
    refine⟨h,?_⟩
    (refine w_call hP rfl (hD _) (by simp[hx,eTk]) (by simp[hx,eTk]<;>rfl) ?_; refine w_go 4000 ?_; simp[hx,eTk])
    refine⟨by simp only[tkB_nil,List.length_nil,List.length_append,List.length_cons] at hbl2 ⊢; omega,?_⟩
    refine hp _ 1 h (by omega) ?_
    have hrn:rnOk []:=by simp[hw1,hst,tkB_nil]
    refine Conv.sub [] hrn ?_ ?_ ?_ ?_ ?_<;>(try simp[hw1,hst,tkB_nil])
   have g1:¬t.kind=2:=by simpa using g1
   refine goc (fun g2=>?_) (fun g2=>?_)<;>simp[hx,eTk]
   ·have g2:t.kind=3:=by simpa using g2
    rw[if_neg g1,if_pos g2] at hwr
    rw[hwr] at hst hbl2
    simp only[List.length_append,List.length_cons,List.length_nil] at hbl2
    have hQ:=fun id=>rQuoted_ok t.text id (by have:=lQs_le t.text; omega)
    refine⟨h,?_⟩
    (refine w_call hP rfl (hQ _) (by simp[hx,eTk]) (by simp[hx,eTk]<;>rfl) ?_; refine w_go 4000 ?_; simp[hx,eTk])
    refine⟨by simp only[tkB_nil,List.length_nil,List.length_append,List.length_cons] at hbl2 ⊢; omega,?_⟩
    refine hp _ 1 h (by omega) ?_
    have hrn:rnOk []:=by simp[hw1,hst,tkB_nil]
    refine Conv.sub [] hrn ?_ ?_ ?_ ?_ ?_<;>(try simp[hw1,hst,tkB_nil])
   have g2:¬t.kind=3:=by simpa using g2
   rw[if_neg g1,if_neg g2] at hwr
   rw[hwr] at hst hbl2
   refine⟨h,by simp only[tkB_nil,List.length_nil,List.length_append,List.length_cons] at hbl2 ⊢; omega,?_⟩
   refine hp _ 1 h (by omega) ?_
   have hrn:rnOk []:=by simp[hw1,hst,tkB_nil]
   refine Conv.sub [] hrn ?_ ?_ ?_ ?_ ?_<;>(try simp[hw1,hst,tkB_nil])
 ·have h:=of_decide_eq_false h
  have hie:i=l.length:=by omega
  subst hie
  rw[List.take_length] at hbl
  simp
  rw[hR]; exact rt_end (by simp<;>rfl) [] trivial (end_pure (by simp) (by simp) (by simp))
end Go.Am
namespace Go.Am
set_option linter.all false
open Go Go.RowKit
set_option linter.all false
section
variable {E:Env} {σ:St} {k:List Itm} {P:Program}
theorem w_raw(hP:E.P=P){op:COp}(hk:op.isRaw=true){dst:Option Nat}{us:List Nat}{l:List CR}{j:Nat}{acc:List RR}{ps:List (Nat×Nat)}{args:List AV}{rd:List (Nat×Bx)}{v:AV}{wr:List (Nat×Option Bx)}
  (ha:op.args.map (veF (lk σ.fr))=args) (hc:RawOk P op args rd (E.n0+(σ.k+1024*j)) v wr) (hu:uses (lk σ.fr) us) (hh:HasL (bk σ.bx) rd) (h:Wk E (.ops l (j+1) (accN ps ⟨true,v,rd,wr⟩ acc) ps::k) (σ.app dst ⟨true,v,rd,wr⟩)) :
  Wk E (.ops (⟨dst,none,us,op⟩::l) j acc ps::k) σ:=by
 subst hP ha
 refine w_op (r:=⟨true,v,rd,wr⟩) ⟨trivial,rfl,fun _=>.raw op _ hk hu ?_ hh.has,fun h=>by cases h⟩ (w_accN h)
 rw[Nat.add_assoc]; exact hc
theorem w_inv(hP:E.P=P){m:String}{x:Opd}{xs:List Opd}{dst:Option Nat}{us:List Nat}{l:List CR}{j:Nat}{acc:List RR}{ps:List (Nat×Nat)}{t f J:Nat}{rd:List (Nat×Bx)}{v:AV}{wr:List (Nat×Option Bx)}{args:List AV}
  (hx:veF (lk σ.fr) x = .iface t (.ptr J 0 0)) (hm:MethOk P t m f) (ha:xs.map (veF (lk σ.fr))=args) (hc:FnOk P f (.ptr J 0 0::args) rd (E.n0+(σ.k+1024*j)) v wr) (hJ:∃b y,(J,b)∈rd∧b.xs[0]?=some y) (hu:uses (lk σ.fr) us) (hh:HasL (bk σ.bx) rd)
  (h:Wk E (.ops l (j+1) (accN ps ⟨true,v,rd,wr⟩ acc) ps::k) (σ.app dst ⟨true,v,rd,wr⟩)) :
  Wk E (.ops (⟨dst,none,us,.inv m x xs⟩::l) j acc ps::k) σ:=by
 subst hP ha
 refine w_op (r:=⟨true,v,rd,wr⟩) ⟨trivial,rfl,fun _=>.inv m x xs t f J _ hu hx hm hJ (.inl ⟨?_,hh.has⟩),fun h=>by cases h⟩ (w_accN h)
 rw[Nat.add_assoc]; exact hc
end
theorem comp_cpy{P:Program}{op:Op}{x y:Opd}(h:comp P op=some (.cpy x y)):∃(c:Call) (X Y:Operand) (t:TypeId) (ts:List TypeId) (e:TypeId),op = .call c∧c.callee = .builtin .copy∧c.args.toList=[X,Y]∧c.argTypes.toList=t::ts∧opd X=some x∧opd Y=some y∧P.underlying t=some (.slice e)∧sizeB P e=some 1:=by
 unfold comp at h
 split at h
 all_goals try simp only[compCall,compLen,compApp,compMM,compInv] at h
 all_goals repeat' split at h
 all_goals first|cases h; done|(refine (map_ne h ?_).elim; intro a h; cases h; done)|skip
 rename_i c _ _ _ X Y t ts h1 h2 h3
 unfold compCpy at h
 split at h
 ·rename_i x' y' e q1 q2 q3
  split at h
  ·rename_i hq
   injection h with h
   injection h with e1 e2
   subst e1 e2
   exact⟨c,X,Y,t,ts,e,rfl,h1,h2,h3,q1,q2,q3,hq.2⟩
  ·cases h
 ·cases h
theorem raw_cpy{P:Program}{x y:Opd}{J off len:Nat}{b:Bx}{ys:List AV}{id:Nat}(hro:b.ro=false)(hfr:b.frz=false)(hle:ys.length≤len)(hof:off+ys.length≤b.xs.length)(h1:∀z∈ys,z.cells.length=1∧∀c∈z.cells,c.one=true)(h2:∀z∈b.xs,z.cells.length=1)(hpos:0<b.xs.length):
  RawOk P (.cpy x y) [.bsl J off len,.sl ys] [(J,b)] id (.int .i64 ys.length) [(J,some { b with xs:=b.xs.take off++ys++b.xs.drop (off+ys.length) })]:=by
 intro op hcomp C ρ G bx w ve o hρ ho ha hs hh hu hr
 obtain⟨c,X,Y,t,ts,e,rfl,hcal,hargs,hts,hX,hY,ht,hz⟩:=comp_cpy hcomp
 simp only[COp.args,List.map_cons,List.map_nil,List.cons.injEq,and_true] at ha
 have rX:RV G w (.bsl J off len) (ρ X):=by
  rw[←ha.1]; exact hr X (by simp[Op.operands,Call.operands,hargs]) x hX
 have rY:RV G w (.sl ys) (ρ Y):=by
  rw[←ha.2]; exact hr Y (by simp[Op.operands,Call.operands,hargs]) y hY
 have hb:=hh _ (List.mem_singleton.2 rfl)
 simp only at hb
 obtain⟨z0,hz0⟩:∃z0,b.xs[0]?=some z0:=⟨_,List.getElem?_eq_getElem hpos⟩
 obtain⟨blk,s,cur,el,k1,k2,k3,⟨k4,k5⟩,k6,k7⟩:=hs.box J b hb (hs.lies hb hz0)
 have hs1:s=1:=by rw[←(k6 0 z0 hz0).1]; exact h2 z0 (List.mem_of_getElem? hz0)
 subst hs1
 obtain⟨news,n1,n2,n3⟩:=src_ok hs rY (ys:=ys) rfl (s:=1) (fun z hz=>(h1 z hz).1) (fun z hz=>(h1 z hz).2) (tx:=t) (.inr ⟨fun _ h=>(by cases h),e,ht⟩)
 rw[Nat.mul_one] at n2
 cases rX with|bsl _ _ _ _ hone hu2 hbm hnl =>
 obtain⟨cp,cur',el',hv,hlc,hcm,hh2,hz2⟩:=hbm blk 1 k1
 rw[k2] at hh2
 injection hh2 with hh2
 injection hh2 with e1 e2
 subst e1 e2
 simp only[Nat.mul_one] at hv hz2 k7
 have hsz:b.xs.length≤cur.size:=by omega
 have hrun:=run_storeCells_at P blk off el news 0 cur w k2 (by omega) n1.one
 simp only[Nat.add_zero] at hrun
 have hfl:flat ys=ys.flatMap AV.cells:=rfl
 have hA:c.args = #[X,Y]:=by apply Array.ext'; simpa using hargs
 have hT:c.argTypes[0]?=some t:=by rw[←Array.getElem?_toList,hts]; rfl
 have hmin:Nat.min ys.length len=ys.length:=Nat.min_eq_left hle
 have hsO:(sizeOf e).run P w = .ok 1 w:=run_sizeOf hz
 have hexec:(execOp ρ o).run P w = .ok (.value (.int .i64 ys.length)) (w.setRow blk (cur.toList.take off++news++cur.toList.drop (off+news.length)).toArray):=by
  unfold execOp
  simp[ho,resolve,hcal,hA,invoke,builtin,Builtin.copy_,hT,run_underlying ht,hv,n1.len,hmin,hsO,n1.cells,hrun,goInt]
 have hget:∀k,(cur.toList.take off++news++cur.toList.drop (off+news.length)).toArray[k]?=if off≤k∧k<off+ys.length then news[k - off]? else cur[k]?:=fun k=>by
  rw[List.getElem?_toArray,List.append_assoc,n2]
  have hcs:(cur.toList.take off).length=off:=by rw[List.length_take,Array.length_toList]; omega
  by_cases q1:k<off
  ·rw[if_neg (by omega),List.getElem?_append_left (by omega),List.getElem?_take,if_pos q1,Array.getElem?_toList]
  ·rw[List.getElem?_append_right (by omega),hcs]
   by_cases q2:k<off+ys.length
   ·rw[if_pos ⟨by omega,q2⟩,List.getElem?_append_left (by omega)]
   ·rw[if_neg (by omega),List.getElem?_append_right (by omega),List.getElem?_drop,Array.getElem?_toList]
    congr 1; omega
 have hlenN:(b.xs.take off++ys++b.xs.drop (off+ys.length)).length=b.xs.length:=by
  simp only[List.length_append,List.length_take,List.length_drop]; omega
 have hgetX:∀k,(b.xs.take off++ys++b.xs.drop (off+ys.length))[k]?=if off≤k∧k<off+ys.length then ys[k - off]? else b.xs[k]?:=fun k=>by
  rw[List.append_assoc]
  have hcs:(b.xs.take off).length=off:=by rw[List.length_take]; omega
  by_cases q1:k<off
  ·rw[if_neg (by omega),List.getElem?_append_left (by omega),List.getElem?_take,if_pos q1]
  ·rw[List.getElem?_append_right (by omega),hcs]
   by_cases q2:k<off+ys.length
   ·rw[if_pos ⟨by omega,q2⟩,List.getElem?_append_left (by omega)]
   ·rw[if_neg (by omega),List.getElem?_append_right (by omega),List.getElem?_drop]
    congr 1; omega
 have hcells:∀(i:Nat) (z:AV),ys[i]?=some z→∃u,news[i]?=some u∧∀c,z.cells[0]?=some c→RV G w c u:=fun i z hz=>by
  have hzl:=(h1 z (List.mem_of_getElem? hz)).1
  obtain⟨c0,hc0⟩:∃c0,z.cells=[c0]:=List.length_eq_one_iff.1 hzl
  have hfg:(flat ys)[i]?=some c0:=by
   have:∀(l:List AV) (i:Nat),(∀z∈l,z.cells.length=1)→l[i]?=some z→(flat l)[i]?=some c0:=by
    intro l
    induction l with
    | nil=>intro i _ h; simp at h
    | cons a r ih =>
     intro i hl h
     obtain⟨a0,ha0⟩:=List.length_eq_one_iff.1 (hl a (List.mem_cons_self ..))
     simp only[flat,List.flatMap_cons,ha0,List.singleton_append] at ih ⊢
     cases i with
     | zero =>
      simp only[List.getElem?_cons_zero,Option.some.injEq] at h ⊢
      subst h
      rw[hc0] at ha0
      injection ha0 with ha0
      exact ha0.symm
     | succ i =>
      simp only[List.getElem?_cons_succ] at h ⊢
      exact ih i (fun z hz=>hl z (List.mem_cons_of_mem _ hz)) h
   exact this ys i (fun z hz=>(h1 z hz).1) hz
  obtain⟨u,u1,u2⟩:=n3 i c0 hfg
  refine⟨u,u1,fun c hc=>?_⟩
  rw[hc0] at hc
  injection hc with hc
  subst hc
  exact u2
 obtain⟨r1,r2⟩:=hs.setRow (cur':=(cur.toList.take off++news++cur.toList.drop (off+news.length)).toArray) hb k1 hro hfr k2 (by
  rw[List.size_toArray,List.length_append,List.length_append,List.length_take,List.length_drop,Array.length_toList]; omega) (b.xs.take off++ys++b.xs.drop (off+ys.length)) hlenN (fun k q hq=>by
  rw[hgetX] at hq
  split at hq
  ·rename_i hk
   refine⟨(h1 q (List.mem_of_getElem? hq)).1,fun j c hc=>?_⟩
   have hj:j=0:=by
    have:=(List.getElem?_eq_some_iff.1 hc).1
    rw[(h1 q (List.mem_of_getElem? hq)).1] at this
    omega
   subst hj
   obtain⟨u,u1,u2⟩:=hcells _ q hq
   refine⟨u,?_,u2 c hc⟩
   rw[Nat.mul_one,Nat.add_zero,hget,if_pos hk]
   exact u1
  ·rename_i hk
   obtain⟨g0,g1⟩:=k6 k q hq
   refine⟨g0,fun j c hc=>?_⟩
   obtain⟨u,g2,g3⟩:=g1 j c hc
   refine⟨u,?_,g3⟩
   have hj:j=0:=by
    have:=(List.getElem?_eq_some_iff.1 hc).1
    omega
   subst hj
   rw[Nat.mul_one,Nat.add_zero] at g2 ⊢
   rw[hget,if_neg hk]
   exact g2)
 exact⟨_,_,G,.int .i64 ys.length,hexec,.inl rfl,r1,r2,.int _ _,fun _ h=>.inl h⟩
end Go.Am
namespace Go.Am
set_option linter.all false
set_option linter.all false
open Go Go.RowKit Go.Proofs
set_option maxRecDepth 100000
def zR:List AV:=List.replicate 257 .nils
def cc112:CC:=.seq (.r [.v 2 .nilp]) (.seq (.seq (.r [.m 3 0,.n 4 3,.k 5 .rem 4 2,.k 6 .eql 5 1]) (.cond (.t 6) (.r [⟨some 7,none,[],.conv (.mki 9) (.c (.str [115,116,114,105,110,103,115,46,78,101,119,82,101,112,108,97,99,101,114,58,32,111,100,100,32,97,114,103,117,109,101,110,116,32,99,111,117,110,116]))⟩,⟨none,none,[7],.pnk (.t 7)⟩]) CC.skip)) (.seq (.r [.m 8 0,⟨some 9,none,[8],.app false (.str []) 16 (.c .nils) (.t 8)⟩,⟨some 10,none,[9],.build [.int .u32 0,.int .i32 0,.int .u32 0,.nili,.nils] [(4,1,.t 9)]⟩,.bx 11 10,.m 2 11]) CC.ret))
def cr112:List CRes:=[.tmp 2]
theorem hcr112:compRes Tryz.prog Tryz.f112.results.toList=some cr112:=by kernel_rfl
theorem hcc112:Tryz.f112.body.map (compC Tryz.prog Tryz.f112.ntmps)=some cc112:=by kernel_rfl
def cc113 : CC := .seq (.r [.v 4 (.str [])]) (.seq (.r [.m 5 0,.ck 6 5,.f 7 0 6,.m 8 0,⟨some 9,none,[8],.conv (.rcv 134) (.t 8)⟩,.c 10 133 [7,9]]) (.seq (.r [.m 11 0,.ck 12 11,.f 13 3 12,.l 14 13,.m 15 1,⟨some 16,none,[14,15],.inv "Replace" (.t 14) [.t 15]⟩,.m 4 16]) CC.ret))
def cr113:List CRes:=[.tmp 4]
theorem hcr113:compRes Tryz.prog Tryz.f113.results.toList=some cr113:=by kernel_rfl
theorem hcc113:Tryz.f113.body.map (compC Tryz.prog Tryz.f113.ntmps)=some cc113:=by kernel_rfl
def cc133:CC:=.seq (.r [.m 4 0,.ck 5 4,.f 6 0 5,.c 7 146 [6],.no 8 7]) (.cond (.t 8) (.r [.m 9 0,.m 10 1,.c 11 147 [9,10]]) CC.skip)
def cr133:List CRes:=[]
theorem hcr133:compRes Tryz.prog Tryz.f133.results.toList=some cr133:=by kernel_rfl
theorem hcc133:Tryz.f133.body.map (compC Tryz.prog Tryz.f133.ntmps)=some cc133:=by kernel_rfl
def cc134:CC:=.seq (.r [.m 2 0,.m 3 0,.c 4 148 [3],.ck 5 2,.f 6 3 5,.st 1 6 4]) (.r [.m 7 0,.ck 8 7,.f 9 4 8,⟨none,none,[9],.st 1 (.t 9) (.c .nils)⟩])
def cr134:List CRes:=[]
theorem hcr134:compRes Tryz.prog Tryz.f134.results.toList=some cr134:=by kernel_rfl
theorem hcc134:Tryz.f134.body.map (compC Tryz.prog Tryz.f134.ntmps)=some cc134:=by kernel_rfl
def cc146:CC:=.seq (.r [.v 2 (.bool false)]) (.seq (.r [.m 3 0,.ck 4 3,.f 5 0 4,.c 6 164 [5],.j 7 .neq 6 (.int .u32 0),.m 2 7]) CC.ret)
def cr146:List CRes:=[.tmp 2]
theorem hcr146:compRes Tryz.prog Tryz.f146.results.toList=some cr146:=by kernel_rfl
theorem hcc146:Tryz.f146.body.map (compC Tryz.prog Tryz.f146.ntmps)=some cc146:=by kernel_rfl
def cc148:CC:=.seq (.r [.v 2 .nili]) (.seq (.r [.m 15 0,.ck 16 15,.f 17 4 16,.l 18 17,.m 3 18]) (.seq (.seq (.r [.m 19 3,.n 20 19,.k 21 .eql 20 2,.m 22 21,.gt 22 (.m 23 3),.gt 22 ⟨some 24,none,[23],.ia 1 (.str []) (.t 23) (.c (.int .i64 0))⟩,.gt 22 (.l 25 24),.gt 22 (.ns 26 25),.gt 22 (.k 27 .gtr 26 1),.pa 28 22 27]) (.cond (.t 28) (.seq (.d [.m 29 3,⟨some 30,none,[29],.ia 1 (.str []) (.t 29) (.c (.int .i64 0))⟩,.l 31 30,.m 32 3,⟨some 33,none,[32],.ia 1 (.str []) (.t 32) (.c (.int .i64 1))⟩,.l 34 33,.c 35 168 [31,34],⟨some 36,none,[35],.conv (.mki 187) (.t 35)⟩,.m 2 36] []) CC.ret) CC.skip)) (.seq (.r [.v 4 (.bool true)]) (.seq (.seq (.r [.i 5 0]) (.block 0 (.loop (.seq (.seq (.r [.m 37 5,.m 38 3,.n 39 38,.b 40 .lss 37 39]) (.cond (.t 40) CC.skip (.exit 0))) (.seq (.block 1 (.seq (.seq (.r [.m 43 3,.m 44 5,.ia 45 1 (.str []) 43 44,.l 46 45,.ns 47 46,.k 48 .neq 47 1]) (.cond (.t 48) (.seq (.r [.m 49 3,.c 50 169 [49],⟨some 51,none,[50],.conv (.mki 189) (.t 50)⟩,.m 2 51]) CC.ret) CC.skip)) (.seq (.r [.m 52 3,.m 53 5,.k 54 .add 53 1,.ia 55 1 (.str []) 52 54,.l 56 55,.ns 57 56,.k 58 .neq 57 1]) (.cond (.t 58) (.r [.v 4 (.bool false)]) CC.skip)))) (.r [.m 41 5,.k 42 .add 41 2,.m 5 42])))))) (.seq (.seq (.r [.m 59 4]) (.cond (.t 59) (.seq CC.bad (.seq (.seq (.r [.i 61 0]) (.block 2 (.loop (.seq (.r [.k 62 .lss 61 256]) (.seq (.cond (.t 62) CC.skip (.exit 2)) (.seq (.block 3 (.seq (.r [.m 63 61,.m 7 63]) (.r [.m 64 7,.m 65 7,⟨some 66,none,[65],.conv (.int .u8) (.t 65)⟩,⟨some 67,none,[6,64],.aa 256 1 (.t 6) (.t 64)⟩,.st 1 67 66]))) (.r [.k 68 .add 61 1,.m 61 68]))))))) (.seq (.seq (.r [.m 69 3,.n 70 69,.k 71 .sub 70 2,.m 8 71]) (.block 4 (.loop (.seq (.seq (.r [.m 72 8,.k 73 .geq 72 0]) (.cond (.t 73) CC.skip (.exit 4))) (.seq (.block 5 (.seq (.r [.m 76 3,.m 77 8,.ia 78 1 (.str []) 76 77,.l 79 78,⟨some 80,none,[79],.ix (.t 79) (.c (.int .i64 0))⟩,.m 9 80]) (.seq (.r [.m 81 3,.m 82 8,.k 83 .add 82 1,.ia 84 1 (.str []) 81 83,.l 85 84,⟨some 86,none,[85],.ix (.t 85) (.c (.int .i64 0))⟩,.m 10 86]) (.r [.m 87 9,.m 88 10,⟨some 89,none,[6,87],.aa 256 1 (.t 6) (.t 87)⟩,.st 1 89 88])))) (.r [.m 74 8,.k 75 .sub 74 2,.m 8 75])))))) (.seq (.r [⟨some 90,none,[6],.conv (.mki 193) (.t 6)⟩,.m 2 90]) CC.ret)))) CC.skip)) (.seq (.r [.m 91 3,.n 92 91,.k 93 .quo 92 2,⟨some 94,none,[93],.mks (.str []) 16 (.c (.int .i64 0)) (.t 93)⟩,⟨some 95,none,[94],.build zR [(256,1,.t 94)]⟩,.al 11 (.agg zR),.st 257 11 95]) (.seq (.seq (.r [.m 96 3,.n 97 96,.k 98 .sub 97 2,.m 12 98]) (.block 6 (.loop (.seq (.seq (.r [.m 99 12,.k 100 .geq 99 0]) (.cond (.t 100) CC.skip (.exit 6))) (.seq (.block 7 (.seq (.r [.m 103 3,.m 104 12,.ia 105 1 (.str []) 103 104,.l 106 105,⟨some 107,none,[106],.ix (.t 106) (.c (.int .i64 0))⟩,.m 13 107]) (.seq (.r [.m 108 3,.m 109 12,.k 110 .add 109 1,.ia 111 1 (.str []) 108 110,.l 112 111,.m 14 112]) (.seq (.seq (.r [.m 113 13,.f 114 0 11,⟨some 115,none,[114,113],.aa 256 1 (.t 114) (.t 113)⟩,.l 116 115,⟨some 117,none,[116],.bin .eql (some [8]) (.t 116) (.c .nils)⟩]) (.cond (.t 117) (.r [.f 118 256 11,.l 119 118,.m 120 13,⟨some 121,none,[120],.bslice (.int .u8 0) 1 [(0,.t 120)]⟩,⟨some 122,none,[121],.conv .str (.t 121)⟩,⟨some 123,none,[122],.bslice (.str []) 1 [(0,.t 122)]⟩,⟨some 124,none,[119,123],.app false (.str []) 16 (.t 119) (.t 123)⟩,.f 125 256 11,.st 1 125 124]) CC.skip)) (.r [.m 126 13,.m 127 14,⟨some 128,none,[127],.conv .bytes (.t 127)⟩,.f 129 0 11,⟨some 130,none,[129,126],.aa 256 1 (.t 129) (.t 126)⟩,.st 1 130 128]))))) (.r [.m 101 12,.k 102 .sub 101 2,.m 12 102])))))) (.seq (.r [⟨some 131,none,[11],.conv (.mki 197) (.t 11)⟩,.m 2 131]) CC.ret))))))))
def cr148:List CRes:=[.tmp 2]
theorem hcr148:compRes Tryz.prog Tryz.f148.results.toList=some cr148:=by kernel_rfl
theorem hcc148:Tryz.f148.body.map (compC Tryz.prog Tryz.f148.ntmps)=some cc148:=by kernel_rfl
def cc234:CC:=.seq (.r [.v 4 (.str [])]) (.seq (.r [.m 16 1,.ns 17 16,.m 5 17]) (.seq (.r [.v 6 (.bool false)]) (.seq (.seq (.r [.m 18 0,.ck 19 18,.f 20 256 19,.l 21 20,.n 22 21,.k 23 .mul 22 8,.m 24 1,.ns 25 24,.b 26 .leq 23 25]) (.cond (.t 26) (.seq (.r [.m 27 0,.ck 28 27,.f 29 256 28,.l 30 29,.n 31 30,.i 32 0]) (.block 0 (.loop (.seq (.r [.b 33 .lss 32 31]) (.seq (.cond (.t 33) CC.skip (.exit 0)) (.seq (.block 1 (.seq (.r [.ia 34 1 (.str []) 30 32,.l 35 34,.m 8 35]) (.seq (.r [.m 36 1,.m 37 8,.c 38 236 [36,37],.m 9 38]) (.seq (.r [.m 39 9,.k 40 .neq 39 0]) (.cond (.t 40) (.seq (.d [.m 41 5,.m 42 9,.m 43 0,.m 44 8,⟨some 45,none,[44],.ix (.t 44) (.c (.int .i64 0))⟩,.ck 46 43,.f 47 0 46,⟨some 48,none,[47,45],.aa 256 1 (.t 47) (.t 45)⟩,.l 49 48,.n 50 49,.k 51 .sub 50 1,.b 52 .mul 42 51,.b 53 .add 41 52,.m 5 53] []) (.r [.v 6 (.bool true)])) CC.skip))))) (.r [.k 54 .add 32 1,.m 32 54]))))))) (.seq (.r [.i 10 0]) (.block 2 (.loop (.seq (.seq (.r [.m 55 10,.m 56 1,.ns 57 56,.b 58 .lss 55 57]) (.cond (.t 58) CC.skip (.exit 2))) (.seq (.block 3 (.seq (.r [.m 61 1,.m 62 10,⟨some 63,none,[61,62],.ix (.t 61) (.t 62)⟩,.m 11 63]) (.seq (.r [.m 64 0,.m 65 11,.ck 66 64,.f 67 0 66,⟨some 68,none,[67,65],.aa 256 1 (.t 67) (.t 65)⟩,.l 69 68,⟨some 70,none,[69],.bin .neq (some [8]) (.t 69) (.c .nils)⟩]) (.cond (.t 70) (.seq (.r [.m 71 5,.m 72 0,.m 73 11,.ck 74 72,.f 75 0 74,⟨some 76,none,[75,73],.aa 256 1 (.t 75) (.t 73)⟩,.l 77 76,.n 78 77,.k 79 .sub 78 1,.b 80 .add 71 79,.m 5 80]) (.r [.v 6 (.bool true)])) CC.skip)))) (.r [.m 59 10,.k 60 .add 59 1,.m 10 60])))))))) (.seq (.seq (.r [.m 81 6,.no 82 81]) (.cond (.t 82) (.seq (.r [.m 83 1,.m 4 83]) CC.ret) CC.skip)) (.seq (.r [.m 84 5,⟨some 85,none,[84,84],.mks (.int .u8 0) 1 (.t 84) (.t 84)⟩,.m 12 85]) (.seq (.r [.i 13 0]) (.seq (.seq (.r [.i 14 0]) (.block 4 (.loop (.seq (.seq (.r [.m 86 14,.m 87 1,.ns 88 87,.b 89 .lss 86 88]) (.cond (.t 89) CC.skip (.exit 4))) (.seq (.block 5 (.seq (.r [.m 92 1,.m 93 14,⟨some 94,none,[92,93],.ix (.t 92) (.t 93)⟩,.m 15 94]) (.seq (.r [.m 95 0,.m 96 15,.ck 97 95,.f 98 0 97,⟨some 99,none,[98,96],.aa 256 1 (.t 98) (.t 96)⟩,.l 100 99,⟨some 101,none,[100],.bin .neq (some [8]) (.t 100) (.c .nils)⟩]) (.cond (.t 101) (.d [.m 102 13,.m 103 12,.m 104 13,⟨some 105,none,[103,104],.sli 1 (.t 103) (some (.t 104)) none⟩,.m 106 0,.m 107 15,.ck 108 106,.f 109 0 108,⟨some 110,none,[109,107],.aa 256 1 (.t 109) (.t 107)⟩,.l 111 110,⟨some 112,none,[105,111],.cpy (.t 105) (.t 111)⟩,.b 113 .add 102 112,.m 13 113] (pr [(3,[0]),(4,[3]),(5,[3]),(6,[3]),(7,[3]),(8,[3]),(9,[3]),(10,[0])])) (.seq (.r [.m 114 12,.m 115 13,.m 116 15,.ia 117 1 (.int .u8 0) 114 115,.st 1 117 116]) (.r [.m 118 13,.k 119 .add 118 1,.m 13 119])))))) (.r [.m 90 14,.k 91 .add 90 1,.m 14 91])))))) (.seq (.r [.m 120 12,⟨some 121,none,[120],.conv .str (.t 120)⟩,.m 4 121]) CC.ret))))))))
def cr234:List CRes:=[.tmp 4]
theorem hcr234:compRes Tryz.prog Tryz.f234.results.toList=some cr234:=by kernel_rfl
theorem hcc234:Tryz.f234.body.map (compC Tryz.prog Tryz.f234.ntmps)=some cc234:=by kernel_rfl
end Go.Am
namespace Go.Am
set_option linter.all false
set_option linter.all false
open Go Go.RowKit Go.Proofs
set_option maxRecDepth 100000
def muL:Go.Conc.Locks.MuLink:={ lock:=165,unlock:=166,ilock:=179,iunlock:=180,lockSlow:=193,unlockSlow:=196,disable:=189,enable:=191,acquire:=192,relMerge:=194,cas32:=190,add32:=195,tMutex:=147,tIMutex:=145,tPMutex:=209,tPIMutex:=228,tPI32:=230,tUP:=165,tNoCopy:=139,tU32:=141 }
theorem muLib:Go.Conc.Locks.MuLib Tryz.prog muL :=
 ⟨by kernel_rfl,by kernel_rfl,by kernel_rfl,by kernel_rfl,by kernel_rfl,by kernel_rfl,by kernel_rfl,by kernel_rfl,by kernel_rfl,by kernel_rfl,
  by kernel_rfl,fun _=>by kernel_rfl,fun _=>by kernel_rfl,fun _=>by kernel_rfl,fun _=>by kernel_rfl,
  by kernel_rfl,fun _=>by kernel_rfl,fun _=>by kernel_rfl,fun _=>by kernel_rfl,fun _=>by kernel_rfl,
  by kernel_rfl,fun _=>by kernel_rfl,fun _=>by kernel_rfl,fun _=>by kernel_rfl,fun _=>by kernel_rfl,
  by kernel_rfl,fun _=>by kernel_rfl,fun _=>by kernel_rfl,fun _=>by kernel_rfl,fun _=>by kernel_rfl,
  by kernel_rfl,fun _=>by kernel_rfl,fun _=>by kernel_rfl,fun _=>by kernel_rfl,fun _=>by kernel_rfl,
  by kernel_rfl,fun _=>by kernel_rfl,fun _=>by kernel_rfl,fun _=>by kernel_rfl,fun _=>by kernel_rfl,
  by kernel_rfl,fun _=>by kernel_rfl,fun _=>by kernel_rfl,fun _=>by kernel_rfl,fun _=>by kernel_rfl,
  by kernel_rfl,fun _=>by kernel_rfl,fun _=>by kernel_rfl,fun _=>by kernel_rfl,fun _=>by kernel_rfl,
  by kernel_rfl⟩
end Go.Am
namespace Go.Am
set_option linter.all false
open Go Go.RowKit Go.Proofs
set_option maxRecDepth 100000
set_option linter.all false
def caB(cs:List AV)(d:AV):Bx:=⟨[.agg cs],d,false,false⟩
theorem caB_eq(cs:List AV)(d:AV):caB cs d=⟨[.agg cs],d,false,false⟩:=rfl
section
variable {P:Program} {C:Cx P} {G:Gh} {bx:Nat→Option Bx} {w:World}
theorem cell_at(hs:RS C G bx w){J:Nat}{cs:List AV}{d:AV}(hb:bx J=some (caB cs d)):∃blk s,G.bm J=some (blk,s)∧(∀off v,RV G w (.ptr J 0 off) v→v = .pointer (some ⟨blk,off,none⟩)) ∧
  ∀off c,cs[off]?=some c→(∃u,w.cell? ⟨blk,off,none⟩=some u∧RV G w c u)∧w.frozen? ⟨blk,off,none⟩=false:=by
 have hy:(caB cs d).xs[0]?=some (.agg cs):=rfl
 obtain⟨blk,s,cur,e,k1,k2,k3,⟨k4,k5⟩,k6,k7⟩:=hs.box J (caB cs d) hb (hs.lies hb hy)
 refine⟨blk,s,k1,fun off v hv=>?_,fun off c hc=>⟨?_,frozen_of_row w blk off cur e k2⟩⟩
 ·cases hv with|ptr _ _ _ _ hone hu hbm =>
  have:=hbm blk s k1
  rwa [Nat.zero_mul,Nat.zero_add] at this
 ·obtain⟨g0,g1⟩:=k6 0 (.agg cs) hy
  obtain⟨u,h1,h2⟩:=g1 off c hc
  rw[Nat.zero_mul,Nat.zero_add] at h1
  exact⟨u,by rw[cell_of_heap k2]; exact h1,h2⟩
theorem cell_set(hs:RS C G bx w){J:Nat}{cs:List AV}{d:AV}(hb:bx J=some (caB cs d)){blk s:Nat}(hbm:G.bm J=some (blk,s)){off:Nat}(hoff:off<cs.length){z:AV}{u:Value}(hz:RV G w z u)(hone:z.one=true)(hc:z.cells=[z]){t:TypeId}(hi:(P.info? t).map (·.size)=some 1):
  ∃G',RS C G' (upd bx J (some (caB (cs.set off z) d))) (w.setCell ⟨blk,off,none⟩ u)∧Evo G w G' (w.setCell ⟨blk,off,none⟩ u)∧∀i,G'.used i→G.used i:=by
 have hy:(caB cs d).xs[0]?=some (.agg cs):=rfl
 obtain⟨blk',s',h1,hptr,hcell⟩:=cell_at hs hb
 rw[hbm] at h1
 injection h1 with h1
 injection h1 with e1 e2
 subst e1 e2
 have hbx:=hs.boxNames hb
 have hv:RV G w (.ptr J 0 off) (.pointer (some ⟨blk,off,none⟩)):=.ptr J 0 off _ rfl hbx.1 fun b' s' hb'=>by
  rw[hbm] at hb'
  injection hb' with hb'
  injection hb' with e1 e2
  subst e1 e2
  rw[Nat.zero_mul,Nat.zero_add]
 have hl1:z.cells.length=1:=by rw[hc]; rfl
 obtain⟨w',G',r1,r2,r3,r4⟩:=store_ok (P:=P) hs hv hz hb hy rfl rfl hl1 (show off+1≤(AV.agg cs).cells.length from hoff) (fun c hc'=>by rw[hc] at hc'; rw[List.mem_singleton.1 hc']; exact hone) (fun h=>rfl) hi
 obtain⟨c0,hc0⟩:∃c0,cs[off]?=some c0:=⟨_,List.getElem?_eq_getElem hoff⟩
 obtain⟨⟨u0,hu0,_⟩,hfz⟩:=hcell off c0 hc0
 obtain⟨hzl,hzr⟩:=rvs_cells hz
 have hone':u.oneCell'=true:=hz.oneCell hone
 have hucells:u.cells = #[u]:=by
  cases u<;>first|rfl|(simp[Value.oneCell'] at hone')
 have hrun:(Instr.storeAt t (.pointer (some ⟨blk,off,none⟩)) u).run P w = .ok () (w.setCell ⟨blk,off,none⟩ u):=by
  simp only[Instr.storeAt,Instr.sureAddr,Sem.run_bind,Sem.run_pure,Result.andThen_ok,storeVar,run_sizeOf hi]
  rw[if_neg (by rw[hucells]; simp)]
  rw[hucells]
  simp[storeCells,Addr.add_lit,Sem.run_bind,run_store P w _ u _ hone',hu0,hfz,Result.andThen_ok]
 rw[hrun] at r1
 injection r1 with _ r1
 subst r1
 refine⟨G',?_,r3,r4⟩
 have hm:mend (.agg cs) off z = .agg (cs.set off z):=by
  simp only[mend,hc]
  congr 1
  simp only[splice,List.length_singleton]
  rw[List.set_eq_take_append_cons_drop,if_pos hoff]
  simp
 have e:({ caB cs d with xs:=(caB cs d).xs.set 0 (mend (.agg cs) off z) }:Bx)=caB (cs.set off z) d:=by rw[hm]; rfl
 rw[←e]
 exact r2
end
theorem u32info:(Tryz.prog.info? 141).map (·.size)=some 1:=by kernel_rfl
theorem i32info:(Tryz.prog.info? 21).map (·.size)=some 1:=by kernel_rfl
theorem rvsA1{G:Gh}{w:World}{a:AV}{vs:Array Value}(h:RVs G w [a] vs):∃v,vs = #[v]∧RV G w a v:=by
 obtain⟨h1,h2⟩:=h
 have h2:=h2 0 a rfl
 refine⟨vs.getD 0 undef,?_,h2⟩
 apply Array.ext
 ·simpa using h1.symm
 ·intro i q1 q2
  have:i=0:=by simp at q2; exact q2
  subst this
  simp[Array.getD,q1]
theorem rvsA2{G:Gh}{w:World}{a b:AV}{vs:Array Value}(h:RVs G w [a,b] vs):∃v u,vs = #[v,u]∧RV G w a v∧RV G w b u:=by
 obtain⟨h1,h2⟩:=h
 have h3:=h2 0 a rfl
 have h4:=h2 1 b rfl
 refine⟨vs.getD 0 undef,vs.getD 1 undef,?_,h3,h4⟩
 apply Array.ext
 ·simpa using h1.symm
 ·intro i q1 q2
  have q3:i<2:=by simpa using q2
  match i,q3 with
  | 0,_=>simp[Array.getD,q1]
  | 1,_=>simp[Array.getD,q1]
theorem raw_load{x:Opd}{J off:Nat}{cs:List AV}{d:AV}{n:Int}{id:Nat}(hc:cs[off]?=some (.int .u32 n)):RawOk Tryz.prog (.call 164 [x]) [.ptr J 0 off] [(J,caB cs d)] id (.int .u32 n) []:=by
 intro op hcomp C ρ G bx w ve o hρ ho ha hs hh hu hr
 obtain⟨c,hop,hcal,hxs⟩:=comp_call hcomp
 have hb:=hh _ (List.mem_singleton.2 rfl)
 simp only at hb
 obtain⟨blk,s,h1,hptr,hcell⟩:=cell_at hs hb
 obtain⟨⟨u,hu1,hu2⟩,hfz⟩:=hcell off _ hc
 cases hu2
 subst hop
 have hvs:RVs G w ([x].map ve) (c.args.map ρ):=rvs_of_opds hxs fun X hX x hx=>hr X (by simp[Op.operands,Call.operands]; exact .inr (by simpa using hX)) x hx
 have ha:[x].map ve=[.ptr J 0 off]:=ha
 rw[ha] at hvs
 obtain⟨v,hA,hv⟩:=rvsA1 hvs
 have hv:=hptr off _ hv
 subst hv
 have hrun:=run_call_load (P:=Tryz.prog) Tryz.func164 (by kernel_rfl) (by kernel_rfl) (by kernel_rfl) .u32 (by kernel_rfl) hu1
 refine OpOk.still hs ?_ (.int _ _) _
 unfold execOp
 simp[ho,resolve,hcal,hA,hρ,Act.eval,Deferred.ofValue,invoke,hrun]
end Go.Am
namespace Go.Am
set_option linter.all false
open Go Go.RowKit
set_option linter.all false
end Go.Am
namespace Go.Am
set_option linter.all false
open Go Go.RowKit Go.Proofs
set_option maxRecDepth 100000
set_option linter.all false
theorem bLoad_ok(J:Nat)(cs:List AV)(d:AV)(n:Int)(id:Nat)(hc:cs[0]?=some (.int .u32 n))(hp:pureL cs=true):FnOk Tryz.prog 146 [.ptr J 0 0] [(J,caB cs d)] id (.bool (n != 0)) []:=by
 have hr:=fun id=>raw_load (x:=.t 5) (J:=J) (off:=0) (d:=d) (id:=id) hc
 rw[caB_eq] at hr ⊢
 refine fn_okc Tryz.func146 hcc146 (by decide) hcr146 (by simp[Tryz.ntmps146]) fun E hP hR hl hid=>?_
 simp only[cr146] at hR
 refine w_go 4000 ?_
 simp[cc146]
 have hJ:=hl (J,_) (List.mem_cons_self ..)
 simp only at hJ
 have J1:=lf hJ
 refine w_raw hP rfl (by simp[COp.args]<;>rfl) (hr _) (by simp) (by simp) ?_
 refine w_go 4000 ?_
 simp
 have hrn:rnOk []:=by simp[J1,idO hid]
 rw[hR]
 refine rt_end (by simp<;>rfl) [] hrn ⟨?_,?_,?_,?_,?_,?_⟩<;>(try simp[J1,idO hid])
 all_goals exact renL_pure rfl hp
theorem store_deferred(a:Addr)(x:Value)(u:FrameMode)(w:World)(hc:w.cell? a=some x)(hz:w.frozen? a=false):
  CallsD Tryz.prog 167 #[.pointer (some a),.bool true] u w fun e u' w'=>u'=u∧(e = .returned (.tuple #[])∧w'=w.drew.setCell a (.int .u32 1)):=by
 have hc':w.drew.cell? a=some x:=by go_simp
 have hz':w.drew.frozen? a=false:=by go_simp
 have hst:=run_call_store (P:=Tryz.prog) Tryz.func181 (by kernel_rfl) (by kernel_rfl) (by kernel_rfl) (by kernel_rfl) (k:=.u32) (y:=1) hc' hz'
 go_enter_d Tryz.func167,Tryz.ntmps167
 go_wp2
 go_region_calls
 all_goals (go_end0; exact⟨rfl,rfl⟩)
set_option maxHeartbeats 1600000 in
theorem slow_any(b:Nat)(g:FuncId)(v1:Value)(w:World)(Q:World→Prop)(h0:w.cell? ⟨b,0,none⟩=some (.int .u32 0))(h1:w.cell? ⟨b,1,none⟩=some (.int .i32 0))(f1:w.frozen? ⟨b,1,none⟩=false)
  (hpl:PlainF Tryz.prog g) (hf:Calls Tryz.prog g #[v1] (w.setCell ⟨b,1,none⟩ (.int .i32 1)) fun e w2=>(∃v,e = .returned v)∧(∃x,w2.cell? ⟨b,0,none⟩=some x)∧w2.frozen? ⟨b,0,none⟩=false∧w2.cell? ⟨b,1,none⟩=some (.int .i32 1)∧w2.frozen? ⟨b,1,none⟩=false∧Q w2) :
  Calls Tryz.prog 147 #[.pointer (some ⟨b,0,none⟩),.func (.func g) #[v1] #[]] w fun e w'=>e = .returned (.tuple #[])∧∃w2,Q w2∧w'=(w2.drew.setCell ⟨b,0,none⟩ (.int .u32 1)).setCell ⟨b,1,none⟩ (.int .i32 0):=by
 have hl:=run_call_load (P:=Tryz.prog) Tryz.func164 (by kernel_rfl) (by kernel_rfl) (by kernel_rfl) .u32 (by kernel_rfl) (w:=w.setCell ⟨b,1,none⟩ (.int .i32 1)) (a:=⟨b,0,none⟩) (x:=0) ((World.cell?_setCell_other _ ⟨b,1,none⟩ ⟨b,0,none⟩ _ (by simp)).trans h0)
 have hnot:∀(x:Bool) (w:World),(Op.unary .not (.bool x)).run Tryz.prog w = .ok (.bool (!x)) w:=fun _ _=>rfl
 have hcf:=callFunc_run hpl
 go_enter_defers Tryz.func147,Tryz.ntmps147
 go_wp2_with (go_at_call 165; refine (Go.MuLone.lock_free muLib ⟨b,1,none⟩ _ (by first|exact h1|simpa [go_sem] using h1) (by first|exact f1|simpa [go_sem] using f1)).mono ?_; rintro e w' ⟨rfl,rfl⟩)
 go_wp2
 refine hf.mono ?_
 rintro e w2 ⟨⟨v,rfl⟩,⟨x,hx⟩,z0,l1,z1,hq⟩
 go_wp2
 refine leaves_cons (f:=167) (args:=#[.pointer (some ⟨b,0,none⟩),.bool true]) (by simp) (by simp[go_sem]) ?_
 refine (store_deferred ⟨b,0,none⟩ x .returning _ hx z0).mono ?_
 rintro e u' w'' ⟨rfl,rfl,rfl⟩
 refine leaves_cons (f:=166) (args:=#[.pointer (some ⟨b,1,none⟩)]) (by simp[settle]) (by simp[go_sem]) ?_
 refine (Go.MuLone.unlock_deferred muLib ⟨b,1,none⟩ _ _ ?_ (by simp[z1])).mono ?_
 ·refine (World.cell?_setCell_other _ ⟨b,0,none⟩ ⟨b,1,none⟩ _ (by simp)).trans ?_
  rw[World.cell?_drew]
  exact l1
 rintro e u' w'' ⟨rfl,rfl,rfl⟩
 simp[Leaves,settle,results,Tryz.results147]
 exact⟨w2,hq,rfl⟩
end Go.Am
namespace Go.Am
set_option linter.all false
open Go Go.RowKit Go.Proofs
set_option maxRecDepth 100000
set_option linter.all false
theorem updTwice{f:Nat→Option Bx}{J:Nat}{a b:Option Bx}:upd (upd f J a) J b=upd f J b:=by
 funext y
 by_cases h:y=J
 ·subst h; rw[upd_eq,upd_eq]
 ·rw[upd_ne _ _ _ h,upd_ne _ _ _ h,upd_ne _ _ _ h]
theorem appl_upd{f:Nat→Option Bx}{J:Nat}{c:Option Bx}{W:List (Nat×Option Bx)}(h:J∉keysW W):upd (appl f W) J c=appl (upd f J c) W:=by
 funext y
 by_cases hy:y=J
 ·subst hy; rw[upd_eq,appl_out h,upd_eq]
 ·rw[upd_ne _ _ _ hy]
  by_cases hk:y∈keysW W
  ·exact appl_in hk
  ·rw[appl_out hk,appl_out hk,upd_ne _ _ _ hy]
section
variable {P:Program} {C:Cx P} {G:Gh} {bx:Nat→Option Bx} {w:World}
theorem cell_set'(hs:RS C G bx w){J:Nat}{cs:List AV}{d:AV}(hb:bx J=some (caB cs d)){blk:Nat}(hv:RV G w (.ptr J 0 0) (.pointer (some ⟨blk,0,none⟩))){off:Nat}(hoff:off<cs.length){z:AV}{u:Value}(hz:RV G w z u)(hone:z.one=true)(hc:z.cells=[z]){t:TypeId}(hi:(P.info? t).map (·.size)=some 1):
  ∃G',RS C G' (upd bx J (some (caB (cs.set off z) d))) (w.setCell ⟨blk,off,none⟩ u)∧Evo G w G' (w.setCell ⟨blk,off,none⟩ u)∧∀i,G'.used i→G.used i:=by
 obtain⟨blk',s,h1,hptr,hcell⟩:=cell_at hs hb
 have:=hptr 0 _ hv
 injection this with this
 injection this with this
 injection this with e1 e2 e3
 subst e1
 exact cell_set hs hb h1 hoff hz hone hc hi
theorem cell_at'(hs:RS C G bx w){J:Nat}{cs:List AV}{d:AV}(hb:bx J=some (caB cs d)){blk:Nat}(hv:RV G w (.ptr J 0 0) (.pointer (some ⟨blk,0,none⟩))){off:Nat}{c:AV}(hc:cs[off]?=some c):(∃u,w.cell? ⟨blk,off,none⟩=some u∧RV G w c u)∧w.frozen? ⟨blk,off,none⟩=false:=by
 obtain⟨blk',s,h1,hptr,hcell⟩:=cell_at hs hb
 have:=hptr 0 _ hv
 injection this with this
 injection this with this
 injection this with e1 e2 e3
 subst e1
 exact hcell off c hc
end
theorem slow_ok(g J:Nat)(cs cs1:List AV)(d:AV)(W:List (Nat×Option Bx))(res:AV)(id:Nat)(h0:cs[0]?=some (.int .u32 0))(h1:cs[1]?=some (.int .i32 0))(c0:∃n,cs1[0]?=some (.int .u32 n))(c1:cs1[1]?=some (.int .i32 1))(hW:J∉keysW W)
  (hg:FnOk Tryz.prog g [.ptr J 0 0] [(J,caB (cs.set 1 (.int .i32 1)) d)] id res ((J,some (caB cs1 d))::W)) :
  FnOk Tryz.prog 147 [.ptr J 0 0,.fnb g [.ptr J 0 0]] [(J,caB cs d)] id (.tup []) ((J,some (caB ((cs1.set 0 (.int .u32 1)).set 1 (.int .i32 0)) d))::W):=by
 refine⟨⟨_,Tryz.func147,by kernel_rfl,by kernel_rfl⟩,fun C G bx w vs nb hs hv hh hnb hid=>?_⟩
 have hb:=hh _ (List.mem_singleton.2 rfl)
 simp only at hb
 obtain⟨n,c0⟩:=c0
 obtain⟨v,fv,rfl,hv1,hv2⟩:=rvsA2 hv
 obtain⟨blk,s,hbm,hptr,hcell⟩:=cell_at hs hb
 have e1:=hptr 0 _ hv1
 subst e1
 obtain⟨us,rfl,hus⟩:∃us,fv = .func (.func g) us #[]∧RVs G w [.ptr J 0 0] us:=by
  cases hv2 with|fnb _ _ us hl hh=>exact⟨us,rfl,hl,hh⟩
 obtain⟨u,rfl,hu⟩:=rvsA1 hus
 have e2:=hptr 0 _ hu
 subst e2
 obtain⟨⟨x0,hx0,r0⟩,z0⟩:=hcell 0 _ h0
 obtain⟨⟨x1,hx1,r1⟩,z1⟩:=hcell 1 _ h1
 cases r0
 cases r1
 have hl1:1<cs.length:=(List.getElem?_eq_some_iff.1 h1).1
 obtain⟨G1,s1,ev1,us1⟩:=cell_set hs hb hbm hl1 (z:=.int .i32 1) (u:=.int .i32 1) (.int _ _) rfl rfl i32info
 have hcall:=hg.2 C G1 _ _ #[.pointer (some ⟨blk,0,none⟩)] nb s1 ⟨rfl,fun i y hy=>?_⟩ (fun q hq=>by rw[List.mem_singleton.1 hq]; exact upd_eq _ _ _) (fun x hx h=>hnb x hx (us1 x h)) (fun x hx hx' h=>hid x hx hx' (us1 x h))
 rotate_left
 ·match i,hy with
  | 0,hy=>injection hy with hy; subst hy; exact hv1.mono ev1
  | i+1,hy=>simp at hy
 refine (slow_any blk g (.pointer (some ⟨blk,0,none⟩)) w (fun w2=>∃G2,RS C G2 (appl (upd bx J (some (caB (cs.set 1 (.int .i32 1)) d))) ((J,some (caB cs1 d))::W)) w2∧Evo G w G2 w2∧∀x,G2.used x→G.used x∨(id≤x∧x<id+1024)) hx0 hx1 z1 hg.1 (hcall.mono ?_)).mono ?_
 ·rintro e w2 ⟨v2,G2,rfl,s2,ev2,rv2,us2⟩
  have hb2:appl (upd bx J (some (caB (cs.set 1 (.int .i32 1)) d))) ((J,some (caB cs1 d))::W) J=some (caB cs1 d):=by
   simp only[appl]
   rw[appl_out hW,upd_eq]
  have hp2:=(hv1.mono ev1).mono ev2
  obtain⟨⟨y0,hy0,_⟩,q0⟩:=cell_at' s2 hb2 hp2 c0
  obtain⟨⟨y1,hy1,t1⟩,q1⟩:=cell_at' s2 hb2 hp2 c1
  cases t1
  exact⟨⟨v2,rfl⟩,⟨y0,hy0⟩,q0,hy1,q1,G2,s2,ev1.trans ev2,fun x hx=>(us2 x hx).imp (us1 x) _root_.id⟩
 ·rintro e w' ⟨rfl,w2,⟨G2,s2,ev2,us2⟩,rfl⟩
  simp only[appl] at s2
  rw[updTwice] at s2
  have hb2:appl (upd bx J (some (caB cs1 d))) W J=some (caB cs1 d):=by rw[appl_out hW,upd_eq]
  obtain⟨s3,ev3⟩:=s2.drew
  have hp3:=hv1.mono (ev2.trans ev3)
  obtain⟨G4,s4,ev4,us4⟩:=cell_set' s3 hb2 hp3 (off:=0) (List.getElem?_eq_some_iff.1 c0).1 (z:=.int .u32 1) (u:=.int .u32 1) (.int _ _) rfl rfl u32info
  have hp4:=hp3.mono ev4
  obtain⟨G5,s5,ev5,us5⟩:=cell_set' s4 (upd_eq _ _ _) hp4 (off:=1) (by rw[List.length_set]; exact (List.getElem?_eq_some_iff.1 c1).1) (z:=.int .i32 0) (u:=.int .i32 0) (.int _ _) rfl rfl i32info
  refine⟨.tuple #[],G5,rfl,?_,((ev2.trans ev3).trans ev4).trans ev5,.tup [] #[] rfl fun i y hy=>by simp at hy,fun x hx=>us2 x (us4 x (us5 x hx))⟩
  simp only[appl]
  rw[updTwice,appl_upd hW,updTwice] at s5
  exact s5
end Go.Am
