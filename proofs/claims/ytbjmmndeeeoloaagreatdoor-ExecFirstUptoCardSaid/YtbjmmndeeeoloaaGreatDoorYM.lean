/- Parts of the proof: an abstract machine for Go functions, and what functions of the program give back (Vl10, Vl11, Vl12, Vl13e). No condition. -/
import Derived.Test.YtbjmmndeeeoloaaGreatDoorXL
import Derived.Test.YtbjmmndeeeoloaaGreatDoorYK
namespace Go.Am
set_option linter.all false
open Go Go.RowKit Go.Proofs
set_option maxRecDepth 100000
set_option linter.all false
mutual
def fPathS(ahead:List UInt8):Sel→List (List UInt8)
 | .mk a n _ k=>(ahead++if a≠[] then a else n)::fPathL ((ahead++if a≠[] then a else n)++[47]) k
def fPathL(ahead:List UInt8):List Sel→List (List UInt8)
 | []=>[]
 | s::r=>fPathS ahead s++fPathL ahead r
end
theorem fPathS_eq(ahead:List UInt8)(s:Sel):fPathS ahead s=(ahead++called s)::fPathL (ahead++called s++[47]) s.kids:=by cases s; rfl
mutual
theorem path_lenS(ahead:List UInt8):∀s:Sel,(fPathS ahead s).length≤s.sz
 | .mk a n x k=>by
  have:=path_lenL ((ahead++if a≠[] then a else n)++[47]) k
  simp only[fPathS,List.length_cons,Sel.sz]; omega
theorem path_lenL(ahead:List UInt8):∀l:List Sel,(fPathL ahead l).length≤szL l
 | []=>by simp[fPathL]
 | s::r=>by
  have h1:=path_lenS ahead s
  have h2:=path_lenL ahead r
  simp only[fPathL,List.length_append,szL]; omega
end
theorem fName_len{s:List UInt8}(h:fName s=0):s.length≤12:=by
 unfold fName at h
 split at h
 ·simp at h
 ·omega
theorem called_len{s:Sel}(h:fNm s=0):(called s).length≤12:=by
 unfold fNm at h
 unfold called
 split at h
 ·rename_i h0; exact (h0 h).elim
 ·rename_i h0
  split at h
  ·rename_i h1; rw[if_pos h1]; exact fName_len h
  ·rename_i h1; rw[if_neg h1]; exact fName_len (Classical.byContradiction h0)
@[simp] theorem pure_strs' (l:List (List UInt8)):pureL (l.map AV.str)=true:=pureL_map (fun _=>rfl) l
@[simp] theorem names_strs' (S:Nat→Prop) (l:List (List UInt8)):namesL S (l.map AV.str):=namesL_pure _ (pure_strs' l)
@[simp] theorem ren_strs' (R:Rn) (S:Nat→Prop) (l:List (List UInt8)):RenL R S (l.map AV.str) (l.map AV.str):=renL_pure rfl (pure_strs' l)
set_option maxHeartbeats 4000000 in
theorem walk_ok:∀(n:Nat) (q:List Sel) (ahead:List UInt8) (out:List (List UInt8)) (bo bw j id:Nat),szL q<n→fChkL q []=0→szL q≤1099511627776→ahead.length+13*szL q≤35184372088832→out.length+szL q≤2199023255552→bo≠bw→bo≠j→bw≠j →
  FnOk Tryz.prog 63 [.str ahead,.sl (q.map eSel),.ptr bo 0 0,.ptr bw 0 0]
   [(bo,⟨[.bsl j 0 out.length],.nils,false,false⟩),(j,⟨out.map AV.str,.str [],false,false⟩),(bw,⟨[.fn 63 [.ptr bo 0 0,.ptr bw 0 0]],.nilf,false,false⟩)] id (.tup [])
   [(bo,some ⟨[.bsl id 0 (out++fPathL ahead q).length],.nils,false,false⟩),(j,none),(id,some ⟨(out++fPathL ahead q).map AV.str,.str [],false,false⟩)]
 | 0,q,ahead,out,bo,bw,j,id,hn,hc,hq8,ha8,ho8,d1,d2,d3=>by omega
 | n+1,q,ahead,out,bo,bw,j,id,hn,hc,hq8,ha8,ho8,d1,d2,d3=>by
  have ih:=walk_ok n
  have hlen:=szL_len q
  refine fn_okc Tryz.func63 hcc63 (by decide) hcr63 (by simp[Tryz.ntmps63]) fun E hP hR hl hid=>?_
  simp only[cr63] at hR
  refine w_go 4000 ?_
  simp[cc63]
  have hbo:=hl (bo,_) (List.mem_cons_self ..)
  simp only at hbo
  have bo1:=lf hbo
  have hj:=hl (j,_) (List.mem_cons_of_mem _ (List.mem_cons_self ..))
  simp only at hj
  have j1:=lf hj
  have hbw:=hl (bw,_) (List.mem_cons_of_mem _ (List.mem_cons_of_mem _ (List.mem_cons_self ..)))
  simp only at hbw
  have bw1:=lf hbw
  refine w_loop (X:=Nat×List (List UInt8)) (fun x=>⟨[(0,true,.str ahead),(2,true,.ptr bo 0 0),(3,true,.ptr bw 0 0),(9,true,.sl (q.map eSel)),(10,true,.int .i64 q.length),(11,true,.int .i64 x.1)],[(bo,some ⟨[.bsl E.n0 0 x.2.length],.nils,false,false⟩),(j,none),(E.n0,some ⟨x.2.map AV.str,.str [],false,false⟩),(bw,some ⟨[.fn 63 [.ptr bo 0 0,.ptr bw 0 0]],.nilf,false,false⟩)],1⟩)
   (fun x=>x.1≤q.length∧x.2++fPathL ahead (q.drop x.1)=out++fPathL ahead q∧x.2.length+szL (q.drop x.1)≤out.length+szL q) (fun x=>q.length - x.1) (0,out) ?_ ⟨by simp,rfl,by simp⟩ ?_
  ·have hrn:rnOk [(E.n0,j)]:=by simp[bo1,j1,bw1,d1,d1.symm,d2,d2.symm,d3,d3.symm]
   refine Conv.sub [(E.n0,j)] hrn ?_ ?_ ?_ ?_ ?_<;>(try simp[bo1,j1,bw1,d1,d1.symm,d2,d2.symm,d3,d3.symm])
  ·rintro⟨i,o⟩ ⟨hi,hf,hol⟩ p hp
   simp only at hi hf hol hp
   refine w_go 4000 ?_
   simp[bo1,j1,bw1,d1,d1.symm,d2,d2.symm,d3,d3.symm]
   refine goc (fun h=>?_) (fun h=>?_)
   ·have h:=of_decide_eq_true h
    obtain⟨x,hx,hd⟩:=drop_cons h
    have hxm:x∈q:=List.mem_of_getElem? hx
    have hsz:=szL_kids hxm
    have hsx:=szL_mem hxm
    have hse:=sz_eq x
    obtain⟨hc1,hc0,hc2⟩:=chk_mem hc x hxm
    have hcl:=called_len hc0
    rw[hd] at hf hol
    simp only[fPathL,szL] at hf hol
    rw[fPathS_eq] at hf
    have hi1:IntKind.i64.wrap ((i:Int)+1)=((i+1:Nat):Int):=wrap64 (by omega)
    have hcx:=Called_ok x
    rw[eSel_eq] at hcx
    simp[hx,eSel_eq x,bo1,j1,bw1,d1,d1.symm,d2,d2.symm,d3,d3.symm]
    refine⟨h,?_⟩
    (refine w_call hP rfl (hcx _) (by simp[bo1,j1,bw1,d1,d1.symm,d2,d2.symm,d3,d3.symm]) (by simp[bo1,j1,bw1,d1,d1.symm,d2,d2.symm,d3,d3.symm]<;>rfl) ?_; refine w_go 4000 ?_; simp[bo1,j1,bw1,d1,d1.symm,d2,d2.symm,d3,d3.symm])
    refine⟨by omega,⟨by omega,by omega⟩,by omega,?_⟩
    have hI:=fun id=>ih x.kids (ahead++(called x++[47])) (o++[ahead++called x]) bo bw (E.n0+13313) id (by omega) hc2 (by omega) (by simp; omega) (by simp; omega) d1 (by omega) (by omega)
    simp only[List.map_append,List.map_cons,List.map_nil,List.length_append,List.length_cons,List.length_nil,Nat.zero_add] at hI
    refine w_callv hP rfl rfl (hI _) (by simp) (by simp[bo1,j1,bw1,d1,d1.symm,d2,d2.symm,d3,d3.symm]<;>exact⟨rfl,rfl⟩) ?_
    refine w_go 4000 ?_
    simp[bo1,j1,bw1,d1,d1.symm,d2,d2.symm,d3,d3.symm]
    have hpl:=path_lenL (ahead++(called x++[47])) x.kids
    refine hp _ (i+1,o++(ahead++called x)::fPathL (ahead++(called x++[47])) x.kids) ⟨h,by rw[←hf]; simp,by simp; omega⟩ (by simp only; omega) ?_
    have hrn:rnOk [(E.n0,E.n0+20481)]:=by simp[hi1,bo1,j1,bw1,d1,d1.symm,d2,d2.symm,d3,d3.symm]
    refine Conv.sub [(E.n0,E.n0+20481)] hrn ?_ ?_ ?_ ?_ ?_<;>(try simp[hi1,bo1,j1,bw1,d1,d1.symm,d2,d2.symm,d3,d3.symm])
    exact⟨by omega,renL_pure rfl (pureL_append (pure_strs' o) (by simp))⟩
   ·have h:=of_decide_eq_false h
    simp[bo1,j1,bw1,d1,d1.symm,d2,d2.symm,d3,d3.symm]
    rw[List.drop_of_length_le (by omega)] at hf
    simp only[fPathL,List.append_nil] at hf
    subst hf
    have hrn:rnOk [(id,E.n0)]:=by simp[bo1,j1,bw1,d1,d1.symm,d2,d2.symm,d3,d3.symm,idO hid]
    rw[hR]
    refine rt_end (by simp<;>rfl) [(id,E.n0)] hrn ⟨?_,?_,?_,?_,?_,?_⟩<;>(try simp[bo1,j1,bw1,d1,d1.symm,d2,d2.symm,d3,d3.symm,idO hid])
    exact renL_pure rfl (pureL_append (pure_strs' out) (pure_strs' _))
set_option maxHeartbeats 4000000 in
theorem walk0_ok(q:List Sel)(ahead:List UInt8)(bo bw id:Nat)(hc:fChkL q []=0)(hq8:szL q≤1099511627776)(ha8:ahead.length+13*szL q≤35184372088832)(d1:bo≠bw):
  FnOk Tryz.prog 63 [.str ahead,.sl (q.map eSel),.ptr bo 0 0,.ptr bw 0 0]
   [(bo,⟨[.nils],.nils,false,false⟩),(bw,⟨[.fn 63 [.ptr bo 0 0,.ptr bw 0 0]],.nilf,false,false⟩)] id (.tup [])
   [(bo,some ⟨[.bsl id 0 (fPathL ahead q).length],.nils,false,false⟩),(id,some ⟨(fPathL ahead q).map AV.str,.str [],false,false⟩)]:=by
 have hlen:=szL_len q
 refine fn_okc Tryz.func63 hcc63 (by decide) hcr63 (by simp[Tryz.ntmps63]) fun E hP hR hl hid=>?_
 simp only[cr63] at hR
 refine w_go 4000 ?_
 simp[cc63]
 have hbo:=hl (bo,_) (List.mem_cons_self ..)
 simp only at hbo
 have bo1:=lf hbo
 have hbw:=hl (bw,_) (List.mem_cons_of_mem _ (List.mem_cons_self ..))
 simp only at hbw
 have bw1:=lf hbw
 refine w_loop (X:=Nat×List (List UInt8)) (fun x=>⟨[(0,true,.str ahead),(2,true,.ptr bo 0 0),(3,true,.ptr bw 0 0),(9,true,.sl (q.map eSel)),(10,true,.int .i64 q.length),(11,true,.int .i64 x.1)],[(bo,some ⟨[.bsl E.n0 0 x.2.length],.nils,false,false⟩),(E.n0,some ⟨x.2.map AV.str,.str [],false,false⟩),(bw,some ⟨[.fn 63 [.ptr bo 0 0,.ptr bw 0 0]],.nilf,false,false⟩)],1⟩)
  (fun x=>x.1≤q.length∧x.2++fPathL ahead (q.drop x.1)=fPathL ahead q∧x.2.length+szL (q.drop x.1)≤szL q) (fun x=>q.length - x.1) (0,[]) ?_ ⟨by simp,rfl,by simp⟩ ?_
 ·refine Conv.trans (Conv.voidBox bo (by simp; rfl) rfl .nils (.str [])) ?_
  have hrn:rnOk [(E.n0,E.n0+3072)]:=by simp[bo1,bw1,d1,d1.symm]
  refine Conv.sub [(E.n0,E.n0+3072)] hrn ?_ ?_ ?_ ?_ ?_<;>(try simp[bo1,bw1,d1,d1.symm])
 ·rintro⟨i,o⟩ ⟨hi,hf,hol⟩ p hp
  simp only at hi hf hol hp
  refine w_go 4000 ?_
  simp[bo1,bw1,d1,d1.symm]
  refine goc (fun h=>?_) (fun h=>?_)
  ·have h:=of_decide_eq_true h
   obtain⟨x,hx,hd⟩:=drop_cons h
   have hxm:x∈q:=List.mem_of_getElem? hx
   have hsz:=szL_kids hxm
   have hsx:=szL_mem hxm
   have hse:=sz_eq x
   obtain⟨hc1,hc0,hc2⟩:=chk_mem hc x hxm
   have hcl:=called_len hc0
   rw[hd] at hf hol
   simp only[fPathL,szL] at hf hol
   rw[fPathS_eq] at hf
   have hi1:IntKind.i64.wrap ((i:Int)+1)=((i+1:Nat):Int):=wrap64 (by omega)
   have hcx:=Called_ok x
   rw[eSel_eq] at hcx
   simp[hx,eSel_eq x,bo1,bw1,d1,d1.symm]
   refine⟨h,?_⟩
   (refine w_call hP rfl (hcx _) (by simp[bo1,bw1,d1,d1.symm]) (by simp[bo1,bw1,d1,d1.symm]<;>rfl) ?_; refine w_go 4000 ?_; simp[bo1,bw1,d1,d1.symm])
   refine⟨by omega,⟨by omega,by omega⟩,by omega,?_⟩
   have hI:=fun id=>walk_ok (szL x.kids+1) x.kids (ahead++(called x++[47])) (o++[ahead++called x]) bo bw (E.n0+13313) id (by omega) hc2 (by omega) (by simp; omega) (by simp; omega) d1 (by omega) (by omega)
   simp only[List.map_append,List.map_cons,List.map_nil,List.length_append,List.length_cons,List.length_nil,Nat.zero_add] at hI
   refine w_callv hP rfl rfl (hI _) (by simp) (by simp[bo1,bw1,d1,d1.symm]<;>exact⟨rfl,rfl⟩) ?_
   refine w_go 4000 ?_
   simp[bo1,bw1,d1,d1.symm]
   have hpl:=path_lenL (ahead++(called x++[47])) x.kids
   refine hp _ (i+1,o++(ahead++called x)::fPathL (ahead++(called x++[47])) x.kids) ⟨h,by rw[←hf]; simp,by simp; omega⟩ (by simp only; omega) ?_
   have hrn:rnOk [(E.n0,E.n0+20481)]:=by simp[hi1,bo1,bw1,d1,d1.symm]
   refine Conv.sub [(E.n0,E.n0+20481)] hrn ?_ ?_ ?_ ?_ ?_<;>(try simp[hi1,bo1,bw1,d1,d1.symm])
   exact⟨by omega,renL_pure rfl (pureL_append (pure_strs' o) (by simp))⟩
  ·have h:=of_decide_eq_false h
   simp[bo1,bw1,d1,d1.symm]
   rw[List.drop_of_length_le (by omega)] at hf
   simp only[fPathL,List.append_nil] at hf
   subst hf
   have hrn:rnOk [(id,E.n0)]:=by simp[bo1,bw1,d1,d1.symm,idO hid]
   rw[hR]
   refine rt_end (by simp<;>rfl) [(id,E.n0)] hrn ⟨?_,?_,?_,?_,?_,?_⟩<;>(try simp[bo1,bw1,d1,d1.symm,idO hid])
end Go.Am
namespace Go.Am
set_option linter.all false
open Go Go.RowKit Go.Proofs
set_option maxRecDepth 100000
set_option linter.all false
theorem fQuery_chk{q:List Sel}(h:fQuery q=0):fChkL q []=0:=by
 unfold fQuery at h
 split at h
 ·simp at h
 ·split at h
  ·simp at h
  ·exact h
theorem fValid_q{l:List Ty}{q:List Sel}(h:fValid l q=0):fCheckT l=0∧fQuery q=0∧fFits l q=0:=by
 unfold fValid at h
 split at h
 ·rename_i h0; exact (h0 h).elim
 ·rename_i h0
  split at h
  ·rename_i h1; exact (h1 h).elim
  ·rename_i h1
   exact⟨Classical.byContradiction h0,Classical.byContradiction h1,h⟩
def fPaths(l:List Ty)(q:List Sel):List (List UInt8):=if fValid l q=0 then fPathL [] q else []
set_option maxHeartbeats 1000000 in
theorem Paths_ok(l:List Ty)(q:List Sel)(id:Nat)(hq8:szL q≤1099511627776):
  FnOk Tryz.prog 38 [.sl (l.map eTy),.sl (q.map eSel)] [] id (.tup [.sl ((fPaths l q).map AV.str),.int .i64 (fValid l q)]) []:=by
 have hV:=vQuery_ok l q
 by_cases h0:fValid l q=0
 ·have hc:=fQuery_chk (fValid_q h0).2.1
  have hW:=fun bo bw id d1=>walk0_ok q [] bo bw id hc hq8 (by simp; omega) d1
  rw[show fPaths l q=fPathL [] q by unfold fPaths; rw[if_pos h0]]
  rw[h0] at hV ⊢
  refine fn_okc Tryz.func38 hcc38 (by decide) hcr38 (by simp[Tryz.ntmps38]) fun E hP hR hl hid=>?_
  simp only[cr38] at hR
  refine w_go 4000 ?_
  simp[cc38]
  (refine w_call hP rfl (hV _ hq8) (by simp) (by simp<;>rfl) ?_; refine w_go 4000 ?_; simp)
  refine w_callv hP rfl rfl (hW (E.n0+8192) (E.n0+9216) _ (by omega)) (by simp) (by simp<;>exact⟨rfl,rfl⟩) ?_
  refine w_go 4000 ?_
  simp
  have hrn:rnOk []:=by simp[idO hid]
  rw[hR]
  refine rt_endR (by simp<;>rfl) (by simp[idO hid]<;>exact⟨rfl,rfl⟩) [] hrn ⟨?_,?_,?_,?_,?_,?_⟩<;>(try simp[idO hid])
 ·rw[show fPaths l q=[] by unfold fPaths; rw[if_neg h0]]
  refine fn_okc Tryz.func38 hcc38 (by decide) hcr38 (by simp[Tryz.ntmps38]) fun E hP hR hl hid=>?_
  simp only[cr38] at hR
  refine w_go 4000 ?_
  simp[cc38]
  (refine w_call hP rfl (hV _ hq8) (by simp) (by simp<;>rfl) ?_; refine w_go 4000 ?_; simp)
  refine goc_true (by simpa using h0) ?_
  simp
  have hrn:rnOk []:=by simp[idO hid]
  rw[hR]
  refine rt_end (by simp<;>rfl) [] hrn ⟨?_,?_,?_,?_,?_,?_⟩<;>(try simp[idO hid])
end Go.Am
namespace Go.Am
set_option linter.all false
open Go Go.RowKit Go.Proofs
set_option maxRecDepth 100000
set_option linter.all false
theorem sameTexts_ok(a b:List (List UInt8))(id:Nat)(ha:a.length<9223372036854775807):FnOk Tryz.prog 40 [.sl (a.map AV.str),.sl (b.map AV.str)] [] id (.bool (a==b)) []:=by
 refine fn_okc Tryz.func40 hcc40 (by decide) hcr40 (by simp[Tryz.ntmps40]) fun E hP hR hl hid=>?_
 simp only[cr40] at hR
 refine w_go 4000 ?_
 simp[cc40]
 refine goc (fun h=>?_) (fun h=>?_)<;>simp
 ·have hne:(a==b)=false:=by
   rw[beq_eq_false_iff_ne]; rintro rfl; simp at h
  rw[hR]; exact rt_end (by simp<;>rfl) [] trivial (end_pure (by simp; exact beq_eq_false_iff_ne.1 hne) (by simp) (by simp))
 have hlen:a.length=b.length:=by simp at h; omega
 refine w_loop (X:=Nat) (fun i=>⟨[(0,true,.sl (a.map AV.str)),(1,true,.sl (b.map AV.str)),(5,true,.int .i64 i)],[],0⟩) (fun i=>i≤a.length∧(a.drop i==b.drop i)=(a==b)) (fun i=>a.length - i) 0 ?_ ⟨by omega,rfl⟩ ?_
 ·have hrn:rnOk []:=by simp
  refine Conv.sub [] hrn ?_ ?_ ?_ ?_ ?_<;>(try simp)
 ·rintro i ⟨hi,hf⟩ p hp
  refine w_go 4000 ?_
  simp
  refine goc (fun h=>?_) (fun h=>?_)
  ·have h:=of_decide_eq_true h
   obtain⟨x,hx,hd⟩:=drop_cons h
   obtain⟨y,hy,hd2⟩:=drop_cons (l:=b) (i:=i) (by omega)
   rw[hd,hd2] at hf
   have hi1:IntKind.i64.wrap ((i:Int)+1)=((i+1:Nat):Int):=wrap64 (by omega)
   simp[hx,hy]
   refine⟨h,by omega,?_⟩
   refine goc (fun h1=>?_) (fun h1=>?_)<;>simp
   ·have hne:x≠y:=by simpa using h1
    have hv:(a==b)=false:=by rw[←hf,beq_eq_false_iff_ne]; intro hh; exact hne (List.cons.inj hh).1
    rw[hR]; exact rt_end (by simp<;>rfl) [] trivial (end_pure (by simp; exact beq_eq_false_iff_ne.1 hv) (by simp) (by simp))
   ·have he:x=y:=by simpa using h1
    subst he
    refine hp _ (i+1) ⟨h,by simpa using hf⟩ (by omega) ?_
    have hrn:rnOk []:=by simp[hi1]
    refine Conv.sub [] hrn ?_ ?_ ?_ ?_ ?_<;>(try simp[hi1])
  ·have h:=of_decide_eq_false h
   simp
   rw[List.drop_of_length_le (by omega),List.drop_of_length_le (by omega)] at hf
   rw[hR]; exact rt_end (by simp<;>rfl) [] trivial (end_pure (by simp; exact eq_of_beq hf.symm) (by simp) (by simp))
end Go.Am
namespace Go.Am
set_option linter.all false
open Go Go.RowKit Go.Proofs
set_option maxRecDepth 100000
set_option linter.all false
theorem val_one:fValid tyW [.mk [] [65] [] []]=4:=by decide
theorem path_look:fPathL [] lookW=[[65],[65,47,105,100],[65,47,107],[65,47,107,47,110],[65,47,98],[65,47,98,47,109]]:=by decide
theorem vQuery1_ok(id:Nat):FnOk Tryz.prog 17 [.sl (tyW.map eTy),.sl [.agg [.str [],.str [65],.nils,.nils]]] [] id (.int .i64 4) []:=by
 have h:=vQuery_ok tyW [.mk [] [65] [] []] id (by decide)
 rw[val_one] at h
 refine FnOk.nrmA ?_
 exact h
theorem validBegun_ok(id:Nat):FnOk Tryz.prog 16 [] [] id (.bool true) []:=by
 have hP0:=fun id=>Paths_ok tyW lookW id (by rw[sz_look]; omega)
 have hQ0:=fun id=>vQuery_ok tyW lookW id (by rw[sz_look]; omega)
 have hS:=fun id=>sameTexts_ok [[65],[65,47,105,100],[65,47,107],[65,47,107,47,110],[65,47,98],[65,47,98,47,109]] [[65],[65,47,105,100],[65,47,107],[65,47,107,47,110],[65,47,98],[65,47,98,47,109]] id (by decide)
 rw[show fPaths tyW lookW=fPathL [] lookW by unfold fPaths; rw[if_pos val_look],path_look,val_look] at hP0
 rw[val_look] at hQ0
 rw[beq_self_eq_true] at hS
 simp only[List.map_cons,List.map_nil] at hP0 hS
 refine fn_okc Tryz.func16 hcc16 (by decide) hcr16 (by simp[Tryz.ntmps16]) fun E hP hR hl hid=>?_
 simp only[cr16] at hR
 refine w_go 4000 ?_
 simp[cc16]
 (refine w_call hP rfl (types_ok _) (by simp) (by simp<;>rfl) ?_; refine w_go 4000 ?_; simp)
 (refine w_call hP rfl (look_ok _) (by simp) (by simp<;>rfl) ?_; refine w_go 4000 ?_; simp)
 (refine w_call hP rfl (hP0 _) (by simp) (by simp<;>rfl) ?_; refine w_go 4000 ?_; simp)
 (refine w_callg hP (by simp) rfl (fun hc=>⟨types_ok _,by revert hc; simp; try grind,by simp⟩) ?_; refine w_go 4000 ?_; simp)
 (refine w_callg hP (by simp) rfl (fun hc=>⟨look_ok _,by revert hc; simp; try grind,by simp⟩) ?_; refine w_go 4000 ?_; simp)
 (refine w_callg hP (by simp) rfl (fun hc=>⟨hQ0 _,by revert hc; simp; try grind,by simp⟩) ?_; refine w_go 4000 ?_; simp)
 (refine w_callg hP (by simp) rfl (fun hc=>⟨types_ok _,by revert hc; simp; try grind,by simp⟩) ?_; refine w_go 4000 ?_; simp)
 refine w_split (.bool true) (by simp) (fun _=>?_) (fun hg=>by simp at hg)
 (refine w_callR hP rfl (vQuery1_ok _) (by simp<;>rfl) (by simp) (by simp<;>rfl) (by simp) ?_; refine w_go 4000 ?_; simp)
 refine w_split (.bool true) (by simp) (fun _=>?_) (fun hg=>by simp at hg)
 (refine w_callR hP rfl (hS _) (by simp<;>rfl) (by simp) (by simp<;>rfl) (by simp) ?_; refine w_go 4000 ?_; simp)
 rw[hR]; exact rt_end (by simp<;>rfl) [] trivial (end_pure (by simp) (by simp) (by simp))
end Go.Am
