/- Parts of the proof: an abstract machine for Go functions, and what functions of the program give back (St0, St1, St2, St3, St4, St5, So1, St6). No condition. -/
import Derived.Test.YtbjmmndeeeoloaaDoorXI
import Derived.Test.YtbjmmndeeeoloaaDoorXH
import Derived.Test.YtbjmmndeeeoloaaDoorXD
namespace Go.Am
set_option linter.all false
set_option linter.all false
end Go.Am
namespace Go.Am
set_option linter.all false
open Go Go.RowKit Go.Proofs
set_option maxRecDepth 100000
set_option linter.all false
structure Cl where
 n:Int
 text:List UInt8
 ids:List Int
structure Tg where
 type:Int
 id:Int
 cells:List Cl
structure Sta where
 types:List Ty
 things:List Tg
def eI(n:Int):AV:=.int .i64 n
def eCl(c:Cl):AV:=.agg [.int .i64 c.n,.str c.text,.sl (c.ids.map eI)]
def eTg(t:Tg):AV:=.agg [.int .i64 t.type,.int .i64 t.id,.sl (t.cells.map eCl)]
def eSta(s:Sta):AV:=.agg [.sl (s.types.map eTy),.sl (s.things.map eTg)]
theorem eCl_eq(c:Cl):eCl c = .agg [.int .i64 c.n,.str c.text,.sl (c.ids.map eI)]:=rfl
theorem eTg_eq(t:Tg):eTg t = .agg [.int .i64 t.type,.int .i64 t.id,.sl (t.cells.map eCl)]:=rfl
theorem pure_eI(n:Int):(eI n).pureB=true:=rfl
@[simp] theorem pure_ints (l:List Int):pureL (l.map eI)=true:=pureL_map pure_eI l
@[simp] theorem names_ints (S:Nat→Prop) (l:List Int):namesL S (l.map eI):=namesL_pure _ (pure_ints l)
@[simp] theorem ren_ints (R:Rn) (S:Nat→Prop) (l:List Int):RenL R S (l.map eI) (l.map eI):=renL_pure rfl (pure_ints l)
theorem pure_eCl(c:Cl):(eCl c).pureB=true:=by simp[eCl]
@[simp] theorem pure_cls (l:List Cl):pureL (l.map eCl)=true:=pureL_map pure_eCl l
@[simp] theorem names_cls (S:Nat→Prop) (l:List Cl):namesL S (l.map eCl):=namesL_pure _ (pure_cls l)
theorem pure_eTg(t:Tg):(eTg t).pureB=true:=by simp[eTg]
@[simp] theorem pure_tgs (l:List Tg):pureL (l.map eTg)=true:=pureL_map pure_eTg l
@[simp] theorem names_tgs (S:Nat→Prop) (l:List Tg):namesL S (l.map eTg):=namesL_pure _ (pure_tgs l)
def ordI(ta ia tb ib:Int):Int:=if ta≠tb then IntKind.i64.wrap (ta - tb) else IntKind.i64.wrap (ia - ib)
theorem order_ok(ta ia tb ib:Int)(x y:AV)(id:Nat):FnOk Tryd.prog 48 [.agg [.int .i64 ta,.int .i64 ia,x],.agg [.int .i64 tb,.int .i64 ib,y]] [] id (.int .i64 (ordI ta ia tb ib)) []:=by
 refine fn_okc Tryd.func48 hcc48 (by decide) hcr48 (by simp[Tryd.ntmps48]) fun E hP hR hl hid=>?_
 simp only[cr48] at hR
 refine w_go 4000 ?_
 simp[cc48]
 refine goc (fun h=>?_) (fun h=>?_)<;>simp
 ·rw[hR]; exact rt_end (by simp<;>rfl) [] trivial (end_pure (by simp; simp at h; unfold ordI; rw[if_pos h]) (by simp) (by simp))
 ·rw[hR]; exact rt_end (by simp<;>rfl) [] trivial (end_pure (by simp; simp at h; unfold ordI; rw[if_neg (by simpa using h)]) (by simp) (by simp))
theorem stWithin_ok(n a b:Int)(id:Nat):FnOk Tryd.prog 75 [.int .i64 n,.int .i64 a,.int .i64 b] [] id (.bool (decide (a≤n)&&decide (n≤b))) []:=by
 refine fn_okc Tryd.func75 hcc75 (by decide) hcr75 (by simp[Tryd.ntmps75]) fun E hP hR hl hid=>?_
 simp only[cr75] at hR
 refine w_go 4000 ?_
 simp[cc75]
 (repeat (refine And.intro (by first|assumption|omega|(simp; omega)|(simp_all; done)) ?_))
 rw[hR]; exact rt_end (by simp<;>rfl) [] trivial (end_pure (by simp) (by simp) (by simp))
def isLink(k:Int):Bool:=decide (k=3)||decide (k=4)
theorem Links_ok(k:Int)(id:Nat):FnOk Tryd.prog 100 [.int .i64 k] [] id (.bool (isLink k)) []:=by
 refine fn_okc Tryd.func100 hcc100 (by decide) hcr100 (by simp[Tryd.ntmps100]) fun E hP hR hl hid=>?_
 simp only[cr100] at hR
 refine w_go 4000 ?_
 simp[cc100]
 (repeat (refine And.intro (by first|assumption|omega|(simp; omega)|(simp_all; done)) ?_))
 rw[hR]; exact rt_end (by simp<;>rfl) [] trivial (end_pure (by simp; unfold isLink; rw[Bool.eq_iff_iff]; simp) (by simp) (by simp))
def bs(f:Nat→Int)(i j:Nat):Nat:=if h:i<j then (if f ((i+j) / 2)<0 then bs f ((i+j) / 2+1) j else bs f i ((i+j) / 2)) else i
termination_by j - i
def fOrdAt(l:List Tg)(kind id:Int)(k:Nat):Int:=match l[k]? with
 | some t=>ordI t.type t.id kind id
 | none=>0
def fFindI(l:List Tg)(kind id:Int):Nat:=bs (fOrdAt l kind id) 0 l.length
def fFindB(l:List Tg)(kind id:Int):Bool:=decide (fFindI l kind id<l.length)&&decide (fOrdAt l kind id (fFindI l kind id)=0)
theorem halfW{i j:Nat}(hi:i<1000000)(hj:j<1000000):IntKind.i64.wrap (IntKind.u64.wrap (IntKind.i64.wrap ((i:Int)+j)) / 2)=(((i+j) / 2:Nat):Int):=by
 have a:IntKind.i64.wrap ((i:Int)+j)=((i+j:Nat):Int):=by rw[wrap64 (by omega)]; omega
 have b:IntKind.u64.wrap ((i+j:Nat):Int)=((i+j:Nat):Int):=IntWalk.u64_in _ (by omega)
 rw[a,b,wrap64 (by omega)]
 omega
set_option maxHeartbeats 1000000 in
theorem BinSearch_ok(l:List Tg)(kind tid:Int)(id:Nat)(hl:l.length<1000000):FnOk Tryd.prog 78 [.sl (l.map eTg),.agg [.int .i64 kind,.int .i64 tid,.nils],.fn 48 []] [] id (.tup [.int .i64 (fFindI l kind tid),.bool (fFindB l kind tid)]) []:=by
 refine fn_okc Tryd.func78 hcc78 (by decide) hcr78 (by simp[Tryd.ntmps78]) fun E hP hR hl hid=>?_
 simp only[cr78] at hR
 refine w_go 4000 ?_
 simp[cc78]
 refine w_loop (X:=Nat×Nat) (fun q=>⟨[(0,true,.sl (l.map eTg)),(2,true,.fn 48 []),(4,true,.ptr E.n0 0 0),(8,true,.int .i64 l.length),(9,true,.int .i64 q.1),(10,true,.int .i64 q.2)],[(E.n0,some ⟨[.agg [.int .i64 kind,.int .i64 tid,.nils]],.agg [.int .i64 0,.int .i64 0,.nils],false,false⟩)],1⟩) (fun q=>q.1≤q.2∧q.2≤l.length∧bs (fOrdAt l kind tid) q.1 q.2=fFindI l kind tid) (fun q=>q.2 - q.1) (0,l.length) ?_ ⟨by simp,by simp,rfl⟩ ?_
 ·have hrn:rnOk [(E.n0,E.n0)]:=by simp
  refine Conv.sub [(E.n0,E.n0)] hrn ?_ ?_ ?_ ?_ ?_<;>(try simp)
 ·rintro⟨i,j⟩ ⟨hij,hj,hf⟩ p hp
  simp only at hij hj hf
  refine w_go 4000 ?_
  simp
  refine goc (fun h=>?_) (fun h=>?_)
  ·have h:=of_decide_eq_true h
   have h':i<j:=by omega
   have hk:(i+j) / 2<l.length:=by omega
   obtain⟨t,ht⟩:∃t,l[(i+j) / 2]?=some t:=⟨_,List.getElem?_eq_getElem hk⟩
   have hh:=halfW (i:=i) (j:=j) (by omega) (by omega)
   have h64:(1:Int)≤↑IntKind.u64.bits:=by decide
   generalize hm:(i+j) / 2=m at hh hk ht
   simp[hh,ht,eTg_eq t]
   refine⟨h64,hk,?_⟩
   refine w_callv hP rfl rfl (order_ok t.type t.id kind tid (.sl (t.cells.map eCl)) .nils _) (by simp) (by simp<;>rfl) ?_
   refine w_go 4000 ?_
   have hfo:fOrdAt l kind tid m=ordI t.type t.id kind tid:=by simp only[fOrdAt,ht]
   rw[bs,dif_pos h',hm,hfo] at hf
   simp
   refine goc (fun h1=>?_) (fun h1=>?_)
   ·have hm1:IntKind.i64.wrap ((m:Int)+1)=((m+1:Nat):Int):=wrap64 (by omega)
    simp at h1
    rw[if_pos h1] at hf
    simp
    refine hp _ (m+1,j) ⟨by simp only; omega,hj,hf⟩ (by simp only; omega) ?_
    have hrn:rnOk [(E.n0,E.n0)]:=by simp[hm1]
    refine Conv.sub [(E.n0,E.n0)] hrn ?_ ?_ ?_ ?_ ?_<;>(try simp[hm1])
   ·simp at h1
    rw[if_neg (by omega)] at hf
    simp
    refine hp _ (i,m) ⟨by simp only; omega,by simp only; omega,hf⟩ (by simp only; omega) ?_
    have hrn:rnOk [(E.n0,E.n0)]:=by simp
    refine Conv.sub [(E.n0,E.n0)] hrn ?_ ?_ ?_ ?_ ?_<;>(try simp)
  ·have h:=of_decide_eq_false h
   have he:i=fFindI l kind tid:=by rw[←hf,bs,dif_neg (by omega)]
   simp
   by_cases hi:i<l.length
   ·obtain⟨t,ht⟩:∃t,l[i]?=some t:=⟨_,List.getElem?_eq_getElem hi⟩
    have hfo:fOrdAt l kind tid i=ordI t.type t.id kind tid:=by simp only[fOrdAt,ht]
    have hg:l[i]=t:=by rw[List.getElem?_eq_getElem hi] at ht; injection ht
    simp[hi,hg,eTg_eq t]
    refine w_split (.int .i64 0) (by simp) (fun _=>?_) (fun hg=>by simp at hg)
    refine w_callv hP rfl rfl (order_ok t.type t.id kind tid (.sl (t.cells.map eCl)) .nils _) (by simp) (by simp<;>rfl) ?_
    refine w_go 4000 ?_
    simp
    rw[hR]; exact rt_end (by simp<;>rfl) [] trivial (end_pure (by simp; rw[←he]; refine⟨rfl,?_⟩; unfold fFindB; rw[←he,hfo,Bool.eq_iff_iff]; simp[hi]) (by simp) (by simp))
   ·have ht:l[i]?=none:=List.getElem?_eq_none (by omega)
    simp[hi,ht]
    refine w_split (.int .i64 0) (by simp) (fun hg=>by simp at hg) (fun _=>?_)
    refine w_go 4000 ?_
    simp
    rw[hR]; exact rt_end (by simp<;>rfl) [] trivial (end_pure (by simp; rw[←he]; exact⟨rfl,by unfold fFindB; rw[←he]; simp[hi]⟩) (by simp) (by simp))
end Go.Am
namespace Go.Am
set_option linter.all false
open Go Go.RowKit Go.Proofs
set_option maxRecDepth 100000
set_option linter.all false
theorem stFind_ok(s:Sta)(kind tid:Int)(id:Nat)(hl8:s.things.length<1000000):FnOk Tryd.prog 52 [eSta s,.int .i64 kind,.int .i64 tid] [] id (.tup [.int .i64 (fFindI s.things kind tid),.bool (fFindB s.things kind tid)]) []:=by
 unfold eSta
 refine fn_okc Tryd.func52 hcc52 (by decide) hcr52 (by simp[Tryd.ntmps52]) fun E hP hR hl hid=>?_
 simp only[cr52] at hR
 refine w_go 4000 ?_
 simp[cc52]
 (refine w_call hP rfl (BinSearch_ok s.things kind tid _ hl8) (by simp) (by simp<;>rfl) ?_; refine w_go 4000 ?_; simp)
 rw[hR]; exact rt_end (by simp<;>rfl) [] trivial (end_pure (by simp) (by simp) (by simp))
def ascB:List Int→Bool
 | a::b::r=>decide (a<b)&&ascB (b::r)
 | _=>true
theorem ascB_step{l:List Int}{i:Nat}{a b:Int}(h1:l[i]?=some a)(h2:l[i+1]?=some b):ascB (l.drop i)=(decide (a<b)&&ascB (l.drop (i+1))):=by
 have e1:l.drop i=a::l.drop (i+1):=by
  have hi:=(List.getElem?_eq_some_iff.1 h1).1
  obtain⟨x,hx,hd⟩:=drop_cons hi
  rw[h1] at hx; injection hx with hx; subst hx; exact hd
 have e2:l.drop (i+1)=b::l.drop (i+2):=by
  have hi:=(List.getElem?_eq_some_iff.1 h2).1
  obtain⟨x,hx,hd⟩:=drop_cons hi
  rw[h2] at hx; injection hx with hx; subst hx; exact hd
 rw[e1,e2]; rfl
theorem ascB_end{l:List Int}{i:Nat}(h:l.length≤i+1):ascB (l.drop i)=true:=by
 have:(l.drop i).length≤1:=by simp; omega
 match hm:l.drop i,this with
 | [],_=>rfl
 | [a],_=>rfl
def mostI(k:Int):Int:=if k=3 then 1 else 6
def fCell(f:Fd)(c:Cl):Int :=
 if (f.kind≠1∧c.n≠0)∨(f.kind≠2∧c.text≠[])∨(isLink f.kind=false∧c.ids≠[]) then 1
 else if ¬(-999999999≤c.n∧c.n≤999999999) then 3
 else if 40<c.text.length∨mostI f.kind<c.ids.length then 2
 else if ascB c.ids=true then 0 else 4
set_option maxHeartbeats 2000000 in
theorem cell_ok(f:Fd)(c:Cl)(id:Nat):FnOk Tryd.prog 76 [eFd f,eCl c] [] id (.int .i64 (fCell f c)) []:=by
 unfold eFd eCl
 refine fn_okc Tryd.func76 hcc76 (by decide) hcr76 (by simp[Tryd.ntmps76]) fun E hP hR hl hid=>?_
 simp only[cr76] at hR
 refine w_go 4000 ?_
 simp[cc76]
 refine goc (fun h3=>?_) (fun h3=>?_)<;>simp
 all_goals repeat' first
  | (refine And.intro ?_ ?_)
  | (refine goc (fun h=>?_) (fun h=>?_)<;>simp)
  | (refine w_call hP rfl (Links_ok _ _) (by simp) (by simp<;>rfl) ?_; refine w_go 4000 ?_; simp)
  | (refine w_call hP rfl (lexInt_ok _ _) (by simp) (by simp<;>rfl) ?_; refine w_go 4000 ?_; simp)
 all_goals first
  | (rw[hR]; refine rt_end (by simp<;>rfl) [] trivial (end_pure ?_ (by simp) (by simp)); simp[fCell,isLink,mostI] at *; first|done|grind)
  | (exfalso; simp_all; done)
  | skip
 all_goals
  have h6:c.ids.length≤6:=by simp at *; omega
  have hf:fCell f c=if ascB c.ids=true then 0 else 4:=by
   simp[isLink] at *
   unfold fCell
   rw[if_neg (by simp[isLink]; grind),if_neg (by omega),if_neg (by simp[mostI]; grind)]
  rw[hf] at hR
  refine w_loop (X:=Nat) (fun i=>⟨[(3,true,.ptr (E.n0+1024) 0 0),(6,true,.int .i64 (i+1))],[(E.n0+1024,some ⟨[.agg [.int .i64 c.n,.str c.text,.sl (c.ids.map eI)]],.agg [.int .i64 c.n,.str c.text,.sl (c.ids.map eI)],false,false⟩)],1025⟩) (fun i=>i≤c.ids.length∧ascB (c.ids.drop i)=ascB c.ids) (fun i=>c.ids.length - i) 0 ?_ ⟨by omega,rfl⟩ ?_
  ·have hrn:rnOk [(E.n0+1024,E.n0+1024)]:=by simp
   refine Conv.sub [(E.n0+1024,E.n0+1024)] hrn ?_ ?_ ?_ ?_ ?_<;>(try simp)
  ·rintro i ⟨hi,ha⟩ p hp
   have hw1:IntKind.i64.wrap (i:Int)=(i:Int):=wrap64 (by omega)
   have hw2:IntKind.i64.wrap ((i:Int)+1+1)=((i+1:Nat):Int)+1:=by rw[wrap64 (by omega)]; omega
   have hw3:(0:Int)≤(i:Int)+1:=by omega
   have hw4:((i:Int)+1).toNat=i+1:=by omega
   refine w_go 4000 ?_
   simp
   refine goc (fun h=>?_) (fun h=>?_)
   ·have h:=of_decide_eq_true h
    obtain⟨a,hx⟩:∃a,c.ids[i]?=some a:=⟨_,List.getElem?_eq_getElem (by omega)⟩
    obtain⟨b,hy⟩:∃b,c.ids[i+1]?=some b:=⟨_,List.getElem?_eq_getElem (by omega)⟩
    have hst:=ascB_step hx hy
    simp[hw1,hw3,hw4,hx,hy,eI]
    refine⟨by omega,by omega,?_⟩
    refine goc (fun h1=>?_) (fun h1=>?_)<;>simp
    ·rw[hR]; exact rt_end (by simp<;>rfl) [] trivial (end_pure (by simp; simp at h1; rw[←ha,hst]; simp; intro h2; omega) (by simp) (by simp))
    ·simp at h1
     rw[hst] at ha
     refine hp _ (i+1) ⟨by omega,by rw[←ha]; simp; intro _; exact h1⟩ (by omega) ?_
     have hrn:rnOk [(E.n0+1024,E.n0+1024)]:=by simp[hw2]
     refine Conv.sub [(E.n0+1024,E.n0+1024)] hrn ?_ ?_ ?_ ?_ ?_<;>(try simp[hw2])
   ·have h:=of_decide_eq_false h
    have:ascB c.ids=true:=by rw[←ha]; exact ascB_end (by omega)
    simp
    rw[hR]; exact rt_end (by simp<;>rfl) [] trivial (end_pure (by simp; exact this) (by simp) (by simp))
def fldsAt(l:List Ty)(k:Int):List Fd:=((l[k.toNat]?).map Ty.fields).getD []
def cellAt(fs:List Fd)(k:Nat)(c:Cl):Int:=match fs[k]? with
 | some f=>fCell f c
 | none=>0
def fThing(l:List Ty)(t:Tg):Int :=
 if ¬(0≤t.type∧t.type<l.length) then 5 else if ¬(1≤t.id∧t.id≤999) then 3
 else if t.cells.length≠(fldsAt l t.type).length then 1 else firstIx (fun k c=>cellAt (fldsAt l t.type) k c) t.cells 0
set_option maxHeartbeats 2000000 in
theorem thing_ok(s:Sta)(t:Tg)(id:Nat)(h5:s.types.length≤5)(h6:t.cells.length≤1000000∨∀x∈s.types,x.fields.length≤6):FnOk Tryd.prog 47 [eSta s,eTg t] [] id (.int .i64 (fThing s.types t)) []:=by
 rw[eTg_eq t]
 unfold eSta
 have hw:IntKind.i64.wrap ((s.types.length:Int) - 1)=(s.types.length:Int) - 1:=wrap64 (by omega)
 refine fn_okc Tryd.func47 hcc47 (by decide) hcr47 (by simp[Tryd.ntmps47]) fun E hP hR hl hid=>?_
 simp only[cr47] at hR
 refine w_go 4000 ?_
 simp[cc47,hw]
 (refine w_call hP rfl (stWithin_ok _ _ _ _) (by simp) (by simp<;>rfl) ?_; refine w_go 4000 ?_; simp)
 refine goc (fun h=>?_) (fun h=>?_)<;>simp
 ·rw[hR]; exact rt_end (by simp<;>rfl) [] trivial (end_pure (by simp; simp at h; unfold fThing; rw[if_pos (by omega)]) (by simp) (by simp))
 have h1:¬¬(0≤t.type∧t.type<s.types.length):=by simp at h; omega
 (refine w_call hP rfl (stWithin_ok _ _ _ _) (by simp) (by simp<;>rfl) ?_; refine w_go 4000 ?_; simp)
 refine goc (fun h=>?_) (fun h=>?_)<;>simp
 ·rw[hR]; exact rt_end (by simp<;>rfl) [] trivial (end_pure (by simp; simp at h; unfold fThing; rw[if_neg h1,if_pos (by omega)]) (by simp) (by simp))
 have h2:¬¬(1≤t.id∧t.id≤999):=by simp at h; omega
 obtain⟨ty,hty⟩:∃ty,s.types[t.type.toNat]?=some ty:=⟨_,List.getElem?_eq_getElem (by omega)⟩
 have hfl:fldsAt s.types t.type=ty.fields:=by simp[fldsAt,hty]
 have hr1:0≤t.type:=by omega
 have hr2:t.type.toNat<s.types.length:=by omega
 simp[hty,eTy]
 refine⟨⟨hr1,hr2⟩,?_⟩
 refine goc (fun h=>?_) (fun h=>?_)<;>simp
 ·rw[hR]; exact rt_end (by simp<;>rfl) [] trivial (end_pure (by simp; simp at h; unfold fThing; rw[if_neg h1,if_neg h2,hfl,if_pos (by omega)]) (by simp) (by simp))
 have h3:t.cells.length=ty.fields.length:=by simp at h; omega
 have hft:fThing s.types t=firstIx (fun k c=>cellAt ty.fields k c) t.cells 0:=by unfold fThing; rw[if_neg h1,if_neg h2,hfl,if_neg (by omega)]
 rw[hft] at hR
 have h7:t.cells.length≤1000000:=by
  rcases h6 with h6|h6
  ·exact h6
  ·have:=h6 ty (List.mem_of_getElem? hty); omega
 refine w_loop (X:=Nat) (fun k=>⟨[(2,true,.ptr E.n0 0 0),(3,true,.ptr (E.n0+1024) 0 0),(36,true,.sl (t.cells.map eCl)),(37,true,.int .i64 t.cells.length),(38,true,.int .i64 k)],[(E.n0,some ⟨[.agg [.sl (s.types.map eTy),.sl (s.things.map eTg)]],.agg [.sl (s.types.map eTy),.sl (s.things.map eTg)],false,false⟩),(E.n0+1024,some ⟨[.agg [.int .i64 t.type,.int .i64 t.id,.sl (t.cells.map eCl)]],.agg [.int .i64 t.type,.int .i64 t.id,.sl (t.cells.map eCl)],false,false⟩)],1025⟩) (fun k=>k≤t.cells.length∧firstIx (fun k c=>cellAt ty.fields k c) (t.cells.drop k) k=firstIx (fun k c=>cellAt ty.fields k c) t.cells 0) (fun k=>t.cells.length - k) 0 ?_ ⟨by omega,rfl⟩ ?_
 ·have hrn:rnOk [(E.n0,E.n0),(E.n0+1024,E.n0+1024)]:=by simp
  refine Conv.sub [(E.n0,E.n0),(E.n0+1024,E.n0+1024)] hrn ?_ ?_ ?_ ?_ ?_<;>(try simp)
 ·rintro k ⟨hk,hf⟩ p hp
  refine w_go 4000 ?_
  simp
  refine goc (fun h=>?_) (fun h=>?_)
  ·have h:=of_decide_eq_true h
   obtain⟨x,hx,hd⟩:=drop_cons h
   obtain⟨f,hfx⟩:∃f,ty.fields[k]?=some f:=⟨_,List.getElem?_eq_getElem (by omega)⟩
   rw[hd] at hf
   simp only[firstIx] at hf
   have hca:cellAt ty.fields k x=fCell f x:=by simp only[cellAt,hfx]
   rw[hca] at hf
   have hi1:IntKind.i64.wrap ((k:Int)+1)=((k+1:Nat):Int):=wrap64 (by omega)
   simp[hx,eCl_eq x,hty,eTy,hfx,eFd]
   have hcx:=fun id=>cell_ok f x id
   simp only[eFd,eCl_eq x] at hcx
   refine⟨h,⟨hr1,hr2⟩,by omega,?_⟩
   (refine w_call hP rfl (hcx _) (by simp) (by simp<;>rfl) ?_; refine w_go 4000 ?_; simp)
   refine goc (fun h1=>?_) (fun h1=>?_)
   ·simp
    rw[if_pos (by simpa using h1)] at hf
    rw[hR]; exact rt_end (by simp<;>rfl) [] trivial (end_pure (by simp; exact hf) (by simp) (by simp))
   ·simp
    rw[if_neg (by simpa using h1)] at hf
    refine hp _ (k+1) ⟨h,hf⟩ (by omega) ?_
    have hrn:rnOk [(E.n0,E.n0),(E.n0+1024,E.n0+1024)]:=by simp[hi1]
    refine Conv.sub [(E.n0,E.n0),(E.n0+1024,E.n0+1024)] hrn ?_ ?_ ?_ ?_ ?_<;>(try simp[hi1])
  ·have h:=of_decide_eq_false h
   simp
   rw[List.drop_of_length_le (by omega)] at hf
   rw[hR]; exact rt_end (by simp<;>rfl) [] trivial (end_pure (by simp; exact hf) (by simp) (by simp))
end Go.Am
namespace Go.Am
set_option linter.all false
open Go Go.RowKit Go.Proofs
set_option maxRecDepth 100000
set_option linter.all false
theorem pure_eSta(s:Sta):(eSta s).pureB=true:=by simp[eSta]
@[simp] theorem ren_fd (R:Rn) (S:Nat→Prop) (f:Fd):RenR R S (eFd f) (eFd f):=renR_pure rfl (pure_eFd f)
@[simp] theorem ren_sta (R:Rn) (S:Nat→Prop) (s:Sta):RenR R S (eSta s) (eSta s):=renR_pure rfl (pure_eSta s)
@[simp] theorem ren_tg (R:Rn) (S:Nat→Prop) (t:Tg):RenR R S (eTg t) (eTg t):=renR_pure rfl (pure_eTg t)
def kindOf(l:List Ty)(n:List UInt8):Int:=findJ (fun t=>t.name==n) l 0
def isThere(s:Sta)(f:Fd)(x:Int):Bool:=fFindB s.things (kindOf s.types f.of) x
theorem kindOf_eq(l:List Ty)(n:List UInt8):findJ (fun t=>t.name==n) l 0=kindOf l n:=rfl
theorem Check11_ok(x:Int)(s:Sta)(f:Fd)(js jf:Nat)(id:Nat)(h5:s.types.length≤5)(h12:s.things.length≤12)(d1:js≠jf):FnOk Tryd.prog 51 [.int .i64 x,.ptr js 0 0,.ptr jf 0 0] [(js,⟨[eSta s],eSta s,false,false⟩),(jf,⟨[eFd f],eFd f,false,false⟩)] id (.bool (!isThere s f x)) []:=by
 have hF:=stFind_ok s (kindOf s.types f.of) x
 unfold eSta eFd at *
 refine fn_okc Tryd.func51 hcc51 (by decide) hcr51 (by simp[Tryd.ntmps51]) fun E hP hR hl hid=>?_
 simp only[cr51] at hR
 refine w_go 4000 ?_
 simp[cc51]
 have hjs:=hl (js,_) (List.mem_cons_self ..)
 simp only at hjs
 have js1:=lf hjs
 have hjf:=hl (jf,_) (List.mem_cons_of_mem _ (List.mem_cons_self ..))
 simp only at hjf
 have jf1:=lf hjf
 try simp[js1,jf1,d1,d1.symm]
 (refine w_call hP rfl (Find_ok s.types f.of _ (by omega)) (by simp[js1,jf1,d1,d1.symm,kindOf_eq]) (by simp[js1,jf1,d1,d1.symm,kindOf_eq]<;>rfl) ?_; refine w_go 4000 ?_; simp[js1,jf1,d1,d1.symm,kindOf_eq])
 (refine w_call hP rfl (hF _ (by omega)) (by simp[js1,jf1,d1,d1.symm,isThere]) (by simp[js1,jf1,d1,d1.symm,isThere]<;>rfl) ?_; refine w_go 4000 ?_; simp[js1,jf1,d1,d1.symm,isThere])
 have hrn:rnOk []:=by simp[js1,jf1,d1,d1.symm,isThere,idO hid]
 rw[hR]
 refine rt_end (by simp<;>rfl) [] hrn ⟨?_,?_,?_,?_,?_,?_⟩<;>(try simp[js1,jf1,d1,d1.symm,isThere,idO hid])
set_option maxHeartbeats 1000000 in
theorem IndexInt_ok(l:List Int)(s:Sta)(f:Fd)(js jf:Nat)(id:Nat)(h5:s.types.length≤5)(h12:s.things.length≤12)(d1:js≠jf)(hl8:l.length<9223372036854775807):FnOk Tryd.prog 77 [.sl (l.map eI),.fn 51 [.ptr js 0 0,.ptr jf 0 0]] [(js,⟨[eSta s],eSta s,false,false⟩),(jf,⟨[eFd f],eFd f,false,false⟩)] id (.int .i64 (findJ (fun x=>!isThere s f x) l 0)) []:=by
 refine fn_okc Tryd.func77 hcc77 (by decide) hcr77 (by simp[Tryd.ntmps77]) fun E hP hR hl hid=>?_
 simp only[cr77] at hR
 refine w_go 4000 ?_
 simp[cc77]
 have hjs:=hl (js,_) (List.mem_cons_self ..)
 simp only at hjs
 have js1:=lf hjs
 have hjf:=hl (jf,_) (List.mem_cons_of_mem _ (List.mem_cons_self ..))
 simp only at hjf
 have jf1:=lf hjf
 refine w_loop (X:=Nat) (fun i=>⟨[(0,true,.sl (l.map eI)),(1,true,.fn 51 [.ptr js 0 0,.ptr jf 0 0]),(7,true,.int .i64 l.length),(8,true,.int .i64 i)],[(js,some (⟨[eSta s],eSta s,false,false⟩)),(jf,some (⟨[eFd f],eFd f,false,false⟩))],0⟩) (fun i=>i≤l.length∧findJ (fun x=>!isThere s f x) (l.drop i) i=findJ (fun x=>!isThere s f x) l 0) (fun i=>l.length - i) 0 ?_ ⟨by omega,rfl⟩ ?_
 ·have hrn:rnOk []:=by simp[js1,jf1,d1,d1.symm]
  refine Conv.sub [] hrn ?_ ?_ ?_ ?_ ?_<;>(try simp[js1,jf1,d1,d1.symm])
 ·rintro i ⟨hi,hf⟩ p hp
  refine w_go 4000 ?_
  simp
  refine goc (fun h=>?_) (fun h=>?_)
  ·have h:=of_decide_eq_true h
   obtain⟨x,hx,hd⟩:=drop_cons h
   have hcl:=Check11_ok x s f js jf
   rw[hd] at hf
   simp only[findJ] at hf
   have hi1:IntKind.i64.wrap ((i:Int)+1)=((i+1:Nat):Int):=wrap64 (by omega)
   simp[hx,eI]
   refine⟨h,?_⟩
   refine w_callv hP rfl rfl (hcl _ h5 h12 d1) (by simp) (by simp[js1,jf1,d1,d1.symm]<;>rfl) ?_
   refine w_go 4000 ?_
   simp[js1,jf1,d1,d1.symm]
   refine goc (fun h1=>?_) (fun h1=>?_)
   ·simp[js1,jf1,d1,d1.symm]
    rw[if_pos h1] at hf
    rw[←hf] at hR
    have hrn:rnOk []:=by simp[js1,jf1,d1,d1.symm,findJ,idO hid]
    rw[hR]
    refine rt_end (by simp<;>rfl) [] hrn ⟨?_,?_,?_,?_,?_,?_⟩<;>(try simp[js1,jf1,d1,d1.symm,findJ,idO hid])
   ·simp[js1,jf1,d1,d1.symm]
    rw[if_neg (by simpa using h1)] at hf
    refine hp _ (i+1) ⟨h,hf⟩ (by omega) ?_
    have hrn:rnOk []:=by simp[hi1,js1,jf1,d1,d1.symm]
    refine Conv.sub [] hrn ?_ ?_ ?_ ?_ ?_<;>(try simp[hi1,js1,jf1,d1,d1.symm])
  ·have h:=of_decide_eq_false h
   simp
   rw[List.drop_of_length_le (by omega)] at hf
   rw[←hf] at hR
   have hrn:rnOk []:=by simp[js1,jf1,d1,d1.symm,findJ,idO hid]
   rw[hR]
   refine rt_end (by simp<;>rfl) [] hrn ⟨?_,?_,?_,?_,?_,?_⟩<;>(try simp[js1,jf1,d1,d1.symm,findJ,idO hid])
theorem ContInt_ok(l:List Int)(s:Sta)(f:Fd)(js jf:Nat)(id:Nat)(h5:s.types.length≤5)(h12:s.things.length≤12)(d1:js≠jf)(hl8:l.length<9223372036854775807):FnOk Tryd.prog 50 [.sl (l.map eI),.fn 51 [.ptr js 0 0,.ptr jf 0 0]] [(js,⟨[eSta s],eSta s,false,false⟩),(jf,⟨[eFd f],eFd f,false,false⟩)] id (.bool (l.any fun x=>!isThere s f x)) []:=by
 refine fn_okc Tryd.func50 hcc50 (by decide) hcr50 (by simp[Tryd.ntmps50]) fun E hP hR hl hid=>?_
 simp only[cr50] at hR
 refine w_go 4000 ?_
 simp[cc50]
 have hjs:=hl (js,_) (List.mem_cons_self ..)
 simp only at hjs
 have js1:=lf hjs
 have hjf:=hl (jf,_) (List.mem_cons_of_mem _ (List.mem_cons_self ..))
 simp only at hjf
 have jf1:=lf hjf
 try simp[js1,jf1,d1,d1.symm]
 (refine w_call hP rfl (IndexInt_ok l s f js jf _ h5 h12 d1 hl8) (by simp[js1,jf1,d1,d1.symm]) (by simp[js1,jf1,d1,d1.symm]<;>rfl) ?_; refine w_go 4000 ?_; simp[js1,jf1,d1,d1.symm])
 have hj:=findJ_any (fun x=>!isThere s f x) l 0
 simp[hj]
 have hrn:rnOk []:=by simp[js1,jf1,d1,d1.symm,idO hid]
 rw[hR]
 refine rt_end (by simp<;>rfl) [] hrn ⟨?_,?_,?_,?_,?_,?_⟩<;>(try simp[js1,jf1,d1,d1.symm,idO hid])
theorem Check1_ok(f:Fd)(c:Cl)(s:Sta)(js:Nat)(id:Nat)(h5:s.types.length≤5)(h12:s.things.length≤12)(hl8:c.ids.length<9223372036854775807):FnOk Tryd.prog 49 [eFd f,.cptr [.int .i64 c.n,.str c.text,.sl (c.ids.map eI)],.ptr js 0 0] [(js,⟨[eSta s],eSta s,false,false⟩)] id (.bool (!c.ids.any fun x=>!isThere s f x)) []:=by
 refine fn_okc Tryd.func49 hcc49 (by decide) hcr49 (by simp[Tryd.ntmps49]) fun E hP hR hl hid=>?_
 simp only[cr49] at hR
 refine w_go 4000 ?_
 simp[cc49]
 have hjs:=hl (js,_) (List.mem_cons_self ..)
 simp only at hjs
 have js1:=lf hjs
 try simp[js1]
 have hne:js≠E.n0:=by omega
 (refine w_call hP rfl (ContInt_ok c.ids s f js E.n0 _ h5 h12 hne hl8) (by simp[js1]) (by simp[js1]<;>rfl) ?_; refine w_go 4000 ?_; simp[js1])
 have hrn:rnOk []:=by simp[js1,idO hid]
 rw[hR]
 refine rt_end (by simp<;>rfl) [] hrn ⟨?_,?_,?_,?_,?_,?_⟩<;>(try simp[js1,idO hid])
end Go.Am
namespace Go.Am
set_option linter.all false
open Go Go.RowKit Go.Proofs
set_option maxRecDepth 100000
set_option linter.all false
def cellsB(p:Fd→Cl→Bool):List Fd→List Cl→Bool
 | f::fs,c::cs=>p f c&&cellsB p fs cs
 | _,_=>true
def eachB(p:Fd→Cl→Bool)(l:List Ty)(ts:List Tg):Bool:=ts.all fun t=>cellsB p (fldsAt l t.type) t.cells
set_option maxHeartbeats 2000000 in
theorem Each_ok(s:Sta)(g j:Nat)(y:AV)(p:Fd→Cl→Bool)(hy:y.pureB=true)
  (hcl:∀f c id,c.ids.length≤6→FnOk Tryd.prog g [eFd f,.cptr [.int .i64 c.n,.str c.text,.sl (c.ids.map eI)],.ptr j 0 0] [(j,⟨[y],y,false,false⟩)] id (.bool (p f c)) [])
  (hok:∀t∈s.things,0≤t.type∧t.type.toNat<s.types.length∧t.cells.length=(fldsAt s.types t.type).length∧t.cells.length≤1000000∧∀c∈t.cells,c.ids.length≤6) (h12:s.things.length≤1000000) (id:Nat) :
  FnOk Tryd.prog 54 [eSta s,.fn g [.ptr j 0 0]] [(j,⟨[y],y,false,false⟩)] id (.bool (eachB p s.types s.things)) []:=by
 have hr:∀R S,RenR R S y y:=fun R S=>renR_pure rfl hy
 have hn:∀S,namesIn S y:=fun S=>namesIn_pure _ hy
 unfold eSta
 refine fn_okc Tryd.func54 hcc54 (by decide) hcr54 (by simp[Tryd.ntmps54]) fun E hP hR hl hid=>?_
 simp only[cr54] at hR
 refine w_go 4000 ?_
 simp[cc54]
 have hj:=hl (j,_) (List.mem_cons_self ..)
 simp only at hj
 have j1:=lf hj
 refine w_loop (X:=Nat) (fun i=>⟨[(1,true,.fn g [.ptr j 0 0]),(2,true,.ptr E.n0 0 0),(9,true,.sl (s.things.map eTg)),(10,true,.int .i64 s.things.length),(11,true,.int .i64 i)],[(j,some ⟨[y],y,false,false⟩),(E.n0,some ⟨[.agg [.sl (s.types.map eTy),.sl (s.things.map eTg)]],.agg [.sl (s.types.map eTy),.sl (s.things.map eTg)],false,false⟩)],1⟩) (fun i=>i≤s.things.length∧eachB p s.types (s.things.drop i)=eachB p s.types s.things) (fun i=>s.things.length - i) 0 ?_ ⟨by omega,rfl⟩ ?_
 ·have hrn:rnOk [(E.n0,E.n0)]:=by simp[j1,hr,hn]
  refine Conv.sub [(E.n0,E.n0)] hrn ?_ ?_ ?_ ?_ ?_<;>(try simp[j1,hr,hn])
 ·rintro i ⟨hi,hf⟩ q hq
  refine w_go 4000 ?_
  simp
  refine goc (fun h=>?_) (fun h=>?_)
  ·have h:=of_decide_eq_true h
   obtain⟨t,hx,hd⟩:=drop_cons h
   have hi1:IntKind.i64.wrap ((i:Int)+1)=((i+1:Nat):Int):=wrap64 (by omega)
   obtain⟨k1,k2,k3,k4,k5⟩:=hok t (List.mem_of_getElem? hx)
   obtain⟨ty,hty⟩:∃ty,s.types[t.type.toNat]?=some ty:=⟨_,List.getElem?_eq_getElem k2⟩
   have hfl:fldsAt s.types t.type=ty.fields:=by simp[fldsAt,hty]
   rw[hd,eachB,List.all_cons,hfl] at hf
   rw[hfl] at k3
   simp[hx,eTg_eq t,j1]
   refine⟨h,?_⟩
   refine w_loop (X:=Nat) (fun k=>⟨[(1,true,.fn g [.ptr j 0 0]),(2,true,.ptr E.n0 0 0),(6,true,.ptr (E.n0+1) 0 0),(9,true,.sl (s.things.map eTg)),(10,true,.int .i64 s.things.length),(11,true,.int .i64 i),(16,true,.sl (t.cells.map eCl)),(17,true,.int .i64 t.cells.length),(18,true,.int .i64 k)],[(j,some ⟨[y],y,false,false⟩),(E.n0,some ⟨[.agg [.sl (s.types.map eTy),.sl (s.things.map eTg)]],.agg [.sl (s.types.map eTy),.sl (s.things.map eTg)],false,false⟩),(E.n0+1,some ⟨[.agg [.int .i64 t.type,.int .i64 t.id,.sl (t.cells.map eCl)]],.agg [.int .i64 0,.int .i64 0,.nils],false,false⟩)],2⟩) (fun k=>k≤t.cells.length∧cellsB p (ty.fields.drop k) (t.cells.drop k)=cellsB p ty.fields t.cells) (fun k=>t.cells.length - k) 0 ?_ ⟨by omega,rfl⟩ ?_
   ·have hrn:rnOk [(E.n0,E.n0),(E.n0+1,E.n0+3073)]:=by simp[j1,hr,hn]
    refine Conv.sub [(E.n0,E.n0),(E.n0+1,E.n0+3073)] hrn ?_ ?_ ?_ ?_ ?_<;>(try simp[j1,hr,hn])
   ·rintro k ⟨hk,hf2⟩ q2 hq2
    refine w_go 4000 ?_
    simp
    refine goc (fun h=>?_) (fun h=>?_)
    ·have h:=of_decide_eq_true h
     obtain⟨c,hcx,hcd⟩:=drop_cons h
     obtain⟨f,hfx,hfd⟩:=drop_cons (l:=ty.fields) (i:=k) (by omega)
     have hi2:IntKind.i64.wrap ((k:Int)+1)=((k+1:Nat):Int):=wrap64 (by omega)
     rw[hcd,hfd,cellsB] at hf2
     have hfc:=fun id=>hcl f c id (k5 c (List.mem_of_getElem? hcx))
     simp only[eFd] at hfc
     simp[hcx,hfx,eCl_eq c,hty,eTy,eFd,j1]
     refine⟨⟨k1,k2⟩,by omega,h,?_⟩
     refine w_callv hP rfl rfl (hfc _) (by simp) (by simp[j1]<;>rfl) ?_
     refine w_go 4000 ?_
     simp
     refine goc (fun h1=>?_) (fun h1=>?_)
     ·have h1:p f c=false:=by simpa using h1
      rw[h1,Bool.false_and] at hf2
      rw[←hf2,Bool.false_and] at hf
      rw[←hf] at hR
      simp
      have hrn:rnOk []:=by simp[j1,hr,hn,idO hid]
      rw[hR]
      refine rt_end (by simp<;>rfl) [] hrn ⟨?_,?_,?_,?_,?_,?_⟩<;>(try simp[j1,hr,hn,idO hid])
     ·have h1:p f c=true:=by simpa using h1
      rw[h1,Bool.true_and] at hf2
      simp
      refine hq2 _ (k+1) ⟨h,hf2⟩ (by omega) ?_
      have hrn:rnOk [(E.n0,E.n0),(E.n0+1,E.n0+1)]:=by simp[hi2,j1,hr,hn]
      refine Conv.sub [(E.n0,E.n0),(E.n0+1,E.n0+1)] hrn ?_ ?_ ?_ ?_ ?_<;>(try simp[hi2,j1,hr,hn])
    ·have h:=of_decide_eq_false h
     rw[List.drop_of_length_le (l:=t.cells) (by omega)] at hf2
     have hb:cellsB p ty.fields t.cells=true:=by rw[←hf2]; cases ty.fields.drop k<;>rfl
     rw[hb,Bool.true_and] at hf
     simp
     refine hq _ (i+1) ⟨by omega,hf⟩ (by omega) ?_
     have hrn:rnOk [(E.n0,E.n0)]:=by simp[hi1,j1,hr,hn]
     refine Conv.sub [(E.n0,E.n0)] hrn ?_ ?_ ?_ ?_ ?_<;>(try simp[hi1,j1,hr,hn])
  ·have h:=of_decide_eq_false h
   simp
   rw[List.drop_of_length_le (by omega)] at hf
   have:eachB p s.types s.things=true:=by rw[←hf]; rfl
   rw[this] at hR
   have hrn:rnOk []:=by simp[j1,hr,hn,idO hid]
   rw[hR]
   refine rt_end (by simp<;>rfl) [] hrn ⟨?_,?_,?_,?_,?_,?_⟩<;>(try simp[j1,hr,hn,idO hid])
end Go.Am
namespace Go.Am
set_option linter.all false
open Go Go.RowKit Go.Proofs
set_option maxRecDepth 100000
set_option linter.all false
def fTh1(s:Sta)(i:Nat)(t:Tg):Int :=
 if fThing s.types t≠0 then fThing s.types t else if 0<i∧0≤fOrdAt s.things t.type t.id (i - 1) then 4 else 0
def fSt(s:Sta):Int :=
 if fCheckT s.types≠0 then fCheckT s.types else if 12<s.things.length then 2
 else if firstIx (fun i t=>fTh1 s i t) s.things 0≠0 then firstIx (fun i t=>fTh1 s i t) s.things 0
 else if eachB (fun f c=>!c.ids.any fun x=>!isThere s f x) s.types s.things=true then 0 else 5
structure TgOk(s:Sta)(t:Tg):Prop where
 ty0:0≤t.type
 ty1:t.type.toNat<s.types.length
 id1:1≤t.id
 id2:t.id≤999
 len:t.cells.length=(fldsAt s.types t.type).length
 cell:∀(k:Nat) c,t.cells[k]?=some c→cellAt (fldsAt s.types t.type) k c=0
theorem tgOk{s:Sta}{t:Tg}(h:fThing s.types t=0):TgOk s t:=by
 unfold fThing at h
 repeat' split at h
 all_goals first|(exfalso; omega)|skip
 rename_i h1 h2 h3
 refine⟨by omega,by omega,by omega,by omega,by omega,fun k c hc=>?_⟩
 have:=firstIx_zero _ _ _ h k c hc
 rwa [Nat.zero_add] at this
structure ClOk(f:Fd)(c:Cl):Prop where
 n0:f.kind≠1→c.n=0
 t0:f.kind≠2→c.text=[]
 i0:isLink f.kind=false→c.ids=[]
 n1 : -999999999≤c.n∧c.n≤999999999
 t1:c.text.length≤40
 i1:c.ids.length≤6
 i3:f.kind=3→c.ids.length≤1
 asc:ascB c.ids=true
theorem clOk{f:Fd}{c:Cl}(h:fCell f c=0):ClOk f c:=by
 unfold fCell at h
 repeat' split at h
 all_goals first|(exfalso; omega)|skip
 rename_i h1 h2 h3 h4
 have hm:mostI f.kind≤6:=by unfold mostI; split<;>omega
 have hm3:f.kind=3→mostI f.kind=1:=fun e=>by unfold mostI; rw[if_pos e]
 refine⟨by grind,by grind,by grind,by omega,by omega,by omega,fun e=>by have:=hm3 e; omega,h4⟩
theorem TgOk.cellOk{s:Sta}{t:Tg}(h:TgOk s t){k:Nat}{c:Cl}(hc:t.cells[k]?=some c):∃f,(fldsAt s.types t.type)[k]?=some f∧ClOk f c:=by
 obtain⟨f,hf⟩:∃f,(fldsAt s.types t.type)[k]?=some f:=⟨_,List.getElem?_eq_getElem (by rw[←h.len]; exact (List.getElem?_eq_some_iff.1 hc).1)⟩
 refine⟨f,hf,clOk ?_⟩
 have:=h.cell k c hc
 simpa only[cellAt,hf] using this
theorem TgOk.cells6{s:Sta}(hS:SchOk s.types){t:Tg}(h:TgOk s t):t.cells.length≤6:=by
 rw[h.len]
 obtain⟨ty,hty⟩:∃ty,s.types[t.type.toNat]?=some ty:=⟨_,List.getElem?_eq_getElem h.ty1⟩
 simpa [fldsAt,hty] using hS.fields ty (List.mem_of_getElem? hty)
set_option maxHeartbeats 2000000 in
theorem stCheck_ok(s:Sta)(id:Nat):FnOk Tryd.prog 27 [eSta s] [] id (.int .i64 (fSt s)) []:=by
 unfold eSta
 refine fn_okc Tryd.func27 hcc27 (by decide) hcr27 (by simp[Tryd.ntmps27]) fun E hP hR hl hid=>?_
 simp only[cr27] at hR
 refine w_go 4000 ?_
 simp[cc27]
 (refine w_call hP rfl (sCheck_ok _ _) (by simp) (by simp<;>rfl) ?_; refine w_go 4000 ?_; simp)
 refine goc (fun h=>?_) (fun h=>?_)<;>simp
 ·rw[hR]; exact rt_end (by simp<;>rfl) [] trivial (end_pure (by simp; simp at h; unfold fSt; rw[if_pos h]) (by simp) (by simp))
 have h1:fCheckT s.types=0:=by simpa using h
 refine goc (fun h=>?_) (fun h=>?_)<;>simp
 ·rw[hR]; exact rt_end (by simp<;>rfl) [] trivial (end_pure (by simp; simp at h; unfold fSt; rw[if_neg (by omega),if_pos (by omega)]) (by simp) (by simp))
 have h2:¬12<s.things.length:=by simp at h; omega
 have hS:=schOk h1
 have hft:fSt s=if firstIx (fun i t=>fTh1 s i t) s.things 0≠0 then firstIx (fun i t=>fTh1 s i t) s.things 0
   else if eachB (fun f c=>!c.ids.any fun x=>!isThere s f x) s.types s.things=true then 0 else 5:=by unfold fSt; rw[if_neg (by omega),if_neg h2]
 refine w_loop (X:=Nat) (fun i=>⟨[(1,true,.ptr E.n0 0 0),(19,true,.sl (s.things.map eTg)),(20,true,.int .i64 s.things.length),(21,true,.int .i64 i)],[(E.n0,some ⟨[.agg [.sl (s.types.map eTy),.sl (s.things.map eTg)]],.agg [.sl (s.types.map eTy),.sl (s.things.map eTg)],false,false⟩)],1⟩) (fun i=>i≤s.things.length∧firstIx (fun i t=>fTh1 s i t) (s.things.drop i) i=firstIx (fun i t=>fTh1 s i t) s.things 0) (fun i=>s.things.length - i) 0 ?_ ⟨by omega,rfl⟩ ?_
 ·have hrn:rnOk [(E.n0,E.n0)]:=by simp
  refine Conv.sub [(E.n0,E.n0)] hrn ?_ ?_ ?_ ?_ ?_<;>(try simp)
 ·rintro i ⟨hi,hf⟩ p hp
  refine w_go 4000 ?_
  simp
  refine goc (fun h=>?_) (fun h=>?_)
  ·have h:=of_decide_eq_true h
   obtain⟨t,hx,hd⟩:=drop_cons h
   rw[hd] at hf
   simp only[firstIx] at hf
   have hi1:IntKind.i64.wrap ((i:Int)+1)=((i+1:Nat):Int):=wrap64 (by omega)
   have hth:=fun id=>thing_ok s t id hS.len (.inr hS.fields)
   unfold eSta at hth
   rw[eTg_eq t] at hth
   simp[hx,eTg_eq t]
   refine⟨h,?_⟩
   (refine w_call hP rfl (hth _) (by simp) (by simp<;>rfl) ?_; refine w_go 4000 ?_; simp)
   refine goc (fun h1=>?_) (fun h1=>?_)<;>simp
   ·have h1:fThing s.types t≠0:=by simpa using h1
    have e:fTh1 s i t=fThing s.types t:=by unfold fTh1; rw[if_pos h1]
    rw[e,if_pos h1] at hf
    rw[hR]; exact rt_end (by simp<;>rfl) [] trivial (end_pure (by simp; rw[hft,←hf,if_pos h1]) (by simp) (by simp))
   have h1:fThing s.types t=0:=by simpa using h1
   rcases Nat.eq_zero_or_pos i with hz|hz
   ·subst hz
    have e:fTh1 s 0 t=0:=by unfold fTh1; rw[if_neg (by omega),if_neg (by omega)]
    rw[e,if_neg (by omega)] at hf
    simp
    refine w_split (.int .i64 0) (by simp) (fun hg=>by simp at hg) (fun _=>?_)
    refine w_go 4000 ?_
    simp
    refine hp _ 1 ⟨by omega,hf⟩ (by omega) ?_
    have h01:IntKind.i64.wrap 1=1:=wrap64 (by omega)
    have hrn:rnOk [(E.n0,E.n0)]:=by simp[h01]
    refine Conv.sub [(E.n0,E.n0)] hrn ?_ ?_ ?_ ?_ ?_<;>(try simp[h01])
   ·obtain⟨m,rfl⟩:∃m,i=m+1:=⟨i - 1,by omega⟩
    obtain⟨u,hu⟩:∃u,s.things[m]?=some u:=⟨_,List.getElem?_eq_getElem (by omega)⟩
    have hwm:IntKind.i64.wrap (m:Int)=(m:Int):=wrap64 (by omega)
    have hmi:IntKind.i64.wrap ((m:Int)+1+1)=((m+1+1:Nat):Int):=by rw[wrap64 (by omega)]; omega
    have e:fTh1 s (m+1) t=if 0≤ordI u.type u.id t.type t.id then 4 else 0:=by
     unfold fTh1
     rw[if_neg (by omega)]
     simp[fOrdAt,hu]
    have hlt:m<s.things.length:=by omega
    rw[e] at hf
    have hug:s.things[m]=u:=by rw[List.getElem?_eq_getElem hlt] at hu; injection hu
    simp[hwm,hug,eTg_eq u,hlt]
    refine w_split (.int .i64 0) (by simp) (fun _=>?_) (fun hg=>by simp at hg)
    (refine w_call hP rfl (order_ok _ _ _ _ _ _ _) (by simp) (by simp<;>rfl) ?_; refine w_go 4000 ?_; simp)
    refine goc (fun h3=>?_) (fun h3=>?_)<;>simp
    ·have h3:0≤ordI u.type u.id t.type t.id:=by simpa using h3
     rw[if_pos h3,if_pos (by omega)] at hf
     rw[hR]; exact rt_end (by simp<;>rfl) [] trivial (end_pure (by simp; rw[hft,←hf,if_pos (by omega)]) (by simp) (by simp))
    ·have h3:¬0≤ordI u.type u.id t.type t.id:=by simpa using h3
     rw[if_neg h3,if_neg (by omega)] at hf
     refine hp _ (m+1+1) ⟨h,hf⟩ (by omega) ?_
     have hrn:rnOk [(E.n0,E.n0)]:=by simp[hmi]
     refine Conv.sub [(E.n0,E.n0)] hrn ?_ ?_ ?_ ?_ ?_<;>(try simp[hmi])
  ·have h:=of_decide_eq_false h
   simp
   rw[List.drop_of_length_le (by omega)] at hf
   have hz:firstIx (fun i t=>fTh1 s i t) s.things 0=0:=by rw[←hf]; rfl
   have hall:∀t∈s.things,TgOk s t:=fun t ht=>by
    obtain⟨k,hk⟩:=List.mem_iff_getElem?.1 ht
    have h0:=firstIx_zero _ _ _ hz k t hk
    refine tgOk ?_
    unfold fTh1 at h0
    split at h0
    ·rename_i g; exact (g h0).elim
    ·rename_i g; exact Classical.byContradiction g
   rw[hft,hz,if_neg (by omega)] at hR
   have hE:=fun id=>Each_ok s 49 E.n0 (eSta s) (fun f c=>!c.ids.any fun x=>!isThere s f x) (pure_eSta s) (fun f c id h6=>Check1_ok f c s E.n0 id hS.len (by omega) (by omega))
    (fun t ht=>⟨(hall t ht).ty0,(hall t ht).ty1,(hall t ht).len,by have:=(hall t ht).cells6 hS; omega,fun c hc=>by
     obtain⟨k,hk⟩:=List.mem_iff_getElem?.1 hc
     obtain⟨f,_,hco⟩:=(hall t ht).cellOk hk
     exact hco.i1⟩) (by omega) id
   unfold eSta at hE
   (refine w_call hP rfl (hE _) (by simp) (by simp<;>rfl) ?_; refine w_go 4000 ?_; simp)
   refine goc (fun h=>?_) (fun h=>?_)<;>simp
   ·have h:eachB (fun f c=>!c.ids.any fun x=>!isThere s f x) s.types s.things=false:=by simpa using h
    rw[hR]; exact rt_end (by simp<;>rfl) [] trivial (end_pure (by simp; rw[h]) (by simp) (by simp))
   ·have h:eachB (fun f c=>!c.ids.any fun x=>!isThere s f x) s.types s.things=true:=by simpa using h
    rw[hR]; exact rt_end (by simp<;>rfl) [] trivial (end_pure (by simp; rw[h]) (by simp) (by simp))
end Go.Am
namespace Go.Am
set_option linter.all false
open Go Go.RowKit Go.Proofs
set_option maxRecDepth 100000
set_option linter.all false
def I64(n:Int):Prop:=-9223372036854775808≤n∧n≤9223372036854775807
end Go.Am
namespace Go.Am
set_option linter.all false
open Go Go.RowKit Go.Proofs
set_option maxRecDepth 100000
set_option linter.all false
end Go.Am
