/- Parts of the proof: an abstract machine for Go functions, and what functions of the program give back (Ex1, Ex2, Ex3, Ex4, Ex5, Ex6). No condition. -/
import Derived.Test.YtbjmmndeeeoloaaDoorXD
import Derived.Test.YtbjmmndeeeoloaaDoorCcB
import Derived.Test.YtbjmmndeeeoloaaDoorXJ
import Derived.Test.YtbjmmndeeeoloaaDoorXI
namespace Go.Am
set_option linter.all false
open Go Go.RowKit Go.Proofs
set_option maxRecDepth 100000
set_option linter.all false
def bR(s:Sta)(m:Nat):Bx:=⟨[.agg [.sl (s.types.map eTy),.sl (s.things.map eTg),.int .i64 m]],.agg [.sl (s.types.map eTy),.sl (s.things.map eTg),.int .i64 0],false,false⟩
theorem bR_eq(s:Sta)(m:Nat):bR s m=⟨[.agg [.sl (s.types.map eTy),.sl (s.things.map eTg),.int .i64 m]],.agg [.sl (s.types.map eTy),.sl (s.things.map eTg),.int .i64 0],false,false⟩:=rfl
def tm:AV:=.iface 100 (.agg [])
def rnR(s:Sta)(J m w:Nat)(v:AV):Except AV (AV×List (Nat×Option Bx)):=if m+w≤2000 then .ok (v,[(J,some (bR s (m+w)))]) else .error tm
theorem rnR_ok{s:Sta}{J m w:Nat}{v:AV}(h:m+w≤2000):rnR s J m w v = .ok (v,[(J,some (bR s (m+w)))]):=if_pos h
theorem rnR_no{s:Sta}{J m w:Nat}{v:AV}(h:¬m+w≤2000):rnR s J m w v = .error tm:=if_neg h
theorem rOut_ok(s:Sta)(J m:Nat)(k n:Int)(tx:List UInt8)(id:Nat)(hm:m≤2000):FnE Tryd.prog 84 [.ptr J 0 0,.agg [.int .i64 k,.int .i64 n,.str tx,.nils,.nils]] [(J,bR s m)] id (rnR s J m 1 (.agg [.int .i64 k,.int .i64 n,.str tx,.nils,.nils])):=by
 have hw:IntKind.i64.wrap ((m:Int)+1)=((m+1:Nat):Int):=wrap64 (by omega)
 rw[bR_eq]
 refine fn_okE Tryd.func84 hcc84 (by decide) hcr84 (by simp[Tryd.ntmps84]) fun E hP hR hPn hl hid hB hu=>?_
 simp only[cr84] at hR
 refine w_go 74 ?_
 simp[cc84]
 have hJ:=hl (J,_) (List.mem_cons_self ..)
 simp only at hJ
 have J1:=lf hJ
 simp[J1,hw]
 refine⟨fun h=>?_,fun h=>?_⟩
 ·refine w_go 9 ?_
  simp
  refine w_panic (by simp<;>rfl) (by simp) ⟨by simp,hPn _ _ (rnR_no (by omega)) rfl (by simp[J1])⟩
 ·refine w_go 4000 ?_
  simp[J1]
  have hrn:rnOk []:=by simp[bR,J1,idO hid]
  refine hR _ _ _ (rnR_ok (by omega)) ?_
  refine rt_end (by simp[bR,J1,idO hid]<;>rfl) [] hrn ⟨?_,?_,?_,?_,?_,?_⟩<;>(try simp[bR,J1,idO hid])
end Go.Am
namespace Go.Am
set_option linter.all false
open Go Go.RowKit Go.Proofs
set_option maxRecDepth 100000
set_option linter.all false
inductive Out where
 | mk (kind n:Int) (text:List UInt8) (keys:List (List UInt8)) (list:List Out)
mutual
def eO:Out→AV
 | .mk k n t ks l=>.agg [.int .i64 k,.int .i64 n,.str t,.sl (ks.map .str),.sl (eOs l)]
def eOs:List Out→List AV
 | []=>[]
 | o::r=>eO o::eOs r
end
theorem eOs_map(l:List Out):eOs l=l.map eO:=by
 induction l with
 | nil=>rfl
 | cons o r ih=>simp[eOs,ih]
theorem eO_eq(k n:Int)(t:List UInt8)(ks:List (List UInt8))(l:List Out):eO (.mk k n t ks l) = .agg [.int .i64 k,.int .i64 n,.str t,.sl (ks.map .str),.sl (l.map eO)]:=by
 simp[eO,eOs_map]
theorem pure_strs(l:List (List UInt8)):pureL (l.map AV.str)=true:=pureL_map (fun _=>rfl) l
mutual
theorem pure_eO:∀o:Out,(eO o).pureB=true
 | .mk k n t ks l=>by simp[eO,pure_strs,pure_eOs l]
theorem pure_eOs:∀l:List Out,pureL (eOs l)=true
 | []=>rfl
 | o::r=>by simp[eOs,pure_eO o,pure_eOs r]
end
theorem pure_outs(l:List Out):pureL (l.map eO)=true:=pureL_map pure_eO l
def oNone:Out:=.mk 1 0 [] [] []
def oNum(n:Int):Out:=.mk 2 n [] [] []
def oText(t:List UInt8):Out:=.mk 3 0 t [] []
def oList(l:List Out):Out:=.mk 4 0 [] [] l
def oMap(ks:List (List UInt8))(l:List Out):Out:=.mk 5 0 [] ks l
def thA(s:Sta)(kd id:Int):Option Tg:=if fFindB s.things kd id=true then s.things[fFindI s.things kd id]? else none
def fcOf(s:Sta)(t:Tg)(name:List UInt8):Option (Fd×Cl) :=
 match (fldsAt s.types t.type)[(findJ (fun f=>f.name==name) (fldsAt s.types t.type) 0).toNat]?,t.cells[(findJ (fun f=>f.name==name) (fldsAt s.types t.type) 0).toNat]? with
 | some f,some c=>some (f,c)
 | _,_=>none
def takeA(args:List Ag)(ids:List Int):List Int:=match args with
 | []=>ids
 | a::_=>ids.take a.n.toNat
def thW(s:Sta)(g:Tg→Nat)(kd id:Int):Nat:=match thA s kd id with
 | none=>1
 | some u=>1+g u
def thO(s:Sta)(ks:List (List UInt8))(g:Tg→List Out)(kd id:Int):Out:=match thA s kd id with
 | none=>oNone
 | some u=>oMap ks (g u)
mutual
def wS(s:Sta):Sel→Tg→Nat
 | .mk _ name args kids,t=>if name=tId then 1 else match fcOf s t name with
  | none=>1
  | some (f,c)=>if f.kind=1∨f.kind=2 then 1
   else if f.kind=4 then 1+((takeA args c.ids).map (thW s (wL s kids) (kindOf s.types f.of))).sum
   else match c.ids with
    | []=>1
    | x::_=>thW s (wL s kids) (kindOf s.types f.of) x
def wL(s:Sta):List Sel→Tg→Nat
 | [],_=>0
 | a::r,t=>wS s a t+wL s r t
end
mutual
def oS(s:Sta):Sel→Tg→Out
 | .mk _ name args kids,t=>if name=tId then oNum t.id else match fcOf s t name with
  | none=>oNone
  | some (f,c)=>if f.kind=1 then oNum c.n else if f.kind=2 then oText c.text
   else if f.kind=4 then oList ((takeA args c.ids).map (thO s (kids.map called) (oL s kids) (kindOf s.types f.of)))
   else match c.ids with
    | []=>oNone
    | x::_=>thO s (kids.map called) (oL s kids) (kindOf s.types f.of) x
def oL(s:Sta):List Sel→Tg→List Out
 | [],_=>[]
 | a::r,t=>oS s a t::oL s r t
end
theorem wL_map(s:Sta)(t:Tg):∀l:List Sel,wL s l t=(l.map fun x=>wS s x t).sum
 | []=>by simp[wL]
 | a::r=>by simp[wL,wL_map s t r]
theorem oL_map(s:Sta)(t:Tg):∀l:List Sel,oL s l t=l.map fun x=>oS s x t
 | []=>by simp[oL]
 | a::r=>by simp[oL,oL_map s t r]
theorem sum_take_le{l:List Nat}(i:Nat):(l.take i).sum≤l.sum:=by
 have:l.sum=(l.take i).sum+(l.drop i).sum:=by rw[←List.sum_append,List.take_append_drop]
 omega
theorem sum_take_succ{α:Type}{l:List α}{i:Nat}{x:α}(f:α→Nat)(hx:l[i]?=some x):((l.take (i+1)).map f).sum=((l.take i).map f).sum+f x:=by
 rw[List.take_succ,hx]; simp
theorem sum_at_le{α:Type}{l:List α}{i:Nat}(f:α→Nat):((l.take i).map f).sum≤(l.map f).sum:=by
 rw[List.map_take]; exact sum_take_le i
end Go.Am
namespace Go.Am
set_option linter.all false
open Go Go.RowKit Go.Proofs
set_option maxRecDepth 100000
set_option linter.all false
theorem rOut_done{s:Sta}{J m:Nat}(k n:Int)(tx:List UInt8)(id:Nat)(h:m+1≤2000):FnOk Tryd.prog 84 [.ptr J 0 0,.agg [.int .i64 k,.int .i64 n,.str tx,.nils,.nils]] [(J,bR s m)] id (.agg [.int .i64 k,.int .i64 n,.str tx,.nils,.nils]) [(J,some (bR s (m+1)))]:=by
 have:=rOut_ok s J m k n tx id (by omega)
 rw[rnR_ok h] at this; exact this
theorem rOut_up{s:Sta}{J m:Nat}(k n:Int)(tx:List UInt8)(id:Nat)(hm:m≤2000)(h:¬m+1≤2000):FnE Tryd.prog 84 [.ptr J 0 0,.agg [.int .i64 k,.int .i64 n,.str tx,.nils,.nils]] [(J,bR s m)] id (.error tm):=by
 have:=rOut_ok s J m k n tx id hm
 rw[rnR_no h] at this; exact this
def bP(J:Nat):Bx:=⟨[.ptr J 0 0],.ptr J 0 0,false,false⟩
def bT(t:Tg):Bx:=⟨[eTg t],.agg [.int .i64 0,.int .i64 0,.nils],false,false⟩
set_option maxHeartbeats 4000000 in
theorem pairs_ok(s:Sta)(t:Tg)(l:List Sel)(J A B m:Nat)(id:Nat)(d1:J≠A)(d2:J≠B)(d3:A≠B)(hm:m≤2000)(hl8:l.length≤1000000)
  (hdo:∀x∈l,∀m id,m≤2000→FnE Tryd.prog 107 [eSel x,.ptr A 0 0,.ptr B 0 0] [(J,bR s m),(A,bP J),(B,bT t)] id (rnR s J m (wS s x t) (eO (oS s x t)))) :
  FnE Tryd.prog 58 [.ptr J 0 0,.sl (l.map eSel),.fn 107 [.ptr A 0 0,.ptr B 0 0]] [(J,bR s m),(A,bP J),(B,bT t)] id (rnR s J m (1+wL s l t) (eO (oMap (l.map called) (oL s l t)))):=by
 have hsum:=wL_map s t l
 refine fn_okE Tryd.func58 hcc58 (by decide) hcr58 (by simp[Tryd.ntmps58]) fun E hP hR hPn hl hid hB hu=>?_
 simp only[cr58] at hR
 refine w_go 4000 ?_
 simp[cc58]
 have hJ:=hl (J,_) (List.mem_cons_self ..)
 simp only at hJ
 have J1:=lf hJ
 have hA:=hl (A,_) (List.mem_cons_of_mem _ (List.mem_cons_self ..))
 simp only at hA
 have A1:=lf hA
 have hB:=hl (B,_) (List.mem_cons_of_mem _ (List.mem_cons_of_mem _ (List.mem_cons_self ..)))
 simp only at hB
 have B1:=lf hB
 by_cases h1:m+1≤2000
 rotate_left
 ·refine w_callE hP rfl (rOut_up 5 0 [] _ hm h1) (by simp[J1,A1,B1,d1,d2,d3]) (by simp[J1,A1,B1,d1,d2,d3]<;>rfl) (fun pv hpv=>⟨by simp[J1,A1,B1,d1,d2,d3],by injection hpv with hpv; subst hpv; exact hPn _ _ (rnR_no (by omega)) rfl (by simp[J1,A1,B1,d1,d2,d3])⟩) (fun v wr h=>by cases h)
 (refine w_call hP rfl (rOut_done 5 0 [] _ h1) (by simp[J1,A1,B1,d1,d2,d3]) (by simp[J1,A1,B1,d1,d2,d3]<;>rfl) ?_; refine w_go 4000 ?_; simp[J1,A1,B1,d1,d2,d3])
 refine w_loop (X:=Nat) (fun i=>⟨[(2,true,.fn 107 [.ptr A 0 0,.ptr B 0 0]),(6,true,.ptr E.n0 0 0),(7,true,.ptr (E.n0+1) 0 0),(13,true,.sl (l.map eSel)),(14,true,.int .i64 l.length),(15,true,.int .i64 i)],
   [(J,some (bR s (m+1+((l.take i).map fun x=>wS s x t).sum))),(A,some (bP J)),(B,some (bT t)),(E.n0,some ⟨[.agg [.int .i64 0,.int .i64 0,.str [],.nils,.nils]],.agg [.int .i64 0,.int .i64 0,.str [],.nils,.nils],false,false⟩),(E.n0+1,some ⟨[.agg [.int .i64 5,.int .i64 0,.str [],.bsl (E.n0+2) 0 i,.bsl (E.n0+3) 0 i]],.agg [.int .i64 0,.int .i64 0,.str [],.nils,.nils],false,false⟩),(E.n0+2,some ⟨((l.map called).map .str).take i,.str [],false,false⟩),(E.n0+3,some ⟨((oL s l t).map eO).take i,.agg [.int .i64 0,.int .i64 0,.str [],.nils,.nils],false,false⟩)],4⟩)
  (fun i=>i≤l.length∧m+1+((l.take i).map fun x=>wS s x t).sum≤2000) (fun i=>l.length - i) 0 ?_ ⟨by omega,by simp; omega⟩ ?_
 ·refine Conv.trans (Conv.voidBox (E.n0+4096) (by simp; rfl) rfl (.agg [.int .i64 5,.int .i64 0,.str [],.nils,.nils] [.int .i64 5,.int .i64 0,.str [],.bsl (E.n0+9216) 0 0,.nils] rfl (fun m x y h1 h2=>?_)) (.str [])) (Conv.trans (Conv.voidBox (E.n0+4096) (by simp; rfl) rfl (.agg [.int .i64 5,.int .i64 0,.str [],.bsl (E.n0+9216) 0 0,.nils] [.int .i64 5,.int .i64 0,.str [],.bsl (E.n0+9216) 0 0,.bsl (E.n0+9217) 0 0] rfl (fun m x y h1 h2=>?_)) (.agg [.int .i64 0,.int .i64 0,.str [],.nils,.nils])) ?_)
  ·match m,h1,h2 with
   | 0,h1,h2|1,h1,h2|2,h1,h2|4,h1,h2=>simp at h1 h2; exact .inl (h1.symm.trans h2)
   | 3,h1,h2=>simp at h1 h2; exact .inr ⟨h1.symm,h2.symm⟩
   | m+5,h1,h2=>simp at h1
  ·match m,h1,h2 with
   | 0,h1,h2|1,h1,h2|2,h1,h2|3,h1,h2=>simp at h1 h2; exact .inl (h1.symm.trans h2)
   | 4,h1,h2=>simp at h1 h2; exact .inr ⟨h1.symm,h2.symm⟩
   | m+5,h1,h2=>simp at h1
  ·have hrn:rnOk [(E.n0,E.n0),(E.n0+1,E.n0+4096),(E.n0+2,E.n0+9216),(E.n0+3,E.n0+9217)]:=by simp[bR,bP,bT,J1,A1,B1,d1,d2,d3,Ne.symm d1,Ne.symm d2,Ne.symm d3]
   refine Conv.sub [(E.n0,E.n0),(E.n0+1,E.n0+4096),(E.n0+2,E.n0+9216),(E.n0+3,E.n0+9217)] hrn ?_ ?_ ?_ ?_ ?_<;>(try simp[bR,bP,bT,J1,A1,B1,d1,d2,d3,Ne.symm d1,Ne.symm d2,Ne.symm d3])
 ·rintro i ⟨hi,hm2⟩ p hp
  refine w_go 4000 ?_
  simp
  refine goc (fun h=>?_) (fun h=>?_)
  ·have h:=of_decide_eq_true h
   obtain⟨x,hx,hd⟩:=drop_cons h
   have hi1:IntKind.i64.wrap ((i:Int)+1)=((i+1:Nat):Int):=wrap64 (by omega)
   have hxm:=List.mem_of_getElem? hx
   have hst:=sum_take_succ (fun x=>wS s x t) hx
   have hCa:=Called_ok x
   rw[eSel_eq] at hCa
   have hdx:=hdo x hxm
   have hk1:((l.map called).map AV.str).take (i+1)=((l.map called).map AV.str).take i++[.str (called x)]:=take_snoc (by simp[hx])
   have ho1:((oL s l t).map eO).take (i+1)=((oL s l t).map eO).take i++[eO (oS s x t)]:=take_snoc (by rw[oL_map]; simp[hx])
   have hlo:(oL s l t).length=l.length:=by rw[oL_map]; simp
   obtain⟨ok,on,ot,oks,ols,hoe⟩:∃(a b:Int) (c:List UInt8) (d:List (List UInt8)) (e:List Out),eO (oS s x t) = .agg [.int .i64 a,.int .i64 b,.str c,.sl (d.map .str),.sl (e.map eO)]:=by
    cases oS s x t with|mk a b c d e=>exact⟨a,b,c,d,e,eO_eq a b c d e⟩
   rw[hoe,eSel_eq] at hdx
   rw[hoe] at ho1
   simp only[List.map_map] at *
   simp[hx,eSel_eq x,J1,A1,B1,d1,d2,d3,Ne.symm d1,Ne.symm d2,Ne.symm d3]
   refine⟨h,?_⟩
   (refine w_call hP rfl (hCa _) (by simp[J1,A1,B1,d1,d2,d3,Ne.symm d1,Ne.symm d2,Ne.symm d3]) (by simp[J1,A1,B1,d1,d2,d3,Ne.symm d1,Ne.symm d2,Ne.symm d3]<;>rfl) ?_; refine w_go 4000 ?_; simp[J1,A1,B1,d1,d2,d3,Ne.symm d1,Ne.symm d2,Ne.symm d3])
   refine⟨⟨by omega,by omega,by omega⟩,?_⟩
   have hsl:=sum_at_le (l:=l) (i:=i+1) (fun x=>wS s x t)
   by_cases h2:m+1+((l.take i).map fun x=>wS s x t).sum+wS s x t≤2000
   ·have hd2:∀id,FnOk Tryd.prog 107 _ _ id _ _:=fun id=>by
     have:=hdx (m+1+((l.take i).map fun x=>wS s x t).sum) id hm2
     rw[rnR_ok h2] at this; exact this
    simp only[List.map_take] at *
    refine w_callv hP rfl rfl (hd2 _) (by simp) (by simp[J1,A1,B1,d1,d2,d3,Ne.symm d1,Ne.symm d2,Ne.symm d3]<;>rfl) ?_
    refine w_go 4000 ?_
    simp[J1,A1,B1,d1,d2,d3,Ne.symm d1,Ne.symm d2,Ne.symm d3]
    refine⟨⟨by omega,by omega,by omega⟩,?_⟩
    have hst2:(List.take (i+1) (List.map (fun x=>wS s x t) l)).sum=(List.take i (List.map (fun x=>wS s x t) l)).sum+wS s x t:=by simpa only[List.map_take] using hst
    refine hp _ (i+1) ⟨h,by omega⟩ (by omega) ?_
    have hrn:rnOk [(E.n0,E.n0),(E.n0+1,E.n0+1),(E.n0+2,E.n0+10244),(E.n0+3,E.n0+19460)]:=by simp[hi1,bR,bP,bT,hst2,hk1,ho1,J1,A1,B1,d1,d2,d3,Ne.symm d1,Ne.symm d2,Ne.symm d3]
    refine Conv.sub [(E.n0,E.n0),(E.n0+1,E.n0+1),(E.n0+2,E.n0+10244),(E.n0+3,E.n0+19460)] hrn ?_ ?_ ?_ ?_ ?_<;>(try simp[hi1,bR,bP,bT,hst2,hk1,ho1,J1,A1,B1,d1,d2,d3,Ne.symm d1,Ne.symm d2,Ne.symm d3])
    refine⟨by omega,renL_pure rfl (pureL_append (by rw[←List.map_take]; exact pureL_map (fun _=>rfl) _) rfl),renL_pure rfl (pureL_append (by rw[←List.map_take]; exact pure_outs _) (by simp[pure_strs,pure_outs]))⟩
   ·have hd2:∀id,FnE Tryd.prog 107 _ _ id _:=fun id=>by
     have:=hdx (m+1+((l.take i).map fun x=>wS s x t).sum) id hm2
     rw[rnR_no h2] at this; exact this
    simp only[List.map_take] at *
    refine w_callvE hP rfl rfl (hd2 _) (by simp) (by simp[J1,A1,B1,d1,d2,d3,Ne.symm d1,Ne.symm d2,Ne.symm d3]<;>rfl) (fun pv hpv=>⟨by simp[J1,A1,B1,d1,d2,d3,Ne.symm d1,Ne.symm d2,Ne.symm d3],by injection hpv with hpv; subst hpv; exact hPn _ _ (rnR_no (by omega)) rfl (by simp[J1,A1,B1,d1,d2,d3,Ne.symm d1,Ne.symm d2,Ne.symm d3])⟩) (fun v wr h=>by cases h)
  ·have h:¬i<l.length:=of_decide_eq_false h
   have hil:i=l.length:=by omega
   subst hil
   simp[J1,A1,B1,d1,d2,d3,Ne.symm d1,Ne.symm d2,Ne.symm d3]
   have hlo:(oL s l t).length=l.length:=by rw[oL_map]; simp
   have hsa:(List.take l.length (List.map (fun x=>wS s x t) l)).sum=wL s l t:=by rw[hsum,List.take_of_length_le (by simp)]
   have hka:List.take l.length (List.map (AV.str∘called) l)=List.map (AV.str∘called) l:=List.take_of_length_le (by simp)
   have hoa:List.take l.length ((oL s l t).map eO)=(oL s l t).map eO:=List.take_of_length_le (by simp[hlo])
   simp only[List.map_take] at hm2
   rw[hsa] at hm2
   unfold oMap at hR
   rw[eO_eq,List.map_map] at hR
   have hrn:rnOk []:=by simp[bR,bP,bT,hsa,hka,hoa,hlo,J1,A1,B1,d1,d2,d3,Ne.symm d1,Ne.symm d2,Ne.symm d3,idO hid]
   refine hR _ _ _ (rnR_ok (by omega)) ?_
   refine rt_endR (by simp[bR,bP,bT,hsa,hka,hoa,hlo,J1,A1,B1,d1,d2,d3,Ne.symm d1,Ne.symm d2,Ne.symm d3,idO hid]<;>rfl) (by simp[bR,bP,bT,hsa,hka,hoa,hlo,J1,A1,B1,d1,d2,d3,Ne.symm d1,Ne.symm d2,Ne.symm d3,idO hid]<;>exact⟨rfl,rfl⟩) [] hrn ⟨?_,?_,?_,?_,?_,?_⟩<;>(try simp[bR,bP,bT,hsa,hka,hoa,hlo,J1,A1,B1,d1,d2,d3,Ne.symm d1,Ne.symm d2,Ne.symm d3,idO hid])
   ·exact⟨namesL_pure _ (pureL_map (fun _=>rfl) _),namesL_pure _ (pure_outs _)⟩
   ·omega
end Go.Am
namespace Go.Am
set_option linter.all false
open Go Go.RowKit Go.Proofs
set_option maxRecDepth 100000
set_option linter.all false
@[simp] theorem names_nl (S:Nat→Prop):namesL S []:=namesL_pure _ rfl
@[simp] theorem names_calledl (S:Nat→Prop) (l:List Sel):namesL S (l.map (AV.str∘called)):=namesL_pure _ (pureL_map (fun _=>rfl) l)
@[simp] theorem names_strl (S:Nat→Prop) (l:List (List UInt8)):namesL S (l.map .str):=namesL_pure _ (pure_strs l)
@[simp] theorem names_outl (S:Nat→Prop) (l:List Out):namesL S (l.map eO):=namesL_pure _ (pure_outs l)
attribute [simp] pure_strs pure_outs
theorem FnE.nrm{P:Program}{f:Nat}{args:List AV}{rd:List (Nat×Bx)}{id:Nat}{s:Sta}{J m w:Nat}{v:AV}(h:FnE P f args rd id (rnR s J m w v)):FnE P f args rd id (rnR s J m w v.nrm):=by
 by_cases k:m+w≤2000
 ·rw[rnR_ok k] at h ⊢; exact FnOk.nrm h
 ·rw[rnR_no k] at h ⊢; exact h
theorem rNone_ok(s:Sta)(J m:Nat)(id:Nat)(hm:m≤2000):FnE Tryd.prog 106 [.ptr J 0 0] [(J,bR s m)] id (rnR s J m 1 (eO oNone)):=by
 refine FnE.nrm (v:=.agg [.int .i64 1,.int .i64 0,.str [],.nils,.nils]) ?_
 refine fn_okE Tryd.func106 hcc106 (by decide) hcr106 (by simp[Tryd.ntmps106]) fun E hP hR hPn hl hid hB hu=>?_
 simp only[cr106] at hR
 refine w_go 4000 ?_
 simp[cc106]
 have hJ:=hl (J,_) (List.mem_cons_self ..)
 simp only at hJ
 have J1:=lf hJ
 by_cases h1:m+1≤2000
 rotate_left
 ·refine w_callE hP rfl (rOut_up 1 0 [] _ hm h1) (by simp[J1]) (by simp[J1]<;>rfl) (fun pv hpv=>⟨by simp[J1],by injection hpv with hpv; subst hpv; exact hPn _ _ (rnR_no h1) rfl (by simp[J1])⟩) (fun v wr h=>by cases h)
 (refine w_call hP rfl (rOut_done 1 0 [] _ h1) (by simp[J1]) (by simp[J1]<;>rfl) ?_; refine w_go 4000 ?_; simp[J1])
 have hrn:rnOk []:=by simp[bR,J1,idO hid]
 refine hR _ _ _ (rnR_ok h1) ?_
 refine rt_end (by simp[bR,J1,idO hid]<;>rfl) [] hrn ⟨?_,?_,?_,?_,?_,?_⟩<;>(try simp[bR,J1,idO hid])
theorem thing1_of{s:Sta}{t:Tg}{x:Sel}{J A B m w:Nat}{o:Out}(id:Nat)(d1:J≠A)(d2:J≠B)(d3:A≠B)
  (hF:∀id,FnE Tryd.prog 108 [.ptr J 0 0,eTg t,eSel x] [(J,bR s m)] id (rnR s J m w (eO o))) :
  FnE Tryd.prog 107 [eSel x,.ptr A 0 0,.ptr B 0 0] [(J,bR s m),(A,bP J),(B,bT t)] id (rnR s J m w (eO o)):=by
 obtain⟨ok,on,ot,oks,ols,hoe⟩:∃(a b:Int) (c:List UInt8) (d:List (List UInt8)) (e:List Out),eO o = .agg [.int .i64 a,.int .i64 b,.str c,.sl (d.map .str),.sl (e.map eO)]:=by
  cases o with|mk a b c d e=>exact⟨a,b,c,d,e,eO_eq a b c d e⟩
 have hTg:eTg t = .agg [.int .i64 t.type,.int .i64 t.id,.sl (t.cells.map eCl)]:=rfl
 unfold bP bT
 simp only[hoe,eSel_eq x,hTg] at *
 refine fn_okE Tryd.func107 hcc107 (by decide) hcr107 (by simp[Tryd.ntmps107]) fun E hP hR hPn hl hid hB hu=>?_
 simp only[cr107] at hR
 refine w_go 4000 ?_
 simp[cc107]
 have hJ:=hl (J,_) (List.mem_cons_self ..)
 simp only at hJ
 have J1:=lf hJ
 have hA:=hl (A,_) (List.mem_cons_of_mem _ (List.mem_cons_self ..))
 simp only at hA
 have A1:=lf hA
 have hB:=hl (B,_) (List.mem_cons_of_mem _ (List.mem_cons_of_mem _ (List.mem_cons_self ..)))
 simp only at hB
 have B1:=lf hB
 simp[J1,A1,B1,d1,d2,d3,Ne.symm d1,Ne.symm d2,Ne.symm d3]
 by_cases h1:m+w≤2000
 rotate_left
 ·simp only[rnR_no h1] at hF
  refine w_callE hP rfl (hF _) (by simp[J1,A1,B1,d1,d2,d3,Ne.symm d1,Ne.symm d2,Ne.symm d3]) (by simp[J1,A1,B1,d1,d2,d3,Ne.symm d1,Ne.symm d2,Ne.symm d3]<;>rfl) (fun pv hpv=>⟨by simp[J1,A1,B1,d1,d2,d3,Ne.symm d1,Ne.symm d2,Ne.symm d3],by injection hpv with hpv; subst hpv; exact hPn _ _ (rnR_no h1) rfl (by simp[J1,A1,B1,d1,d2,d3,Ne.symm d1,Ne.symm d2,Ne.symm d3])⟩) (fun v wr h=>by cases h)
 have hF1:∀id,FnOk Tryd.prog 108 _ _ id _ _:=fun id=>by
  have:=hF id
  rw[rnR_ok h1] at this; exact this
 (refine w_call hP rfl (hF1 _) (by simp[J1,A1,B1,d1,d2,d3,Ne.symm d1,Ne.symm d2,Ne.symm d3]) (by simp[J1,A1,B1,d1,d2,d3,Ne.symm d1,Ne.symm d2,Ne.symm d3]<;>rfl) ?_; refine w_go 4000 ?_; simp[J1,A1,B1,d1,d2,d3,Ne.symm d1,Ne.symm d2,Ne.symm d3])
 have hrn:rnOk []:=by simp[bR,J1,A1,B1,d1,d2,d3,Ne.symm d1,Ne.symm d2,Ne.symm d3,idO hid]
 refine hR _ _ _ (rnR_ok h1) ?_
 refine rt_end (by simp[bR,J1,A1,B1,d1,d2,d3,Ne.symm d1,Ne.symm d2,Ne.symm d3,idO hid]<;>rfl) [] hrn ⟨?_,?_,?_,?_,?_,?_⟩<;>(try simp[bR,J1,A1,B1,d1,d2,d3,Ne.symm d1,Ne.symm d2,Ne.symm d3,idO hid])
theorem thing_of{s:Sta}{kids:List Sel}{J m:Nat}{kd tid:Int}(id:Nat)(hm:m≤2000)(h12:s.things.length≤1000)(hk8:kids.length≤1000000)
  (hF:∀u,thA s kd tid=some u→∀x∈kids,∀m id,m≤2000→FnE Tryd.prog 108 [.ptr J 0 0,eTg u,eSel x] [(J,bR s m)] id (rnR s J m (wS s x u) (eO (oS s x u)))) :
  FnE Tryd.prog 87 [.ptr J 0 0,.int .i64 kd,.int .i64 tid,.sl (kids.map eSel)] [(J,bR s m)] id (rnR s J m (thW s (wL s kids) kd tid) (eO (thO s (kids.map called) (oL s kids) kd tid))):=by
 have hFi:=fun id=>stFind_ok s kd tid id (by omega)
 unfold eSta at hFi
 cases hb:fFindB s.things kd tid with
 | false =>
  have ht:thA s kd tid=none:=by unfold thA; rw[hb]; rfl
  have e1:thW s (wL s kids) kd tid=1:=by unfold thW; rw[ht]
  have e2:thO s (kids.map called) (oL s kids) kd tid=oNone:=by unfold thO; rw[ht]
  rw[hb] at hFi
  rw[e1,e2]
  have hN:=fun id=>rNone_ok s J m id hm
  have hoe:eO oNone = .agg [.int .i64 1,.int .i64 0,.str [],.sl [],.sl []]:=rfl
  rw[hoe] at hN ⊢
  rw[bR_eq] at *
  refine fn_okE Tryd.func87 hcc87 (by decide) hcr87 (by simp[Tryd.ntmps87]) fun E hP hR hPn hl hid hB hu=>?_
  simp only[cr87] at hR
  refine w_go 4000 ?_
  simp[cc87]
  have hJ:=hl (J,_) (List.mem_cons_self ..)
  simp only at hJ
  have J1:=lf hJ
  simp[J1]
  (refine w_call hP rfl (hFi _) (by simp[J1]) (by simp[J1]<;>rfl) ?_; refine w_go 4000 ?_; simp[J1])
  by_cases h1:m+1≤2000
  rotate_left
  ·simp only[rnR_no h1] at hN
   refine w_callE hP rfl (hN _) (by simp[J1]) (by simp[J1]<;>rfl) (fun pv hpv=>⟨by simp[J1],by injection hpv with hpv; subst hpv; exact hPn _ _ (rnR_no h1) rfl (by simp[J1])⟩) (fun v wr h=>by cases h)
  have hN1:∀id,FnOk Tryd.prog 106 _ _ id _ _:=fun id=>by
   have:=hN id
   rw[rnR_ok h1] at this; exact this
  (refine w_call hP rfl (hN1 _) (by simp[J1]) (by simp[J1]<;>rfl) ?_; refine w_go 4000 ?_; simp[J1])
  have hrn:rnOk []:=by simp[bR,J1,idO hid]
  refine hR _ _ _ (rnR_ok h1) ?_
  refine rt_end (by simp[bR,J1,idO hid]<;>rfl) [] hrn ⟨?_,?_,?_,?_,?_,?_⟩<;>(try simp[bR,J1,idO hid])
 | true =>
  obtain⟨u,hus⟩:∃u,s.things[fFindI s.things kd tid]?=some u:=by
   unfold fFindB at hb
   simp at hb
   exact⟨_,List.getElem?_eq_getElem hb.1⟩
  have hlt:=(List.getElem?_eq_some_iff.1 hus).1
  have ht:thA s kd tid=some u:=by unfold thA; rw[hb,if_pos rfl,hus]
  have e1:thW s (wL s kids) kd tid=1+wL s kids u:=by unfold thW; rw[ht]
  have e2:thO s (kids.map called) (oL s kids) kd tid=oMap (kids.map called) (oL s kids u):=by unfold thO; rw[ht]
  rw[hb] at hFi
  rw[e1,e2]
  have hP2:=fun A B id (d1:J≠A) (d2:J≠B) (d3:A≠B)=>pairs_ok s u kids J A B m id d1 d2 d3 hm hk8 fun x hx m id hm=>thing1_of id d1 d2 d3 fun id=>hF u ht x hx m id hm
  unfold oMap at hP2 ⊢
  rw[eO_eq] at hP2 ⊢
  have hTu:eTg u = .agg [.int .i64 u.type,.int .i64 u.id,.sl (u.cells.map eCl)]:=rfl
  unfold bP bT at hP2
  rw[hTu] at hP2
  rw[bR_eq] at *
  generalize hv:(AV.agg [.int .i64 5,.int .i64 0,.str [],.sl ((kids.map called).map .str),.sl ((oL s kids u).map eO)])=V at hP2 ⊢
  refine fn_okE Tryd.func87 hcc87 (by decide) hcr87 (by simp[Tryd.ntmps87]) fun E hP hR hPn hl hid hB hu=>?_
  simp only[cr87] at hR
  refine w_go 4000 ?_
  simp[cc87]
  have hJ:=hl (J,_) (List.mem_cons_self ..)
  simp only at hJ
  have J1:=lf hJ
  simp[J1]
  (refine w_call hP rfl (hFi _) (by simp[hus,hTu,J1]) (by simp[hus,hTu,J1]<;>rfl) ?_; refine w_go 4000 ?_; simp[hus,hTu,J1])
  refine⟨hlt,?_⟩
  have hP3:=fun id=>hP2 E.n0 (E.n0+24576) id (by simp[J1]) (by simp[J1]) (by omega)
  by_cases h1:m+(1+wL s kids u)≤2000
  rotate_left
  ·simp only[rnR_no h1] at hP3
   refine w_callE hP rfl (hP3 _) (by simp[J1]) (by simp[J1]<;>rfl) (fun pv hpv=>⟨by simp[J1],by injection hpv with hpv; subst hpv; exact hPn _ _ (rnR_no h1) rfl (by simp[J1])⟩) (fun v wr h=>by cases h)
  have hP4:∀id,FnOk Tryd.prog 58 _ _ id _ _:=fun id=>by
   have:=hP3 id
   rw[rnR_ok h1] at this; exact this
  rw[←hv] at hP4
  (refine w_call hP rfl (hP4 _) (by simp[J1]) (by simp[J1]<;>rfl) ?_; refine w_go 4000 ?_; simp[J1])
  rw[←hv] at hR
  have hrn:rnOk []:=by simp[bR,J1,idO hid]
  refine hR _ _ _ (rnR_ok h1) ?_
  refine rt_end (by simp[bR,J1,idO hid]<;>rfl) [] hrn ⟨?_,?_,?_,?_,?_,?_⟩<;>(try simp[bR,J1,idO hid])
end Go.Am
namespace Go.Am
set_option linter.all false
open Go Go.RowKit Go.Proofs
set_option maxRecDepth 100000
set_option linter.all false
mutual
theorem nrm_eO:∀o:Out,(eO o).nrm=eO o
 | .mk k n t ks l=>by
  have h1:nrmL (ks.map AV.str)=ks.map AV.str:=by
   induction ks with
   | nil=>rfl
   | cons a r ih=>simp[nrmL,AV.nrm,ih]
  simp[eO,AV.nrm,nrmL,h1,nrm_eOs l]
theorem nrm_eOs:∀l:List Out,nrmL (eOs l)=eOs l
 | []=>rfl
 | o::r=>by simp[eOs,nrmL,nrm_eO o,nrm_eOs r]
end
set_option maxHeartbeats 4000000 in
theorem list_of{s:Sta}{kids:List Sel}{ids:List Int}{J m:Nat}{kd:Int}{W:Int→Nat}{O:Int→Out}(id:Nat)(hm:m≤2000)(hi8:ids.length≤1000000)
  (hT:∀x∈ids,∀m id,m≤2000→FnE Tryd.prog 87 [.ptr J 0 0,.int .i64 kd,.int .i64 x,.sl (kids.map eSel)] [(J,bR s m)] id (rnR s J m (W x) (eO (O x)))) :
  FnE Tryd.prog 88 [.ptr J 0 0,.int .i64 kd,.sl (ids.map eI),.sl (kids.map eSel)] [(J,bR s m)] id (rnR s J m (1+(ids.map W).sum) (eO (oList (ids.map O)))):=by
 have hres:(AV.agg [.int .i64 4,.int .i64 0,.str [],.nils,.sl ((ids.map O).map eO)]).nrm=eO (oList (ids.map O)):=by
  have:=nrm_eOs (ids.map O)
  rw[eOs_map] at this
  unfold oList
  rw[eO_eq]
  simp[AV.nrm,nrmL] at this ⊢
  exact this
 rw[←hres]
 refine FnE.nrm ?_
 refine fn_okE Tryd.func88 hcc88 (by decide) hcr88 (by simp[Tryd.ntmps88]) fun E hP hR hPn hl hid hB hu=>?_
 simp only[cr88] at hR
 refine w_go 4000 ?_
 simp[cc88]
 have hJ:=hl (J,_) (List.mem_cons_self ..)
 simp only at hJ
 have J1:=lf hJ
 by_cases h1:m+1≤2000
 rotate_left
 ·refine w_callE hP rfl (rOut_up 4 0 [] _ hm h1) (by simp[J1]) (by simp[J1]<;>rfl) (fun pv hpv=>⟨by simp[J1],by injection hpv with hpv; subst hpv; exact hPn _ _ (rnR_no (by omega)) rfl (by simp[J1])⟩) (fun v wr h=>by cases h)
 (refine w_call hP rfl (rOut_done 4 0 [] _ h1) (by simp[J1]) (by simp[J1]<;>rfl) ?_; refine w_go 4000 ?_; simp[J1])
 refine w_loop (X:=Nat) (fun i=>⟨[(0,true,.ptr J 0 0),(1,true,.int .i64 kd),(3,true,.sl (kids.map eSel)),(8,true,.ptr E.n0 0 0),(9,true,.ptr (E.n0+1) 0 0),(15,true,.sl (ids.map eI)),(16,true,.int .i64 ids.length),(17,true,.int .i64 i)],
   [(J,some (bR s (m+1+((ids.take i).map W).sum))),(E.n0,some ⟨[.agg [.int .i64 0,.int .i64 0,.str [],.nils,.nils]],.agg [.int .i64 0,.int .i64 0,.str [],.nils,.nils],false,false⟩),(E.n0+1,some ⟨[.agg [.int .i64 4,.int .i64 0,.str [],.nils,.bsl (E.n0+2) 0 i]],.agg [.int .i64 0,.int .i64 0,.str [],.nils,.nils],false,false⟩),(E.n0+2,some ⟨((ids.map O).map eO).take i,.agg [.int .i64 0,.int .i64 0,.str [],.nils,.nils],false,false⟩)],3⟩)
  (fun i=>i≤ids.length∧m+1+((ids.take i).map W).sum≤2000) (fun i=>ids.length - i) 0 ?_ ⟨by omega,by simp; omega⟩ ?_
 ·refine Conv.trans (Conv.voidBox (E.n0+4096) (by simp; rfl) rfl (.agg [.int .i64 4,.int .i64 0,.str [],.nils,.nils] [.int .i64 4,.int .i64 0,.str [],.nils,.bsl (E.n0+9216) 0 0] rfl (fun m x y h1 h2=>?_)) (.agg [.int .i64 0,.int .i64 0,.str [],.nils,.nils])) ?_
  ·match m,h1,h2 with
   | 0,h1,h2|1,h1,h2|2,h1,h2|3,h1,h2=>simp at h1 h2; exact .inl (h1.symm.trans h2)
   | 4,h1,h2=>simp at h1 h2; exact .inr ⟨h1.symm,h2.symm⟩
   | m+5,h1,h2=>simp at h1
  ·have hrn:rnOk [(E.n0,E.n0),(E.n0+1,E.n0+4096),(E.n0+2,E.n0+9216)]:=by simp[bR,J1]
   refine Conv.sub [(E.n0,E.n0),(E.n0+1,E.n0+4096),(E.n0+2,E.n0+9216)] hrn ?_ ?_ ?_ ?_ ?_<;>(try simp[bR,J1])
 ·rintro i ⟨hi,hm2⟩ p hp
  refine w_go 4000 ?_
  simp
  refine goc (fun h=>?_) (fun h=>?_)
  ·have h:=of_decide_eq_true h
   obtain⟨x,hx,hd⟩:=drop_cons h
   have hi1:IntKind.i64.wrap ((i:Int)+1)=((i+1:Nat):Int):=wrap64 (by omega)
   have hxm:=List.mem_of_getElem? hx
   have hst:=sum_take_succ W hx
   have hdx:=hT x hxm
   have ho1:((ids.map O).map eO).take (i+1)=((ids.map O).map eO).take i++[eO (O x)]:=take_snoc (by simp[hx])
   obtain⟨ok,on,ot,oks,ols,hoe⟩:∃(a b:Int) (c:List UInt8) (d:List (List UInt8)) (e:List Out),eO (O x) = .agg [.int .i64 a,.int .i64 b,.str c,.sl (d.map .str),.sl (e.map eO)]:=by
    cases O x with|mk a b c d e=>exact⟨a,b,c,d,e,eO_eq a b c d e⟩
   rw[hoe] at ho1
   simp only[hoe] at hdx
   have hsl:=sum_at_le (l:=ids) (i:=i+1) W
   have heI:eI x = .int .i64 x:=rfl
   simp[hx,heI,J1]
   refine⟨h,?_⟩
   by_cases h2:m+1+((ids.take i).map W).sum+W x≤2000
   ·have hd2:∀id,FnOk Tryd.prog 87 _ _ id _ _:=fun id=>by
     have:=hdx (m+1+((ids.take i).map W).sum) id hm2
     rw[rnR_ok h2] at this; exact this
    have hst2:(List.take (i+1) (List.map W ids)).sum=(List.take i (List.map W ids)).sum+W x:=by simpa only[List.map_take] using hst
    simp only[List.map_take,List.map_map] at *
    (refine w_call hP rfl (hd2 _) (by simp[J1]) (by simp[J1]<;>rfl) ?_; refine w_go 4000 ?_; simp[J1])
    refine⟨⟨by omega,by omega,by omega⟩,?_⟩
    refine hp _ (i+1) ⟨h,by omega⟩ (by omega) ?_
    have hrn:rnOk [(E.n0,E.n0),(E.n0+1,E.n0+1),(E.n0+2,E.n0+12291)]:=by simp[hi1,bR,hst2,ho1,J1]
    refine Conv.sub [(E.n0,E.n0),(E.n0+1,E.n0+1),(E.n0+2,E.n0+12291)] hrn ?_ ?_ ?_ ?_ ?_<;>(try simp[hi1,bR,hst2,ho1,J1])
    exact⟨by omega,renL_pure rfl (pureL_append (by rw[←List.map_take]; exact pureL_map (fun _=>pure_eO _) _) (by simp[pure_strs,pure_outs]))⟩
   ·have hd2:∀id,FnE Tryd.prog 87 _ _ id _:=fun id=>by
     have:=hdx (m+1+((ids.take i).map W).sum) id hm2
     rw[rnR_no h2] at this; exact this
    simp only[List.map_take,List.map_map] at *
    refine w_callE hP rfl (hd2 _) (by simp[J1]) (by simp[J1]<;>rfl) (fun pv hpv=>⟨by simp[J1],by injection hpv with hpv; subst hpv; exact hPn _ _ (rnR_no (by omega)) rfl (by simp[J1])⟩) (fun v wr h=>by cases h)
  ·have h:¬i<ids.length:=of_decide_eq_false h
   have hil:i=ids.length:=by omega
   subst hil
   simp[J1]
   have hsa:(List.take ids.length (List.map W ids)).sum=(List.map W ids).sum:=by rw[List.take_of_length_le (by simp)]
   have hoa:List.take ids.length (List.map (eO∘O) ids)=List.map (eO∘O) ids:=List.take_of_length_le (by simp)
   simp only[List.map_take,List.map_map] at *
   rw[hsa] at hm2
   have hrn:rnOk []:=by simp[bR,hsa,hoa,J1,idO hid]
   refine hR _ _ _ (rnR_ok (by omega)) ?_
   refine rt_endR (by simp[bR,hsa,hoa,J1,idO hid]<;>rfl) (by simp[bR,hsa,hoa,J1,idO hid]<;>exact⟨rfl,rfl⟩) [] hrn ⟨?_,?_,?_,?_,?_,?_⟩<;>(try simp[bR,hsa,hoa,J1,idO hid])
   ·exact namesL_pure _ (pureL_map (fun _=>pure_eO _) _)
   ·omega
end Go.Am
namespace Go.Am
set_option linter.all false
open Go Go.RowKit Go.Proofs
set_option maxRecDepth 100000
set_option linter.all false
theorem vArg_ok(x:Sel)(id:Nat):FnOk Tryd.prog 86 [eSel x] [] id (.tup [.int .i64 (match x.args with|[]=>0|a::_=>a.n),.bool (!x.args.isEmpty)]) []:=by
 rw[eSel_eq]
 cases h:x.args with
 | nil =>
  refine fn_okc Tryd.func86 hcc86 (by decide) hcr86 (by simp[Tryd.ntmps86]) fun E hP hR hl hid=>?_
  simp only[cr86] at hR
  refine w_go 4000 ?_
  simp[cc86]
  rw[hR]; exact rt_end (by simp<;>rfl) [] trivial (end_pure (by simp) (by simp) (by simp))
 | cons a r =>
  refine fn_okc Tryd.func86 hcc86 (by decide) hcr86 (by simp[Tryd.ntmps86]) fun E hP hR hl hid=>?_
  simp only[cr86] at hR
  refine w_go 4000 ?_
  simp[cc86]
  refine goc_false (by simp; omega) ?_
  simp[eAg_eq a]
  rw[hR]; exact rt_end (by simp<;>rfl) [] trivial (end_pure (by simp) (by simp) (by simp))
theorem wS_eq(s:Sta)(x:Sel)(t:Tg):wS s x t=if x.name=tId then 1 else match fcOf s t x.name with
  | none=>1
  | some (f,c)=>if f.kind=1∨f.kind=2 then 1
   else if f.kind=4 then 1+((takeA x.args c.ids).map (thW s (wL s x.kids) (kindOf s.types f.of))).sum
   else match c.ids with
    | []=>1
    | y::_=>thW s (wL s x.kids) (kindOf s.types f.of) y:=by cases x; rfl
theorem oS_eq(s:Sta)(x:Sel)(t:Tg):oS s x t=if x.name=tId then oNum t.id else match fcOf s t x.name with
  | none=>oNone
  | some (f,c)=>if f.kind=1 then oNum c.n else if f.kind=2 then oText c.text
   else if f.kind=4 then oList ((takeA x.args c.ids).map (thO s (x.kids.map called) (oL s x.kids) (kindOf s.types f.of)))
   else match c.ids with
    | []=>oNone
    | y::_=>thO s (x.kids.map called) (oL s x.kids) (kindOf s.types f.of) y:=by cases x; rfl
theorem eO_num(n:Int):eO (oNum n)=(AV.agg [.int .i64 2,.int .i64 n,.str [],.nils,.nils]).nrm:=rfl
theorem eO_text(t:List UInt8):eO (oText t)=(AV.agg [.int .i64 3,.int .i64 0,.str t,.nils,.nils]).nrm:=rfl
set_option maxHeartbeats 2000000 in
theorem field_id{s:Sta}{t:Tg}{x:Sel}{J m:Nat}(id:Nat)(hm:m≤2000)(hn:x.name=tId):
  FnE Tryd.prog 108 [.ptr J 0 0,eTg t,eSel x] [(J,bR s m)] id (rnR s J m (wS s x t) (eO (oS s x t))):=by
 rw[wS_eq,oS_eq,if_pos hn,if_pos hn,eO_num]
 refine FnE.nrm ?_
 have hTt:eTg t = .agg [.int .i64 t.type,.int .i64 t.id,.sl (t.cells.map eCl)]:=rfl
 rw[hTt,eSel_eq,hn]
 unfold tId
 refine fn_okE Tryd.func108 hcc108 (by decide) hcr108 (by simp[Tryd.ntmps108]) fun E hP hR hPn hl hid hB hu=>?_
 simp only[cr108] at hR
 refine w_go 4000 ?_
 simp[cc108]
 have hJ:=hl (J,_) (List.mem_cons_self ..)
 simp only at hJ
 have J1:=lf hJ
 by_cases h1:m+1≤2000
 rotate_left
 ·refine w_callE hP rfl (rOut_up 2 t.id [] _ hm h1) (by simp[J1]) (by simp[J1]<;>rfl) (fun pv hpv=>⟨by simp[J1],by injection hpv with hpv; subst hpv; exact hPn _ _ (rnR_no h1) rfl (by simp[J1])⟩) (fun v wr h=>by cases h)
 (refine w_call hP rfl (rOut_done 2 t.id [] _ h1) (by simp[J1]) (by simp[J1]<;>rfl) ?_; refine w_go 4000 ?_; simp[J1])
 have hrn:rnOk []:=by simp[bR,J1,idO hid]
 refine hR _ _ _ (rnR_ok h1) ?_
 refine rt_end (by simp[bR,J1,idO hid]<;>rfl) [] hrn ⟨?_,?_,?_,?_,?_,?_⟩<;>(try simp[bR,J1,idO hid])
set_option maxHeartbeats 4000000 in
theorem field_fc{s:Sta}{t:Tg}{x:Sel}{J m q k:Nat}{ty:Ty}{f:Fd}{c:Cl}(id:Nat)(hm:m≤2000)(hne:x.name≠tId)(hq:t.type=q)(hty:s.types[q]?=some ty)(hl8:s.types.length≤1000)(hf8:ty.fields.length≤1000)
  (hk:findJ (fun g=>g.name==x.name) ty.fields 0=(k:Int)) (hf:ty.fields[k]?=some f) (hc:t.cells[k]?=some c) (hkd:1≤f.kind∧f.kind≤4) (hi8:c.ids.length≤1000000) (ha:∀a r,x.args=a::r→0≤a.n∧a.n≤999999999)
  (hT:∀y∈c.ids,∀m id,m≤2000→FnE Tryd.prog 87 [.ptr J 0 0,.int .i64 (kindOf s.types f.of),.int .i64 y,.sl (x.kids.map eSel)] [(J,bR s m)] id (rnR s J m (thW s (wL s x.kids) (kindOf s.types f.of) y) (eO (thO s (x.kids.map called) (oL s x.kids) (kindOf s.types f.of) y)))) :
  FnE Tryd.prog 108 [.ptr J 0 0,eTg t,eSel x] [(J,bR s m)] id (rnR s J m (wS s x t) (eO (oS s x t))):=by
 have hfl:fldsAt s.types t.type=ty.fields:=by unfold fldsAt; rw[hq]; simp[hty]
 have hfc:fcOf s t x.name=some (f,c):=by
  unfold fcOf
  rw[hfl,hk]
  simp[hf,hc]
 have hw:=wS_eq s x t
 have ho:=oS_eq s x t
 rw[if_neg hne,hfc] at hw ho
 simp only at hw ho
 have hFo:=fun id=>FieldOf_ok ty.fields ty.name x.name id (by omega)
 rw[hk] at hFo
 have hFn:=fun id=>Find_ok s.types f.of id (by omega)
 rw[show findJ (fun z:Ty=>z.name==f.of) s.types 0=kindOf s.types f.of from rfl] at hFn
 have hVa:=fun id=>vArg_ok x id
 have hTt:eTg t = .agg [.int .i64 t.type,.int .i64 t.id,.sl (t.cells.map eCl)]:=rfl
 have hTy:eTy ty = .agg [.str ty.name,.sl (ty.fields.map eFd)]:=rfl
 have hFd:eFd f = .agg [.str f.name,.int .i64 f.kind,.str f.of]:=rfl
 have hCl:eCl c = .agg [.int .i64 c.n,.str c.text,.sl (c.ids.map eI)]:=rfl
 have hql:=(List.getElem?_eq_some_iff.1 hty).1
 have hkl:=(List.getElem?_eq_some_iff.1 hf).1
 have hcl:=(List.getElem?_eq_some_iff.1 hc).1
 rw[eSel_eq] at hVa
 obtain⟨V,hV0,hV1,hV2,hV3⟩:∃V:AV,V.nrm=eO (oS s x t)∧(f.kind=1→V = .agg [.int .i64 2,.int .i64 c.n,.str [],.nils,.nils])∧(f.kind=2→V = .agg [.int .i64 3,.int .i64 0,.str c.text,.nils,.nils])∧(f.kind≠1→f.kind≠2→V=eO (oS s x t)):=by
  by_cases k1:f.kind=1
  ·exact⟨_,by rw[ho,if_pos k1,eO_num],fun _=>rfl,fun k2=>by omega,fun k=>(k k1).elim⟩
  ·by_cases k2:f.kind=2
   ·exact⟨_,by rw[ho,if_neg k1,if_pos k2,eO_text],fun k=>(k1 k).elim,fun _=>rfl,fun _ k=>(k k2).elim⟩
   ·exact⟨_,nrm_eO _,fun k=>(k1 k).elim,fun k=>(k2 k).elim,fun _ _=>rfl⟩
 rw[←hV0]
 refine FnE.nrm ?_
 rw[hTt,eSel_eq,hq]
 have hnb:(x.name==[105,100])=false:=by simpa [tId] using hne
 rw[bR_eq]
 refine fn_okE Tryd.func108 hcc108 (by decide) hcr108 (by simp[Tryd.ntmps108]) fun E hP hR hPn hl hid hB hu=>?_
 simp only[cr108] at hR
 refine w_go 4000 ?_
 simp[cc108]
 have hJ:=hl (J,_) (List.mem_cons_self ..)
 simp only at hJ
 have J1:=lf hJ
 refine goc_false hnb ?_
 simp[J1,hty,hTy]
 refine⟨hql,?_⟩
 (refine w_call hP rfl (hFo _) (by simp[J1,hty,hTy,hf,hc,hFd,hCl]) (by simp[J1,hty,hTy,hf,hc,hFd,hCl]<;>rfl) ?_; refine w_go 4000 ?_; simp[J1,hty,hTy,hf,hc,hFd,hCl])
 refine⟨hql,hkl,hcl,?_⟩
 (refine w_call hP rfl (hFn _) (by simp[J1]) (by simp[J1]<;>rfl) ?_; refine w_go 4000 ?_; simp[J1])
 refine goc (fun h3=>?_) (fun h3=>?_)<;>simp[J1]
 ·have h3:f.kind=1:=by simpa using h3
  have hw1:wS s x t=1:=by rw[hw,if_pos (.inl h3)]
  simp only[hw1,hV1 h3] at hR hPn
  by_cases h1:m+1≤2000
  rotate_left
  ·have hO:=fun id=>rOut_up (s:=s) (J:=J) (m:=m) 2 c.n [] id hm h1
   rw[bR_eq] at hO
   refine w_callE hP rfl (hO _) (by simp[J1]) (by simp[J1]<;>rfl) (fun pv hpv=>⟨by simp[J1],by injection hpv with hpv; subst hpv; exact hPn _ _ (rnR_no h1) rfl (by simp[J1])⟩) (fun v wr h=>by cases h)
  have hO:=fun id=>rOut_done (s:=s) (J:=J) (m:=m) 2 c.n [] id h1
  rw[bR_eq s m] at hO
  (refine w_call hP rfl (hO _) (by simp[J1]) (by simp[J1]<;>rfl) ?_; refine w_go 4000 ?_; simp[J1])
  have hrn:rnOk []:=by simp[bR,J1,idO hid]
  refine hR _ _ _ (rnR_ok h1) ?_
  refine rt_end (by simp[bR,J1,idO hid]<;>rfl) [] hrn ⟨?_,?_,?_,?_,?_,?_⟩<;>(try simp[bR,J1,idO hid])
 refine goc (fun h4=>?_) (fun h4=>?_)<;>simp[J1]
 ·have h4:f.kind=2:=by simpa using h4
  have hw1:wS s x t=1:=by rw[hw,if_pos (.inr h4)]
  simp only[hw1,hV2 h4] at hR hPn
  by_cases h1:m+1≤2000
  rotate_left
  ·have hO:=fun id=>rOut_up (s:=s) (J:=J) (m:=m) 3 0 c.text id hm h1
   rw[bR_eq] at hO
   refine w_callE hP rfl (hO _) (by simp[J1]) (by simp[J1]<;>rfl) (fun pv hpv=>⟨by simp[J1],by injection hpv with hpv; subst hpv; exact hPn _ _ (rnR_no h1) rfl (by simp[J1])⟩) (fun v wr h=>by cases h)
  have hO:=fun id=>rOut_done (s:=s) (J:=J) (m:=m) 3 0 c.text id h1
  rw[bR_eq s m] at hO
  (refine w_call hP rfl (hO _) (by simp[J1]) (by simp[J1]<;>rfl) ?_; refine w_go 4000 ?_; simp[J1])
  have hrn:rnOk []:=by simp[bR,J1,idO hid]
  refine hR _ _ _ (rnR_ok h1) ?_
  refine rt_end (by simp[bR,J1,idO hid]<;>rfl) [] hrn ⟨?_,?_,?_,?_,?_,?_⟩<;>(try simp[bR,J1,idO hid])
 have h3:f.kind≠1:=by simpa using h3
 have h4:f.kind≠2:=by simpa using h4
 rw[if_neg (by omega)] at hw
 rw[if_neg h3,if_neg h4] at ho
 simp only[hV3 h3 h4] at hR hPn
 obtain⟨ok,on,ot,oks,ols,hoe⟩:∃(a b:Int) (c:List UInt8) (d:List (List UInt8)) (e:List Out),eO (oS s x t) = .agg [.int .i64 a,.int .i64 b,.str c,.sl (d.map .str),.sl (e.map eO)]:=by
  cases oS s x t with|mk a b c d e=>exact⟨a,b,c,d,e,eO_eq a b c d e⟩
 rw[hoe] at hR
 refine goc (fun h5=>?_) (fun h5=>?_)<;>simp[J1]
 ·have h5:f.kind=4:=by simpa using h5
  rw[if_pos h5] at hw ho
  have hL:=fun id=>list_of (s:=s) (kids:=x.kids) (ids:=takeA x.args c.ids) (J:=J) (kd:=kindOf s.types f.of) (W:=thW s (wL s x.kids) (kindOf s.types f.of)) (O:=thO s (x.kids.map called) (oL s x.kids) (kindOf s.types f.of)) id hm (by unfold takeA; split<;>(try simp only[List.length_take])<;>omega) (fun y hy=>hT y (by
   unfold takeA at hy
   split at hy
   ·exact hy
   ·exact List.mem_of_mem_take hy))
  rw[←hw,←ho,hoe] at hL
  cases hx:x.args with
  | nil =>
   rw[hx] at hVa hL
   simp only[takeA] at hL
   (refine w_call hP rfl (hVa _) (by simp[J1]) (by simp[J1]<;>rfl) ?_; refine w_go 4000 ?_; simp[J1])
   by_cases h1:m+wS s x t≤2000
   rotate_left
   ·simp only[rnR_no h1] at hL
    rw[bR_eq] at hL
    refine w_callE hP rfl (hL _) (by simp[J1]) (by simp[J1]<;>rfl) (fun pv hpv=>⟨by simp[J1],by injection hpv with hpv; subst hpv; exact hPn _ _ (rnR_no h1) rfl (by simp[J1])⟩) (fun v wr h=>by cases h)
   have hL1:∀id,FnOk Tryd.prog 88 _ _ id _ _:=fun id=>by
    have:=hL id
    rw[rnR_ok h1] at this; exact this
   rw[bR_eq s m] at hL1
   (refine w_call hP rfl (hL1 _) (by simp[J1]) (by simp[J1]<;>rfl) ?_; refine w_go 4000 ?_; simp[J1])
   have hrn:rnOk []:=by simp[bR,J1,idO hid]
   refine hR _ _ _ (rnR_ok h1) ?_
   refine rt_end (by simp[bR,J1,idO hid]<;>rfl) [] hrn ⟨?_,?_,?_,?_,?_,?_⟩<;>(try simp[bR,J1,idO hid])
  | cons a r =>
   obtain⟨ha0,ha1⟩:=ha a r hx
   rw[hx] at hVa hL
   simp only[takeA] at hL
   (refine w_call hP rfl (hVa _) (by simp[J1]) (by simp[J1]<;>rfl) ?_; refine w_go 4000 ?_; simp[J1])
   refine⟨⟨fun _ _=>rfl,by omega,by omega⟩,?_⟩
   have htk:List.take (min a.n (c.ids.length:Int)).toNat (c.ids.map eI)=(c.ids.take a.n.toNat).map eI:=by
    rw[List.map_take]
    rcases Int.le_total a.n c.ids.length with g|g
    ·rw[Int.min_eq_left g]
    ·rw[Int.min_eq_right g,List.take_of_length_le (by simp),List.take_of_length_le (by simp; omega)]
   rw[htk]
   by_cases h1:m+wS s x t≤2000
   rotate_left
   ·simp only[rnR_no h1] at hL
    rw[bR_eq] at hL
    refine w_callE hP rfl (hL _) (by simp[J1]) (by simp[J1]<;>rfl) (fun pv hpv=>⟨by simp[J1],by injection hpv with hpv; subst hpv; exact hPn _ _ (rnR_no h1) rfl (by simp[J1])⟩) (fun v wr h=>by cases h)
   have hL1:∀id,FnOk Tryd.prog 88 _ _ id _ _:=fun id=>by
    have:=hL id
    rw[rnR_ok h1] at this; exact this
   rw[bR_eq s m] at hL1
   (refine w_call hP rfl (hL1 _) (by simp[J1]) (by simp[J1]<;>rfl) ?_; refine w_go 4000 ?_; simp[J1])
   have hrn:rnOk []:=by simp[bR,J1,idO hid]
   refine hR _ _ _ (rnR_ok h1) ?_
   refine rt_end (by simp[bR,J1,idO hid]<;>rfl) [] hrn ⟨?_,?_,?_,?_,?_,?_⟩<;>(try simp[bR,J1,idO hid])
 ·have h5:f.kind≠4:=by simpa using h5
  rw[if_neg h5] at hw ho
  cases hi:c.ids with
  | nil =>
   rw[hi] at hw ho
   simp only at hw ho
   have hN:=fun id=>rNone_ok s J m id hm
   rw[←ho,←hw,hoe] at hN
   refine goc_true (by rfl) ?_
   simp[J1]
   by_cases h1:m+wS s x t≤2000
   rotate_left
   ·simp only[rnR_no h1] at hN
    rw[bR_eq] at hN
    refine w_callE hP rfl (hN _) (by simp[J1]) (by simp[J1]<;>rfl) (fun pv hpv=>⟨by simp[J1],by injection hpv with hpv; subst hpv; exact hPn _ _ (rnR_no h1) rfl (by simp[J1])⟩) (fun v wr h=>by cases h)
   have hN1:∀id,FnOk Tryd.prog 106 _ _ id _ _:=fun id=>by
    have:=hN id
    rw[rnR_ok h1] at this; exact this
   rw[bR_eq s m] at hN1
   (refine w_call hP rfl (hN1 _) (by simp[J1]) (by simp[J1]<;>rfl) ?_; refine w_go 4000 ?_; simp[J1])
   have hrn:rnOk []:=by simp[bR,J1,idO hid]
   refine hR _ _ _ (rnR_ok h1) ?_
   refine rt_end (by simp[bR,J1,idO hid]<;>rfl) [] hrn ⟨?_,?_,?_,?_,?_,?_⟩<;>(try simp[bR,J1,idO hid])
  | cons y r =>
   rw[hi] at hw ho
   simp only at hw ho
   have hTy:=fun id=>hT y (by rw[hi]; simp) m id hm
   rw[←hw,←ho,hoe] at hTy
   refine goc_false (by simp; omega) ?_
   simp[J1,eI]
   by_cases h1:m+wS s x t≤2000
   rotate_left
   ·simp only[rnR_no h1] at hTy
    rw[bR_eq] at hTy
    refine w_callE hP rfl (hTy _) (by simp[J1]) (by simp[J1]<;>rfl) (fun pv hpv=>⟨by simp[J1],by injection hpv with hpv; subst hpv; exact hPn _ _ (rnR_no h1) rfl (by simp[J1])⟩) (fun v wr h=>by cases h)
   have hT1:∀id,FnOk Tryd.prog 87 _ _ id _ _:=fun id=>by
    have:=hTy id
    rw[rnR_ok h1] at this; exact this
   rw[bR_eq s m] at hT1
   (refine w_call hP rfl (hT1 _) (by simp[J1]) (by simp[J1]<;>rfl) ?_; refine w_go 4000 ?_; simp[J1])
   have hrn:rnOk []:=by simp[bR,J1,idO hid]
   refine hR _ _ _ (rnR_ok h1) ?_
   refine rt_end (by simp[bR,J1,idO hid]<;>rfl) [] hrn ⟨?_,?_,?_,?_,?_,?_⟩<;>(try simp[bR,J1,idO hid])
end Go.Am
