/- Parts of the proof: an abstract machine for Go functions, and what functions of the program give back (Do8, Do9, Do10, Do11, Do12, Do13). No condition. -/
import Derived.Test.YtblnaikecokobaaGreatXQ
namespace Go.Am
set_option linter.all false
open Go Go.RowKit Go.Proofs
set_option maxRecDepth 100000
set_option linter.all false
theorem id1_lt{id n0:Nat}(h:id+1024≤n0):(id+1<n0)=True:=by simp; omega
theorem id1_own{id n0:Nat}(h:id+1024≤n0)(t:Nat):(id+1=n0+t)=False:=by simp; omega
theorem id1_own'{id n0:Nat}(h:id+1024≤n0)(t:Nat):(n0+t=id+1)=False:=by simp; omega
theorem id1_own0{id n0:Nat}(h:id+1024≤n0):(id+1=n0)=False:=by simp; omega
theorem id1_own0'{id n0:Nat}(h:id+1024≤n0):(n0=id+1)=False:=by simp; omega
theorem id1_ne{i id:Nat}(h:i<id∨id+1024≤i):(i=id+1)=False:=by simp; omega
theorem id1_ne'{i id:Nat}(h:i<id∨id+1024≤i):(id+1=i)=False:=by simp; omega
theorem do_err(l:List Ty)(S:List OTg)(e:Ev)(i0:Int)(D T:Nat)(id:Nat)(w:Int)(hw:(e.kind=1∧fFindB (S.map OTg.t) e.type e.id=true∧w=6)∨(e.kind=1∧fFindB (S.map OTg.t) e.type e.id=false∧S.length=12∧w=2)∨(e.kind≠1∧fFindB (S.map OTg.t) e.type e.id=false∧w=5))(hS8:S.length≤1000)(d1:D≠T):
  FnOk Tryz.prog 95 [.ptr D 0 0] [(D,dBx l (.bsl T 0 S.length) e i0),(T,tBx S)] id (.int .i64 w) [(D,some (dBx l (.bsl T 0 S.length) e (fFindI (S.map OTg.t) e.type e.id)))]:=by
 have hF:=fun id=>FindO_ok l S T e.type e.id id (by omega)
 unfold tBx dBx eD at *
 refine fn_okb Tryz.func95 hcc95 (by decide) hcr95 (by simp[Tryz.ntmps95]) fun E hP hR hl hid hB hu=>?_
 simp only[cr95] at hR
 refine w_go 4000 ?_
 simp[cc95]
 have hD:=hl (D,_) (List.mem_cons_self ..)
 simp only at hD
 have D1:=lf hD
 have hT:=hl (T,_) (List.mem_cons_of_mem _ (List.mem_cons_self ..))
 simp only at hT
 have T1:=lf hT
 have hTn:∀x∈S.map eTn,namesIn E.G0.used x:=old_names hB (List.mem_cons_of_mem _ (List.mem_cons_self ..))
 (refine w_call hP rfl (hF _) (by simp[D1,T1,d1,d1.symm]) (by simp[D1,T1,d1,d1.symm]<;>rfl) ?_; refine w_go 4000 ?_; simp[D1,T1,d1,d1.symm])
 refine goc (fun h=>?_) (fun h=>?_)<;>simp[D1,T1,d1,d1.symm]
 ·have h:e.kind=1∧fFindB (S.map OTg.t) e.type e.id=true:=by simpa using h
  have hw6:w=6:=by rcases hw with hw|hw|hw<;>simp_all
  subst hw6
  have hrn:rnOk []:=by simp[D1,T1,d1,d1.symm,idO hid]
  rw[hR]
  refine rt_end (by simp<;>rfl) [] hrn ⟨?_,?_,?_,?_,?_,?_⟩<;>(try simp[D1,T1,d1,d1.symm,idO hid])
  all_goals (first|exact renL_old hu (by intro z h1 h2; (try simp[lkN]); try omega) hTn|exact renL_old hu (by intro z h1 h2; rfl) hTn)
 refine goc (fun h2=>?_) (fun h2=>?_)<;>simp[D1,T1,d1,d1.symm]
 ·have h2:e.kind=1∧S.length=12:=by simp at h2; omega
  have hw6:w=2:=by rcases hw with hw|hw|hw<;>simp_all
  subst hw6
  have hrn:rnOk []:=by simp[D1,T1,d1,d1.symm,idO hid]
  rw[hR]
  refine rt_end (by simp<;>rfl) [] hrn ⟨?_,?_,?_,?_,?_,?_⟩<;>(try simp[D1,T1,d1,d1.symm,idO hid])
  all_goals (first|exact renL_old hu (by intro z h1 h2; (try simp[lkN]); try omega) hTn|exact renL_old hu (by intro z h1 h2; rfl) hTn)
 have hk:e.kind≠1:=fun hk=>by
  rcases hw with hw|hw|hw
  ·simp[hk,hw.2.1] at h
  ·simp[hk] at h2; omega
  ·exact hw.1 hk
 refine goc_false (by simpa using hk) ?_
 simp[D1,T1,d1,d1.symm]
 have hw5:fFindB (S.map OTg.t) e.type e.id=false∧w=5:=by rcases hw with hw|hw|hw<;>simp_all
 refine goc_true (by simp[hw5.1]) ?_
 obtain⟨_,hw5⟩:=hw5
 subst hw5
 simp[D1,T1,d1,d1.symm]
 have hrn:rnOk []:=by simp[D1,T1,d1,d1.symm,idO hid]
 rw[hR]
 refine rt_end (by simp<;>rfl) [] hrn ⟨?_,?_,?_,?_,?_,?_⟩<;>(try simp[D1,T1,d1,d1.symm,idO hid])
 all_goals (first|exact renL_old hu (by intro z h1 h2; (try simp[lkN]); try omega) hTn|exact renL_old hu (by intro z h1 h2; rfl) hTn)
theorem InsertT_ok(S:List OTg)(x3:AV)(a b:Int)(T Y k:Nat)(id:Nat)(hk:k≤S.length)(hTY:T≠Y)(hTid:T<id∨id+1024≤T)(hbig:S.length≤1000000)(h3:AV.one x3=true):
  FnOk Tryz.prog 110 [.bsl T 0 S.length,.int .i64 k,.bsl Y 0 1] [(T,⟨S.map eTn,zT,false,false⟩),(Y,⟨[.agg [.int .i64 a,.int .i64 b,x3]],.agg [.int .i64 0,.int .i64 0,.nils],false,false⟩)] id (.bsl id 0 (S.length+1)) [(T,none),(id,some ⟨(S.map eTn).take k++.agg [.int .i64 a,.int .i64 b,x3]::(S.map eTn).drop k,zT,false,false⟩)]:=by
 have:=Insert_thing (S.map eTn) (.agg [.int .i64 a,.int .i64 b,x3]) T Y k id (by simpa using hk) hTY hTid (by simpa using hbig) (fun x hx=>by obtain⟨o,_,rfl⟩:=List.mem_map.1 hx; rfl) rfl (by simp[AV.cells,AV.one] at h3 ⊢; exact h3)
 rw[List.length_map] at this
 exact this
theorem DeleteT_ok(S:List OTg)(T k:Nat)(id:Nat)(hk:k<S.length)(hbig:S.length≤1000000):
  FnOk Tryz.prog 112 [.bsl T 0 S.length,.int .i64 k,.int .i64 ((k:Int)+1)] [(T,⟨S.map eTn,zT,false,false⟩)] id (.bsl id 0 (S.length - 1)) [(T,none),(id,some ⟨(S.map eTn).take k++(S.map eTn).drop (k+1),zT,false,false⟩)]:=by
 have:=Delete_thing (S.map eTn) T k id (by simpa using hk) (by simpa using hbig) (fun x hx=>by obtain⟨o,_,rfl⟩:=List.mem_map.1 hx; rfl)
 rw[List.length_map] at this
 exact this
set_option maxHeartbeats 1000000 in
theorem do_make(l:List Ty)(S:List OTg)(e:Ev)(i0:Int)(ty:Ty)(D T:Nat)(id:Nat)(hk:e.kind=1)(hfB:fFindB (S.map OTg.t) e.type e.id=false)(h12:S.length≠12)(hty:l[e.type.toNat]?=some ty)(h0:0≤e.type)(hf8:ty.fields.length≤1000)(hS8:S.length≤1000)(d1:D≠T):
  FnOk Tryz.prog 95 [.ptr D 0 0] [(D,dBx l (.bsl T 0 S.length) e i0),(T,tBx S)] id (.int .i64 0) [(D,some (dBx l (.bsl id 0 (S.length+1)) e (fFindI (S.map OTg.t) e.type e.id))),(T,none),
   (id,some ⟨(S.map eTn).take (fFindI (S.map OTg.t) e.type e.id)++.agg [.int .i64 e.type,.int .i64 e.id,.bsl (id+1) 0 ty.fields.length]::(S.map eTn).drop (fFindI (S.map OTg.t) e.type e.id),zT,false,false⟩),(id+1,some ⟨List.replicate ty.fields.length zC,zC,false,false⟩)]:=by
 have hF:=fun id=>FindO_ok l S T e.type e.id id (by omega)
 unfold tBx dBx eD at *
 refine fn_okb Tryz.func95 hcc95 (by decide) hcr95 (by simp[Tryz.ntmps95]) fun E hP hR hl hid hB hu=>?_
 simp only[cr95] at hR
 refine w_go 4000 ?_
 simp[cc95]
 have hD:=hl (D,_) (List.mem_cons_self ..)
 simp only at hD
 have D1:=lf hD
 have hT:=hl (T,_) (List.mem_cons_of_mem _ (List.mem_cons_self ..))
 simp only at hT
 have T1:=lf hT
 have hTn:∀x∈S.map eTn,namesIn E.G0.used x:=old_names hB (List.mem_cons_of_mem _ (List.mem_cons_self ..))
 (refine w_call hP rfl (hF _) (by simp[D1,T1,d1,d1.symm]) (by simp[D1,T1,d1,d1.symm]<;>rfl) ?_; refine w_go 330 ?_; simp[D1,T1,d1,d1.symm])
 refine goc_false (by simp[hfB]) ?_
 simp[D1,T1,d1,d1.symm]
 refine goc_false (by simp[hk]; omega) ?_
 simp[D1,T1,d1,d1.symm]
 refine goc_true (by simp[hk]) ?_
 simp[hty,eTy,h0,D1,T1,d1,d1.symm]
 have htl:e.type<l.length:=by have:=(List.getElem?_eq_some_iff.1 hty).1; omega
 refine⟨htl,⟨by omega,by omega⟩,?_⟩
 refine w_keep (by simp<;>rfl) (by simp) (by simp) (by simp<;>rfl) ?_
 refine w_go 4000 ?_
 simp[D1,T1,d1,d1.symm]
 have hle:fFindI (S.map OTg.t) e.type e.id≤S.length:=by have:=(bs_le (fOrdAt (S.map OTg.t) e.type e.id) 0 (S.map OTg.t).length (Nat.zero_le _)).2; rw[List.length_map] at this; unfold fFindI; rw[List.length_map]; exact this
 have hIns:=fun (id:Nat) (hid:T<id∨id+1024≤T)=>InsertT_ok S (.bsl (E.n0+92160) 0 ty.fields.length) e.type e.id T (E.n0+94208) (fFindI (S.map OTg.t) e.type e.id) id hle (by omega) hid (by omega) rfl
 generalize fFindI (S.map OTg.t) e.type e.id=m at *
 (refine w_call hP rfl (hIns _ (by omega)) (by simp[D1,T1,d1,d1.symm]) (by simp[D1,T1,d1,d1.symm]<;>rfl) ?_; refine w_go 4000 ?_; simp[D1,T1,d1,d1.symm])
 have hp0:∀R S,RenL R S (List.replicate ty.fields.length (.agg [.int .i64 0,.str [],.nils])) (List.replicate ty.fields.length (.agg [.int .i64 0,.str [],.nils])):=fun R S=>renL_pure rfl (pureL_of fun i x hx=>by rw[List.getElem?_replicate] at hx; split at hx<;>simp at hx; subst hx; rfl)
 simp only[zC] at hR
 have hrn:rnOk [(id,E.n0+95232),(id+1,E.n0+92160)]:=by simp[hp0,id1_ne hD.2,id1_ne' hD.2,id1_ne hT.2,id1_ne' hT.2,D1,T1,d1,d1.symm,idO hid,id1_lt hid,id1_own hid,id1_own' hid,id1_own0 hid,id1_own0' hid]
 rw[hR]
 refine rt_end (by simp<;>rfl) [(id,E.n0+95232),(id+1,E.n0+92160)] hrn ⟨?_,?_,?_,?_,?_,?_⟩<;>(try simp[hp0,id1_ne hD.2,id1_ne' hD.2,id1_ne hT.2,id1_ne' hT.2,D1,T1,d1,d1.symm,idO hid,id1_lt hid,id1_own hid,id1_own' hid,id1_own0 hid,id1_own0' hid])
 have hlk:∀z,z<E.n0→(z<id∨id+1024≤z)→lkN [(id,E.n0+95232),(id+1,E.n0+92160)] z=none:=fun z h1 h2=>by
  have a1:z≠id:=by omega
  have a2:z≠id+1:=by omega
  simp[lkN,a1,a2]
 exact renL_app (renL_old hu hlk fun x hx=>hTn x (List.mem_of_mem_take hx)) (.cons _ _ _ _ (by simp[idO hid,id1_lt hid,id1_own hid,id1_own' hid,id1_own0 hid,id1_own0' hid]) (renL_old hu hlk fun x hx=>hTn x (List.mem_of_mem_drop hx)))
end Go.Am
namespace Go.Am
set_option linter.all false
open Go Go.RowKit Go.Proofs
set_option maxRecDepth 100000
set_option linter.all false
structure OTg.Ok(o:OTg):Prop where
 len:o.is.length=o.t.cells.length
 nil:∀(k:Nat) (c:Cl),o.t.cells[k]?=some c→o.is[k]?=some none→c.ids=[]
theorem idsB_mem{cs:List Cl}:∀{is:List (Option Nat)} (k:Nat) {c:Cl} {i:Option Nat},cs[k]?=some c→is[k]?=some i→∀q∈idB c i,q∈idsB cs is:=by
 induction cs with
 | nil=>intro is k c i h1; simp at h1
 | cons c0 cs ih =>
  intro is k c i h1 h2 q hq
  cases is with
  | nil=>simp at h2
  | cons i0 is =>
   cases k with
   | zero=>simp at h1 h2; subst h1 h2; exact List.mem_append_left _ hq
   | succ k=>exact List.mem_append_right _ (ih k (by simpa using h1) (by simpa using h2) q hq)
theorem rd_cells{o:OTg}(h:o.Ok){L:List (Nat×Bx)}(hL:∀q∈o.bxs,q∈L):Rd L (.bsl o.c 0 o.t.cells.length) (.sl (o.t.cells.map eCl)):=by
 have hg:∀i x y,(List.zipWith eCn o.t.cells o.is)[0+i]?=some x→(o.t.cells.map eCl)[i]?=some y→∃c io,o.t.cells[i]?=some c∧o.is[i]?=some io∧x=eCn c io∧y=eCl c:=fun i x y h1 h2=>by
  rw[Nat.zero_add,List.getElem?_zipWith] at h1
  rw[List.getElem?_map] at h2
  cases hc:o.t.cells[i]? with
  | none=>rw[hc] at h2; simp at h2
  | some c =>
   cases hi:o.is[i]? with
   | none=>rw[hc,hi] at h1; simp at h1
   | some io =>
    rw[hc,hi] at h1
    rw[hc] at h2
    simp at h1 h2
    exact⟨c,io,rfl,rfl,h1.symm,h2.symm⟩
 refine .bsl o.c 0 _ (cBn o) _ (hL _ (List.mem_cons_self ..)) (by simp[cBn,h.len]) (by simp) (fun i x y h1 h2=>?_) fun i x y j a b h1 h2 h3 h4=>?_
 ·obtain⟨c,io,_,_,rfl,rfl⟩:=hg i x y h1 h2
  rfl
 ·obtain⟨c,io,hc,hi,rfl,rfl⟩:=hg i x y h1 h2
  match j,h3,h4 with
  | 0,h3,h4=>simp[eCn,eCl,AV.cells] at h3 h4; subst h3 h4; exact .same _
  | 1,h3,h4=>simp[eCn,eCl,AV.cells] at h3 h4; subst h3 h4; exact .same _
  | 2,h3,h4 =>
   simp[eCn,eCl,AV.cells] at h3 h4
   subst h3 h4
   exact rd_ints c io L (fun q hq=>hL _ (List.mem_cons_of_mem _ (idsB_mem i hc hi q hq))) fun e=>h.nil i c hc (e▸hi)
  | j+3,h3,h4=>simp[eCn,AV.cells] at h3
theorem rd_things{S:List OTg}(h:∀o∈S,o.Ok){T:Nat}{L:List (Nat×Bx)}(hT:(T,tBx S)∈L)(hL:∀q∈restB S,q∈L):Rd L (.bsl T 0 S.length) (.sl ((S.map OTg.t).map eTg)):=by
 have hg:∀i x y,(S.map eTn)[0+i]?=some x→((S.map OTg.t).map eTg)[i]?=some y→∃o,S[i]?=some o∧x=eTn o∧y=eTg o.t:=fun i x y h1 h2=>by
  rw[Nat.zero_add,List.getElem?_map] at h1
  rw[List.getElem?_map,List.getElem?_map] at h2
  cases ho:S[i]? with
  | none=>rw[ho] at h2; simp at h2
  | some o =>
   rw[ho] at h1 h2
   simp at h1 h2
   exact⟨o,rfl,h1.symm,h2.symm⟩
 refine .bsl T 0 _ (tBx S) _ hT (by simp[tBx]) (by simp) (fun i x y h1 h2=>?_) fun i x y j a b h1 h2 h3 h4=>?_
 ·obtain⟨o,_,rfl,rfl⟩:=hg i x y h1 h2
  rfl
 ·obtain⟨o,ho,rfl,rfl⟩:=hg i x y h1 h2
  match j,h3,h4 with
  | 0,h3,h4=>simp[eTn,eTg,AV.cells] at h3 h4; subst h3 h4; exact .same _
  | 1,h3,h4=>simp[eTn,eTg,AV.cells] at h3 h4; subst h3 h4; exact .same _
  | 2,h3,h4 =>
   simp[eTn,eTg,AV.cells] at h3 h4
   subst h3 h4
   exact rd_cells (h o (List.mem_of_getElem? ho)) fun q hq=>hL q (List.mem_flatMap.2 ⟨o,List.mem_of_getElem? ho,hq⟩)
  | j+3,h3,h4=>simp[eTn,AV.cells] at h3
theorem MeantO_ok(l:List Ty)(S:List OTg)(e:Ev)(i:Int)(D T:Nat)(id:Nat)(hS:∀o∈S,o.Ok)(h5:l.length≤1000)(h12:S.length≤1000000)
  (hok:∀t∈S.map OTg.t,0≤t.type∧t.type.toNat<l.length∧t.cells.length=(fldsAt l t.type).length∧t.cells.length≤1000000∧∀c∈t.cells,c.ids.length≤6) :
  FnOk Tryz.prog 111 [.ptr D 0 0] ((D,dBx l (.bsl T 0 S.length) e i)::(T,tBx S)::restB S) id (.bool (!eachB (meantB l e) l (S.map OTg.t))) []:=by
 refine (Meant_ok (stOf l S) e i id h5 (by simp[stOf]; exact h12) hok).read rfl rfl fun k a b h1 h2=>?_
 match k,h1,h2 with
 | 0,h1,h2 =>
  simp only[List.getElem?_cons_zero,Option.some.injEq] at h1 h2
  subst h1 h2
  refine .ptr D (dBx l (.bsl T 0 S.length) e i) _ _ (List.mem_cons_self ..) rfl rfl fun j c d h3 h4=>?_
  match j,h3,h4 with
  | 0,h3,h4=>simp[eD,AV.cells,stOf] at h3 h4; subst h3 h4; exact .same _
  | 1,h3,h4 =>
   simp only[eD,AV.cells,stOf,List.getElem?_cons_succ,List.getElem?_cons_zero,Option.some.injEq] at h3 h4
   subst h3 h4
   exact rd_things hS (List.mem_cons_of_mem _ (List.mem_cons_self ..)) fun q hq=>List.mem_cons_of_mem _ (List.mem_cons_of_mem _ hq)
  | 2,h3,h4|3,h3,h4|4,h3,h4|5,h3,h4|6,h3,h4|7,h3,h4|8,h3,h4=>simp[eD,AV.cells,stOf] at h3 h4; subst h3 h4; exact .same _
  | j+9,h3,h4=>simp[eD,AV.cells] at h3
 | k+1,h1,h2=>simp at h1
end Go.Am
namespace Go.Am
set_option linter.all false
open Go Go.RowKit Go.Proofs
set_option maxRecDepth 100000
set_option linter.all false
theorem someL_mem{q:Nat×Bx}:∀{l:List (Nat×Bx)},q∈l→(q.1,some q.2)∈someL l
 | p::l,h=>by
  obtain⟨i,b⟩:=p
  rcases List.mem_cons.1 h with rfl|h
  ·exact List.mem_cons_self ..
  ·exact List.mem_cons_of_mem _ (someL_mem h)
theorem someL_keys:∀{l:List (Nat×Bx)},(someL l).map Prod.fst=l.map Prod.fst
 | []=>rfl
 | (i,b)::l=>by simp[someL,someL_keys (l:=l)]
theorem bk_rest{l:List (Nat×Bx)}(hn:(l.map Prod.fst).Nodup){q:Nat×Bx}(h:q∈l):bk (someL l) q.1=some q.2 :=
 bk_nodup (by rw[someL_keys]; exact hn) (someL_mem h)
theorem finB_app{R:Rn}{S:Nat→Prop}{bx':List (Nat×Option Bx)}{fin:Nat→Option Bx}:∀{a b:List Nat},FinB R S bx' fin a→FinB R S bx' fin b→FinB R S bx' fin (a++b)
 | [],_,_,h=>h
 | _::_,_,h1,h=>⟨h1.1,finB_app h1.2 h⟩
theorem finB_old{E:Env}{id:Nat}{rd:List (Nat×Bx)}{wr bx':List (Nat×Option Bx)}{rn:List (Nat×Nat)}{hrn:rnOk rn}(hh:Has E.β rd)(hu:∀z,E.G0.used z→z<id∨id+1024≤z)
  (hk:∀z,z<E.n0→(z<id∨id+1024≤z)→lkN rn z=none) (hg:∀z,z<E.n0→goneN rn z=false):∀{rest:List (Nat×Bx)},(∀q∈rest,q∈rd∧appl (bk (someL rd)) wr q.1=some q.2∧bk bx' q.1=some q.2)→FinB (mkRn E.n0 rn hrn) E.G0.used bx' (appl (bk (someL rd)) wr) (rest.map (·.1))
 | [],_=>trivial
 | q::rest,h=>by
  obtain⟨h1,h2,h3⟩:=h q (List.mem_cons_self ..)
  refine⟨?_,finB_old hh hu hk hg fun q hq=>h q (List.mem_cons_of_mem _ hq)⟩
  rw[h2]
  have hus:=E.rs0.boxNames (hh q h1)
  have hlt:=E.old _ hus.1
  refine⟨q.1,q.2,?_,h3,BxR.same fun i x hx=>namesIn_mono (old_fix hu hk) x (hus.2 i x hx)⟩
  show rnF E.n0 rn q.1=some q.1
  unfold rnF
  rw[hk _ hlt (hu _ hus.1)]
  simp[hlt,hg _ hlt]
theorem dropOk_app{n0:Nat}{bx:List (Nat×Option Bx)}:∀{a b:List (Nat×Option Bx)},DropOk n0 bx a→DropOk n0 bx b→DropOk n0 bx (a++b)
 | [],_,_,h=>h
 | _::_,_,h1,h=>⟨h1.1,dropOk_app h1.2 h⟩
theorem dropOk_someL{n0:Nat}{bx:List (Nat×Option Bx)}:∀{l:List (Nat×Bx)},(∀q∈l,hasKey q.1 bx)→DropOk n0 bx (someL l)
 | [],_=>trivial
 | (i,b)::l,h=>⟨.inr (h _ (List.mem_cons_self ..)),dropOk_someL fun q hq=>h q (List.mem_cons_of_mem _ hq)⟩
theorem bk_pre{rest:List (Nat×Bx)}(hn:(rest.map Prod.fst).Nodup){q:Nat×Bx}(hq:q∈rest):∀{pre:List (Nat×Option Bx)},(∀p∈pre,q.1≠p.1)→bk (pre++someL rest) q.1=some q.2
 | [],_=>bk_rest hn hq
 | p::pre,h=>by
  rw[List.cons_append,bk_skip (h p (List.mem_cons_self ..))]
  exact bk_pre hn hq fun p hp=>h p (List.mem_cons_of_mem _ hp)
theorem hasL_rest{rest:List (Nat×Bx)}{pre:List (Nat×Option Bx)}(hn:(rest.map Prod.fst).Nodup)(h:∀q∈rest,∀p∈pre,q.1≠p.1):HasL (bk (pre++someL rest)) rest :=
 HasL.of fun q hq=>bk_pre hn hq (h q hq)
set_option maxHeartbeats 1000000 in
theorem do_dropE(l:List Ty)(S:List OTg)(e:Ev)(i0:Int)(D T:Nat)(id:Nat)(hk:e.kind=2)(hfB:fFindB (S.map OTg.t) e.type e.id=true)(hS:∀o∈S,o.Ok)(h5:l.length≤1000)(hS8:S.length≤1000)(d1:D≠T)(hnd:((restB S).map Prod.fst).Nodup)(dD:∀q∈restB S,q.1≠D)(dT:∀q∈restB S,q.1≠T)
  (hok:∀t∈S.map OTg.t,0≤t.type∧t.type.toNat<l.length∧t.cells.length=(fldsAt l t.type).length∧t.cells.length≤1000000∧∀c∈t.cells,c.ids.length≤6) (hm:eachB (meantB l e) l (S.map OTg.t)=false) :
  FnOk Tryz.prog 95 [.ptr D 0 0] ((D,dBx l (.bsl T 0 S.length) e i0)::(T,tBx S)::restB S) id (.int .i64 4) [(D,some (dBx l (.bsl T 0 S.length) e (fFindI (S.map OTg.t) e.type e.id)))]:=by
 have hF:=fun id=>FindO_ok l S T e.type e.id id (by omega)
 have hM:=fun i id=>MeantO_ok l S e i D T id hS h5 (by omega) hok
 rw[hm] at hM
 generalize hrest:restB S=rest at *
 unfold tBx dBx eD at *
 refine fn_okb Tryz.func95 hcc95 (by decide) hcr95 (by simp[Tryz.ntmps95]) fun E hP hR hl hid hB hu=>?_
 simp only[cr95] at hR
 refine w_go 4000 ?_
 simp[cc95,someL]
 have hD:=hl (D,_) (List.mem_cons_self ..)
 simp only at hD
 have D1:=lf hD
 have hT:=hl (T,_) (List.mem_cons_of_mem _ (List.mem_cons_self ..))
 simp only at hT
 have T1:=lf hT
 have hTn:∀x∈S.map eTn,namesIn E.G0.used x:=old_names hB (List.mem_cons_of_mem _ (List.mem_cons_self ..))
 (refine w_call hP rfl (hF _) (by simp[D1,T1,d1,d1.symm]) (by simp[D1,T1,d1,d1.symm]<;>rfl) ?_; refine w_go 4000 ?_; simp[D1,T1,d1,d1.symm])
 refine goc_false (by simp[hk]) ?_
 simp[D1,T1,d1,d1.symm]
 refine goc_false (by simp[hk]) ?_
 simp[D1,T1,d1,d1.symm]
 refine goc_false (by simp[hk]) ?_
 simp[D1,T1,d1,d1.symm]
 refine goc_false (by simp[hfB]) ?_
 simp[D1,T1,d1,d1.symm]
 refine w_callg hP (by simp[D1,T1,d1,d1.symm]) rfl (fun hc=>⟨hM (fFindI (S.map OTg.t) e.type e.id) _,by simp[D1,T1,d1,d1.symm]; simp[hk],?_⟩) ?_
 ·refine⟨by simp,by simp[D1,T1,d1,d1.symm],hasL_rest (pre:=[_,_,_]) hnd fun q hq p hp=>?_⟩
  simp only[List.mem_cons,List.not_mem_nil,or_false] at hp
  rcases hp with rfl|rfl|rfl
  ·exact dD q hq
  ·exact dD q hq
  ·exact dT q hq
 refine w_go 4000 ?_
 simp[D1,T1,d1,d1.symm]
 refine goc_true (by simp[hk]) ?_
 simp[D1,T1,d1,d1.symm]
 rw[hR]
 have hrn:rnOk []:=trivial
 refine rt_end (by simp<;>rfl) [] hrn ⟨?_,?_,?_,?_,?_,?_⟩
 ·simp
 ·show FinB _ _ _ _ ([D,T]++(rest.map (·.1)++[D]))
  refine finB_app ?_ (finB_app (finB_old hB hu (fun z _ _=>rfl) (fun z _=>rfl) fun q hq=>⟨List.mem_cons_of_mem _ (List.mem_cons_of_mem _ hq),?_,?_⟩) ?_)
  ·simp[someL,D1,T1,d1,d1.symm]
   all_goals (first|exact renL_old hu (by intro z h1 h2; (try simp[lkN]); try omega) hTn|exact renL_old hu (by intro z h1 h2; rfl) hTn)
  ·simp only[appl]
   rw[upd_ne _ _ _ (dD q hq)]
   refine bk_pre (pre:=[_,_]) hnd hq fun p hp=>?_
   simp only[List.mem_cons,List.not_mem_nil,or_false] at hp
   rcases hp with rfl|rfl
   ·exact dD q hq
   ·exact dT q hq
  ·refine bk_pre (pre:=[_,_,_]) hnd hq fun p hp=>?_
   simp only[List.mem_cons,List.not_mem_nil,or_false] at hp
   rcases hp with rfl|rfl|rfl
   ·exact dD q hq
   ·exact dD q hq
   ·exact dT q hq
  ·simp[someL,D1,T1,d1,d1.symm]
 ·show DropOk _ _ ([_,_,_]++someL rest)
  refine dropOk_app ?_ (dropOk_someL fun q hq=>hasKey_someL.2 (List.mem_map.2 ⟨q,List.mem_cons_of_mem _ (List.mem_cons_of_mem _ hq),rfl⟩))
  simp[someL,D1,T1,d1,d1.symm]
 ·simp[someL]
 ·simp
 ·simp
end Go.Am
namespace Go.Am
set_option linter.all false
open Go Go.RowKit Go.Proofs
set_option maxRecDepth 100000
set_option linter.all false
set_option maxHeartbeats 1000000 in
theorem do_drop(l:List Ty)(S:List OTg)(e:Ev)(i0:Int)(D T:Nat)(id:Nat)(hk:e.kind=2)(hfB:fFindB (S.map OTg.t) e.type e.id=true)(hS:∀o∈S,o.Ok)(h5:l.length≤1000)(hS8:S.length≤1000)(d1:D≠T)(hnd:((restB S).map Prod.fst).Nodup)(dD:∀q∈restB S,q.1≠D)(dT:∀q∈restB S,q.1≠T)
  (hok:∀t∈S.map OTg.t,0≤t.type∧t.type.toNat<l.length∧t.cells.length=(fldsAt l t.type).length∧t.cells.length≤1000000∧∀c∈t.cells,c.ids.length≤6) (hm:eachB (meantB l e) l (S.map OTg.t)=true) :
  FnOk Tryz.prog 95 [.ptr D 0 0] ((D,dBx l (.bsl T 0 S.length) e i0)::(T,tBx S)::restB S) id (.int .i64 0) [(D,some (dBx l (.bsl id 0 (S.length - 1)) e (fFindI (S.map OTg.t) e.type e.id))),(T,none),(id,some ⟨(S.map eTn).take (fFindI (S.map OTg.t) e.type e.id)++(S.map eTn).drop (fFindI (S.map OTg.t) e.type e.id+1),zT,false,false⟩)]:=by
 have hF:=fun id=>FindO_ok l S T e.type e.id id (by omega)
 have hM:=fun i id=>MeantO_ok l S e i D T id hS h5 (by omega) hok
 rw[hm] at hM
 generalize hrest:restB S=rest at *
 unfold tBx dBx eD at *
 refine fn_okb Tryz.func95 hcc95 (by decide) hcr95 (by simp[Tryz.ntmps95]) fun E hP hR hl hid hB hu=>?_
 simp only[cr95] at hR
 refine w_go 4000 ?_
 simp[cc95,someL]
 have hD:=hl (D,_) (List.mem_cons_self ..)
 simp only at hD
 have D1:=lf hD
 have hT:=hl (T,_) (List.mem_cons_of_mem _ (List.mem_cons_self ..))
 simp only at hT
 have T1:=lf hT
 have hTn:∀x∈S.map eTn,namesIn E.G0.used x:=old_names hB (List.mem_cons_of_mem _ (List.mem_cons_self ..))
 (refine w_call hP rfl (hF _) (by simp[D1,T1,d1,d1.symm]) (by simp[D1,T1,d1,d1.symm]<;>rfl) ?_; refine w_go 4000 ?_; simp[D1,T1,d1,d1.symm])
 refine goc_false (by simp[hk]) ?_
 simp[D1,T1,d1,d1.symm]
 refine goc_false (by simp[hk]) ?_
 simp[D1,T1,d1,d1.symm]
 refine goc_false (by simp[hk]) ?_
 simp[D1,T1,d1,d1.symm]
 refine goc_false (by simp[hfB]) ?_
 simp[D1,T1,d1,d1.symm]
 refine w_callg hP (by simp[D1,T1,d1,d1.symm]) rfl (fun hc=>⟨hM (fFindI (S.map OTg.t) e.type e.id) _,by simp[D1,T1,d1,d1.symm]; simp[hk],?_⟩) ?_
 ·refine⟨by simp,by simp[D1,T1,d1,d1.symm],hasL_rest (pre:=[_,_,_]) hnd fun q hq p hp=>?_⟩
  simp only[List.mem_cons,List.not_mem_nil,or_false] at hp
  rcases hp with rfl|rfl|rfl
  ·exact dD q hq
  ·exact dD q hq
  ·exact dT q hq
 refine w_go 4000 ?_
 simp[D1,T1,d1,d1.symm]
 refine goc_true (by simp[hk]) ?_
 simp[D1,T1,d1,d1.symm]
 have hlt:fFindI (S.map OTg.t) e.type e.id<S.length:=by unfold fFindB at hfB; simp at hfB; exact hfB.1
 have hw1:IntKind.i64.wrap ((fFindI (S.map OTg.t) e.type e.id:Int)+1)=(fFindI (S.map OTg.t) e.type e.id:Int)+1:=wrap64 (by omega)
 have hDl:=fun id=>DeleteT_ok S T (fFindI (S.map OTg.t) e.type e.id) id hlt (by omega)
 rw[hw1]
 generalize fFindI (S.map OTg.t) e.type e.id=m at *
 (refine w_call hP rfl (hDl _) (by simp[D1,T1,d1,d1.symm]) (by simp[D1,T1,d1,d1.symm]<;>rfl) ?_; refine w_go 4000 ?_; simp[D1,T1,d1,d1.symm])
 rw[hR]
 have hrn:rnOk [(id,E.n0+91136)]:=by simp
 have hn9:∀q∈rest,q.1≠E.n0+91136:=fun q hq=>by have:=(hl q (List.mem_cons_of_mem _ (List.mem_cons_of_mem _ hq))).1; omega
 have hni:∀q∈rest,q.1≠id:=fun q hq=>by have:=(hl q (List.mem_cons_of_mem _ (List.mem_cons_of_mem _ hq))).2; omega
 have hlk:∀z,z<E.n0→(z<id∨id+1024≤z)→lkN [(id,E.n0+91136)] z=none:=fun z h1 h2=>by
  have a1:z≠id:=by omega
  simp[lkN,a1]
 have hgn:∀z,z<E.n0→goneN [(id,E.n0+91136)] z=false:=fun z h1=>by
  have a1:z≠E.n0+91136:=by omega
  simp[goneN,a1]
 refine rt_end (by simp<;>rfl) [(id,E.n0+91136)] hrn ⟨?_,?_,?_,?_,?_,?_⟩
 ·simp
 ·show FinB _ _ _ _ ([D,T]++(rest.map (·.1)++[D,T,id]))
  refine finB_app ?_ (finB_app (finB_old hB hu hlk hgn fun q hq=>⟨List.mem_cons_of_mem _ (List.mem_cons_of_mem _ hq),?_,?_⟩) ?_)
  ·simp[someL,idO hid,D1,T1,d1,d1.symm]
  ·simp only[appl]
   rw[upd_ne _ _ _ (hni q hq),upd_ne _ _ _ (dT q hq),upd_ne _ _ _ (dD q hq)]
   refine bk_pre (pre:=[_,_]) hnd hq fun p hp=>?_
   simp only[List.mem_cons,List.not_mem_nil,or_false] at hp
   rcases hp with rfl|rfl
   ·exact dD q hq
   ·exact dT q hq
  ·refine bk_pre (pre:=[_,_,_,_,_,_]) hnd hq fun p hp=>?_
   simp only[List.mem_cons,List.not_mem_nil,or_false] at hp
   rcases hp with rfl|rfl|rfl|rfl|rfl|rfl
   ·exact dD q hq
   ·exact hn9 q hq
   ·exact dT q hq
   ·exact dD q hq
   ·exact dD q hq
   ·exact dT q hq
  ·simp[someL,idO hid,D1,T1,d1,d1.symm]
   all_goals exact renL_app (renL_old hu hlk fun x hx=>hTn x (List.mem_of_mem_take hx)) (renL_old hu hlk fun x hx=>hTn x (List.mem_of_mem_drop hx))
 ·show DropOk _ _ ([_,_,_,_,_,_]++someL rest)
  refine dropOk_app ?_ (dropOk_someL fun q hq=>hasKey_someL.2 (List.mem_map.2 ⟨q,List.mem_cons_of_mem _ (List.mem_cons_of_mem _ hq),rfl⟩))
  simp[someL,D1,T1,d1,d1.symm]
 ·simp[someL]
 ·simp
 ·simp
end Go.Am
namespace Go.Am
set_option linter.all false
open Go Go.RowKit Go.Proofs
set_option maxRecDepth 100000
set_option linter.all false
set_option maxHeartbeats 1000000 in
theorem do_chgA(l:List Ty)(S:List OTg)(e:Ev)(i0:Int)(D T c:Nat)(id:Nat)(xs:List AV)(w:Int)(hk:3≤e.kind)(hfB:fFindB (S.map OTg.t) e.type e.id=true)(hS8:S.length≤1000)(d1:D≠T)(d2:D≠c)(d3:T≠c)
  (hCh:∀id,FnOk Tryz.prog 113 [.ptr D 0 0] [(D,dBx l (.bsl T 0 S.length) e (fFindI (S.map OTg.t) e.type e.id)),(T,tBx S),(c,⟨xs,zC,false,false⟩)] id (.int .i64 w) []) :
  FnOk Tryz.prog 95 [.ptr D 0 0] [(D,dBx l (.bsl T 0 S.length) e i0),(T,tBx S),(c,⟨xs,zC,false,false⟩)] id (.int .i64 w) [(D,some (dBx l (.bsl T 0 S.length) e (fFindI (S.map OTg.t) e.type e.id)))]:=by
 have hF:=fun id=>FindO_ok l S T e.type e.id id (by omega)
 have hk1:e.kind≠1:=by omega
 have hk2:e.kind≠2:=by omega
 unfold tBx dBx eD at *
 refine fn_okb Tryz.func95 hcc95 (by decide) hcr95 (by simp[Tryz.ntmps95]) fun E hP hR hl hid hB hu=>?_
 simp only[cr95] at hR
 refine w_go 4000 ?_
 simp[cc95]
 have hD:=hl (D,_) (List.mem_cons_self ..)
 simp only at hD
 have D1:=lf hD
 have hT:=hl (T,_) (List.mem_cons_of_mem _ (List.mem_cons_self ..))
 simp only at hT
 have T1:=lf hT
 have hc:=hl (c,_) (List.mem_cons_of_mem _ (List.mem_cons_of_mem _ (List.mem_cons_self ..)))
 simp only at hc
 have c1:=lf hc
 have hTn:∀x∈S.map eTn,namesIn E.G0.used x:=old_names hB (List.mem_cons_of_mem _ (List.mem_cons_self ..))
 have hXn:∀x∈xs,namesIn E.G0.used x:=old_names hB (List.mem_cons_of_mem _ (List.mem_cons_of_mem _ (List.mem_cons_self ..)))
 (refine w_call hP rfl (hF _) (by simp[D1,T1,c1,d1,d1.symm,d2,d2.symm,d3,d3.symm]) (by simp[D1,T1,c1,d1,d1.symm,d2,d2.symm,d3,d3.symm]<;>rfl) ?_; refine w_go 4000 ?_; simp[D1,T1,c1,d1,d1.symm,d2,d2.symm,d3,d3.symm])
 refine goc_false (by simp[hk1]) ?_
 simp[D1,T1,c1,d1,d1.symm,d2,d2.symm,d3,d3.symm]
 refine goc_false (by simp[hk1]) ?_
 simp[D1,T1,c1,d1,d1.symm,d2,d2.symm,d3,d3.symm]
 refine goc_false (by simp[hk1]) ?_
 simp[D1,T1,c1,d1,d1.symm,d2,d2.symm,d3,d3.symm]
 refine goc_false (by simp[hfB]) ?_
 simp[D1,T1,c1,d1,d1.symm,d2,d2.symm,d3,d3.symm]
 refine w_callg hP (v:=.bool false) (rd:=[]) (by simp[D1,T1,c1,d1,d1.symm,d2,d2.symm,d3,d3.symm]) rfl (fun hc=>by simp[hk2] at hc) ?_
 refine w_go 4000 ?_
 simp[D1,T1,c1,d1,d1.symm,d2,d2.symm,d3,d3.symm]
 refine goc_false (by simp[hk2]) ?_
 simp[D1,T1,c1,d1,d1.symm,d2,d2.symm,d3,d3.symm]
 (refine w_call hP rfl (hCh _) (by simp[D1,T1,c1,d1,d1.symm,d2,d2.symm,d3,d3.symm]) (by simp[D1,T1,c1,d1,d1.symm,d2,d2.symm,d3,d3.symm]<;>rfl) ?_; refine w_go 4000 ?_; simp[D1,T1,c1,d1,d1.symm,d2,d2.symm,d3,d3.symm])
 have hrn:rnOk []:=by simp[D1,T1,c1,d1,d1.symm,d2,d2.symm,d3,d3.symm,idO hid]
 rw[hR]
 refine rt_end (by simp<;>rfl) [] hrn ⟨?_,?_,?_,?_,?_,?_⟩<;>(try simp[D1,T1,c1,d1,d1.symm,d2,d2.symm,d3,d3.symm,idO hid])
 exact⟨by (first|exact renL_old hu (by intro z h1 h2; (try simp[lkN]); try omega) hTn|exact renL_old hu (by intro z h1 h2; rfl) hTn),by (first|exact renL_old hu (by intro z h1 h2; (try simp[lkN]); try omega) hXn|exact renL_old hu (by intro z h1 h2; rfl) hXn)⟩
set_option maxHeartbeats 1000000 in
theorem do_chgB(l:List Ty)(S:List OTg)(e:Ev)(i0:Int)(D T c:Nat)(id:Nat)(xs:List AV)(k:Nat)(a b io:AV)(hx:xs[k]?=some (.agg [a,b,io]))(n:Int)(t:List UInt8)(hk:3≤e.kind)(hfB:fFindB (S.map OTg.t) e.type e.id=true)(hS8:S.length≤1000)(d1:D≠T)(d2:D≠c)(d3:T≠c)
  (hCh:∀id,FnOk Tryz.prog 113 [.ptr D 0 0] [(D,dBx l (.bsl T 0 S.length) e (fFindI (S.map OTg.t) e.type e.id)),(T,tBx S),(c,⟨xs,zC,false,false⟩)] id (.int .i64 0) [(c,some ⟨xs.set k (.agg [.int .i64 n,.str t,io]),zC,false,false⟩)]) :
  FnOk Tryz.prog 95 [.ptr D 0 0] [(D,dBx l (.bsl T 0 S.length) e i0),(T,tBx S),(c,⟨xs,zC,false,false⟩)] id (.int .i64 0) [(D,some (dBx l (.bsl T 0 S.length) e (fFindI (S.map OTg.t) e.type e.id))),(c,some ⟨xs.set k (.agg [.int .i64 n,.str t,io]),zC,false,false⟩)]:=by
 have hF:=fun id=>FindO_ok l S T e.type e.id id (by omega)
 have hk1:e.kind≠1:=by omega
 have hk2:e.kind≠2:=by omega
 unfold tBx dBx eD at *
 refine fn_okb Tryz.func95 hcc95 (by decide) hcr95 (by simp[Tryz.ntmps95]) fun E hP hR hl hid hB hu=>?_
 simp only[cr95] at hR
 refine w_go 4000 ?_
 simp[cc95]
 have hD:=hl (D,_) (List.mem_cons_self ..)
 simp only at hD
 have D1:=lf hD
 have hT:=hl (T,_) (List.mem_cons_of_mem _ (List.mem_cons_self ..))
 simp only at hT
 have T1:=lf hT
 have hc:=hl (c,_) (List.mem_cons_of_mem _ (List.mem_cons_of_mem _ (List.mem_cons_self ..)))
 simp only at hc
 have c1:=lf hc
 have hTn:∀x∈S.map eTn,namesIn E.G0.used x:=old_names hB (List.mem_cons_of_mem _ (List.mem_cons_self ..))
 have hXn:∀x∈xs,namesIn E.G0.used x:=old_names hB (List.mem_cons_of_mem _ (List.mem_cons_of_mem _ (List.mem_cons_self ..)))
 (refine w_call hP rfl (hF _) (by simp[D1,T1,c1,d1,d1.symm,d2,d2.symm,d3,d3.symm]) (by simp[D1,T1,c1,d1,d1.symm,d2,d2.symm,d3,d3.symm]<;>rfl) ?_; refine w_go 4000 ?_; simp[D1,T1,c1,d1,d1.symm,d2,d2.symm,d3,d3.symm])
 refine goc_false (by simp[hk1]) ?_
 simp[D1,T1,c1,d1,d1.symm,d2,d2.symm,d3,d3.symm]
 refine goc_false (by simp[hk1]) ?_
 simp[D1,T1,c1,d1,d1.symm,d2,d2.symm,d3,d3.symm]
 refine goc_false (by simp[hk1]) ?_
 simp[D1,T1,c1,d1,d1.symm,d2,d2.symm,d3,d3.symm]
 refine goc_false (by simp[hfB]) ?_
 simp[D1,T1,c1,d1,d1.symm,d2,d2.symm,d3,d3.symm]
 refine w_callg hP (v:=.bool false) (rd:=[]) (by simp[D1,T1,c1,d1,d1.symm,d2,d2.symm,d3,d3.symm]) rfl (fun hc=>by simp[hk2] at hc) ?_
 refine w_go 4000 ?_
 simp[D1,T1,c1,d1,d1.symm,d2,d2.symm,d3,d3.symm]
 refine goc_false (by simp[hk2]) ?_
 simp[D1,T1,c1,d1,d1.symm,d2,d2.symm,d3,d3.symm]
 (refine w_call hP rfl (hCh _) (by simp[D1,T1,c1,d1,d1.symm,d2,d2.symm,d3,d3.symm]) (by simp[D1,T1,c1,d1,d1.symm,d2,d2.symm,d3,d3.symm]<;>rfl) ?_; refine w_go 4000 ?_; simp[D1,T1,c1,d1,d1.symm,d2,d2.symm,d3,d3.symm])
 have hrn:rnOk []:=by simp[D1,T1,c1,d1,d1.symm,d2,d2.symm,d3,d3.symm,idO hid]
 rw[hR]
 refine rt_end (by simp<;>rfl) [] hrn ⟨?_,?_,?_,?_,?_,?_⟩<;>(try simp[D1,T1,c1,d1,d1.symm,d2,d2.symm,d3,d3.symm,idO hid])
 have hio:namesIn E.G0.used io:=by have:=hXn _ (List.mem_of_getElem? hx); simp[namesIn,namesL] at this; exact this.2.2
 refine⟨by (first|exact renL_old hu (by intro z h1 h2; (try simp[lkN]); try omega) hTn|exact renL_old hu (by intro z h1 h2; rfl) hTn),renL_set (renR_old hu (by simp[namesIn,namesL]; exact hio) fun z h1 h2=>rfl) k (by (first|exact renL_old hu (by intro z h1 h2; (try simp[lkN]); try omega) hXn|exact renL_old hu (by intro z h1 h2; rfl) hXn))⟩
set_option maxHeartbeats 1000000 in
theorem do_chgC(l:List Ty)(S:List OTg)(e:Ev)(i0:Int)(D T c:Nat)(id:Nat)(xs:List AV)(k:Nat)(n:Int)(t:List UInt8)(ys:List Int)(hk:3≤e.kind)(hfB:fFindB (S.map OTg.t) e.type e.id=true)(hS8:S.length≤1000)(d1:D≠T)(d2:D≠c)(d3:T≠c)
  (hCh:∀id,FnOk Tryz.prog 113 [.ptr D 0 0] [(D,dBx l (.bsl T 0 S.length) e (fFindI (S.map OTg.t) e.type e.id)),(T,tBx S),(c,⟨xs,zC,false,false⟩)] id (.int .i64 0) [(c,some ⟨xs.set k (.agg [.int .i64 n,.str t,.bsl id 0 ys.length]),zC,false,false⟩),(id,some ⟨ys.map eI,.int .i64 0,false,false⟩)]) :
  FnOk Tryz.prog 95 [.ptr D 0 0] [(D,dBx l (.bsl T 0 S.length) e i0),(T,tBx S),(c,⟨xs,zC,false,false⟩)] id (.int .i64 0) [(D,some (dBx l (.bsl T 0 S.length) e (fFindI (S.map OTg.t) e.type e.id))),(c,some ⟨xs.set k (.agg [.int .i64 n,.str t,.bsl id 0 ys.length]),zC,false,false⟩),(id,some ⟨ys.map eI,.int .i64 0,false,false⟩)]:=by
 have hF:=fun id=>FindO_ok l S T e.type e.id id (by omega)
 have hk1:e.kind≠1:=by omega
 have hk2:e.kind≠2:=by omega
 unfold tBx dBx eD at *
 refine fn_okb Tryz.func95 hcc95 (by decide) hcr95 (by simp[Tryz.ntmps95]) fun E hP hR hl hid hB hu=>?_
 simp only[cr95] at hR
 refine w_go 4000 ?_
 simp[cc95]
 have hD:=hl (D,_) (List.mem_cons_self ..)
 simp only at hD
 have D1:=lf hD
 have hT:=hl (T,_) (List.mem_cons_of_mem _ (List.mem_cons_self ..))
 simp only at hT
 have T1:=lf hT
 have hc:=hl (c,_) (List.mem_cons_of_mem _ (List.mem_cons_of_mem _ (List.mem_cons_self ..)))
 simp only at hc
 have c1:=lf hc
 have hTn:∀x∈S.map eTn,namesIn E.G0.used x:=old_names hB (List.mem_cons_of_mem _ (List.mem_cons_self ..))
 have hXn:∀x∈xs,namesIn E.G0.used x:=old_names hB (List.mem_cons_of_mem _ (List.mem_cons_of_mem _ (List.mem_cons_self ..)))
 (refine w_call hP rfl (hF _) (by simp[D1,T1,c1,d1,d1.symm,d2,d2.symm,d3,d3.symm]) (by simp[D1,T1,c1,d1,d1.symm,d2,d2.symm,d3,d3.symm]<;>rfl) ?_; refine w_go 4000 ?_; simp[D1,T1,c1,d1,d1.symm,d2,d2.symm,d3,d3.symm])
 refine goc_false (by simp[hk1]) ?_
 simp[D1,T1,c1,d1,d1.symm,d2,d2.symm,d3,d3.symm]
 refine goc_false (by simp[hk1]) ?_
 simp[D1,T1,c1,d1,d1.symm,d2,d2.symm,d3,d3.symm]
 refine goc_false (by simp[hk1]) ?_
 simp[D1,T1,c1,d1,d1.symm,d2,d2.symm,d3,d3.symm]
 refine goc_false (by simp[hfB]) ?_
 simp[D1,T1,c1,d1,d1.symm,d2,d2.symm,d3,d3.symm]
 refine w_callg hP (v:=.bool false) (rd:=[]) (by simp[D1,T1,c1,d1,d1.symm,d2,d2.symm,d3,d3.symm]) rfl (fun hc=>by simp[hk2] at hc) ?_
 refine w_go 4000 ?_
 simp[D1,T1,c1,d1,d1.symm,d2,d2.symm,d3,d3.symm]
 refine goc_false (by simp[hk2]) ?_
 simp[D1,T1,c1,d1,d1.symm,d2,d2.symm,d3,d3.symm]
 (refine w_call hP rfl (hCh _) (by simp[D1,T1,c1,d1,d1.symm,d2,d2.symm,d3,d3.symm]) (by simp[D1,T1,c1,d1,d1.symm,d2,d2.symm,d3,d3.symm]<;>rfl) ?_; refine w_go 4000 ?_; simp[D1,T1,c1,d1,d1.symm,d2,d2.symm,d3,d3.symm])
 have hrn:rnOk [(id,E.n0+82944)]:=by simp[D1,T1,c1,d1,d1.symm,d2,d2.symm,d3,d3.symm,idO hid]
 rw[hR]
 refine rt_end (by simp<;>rfl) [(id,E.n0+82944)] hrn ⟨?_,?_,?_,?_,?_,?_⟩<;>(try simp[D1,T1,c1,d1,d1.symm,d2,d2.symm,d3,d3.symm,idO hid])
 exact⟨by (first|exact renL_old hu (by intro z h1 h2; (try simp[lkN]); try omega) hTn|exact renL_old hu (by intro z h1 h2; rfl) hTn),renL_set (by simp[idO hid]) k (by (first|exact renL_old hu (by intro z h1 h2; (try simp[lkN]); try omega) hXn|exact renL_old hu (by intro z h1 h2; rfl) hXn))⟩
set_option maxHeartbeats 1000000 in
theorem do_chgD(l:List Ty)(S:List OTg)(e:Ev)(i0:Int)(D T c:Nat)(id:Nat)(xs:List AV)(k:Nat)(n:Int)(t:List UInt8)(ys:List Int)(I:Nat)(BI:List Int)(d4:D≠I)(d5:T≠I)(d6:c≠I)(hk:3≤e.kind)(hfB:fFindB (S.map OTg.t) e.type e.id=true)(hS8:S.length≤1000)(d1:D≠T)(d2:D≠c)(d3:T≠c)
  (hCh:∀id,FnOk Tryz.prog 113 [.ptr D 0 0] [(D,dBx l (.bsl T 0 S.length) e (fFindI (S.map OTg.t) e.type e.id)),(T,tBx S),(c,⟨xs,zC,false,false⟩),(I,⟨BI.map eI,.int .i64 0,false,false⟩)] id (.int .i64 0) [(I,none),(c,some ⟨xs.set k (.agg [.int .i64 n,.str t,.bsl id 0 ys.length]),zC,false,false⟩),(id,some ⟨ys.map eI,.int .i64 0,false,false⟩)]) :
  FnOk Tryz.prog 95 [.ptr D 0 0] [(D,dBx l (.bsl T 0 S.length) e i0),(T,tBx S),(c,⟨xs,zC,false,false⟩),(I,⟨BI.map eI,.int .i64 0,false,false⟩)] id (.int .i64 0) [(D,some (dBx l (.bsl T 0 S.length) e (fFindI (S.map OTg.t) e.type e.id))),(I,none),(c,some ⟨xs.set k (.agg [.int .i64 n,.str t,.bsl id 0 ys.length]),zC,false,false⟩),(id,some ⟨ys.map eI,.int .i64 0,false,false⟩)]:=by
 have hF:=fun id=>FindO_ok l S T e.type e.id id (by omega)
 have hk1:e.kind≠1:=by omega
 have hk2:e.kind≠2:=by omega
 unfold tBx dBx eD at *
 refine fn_okb Tryz.func95 hcc95 (by decide) hcr95 (by simp[Tryz.ntmps95]) fun E hP hR hl hid hB hu=>?_
 simp only[cr95] at hR
 refine w_go 4000 ?_
 simp[cc95]
 have hD:=hl (D,_) (List.mem_cons_self ..)
 simp only at hD
 have D1:=lf hD
 have hT:=hl (T,_) (List.mem_cons_of_mem _ (List.mem_cons_self ..))
 simp only at hT
 have T1:=lf hT
 have hc:=hl (c,_) (List.mem_cons_of_mem _ (List.mem_cons_of_mem _ (List.mem_cons_self ..)))
 simp only at hc
 have c1:=lf hc
 have hI:=hl (I,_) (List.mem_cons_of_mem _ (List.mem_cons_of_mem _ (List.mem_cons_of_mem _ (List.mem_cons_self ..))))
 simp only at hI
 have I1:=lf hI
 have hTn:∀x∈S.map eTn,namesIn E.G0.used x:=old_names hB (List.mem_cons_of_mem _ (List.mem_cons_self ..))
 have hXn:∀x∈xs,namesIn E.G0.used x:=old_names hB (List.mem_cons_of_mem _ (List.mem_cons_of_mem _ (List.mem_cons_self ..)))
 (refine w_call hP rfl (hF _) (by simp[D1,T1,c1,d1,d1.symm,d2,d2.symm,d3,d3.symm,I1,d4,d4.symm,d5,d5.symm,d6,d6.symm]) (by simp[D1,T1,c1,d1,d1.symm,d2,d2.symm,d3,d3.symm,I1,d4,d4.symm,d5,d5.symm,d6,d6.symm]<;>rfl) ?_; refine w_go 4000 ?_; simp[D1,T1,c1,d1,d1.symm,d2,d2.symm,d3,d3.symm,I1,d4,d4.symm,d5,d5.symm,d6,d6.symm])
 refine goc_false (by simp[hk1]) ?_
 simp[D1,T1,c1,d1,d1.symm,d2,d2.symm,d3,d3.symm,I1,d4,d4.symm,d5,d5.symm,d6,d6.symm]
 refine goc_false (by simp[hk1]) ?_
 simp[D1,T1,c1,d1,d1.symm,d2,d2.symm,d3,d3.symm,I1,d4,d4.symm,d5,d5.symm,d6,d6.symm]
 refine goc_false (by simp[hk1]) ?_
 simp[D1,T1,c1,d1,d1.symm,d2,d2.symm,d3,d3.symm,I1,d4,d4.symm,d5,d5.symm,d6,d6.symm]
 refine goc_false (by simp[hfB]) ?_
 simp[D1,T1,c1,d1,d1.symm,d2,d2.symm,d3,d3.symm,I1,d4,d4.symm,d5,d5.symm,d6,d6.symm]
 refine w_callg hP (v:=.bool false) (rd:=[]) (by simp[D1,T1,c1,d1,d1.symm,d2,d2.symm,d3,d3.symm,I1,d4,d4.symm,d5,d5.symm,d6,d6.symm]) rfl (fun hc=>by simp[hk2] at hc) ?_
 refine w_go 4000 ?_
 simp[D1,T1,c1,d1,d1.symm,d2,d2.symm,d3,d3.symm,I1,d4,d4.symm,d5,d5.symm,d6,d6.symm]
 refine goc_false (by simp[hk2]) ?_
 simp[D1,T1,c1,d1,d1.symm,d2,d2.symm,d3,d3.symm,I1,d4,d4.symm,d5,d5.symm,d6,d6.symm]
 (refine w_call hP rfl (hCh _) (by simp[D1,T1,c1,d1,d1.symm,d2,d2.symm,d3,d3.symm,I1,d4,d4.symm,d5,d5.symm,d6,d6.symm]) (by simp[D1,T1,c1,d1,d1.symm,d2,d2.symm,d3,d3.symm,I1,d4,d4.symm,d5,d5.symm,d6,d6.symm]<;>rfl) ?_; refine w_go 4000 ?_; simp[D1,T1,c1,d1,d1.symm,d2,d2.symm,d3,d3.symm,I1,d4,d4.symm,d5,d5.symm,d6,d6.symm])
 have hrn:rnOk [(id,E.n0+82944)]:=by simp[D1,T1,c1,d1,d1.symm,d2,d2.symm,d3,d3.symm,I1,d4,d4.symm,d5,d5.symm,d6,d6.symm,idO hid]
 rw[hR]
 refine rt_end (by simp<;>rfl) [(id,E.n0+82944)] hrn ⟨?_,?_,?_,?_,?_,?_⟩<;>(try simp[D1,T1,c1,d1,d1.symm,d2,d2.symm,d3,d3.symm,I1,d4,d4.symm,d5,d5.symm,d6,d6.symm,idO hid])
 exact⟨by (first|exact renL_old hu (by intro z h1 h2; (try simp[lkN]); try omega) hTn|exact renL_old hu (by intro z h1 h2; rfl) hTn),renL_set (by simp[idO hid]) k (by (first|exact renL_old hu (by intro z h1 h2; (try simp[lkN]); try omega) hXn|exact renL_old hu (by intro z h1 h2; rfl) hXn))⟩
end Go.Am
namespace Go.Am
set_option linter.all false
open Go Go.RowKit Go.Proofs
set_option maxRecDepth 100000
set_option linter.all false
set_option maxHeartbeats 1000000 in
theorem do_chgA2(l:List Ty)(S:List OTg)(e:Ev)(i0:Int)(D T c:Nat)(id:Nat)(xs:List AV)(w:Int)(I:Nat)(BI:List Int)(d4:D≠I)(d5:T≠I)(d6:c≠I)(hk:3≤e.kind)(hfB:fFindB (S.map OTg.t) e.type e.id=true)(hS8:S.length≤1000)(d1:D≠T)(d2:D≠c)(d3:T≠c)
  (hCh:∀id,FnOk Tryz.prog 113 [.ptr D 0 0] [(D,dBx l (.bsl T 0 S.length) e (fFindI (S.map OTg.t) e.type e.id)),(T,tBx S),(c,⟨xs,zC,false,false⟩),(I,⟨BI.map eI,.int .i64 0,false,false⟩)] id (.int .i64 w) []) :
  FnOk Tryz.prog 95 [.ptr D 0 0] [(D,dBx l (.bsl T 0 S.length) e i0),(T,tBx S),(c,⟨xs,zC,false,false⟩),(I,⟨BI.map eI,.int .i64 0,false,false⟩)] id (.int .i64 w) [(D,some (dBx l (.bsl T 0 S.length) e (fFindI (S.map OTg.t) e.type e.id)))]:=by
 have hF:=fun id=>FindO_ok l S T e.type e.id id (by omega)
 have hk1:e.kind≠1:=by omega
 have hk2:e.kind≠2:=by omega
 unfold tBx dBx eD at *
 refine fn_okb Tryz.func95 hcc95 (by decide) hcr95 (by simp[Tryz.ntmps95]) fun E hP hR hl hid hB hu=>?_
 simp only[cr95] at hR
 refine w_go 4000 ?_
 simp[cc95]
 have hD:=hl (D,_) (List.mem_cons_self ..)
 simp only at hD
 have D1:=lf hD
 have hT:=hl (T,_) (List.mem_cons_of_mem _ (List.mem_cons_self ..))
 simp only at hT
 have T1:=lf hT
 have hc:=hl (c,_) (List.mem_cons_of_mem _ (List.mem_cons_of_mem _ (List.mem_cons_self ..)))
 simp only at hc
 have c1:=lf hc
 have hI:=hl (I,_) (List.mem_cons_of_mem _ (List.mem_cons_of_mem _ (List.mem_cons_of_mem _ (List.mem_cons_self ..))))
 simp only at hI
 have I1:=lf hI
 have hTn:∀x∈S.map eTn,namesIn E.G0.used x:=old_names hB (List.mem_cons_of_mem _ (List.mem_cons_self ..))
 have hXn:∀x∈xs,namesIn E.G0.used x:=old_names hB (List.mem_cons_of_mem _ (List.mem_cons_of_mem _ (List.mem_cons_self ..)))
 (refine w_call hP rfl (hF _) (by simp[D1,T1,c1,d1,d1.symm,d2,d2.symm,d3,d3.symm,I1,d4,d4.symm,d5,d5.symm,d6,d6.symm]) (by simp[D1,T1,c1,d1,d1.symm,d2,d2.symm,d3,d3.symm,I1,d4,d4.symm,d5,d5.symm,d6,d6.symm]<;>rfl) ?_; refine w_go 4000 ?_; simp[D1,T1,c1,d1,d1.symm,d2,d2.symm,d3,d3.symm,I1,d4,d4.symm,d5,d5.symm,d6,d6.symm])
 refine goc_false (by simp[hk1]) ?_
 simp[D1,T1,c1,d1,d1.symm,d2,d2.symm,d3,d3.symm,I1,d4,d4.symm,d5,d5.symm,d6,d6.symm]
 refine goc_false (by simp[hk1]) ?_
 simp[D1,T1,c1,d1,d1.symm,d2,d2.symm,d3,d3.symm,I1,d4,d4.symm,d5,d5.symm,d6,d6.symm]
 refine goc_false (by simp[hk1]) ?_
 simp[D1,T1,c1,d1,d1.symm,d2,d2.symm,d3,d3.symm,I1,d4,d4.symm,d5,d5.symm,d6,d6.symm]
 refine goc_false (by simp[hfB]) ?_
 simp[D1,T1,c1,d1,d1.symm,d2,d2.symm,d3,d3.symm,I1,d4,d4.symm,d5,d5.symm,d6,d6.symm]
 refine w_callg hP (v:=.bool false) (rd:=[]) (by simp[D1,T1,c1,d1,d1.symm,d2,d2.symm,d3,d3.symm,I1,d4,d4.symm,d5,d5.symm,d6,d6.symm]) rfl (fun hc=>by simp[hk2] at hc) ?_
 refine w_go 4000 ?_
 simp[D1,T1,c1,d1,d1.symm,d2,d2.symm,d3,d3.symm,I1,d4,d4.symm,d5,d5.symm,d6,d6.symm]
 refine goc_false (by simp[hk2]) ?_
 simp[D1,T1,c1,d1,d1.symm,d2,d2.symm,d3,d3.symm,I1,d4,d4.symm,d5,d5.symm,d6,d6.symm]
 (refine w_call hP rfl (hCh _) (by simp[D1,T1,c1,d1,d1.symm,d2,d2.symm,d3,d3.symm,I1,d4,d4.symm,d5,d5.symm,d6,d6.symm]) (by simp[D1,T1,c1,d1,d1.symm,d2,d2.symm,d3,d3.symm,I1,d4,d4.symm,d5,d5.symm,d6,d6.symm]<;>rfl) ?_; refine w_go 4000 ?_; simp[D1,T1,c1,d1,d1.symm,d2,d2.symm,d3,d3.symm,I1,d4,d4.symm,d5,d5.symm,d6,d6.symm])
 have hrn:rnOk []:=by simp[D1,T1,c1,d1,d1.symm,d2,d2.symm,d3,d3.symm,I1,d4,d4.symm,d5,d5.symm,d6,d6.symm,idO hid]
 rw[hR]
 refine rt_end (by simp<;>rfl) [] hrn ⟨?_,?_,?_,?_,?_,?_⟩<;>(try simp[D1,T1,c1,d1,d1.symm,d2,d2.symm,d3,d3.symm,I1,d4,d4.symm,d5,d5.symm,d6,d6.symm,idO hid])
 exact⟨by (first|exact renL_old hu (by intro z h1 h2; (try simp[lkN]); try omega) hTn|exact renL_old hu (by intro z h1 h2; rfl) hTn),by (first|exact renL_old hu (by intro z h1 h2; (try simp[lkN]); try omega) hXn|exact renL_old hu (by intro z h1 h2; rfl) hXn)⟩
set_option maxHeartbeats 1000000 in
theorem do_chgB2(l:List Ty)(S:List OTg)(e:Ev)(i0:Int)(D T c:Nat)(id:Nat)(xs:List AV)(k:Nat)(a b io:AV)(hx:xs[k]?=some (.agg [a,b,io]))(n:Int)(t:List UInt8)(I:Nat)(BI:List Int)(d4:D≠I)(d5:T≠I)(d6:c≠I)(hk:3≤e.kind)(hfB:fFindB (S.map OTg.t) e.type e.id=true)(hS8:S.length≤1000)(d1:D≠T)(d2:D≠c)(d3:T≠c)
  (hCh:∀id,FnOk Tryz.prog 113 [.ptr D 0 0] [(D,dBx l (.bsl T 0 S.length) e (fFindI (S.map OTg.t) e.type e.id)),(T,tBx S),(c,⟨xs,zC,false,false⟩),(I,⟨BI.map eI,.int .i64 0,false,false⟩)] id (.int .i64 0) [(c,some ⟨xs.set k (.agg [.int .i64 n,.str t,io]),zC,false,false⟩)]) :
  FnOk Tryz.prog 95 [.ptr D 0 0] [(D,dBx l (.bsl T 0 S.length) e i0),(T,tBx S),(c,⟨xs,zC,false,false⟩),(I,⟨BI.map eI,.int .i64 0,false,false⟩)] id (.int .i64 0) [(D,some (dBx l (.bsl T 0 S.length) e (fFindI (S.map OTg.t) e.type e.id))),(c,some ⟨xs.set k (.agg [.int .i64 n,.str t,io]),zC,false,false⟩)]:=by
 have hF:=fun id=>FindO_ok l S T e.type e.id id (by omega)
 have hk1:e.kind≠1:=by omega
 have hk2:e.kind≠2:=by omega
 unfold tBx dBx eD at *
 refine fn_okb Tryz.func95 hcc95 (by decide) hcr95 (by simp[Tryz.ntmps95]) fun E hP hR hl hid hB hu=>?_
 simp only[cr95] at hR
 refine w_go 4000 ?_
 simp[cc95]
 have hD:=hl (D,_) (List.mem_cons_self ..)
 simp only at hD
 have D1:=lf hD
 have hT:=hl (T,_) (List.mem_cons_of_mem _ (List.mem_cons_self ..))
 simp only at hT
 have T1:=lf hT
 have hc:=hl (c,_) (List.mem_cons_of_mem _ (List.mem_cons_of_mem _ (List.mem_cons_self ..)))
 simp only at hc
 have c1:=lf hc
 have hI:=hl (I,_) (List.mem_cons_of_mem _ (List.mem_cons_of_mem _ (List.mem_cons_of_mem _ (List.mem_cons_self ..))))
 simp only at hI
 have I1:=lf hI
 have hTn:∀x∈S.map eTn,namesIn E.G0.used x:=old_names hB (List.mem_cons_of_mem _ (List.mem_cons_self ..))
 have hXn:∀x∈xs,namesIn E.G0.used x:=old_names hB (List.mem_cons_of_mem _ (List.mem_cons_of_mem _ (List.mem_cons_self ..)))
 (refine w_call hP rfl (hF _) (by simp[D1,T1,c1,d1,d1.symm,d2,d2.symm,d3,d3.symm,I1,d4,d4.symm,d5,d5.symm,d6,d6.symm]) (by simp[D1,T1,c1,d1,d1.symm,d2,d2.symm,d3,d3.symm,I1,d4,d4.symm,d5,d5.symm,d6,d6.symm]<;>rfl) ?_; refine w_go 4000 ?_; simp[D1,T1,c1,d1,d1.symm,d2,d2.symm,d3,d3.symm,I1,d4,d4.symm,d5,d5.symm,d6,d6.symm])
 refine goc_false (by simp[hk1]) ?_
 simp[D1,T1,c1,d1,d1.symm,d2,d2.symm,d3,d3.symm,I1,d4,d4.symm,d5,d5.symm,d6,d6.symm]
 refine goc_false (by simp[hk1]) ?_
 simp[D1,T1,c1,d1,d1.symm,d2,d2.symm,d3,d3.symm,I1,d4,d4.symm,d5,d5.symm,d6,d6.symm]
 refine goc_false (by simp[hk1]) ?_
 simp[D1,T1,c1,d1,d1.symm,d2,d2.symm,d3,d3.symm,I1,d4,d4.symm,d5,d5.symm,d6,d6.symm]
 refine goc_false (by simp[hfB]) ?_
 simp[D1,T1,c1,d1,d1.symm,d2,d2.symm,d3,d3.symm,I1,d4,d4.symm,d5,d5.symm,d6,d6.symm]
 refine w_callg hP (v:=.bool false) (rd:=[]) (by simp[D1,T1,c1,d1,d1.symm,d2,d2.symm,d3,d3.symm,I1,d4,d4.symm,d5,d5.symm,d6,d6.symm]) rfl (fun hc=>by simp[hk2] at hc) ?_
 refine w_go 4000 ?_
 simp[D1,T1,c1,d1,d1.symm,d2,d2.symm,d3,d3.symm,I1,d4,d4.symm,d5,d5.symm,d6,d6.symm]
 refine goc_false (by simp[hk2]) ?_
 simp[D1,T1,c1,d1,d1.symm,d2,d2.symm,d3,d3.symm,I1,d4,d4.symm,d5,d5.symm,d6,d6.symm]
 (refine w_call hP rfl (hCh _) (by simp[D1,T1,c1,d1,d1.symm,d2,d2.symm,d3,d3.symm,I1,d4,d4.symm,d5,d5.symm,d6,d6.symm]) (by simp[D1,T1,c1,d1,d1.symm,d2,d2.symm,d3,d3.symm,I1,d4,d4.symm,d5,d5.symm,d6,d6.symm]<;>rfl) ?_; refine w_go 4000 ?_; simp[D1,T1,c1,d1,d1.symm,d2,d2.symm,d3,d3.symm,I1,d4,d4.symm,d5,d5.symm,d6,d6.symm])
 have hrn:rnOk []:=by simp[D1,T1,c1,d1,d1.symm,d2,d2.symm,d3,d3.symm,I1,d4,d4.symm,d5,d5.symm,d6,d6.symm,idO hid]
 rw[hR]
 refine rt_end (by simp<;>rfl) [] hrn ⟨?_,?_,?_,?_,?_,?_⟩<;>(try simp[D1,T1,c1,d1,d1.symm,d2,d2.symm,d3,d3.symm,I1,d4,d4.symm,d5,d5.symm,d6,d6.symm,idO hid])
 have hio:namesIn E.G0.used io:=by have:=hXn _ (List.mem_of_getElem? hx); simp[namesIn,namesL] at this; exact this.2.2
 refine⟨by (first|exact renL_old hu (by intro z h1 h2; (try simp[lkN]); try omega) hTn|exact renL_old hu (by intro z h1 h2; rfl) hTn),renL_set (renR_old hu (by simp[namesIn,namesL]; exact hio) fun z h1 h2=>rfl) k (by (first|exact renL_old hu (by intro z h1 h2; (try simp[lkN]); try omega) hXn|exact renL_old hu (by intro z h1 h2; rfl) hXn))⟩
set_option maxHeartbeats 1000000 in
theorem do_chgC2(l:List Ty)(S:List OTg)(e:Ev)(i0:Int)(D T c:Nat)(id:Nat)(xs:List AV)(k:Nat)(n:Int)(t:List UInt8)(ys:List Int)(I:Nat)(BI:List Int)(d4:D≠I)(d5:T≠I)(d6:c≠I)(hk:3≤e.kind)(hfB:fFindB (S.map OTg.t) e.type e.id=true)(hS8:S.length≤1000)(d1:D≠T)(d2:D≠c)(d3:T≠c)
  (hCh:∀id,FnOk Tryz.prog 113 [.ptr D 0 0] [(D,dBx l (.bsl T 0 S.length) e (fFindI (S.map OTg.t) e.type e.id)),(T,tBx S),(c,⟨xs,zC,false,false⟩),(I,⟨BI.map eI,.int .i64 0,false,false⟩)] id (.int .i64 0) [(c,some ⟨xs.set k (.agg [.int .i64 n,.str t,.bsl id 0 ys.length]),zC,false,false⟩),(id,some ⟨ys.map eI,.int .i64 0,false,false⟩)]) :
  FnOk Tryz.prog 95 [.ptr D 0 0] [(D,dBx l (.bsl T 0 S.length) e i0),(T,tBx S),(c,⟨xs,zC,false,false⟩),(I,⟨BI.map eI,.int .i64 0,false,false⟩)] id (.int .i64 0) [(D,some (dBx l (.bsl T 0 S.length) e (fFindI (S.map OTg.t) e.type e.id))),(c,some ⟨xs.set k (.agg [.int .i64 n,.str t,.bsl id 0 ys.length]),zC,false,false⟩),(id,some ⟨ys.map eI,.int .i64 0,false,false⟩)]:=by
 have hF:=fun id=>FindO_ok l S T e.type e.id id (by omega)
 have hk1:e.kind≠1:=by omega
 have hk2:e.kind≠2:=by omega
 unfold tBx dBx eD at *
 refine fn_okb Tryz.func95 hcc95 (by decide) hcr95 (by simp[Tryz.ntmps95]) fun E hP hR hl hid hB hu=>?_
 simp only[cr95] at hR
 refine w_go 4000 ?_
 simp[cc95]
 have hD:=hl (D,_) (List.mem_cons_self ..)
 simp only at hD
 have D1:=lf hD
 have hT:=hl (T,_) (List.mem_cons_of_mem _ (List.mem_cons_self ..))
 simp only at hT
 have T1:=lf hT
 have hc:=hl (c,_) (List.mem_cons_of_mem _ (List.mem_cons_of_mem _ (List.mem_cons_self ..)))
 simp only at hc
 have c1:=lf hc
 have hI:=hl (I,_) (List.mem_cons_of_mem _ (List.mem_cons_of_mem _ (List.mem_cons_of_mem _ (List.mem_cons_self ..))))
 simp only at hI
 have I1:=lf hI
 have hTn:∀x∈S.map eTn,namesIn E.G0.used x:=old_names hB (List.mem_cons_of_mem _ (List.mem_cons_self ..))
 have hXn:∀x∈xs,namesIn E.G0.used x:=old_names hB (List.mem_cons_of_mem _ (List.mem_cons_of_mem _ (List.mem_cons_self ..)))
 (refine w_call hP rfl (hF _) (by simp[D1,T1,c1,d1,d1.symm,d2,d2.symm,d3,d3.symm,I1,d4,d4.symm,d5,d5.symm,d6,d6.symm]) (by simp[D1,T1,c1,d1,d1.symm,d2,d2.symm,d3,d3.symm,I1,d4,d4.symm,d5,d5.symm,d6,d6.symm]<;>rfl) ?_; refine w_go 4000 ?_; simp[D1,T1,c1,d1,d1.symm,d2,d2.symm,d3,d3.symm,I1,d4,d4.symm,d5,d5.symm,d6,d6.symm])
 refine goc_false (by simp[hk1]) ?_
 simp[D1,T1,c1,d1,d1.symm,d2,d2.symm,d3,d3.symm,I1,d4,d4.symm,d5,d5.symm,d6,d6.symm]
 refine goc_false (by simp[hk1]) ?_
 simp[D1,T1,c1,d1,d1.symm,d2,d2.symm,d3,d3.symm,I1,d4,d4.symm,d5,d5.symm,d6,d6.symm]
 refine goc_false (by simp[hk1]) ?_
 simp[D1,T1,c1,d1,d1.symm,d2,d2.symm,d3,d3.symm,I1,d4,d4.symm,d5,d5.symm,d6,d6.symm]
 refine goc_false (by simp[hfB]) ?_
 simp[D1,T1,c1,d1,d1.symm,d2,d2.symm,d3,d3.symm,I1,d4,d4.symm,d5,d5.symm,d6,d6.symm]
 refine w_callg hP (v:=.bool false) (rd:=[]) (by simp[D1,T1,c1,d1,d1.symm,d2,d2.symm,d3,d3.symm,I1,d4,d4.symm,d5,d5.symm,d6,d6.symm]) rfl (fun hc=>by simp[hk2] at hc) ?_
 refine w_go 4000 ?_
 simp[D1,T1,c1,d1,d1.symm,d2,d2.symm,d3,d3.symm,I1,d4,d4.symm,d5,d5.symm,d6,d6.symm]
 refine goc_false (by simp[hk2]) ?_
 simp[D1,T1,c1,d1,d1.symm,d2,d2.symm,d3,d3.symm,I1,d4,d4.symm,d5,d5.symm,d6,d6.symm]
 (refine w_call hP rfl (hCh _) (by simp[D1,T1,c1,d1,d1.symm,d2,d2.symm,d3,d3.symm,I1,d4,d4.symm,d5,d5.symm,d6,d6.symm]) (by simp[D1,T1,c1,d1,d1.symm,d2,d2.symm,d3,d3.symm,I1,d4,d4.symm,d5,d5.symm,d6,d6.symm]<;>rfl) ?_; refine w_go 4000 ?_; simp[D1,T1,c1,d1,d1.symm,d2,d2.symm,d3,d3.symm,I1,d4,d4.symm,d5,d5.symm,d6,d6.symm])
 have hrn:rnOk [(id,E.n0+82944)]:=by simp[D1,T1,c1,d1,d1.symm,d2,d2.symm,d3,d3.symm,I1,d4,d4.symm,d5,d5.symm,d6,d6.symm,idO hid]
 rw[hR]
 refine rt_end (by simp<;>rfl) [(id,E.n0+82944)] hrn ⟨?_,?_,?_,?_,?_,?_⟩<;>(try simp[D1,T1,c1,d1,d1.symm,d2,d2.symm,d3,d3.symm,I1,d4,d4.symm,d5,d5.symm,d6,d6.symm,idO hid])
 exact⟨by (first|exact renL_old hu (by intro z h1 h2; (try simp[lkN]); try omega) hTn|exact renL_old hu (by intro z h1 h2; rfl) hTn),renL_set (by simp[idO hid]) k (by (first|exact renL_old hu (by intro z h1 h2; (try simp[lkN]); try omega) hXn|exact renL_old hu (by intro z h1 h2; rfl) hXn))⟩
end Go.Am
