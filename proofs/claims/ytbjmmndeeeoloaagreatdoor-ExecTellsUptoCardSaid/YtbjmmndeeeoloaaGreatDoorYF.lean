/- Queries answered: the document's map of a thing. No condition. -/
import Derived.Test.YtbjmmndeeeoloaaGreatDoorYD
import Derived.Test.YtbjmmndeeeoloaaGreatDoorYE
import Derived.Test.YtbjmmndeeeoloaaGreatDoorXL
namespace Go.Am
set_option linter.all false
open Go Go.RowKit Go.Proofs
set_option maxRecDepth 100000
set_option linter.all false
def rw0(k n:Int)(tx:List UInt8):AV:=.agg [.int .i64 k,.int .i64 n,.str tx,.nils,.nils]
def oRw(s:Sta)(x:Sel)(t:Tg):AV:=if x.name=tId then rw0 2 t.id [] else match fcOf s t x.name with
 | none=>rw0 1 0 []
 | some (f,c)=>if f.kind=1 then rw0 2 c.n [] else if f.kind=2 then rw0 3 0 c.text
  else if f.kind=4 then .agg [.int .i64 4,.int .i64 0,.str [],.nils,.sl (((takeA x.args c.ids).map (thO s (x.kids.map called) (oL s x.kids) (kindOf s.types f.of))).map eO)]
  else match c.ids with
   | []=>rw0 1 0 []
   | y::_=>eO (thO s (x.kids.map called) (oL s x.kids) (kindOf s.types f.of) y)
theorem rw0_nrm(k n:Int)(tx:List UInt8):(rw0 k n tx).nrm=eO (.mk k n tx [] []):=by simp[rw0,AV.nrm,nrmL,eO,eOs]
theorem nrm_eOL(l:List Out):(l.map eO).map AV.nrm=l.map eO:=by simp[nrm_eO]
theorem oS_eq'(s:Sta)(x:Sel)(t:Tg):oS s x t=if x.name=tId then oNum t.id else match fcOf s t x.name with
  | none=>oNone
  | some (f,c)=>if f.kind=1 then oNum c.n else if f.kind=2 then oText c.text
   else if f.kind=4 then oList ((takeA x.args c.ids).map (thO s (x.kids.map called) (oL s x.kids) (kindOf s.types f.of)))
   else match c.ids with
    | []=>oNone
    | y::_=>thO s (x.kids.map called) (oL s x.kids) (kindOf s.types f.of) y:=by cases x; rfl
theorem oRw_nrm(s:Sta)(x:Sel)(t:Tg):(oRw s x t).nrm=eO (oS s x t):=by
 rw[oS_eq']
 unfold oRw
 split
 ·exact rw0_nrm ..
 split
 ·exact rw0_nrm ..
 split
 ·exact rw0_nrm ..
 split
 ·exact rw0_nrm ..
 split
 ·simp only[AV.nrm,nrmL,nrmL_map,nrm_eOL,oList,eO_eq,List.map_nil]
 split
 ·exact rw0_nrm ..
 ·exact nrm_eO _
theorem pure_oRw(s:Sta)(x:Sel)(t:Tg):(oRw s x t).pureB=true:=by
 unfold oRw rw0
 repeat' split
 all_goals simp[pure_eO]
 exact pureL_map (fun _=>pure_eO _) _
theorem takeA_len(args:List Ag)(ids:List Int):(takeA args ids).length≤ids.length:=by
 unfold takeA
 split
 ·omega
 ·rw[List.length_take]; omega
theorem pureL_take{l:List AV}(h:pureL l=true)(n:Nat):pureL (l.take n)=true:=pureL_of fun i x hx=>by
 rw[List.getElem?_take] at hx
 split at hx
 ·exact pureL_get h hx
 ·cases hx
set_option maxHeartbeats 8000000 in
theorem mapOf_raw{s:Sta}(hs:RtL s)(hI:IdsE s)(m:Nat)(ih:∀(l:List Sel) (t:Tg) (ty:Ty) (id:Nat),szL l<m→szL l≤1000000→t∈s.things→s.types[t.type.toNat]?=some ty→(∀x∈l,fKid s.types ty x=0) →
  FnOk Tryz.prog 32 [eSta s,eTg t,.sl (l.map eSel)] [] id (eO (oMap (l.map called) (oL s l t))) []) (l:List Sel) (t:Tg) (ty:Ty) (id:Nat) (hm:szL l<m+1) (h8:szL l≤1000000) (ht:t∈s.things) (hty:s.types[t.type.toNat]?=some ty) (hf:∀x∈l,fKid s.types ty x=0) :
  FnOk Tryz.prog 32 [eSta s,eTg t,.sl (l.map eSel)] [] id (.agg [.int .i64 5,.int .i64 0,.str [],.sl ((l.map called).map .str),.sl (l.map fun x=>oRw s x t)]) []:=by
 have hlen:=szL_len l
 have hl5:=hs.r.sch.len
 have hf6:=hs.r.sch.fields ty (List.mem_of_getElem? hty)
 have hu:=hs.r.tg t ht
 have hSe:eSta s = .agg [.sl (s.types.map eTy),.sl (s.things.map eTg)]:=rfl
 have hTe:eTg t = .agg [.int .i64 t.type,.int .i64 t.id,.sl (t.cells.map eCl)]:=rfl
 rw[hSe,hTe]
 refine fn_okc Tryz.func32 hcc32 (by decide) hcr32 (by simp[Tryz.ntmps32]) fun E hP hR hl hid=>?_
 simp only[cr32] at hR
 refine w_go 4000 ?_
 simp[cc32]
 refine w_loop (X:=Nat) (fun i=>⟨[(2,true,.sl (l.map eSel)),(3,true,.ptr E.n0 0 0),(4,true,.ptr (E.n0+1) 0 0),(6,true,.ptr (E.n0+2) 0 0),(7,true,.ptr (E.n0+3) 0 0),(8,true,.int .i64 i)],
  [(E.n0,some ⟨[.agg [.sl (s.types.map eTy),.sl (s.things.map eTg)]],.agg [.sl (s.types.map eTy),.sl (s.things.map eTg)],false,false⟩),(E.n0+1,some ⟨[.agg [.int .i64 t.type,.int .i64 t.id,.sl (t.cells.map eCl)]],.agg [.int .i64 t.type,.int .i64 t.id,.sl (t.cells.map eCl)],false,false⟩),
   (E.n0+2,some ⟨[.agg [.int .i64 0,.int .i64 0,.str [],.nils,.nils]],.agg [.int .i64 0,.int .i64 0,.str [],.nils,.nils],false,false⟩),(E.n0+3,some ⟨[.agg [.int .i64 5,.int .i64 0,.str [],.bsl (E.n0+4) 0 i,.bsl (E.n0+5) 0 i]],.agg [.int .i64 0,.int .i64 0,.str [],.nils,.nils],false,false⟩),
   (E.n0+4,some ⟨((l.map called).map .str).take i,.str [],false,false⟩),(E.n0+5,some ⟨(l.map fun x=>oRw s x t).take i,.agg [.int .i64 0,.int .i64 0,.str [],.nils,.nils],false,false⟩)],6⟩)
  (fun i=>i≤l.length) (fun i=>l.length - i) 0 ?_ (by omega) ?_
 ·refine Conv.trans (Conv.voidBox (E.n0+4096) (by simp; rfl) rfl (.agg [.int .i64 5,.int .i64 0,.str [],.nils,.nils] [.int .i64 5,.int .i64 0,.str [],.bsl (E.n0+7168) 0 0,.nils] rfl (fun m x y h1 h2=>?_)) (.str [])) (Conv.trans (Conv.voidBox (E.n0+4096) (by simp; rfl) rfl (.agg [.int .i64 5,.int .i64 0,.str [],.bsl (E.n0+7168) 0 0,.nils] [.int .i64 5,.int .i64 0,.str [],.bsl (E.n0+7168) 0 0,.bsl (E.n0+7169) 0 0] rfl (fun m x y h1 h2=>?_)) (.agg [.int .i64 0,.int .i64 0,.str [],.nils,.nils])) ?_)
  ·match m,h1,h2 with
   | 0,h1,h2|1,h1,h2|2,h1,h2|4,h1,h2=>simp at h1 h2; exact .inl (h1.symm.trans h2)
   | 3,h1,h2=>simp at h1 h2; exact .inr ⟨h1.symm,h2.symm⟩
   | m+5,h1,h2=>simp at h1
  ·match m,h1,h2 with
   | 0,h1,h2|1,h1,h2|2,h1,h2|3,h1,h2=>simp at h1 h2; exact .inl (h1.symm.trans h2)
   | 4,h1,h2=>simp at h1 h2; exact .inr ⟨h1.symm,h2.symm⟩
   | m+5,h1,h2=>simp at h1
  ·have hrn:rnOk [(E.n0,E.n0),(E.n0+1,E.n0+1024),(E.n0+2,E.n0+2048),(E.n0+3,E.n0+4096),(E.n0+4,E.n0+7168),(E.n0+5,E.n0+7169)]:=by simp
   refine Conv.sub [(E.n0,E.n0),(E.n0+1,E.n0+1024),(E.n0+2,E.n0+2048),(E.n0+3,E.n0+4096),(E.n0+4,E.n0+7168),(E.n0+5,E.n0+7169)] hrn ?_ ?_ ?_ ?_ ?_<;>(try simp)
 rintro i hi p hp
 refine w_go 4000 ?_
 simp
 refine goc (fun h=>?_) (fun h=>?_)
 ·have h:=of_decide_eq_true h
  obtain⟨x,hx,hd⟩:=drop_cons h
  have hxm:=List.mem_of_getElem? hx
  have hsx:=szL_mem hxm
  have hsk:=szL_kids hxm
  have hi1:IntKind.i64.wrap ((i:Int)+1)=((i+1:Nat):Int):=wrap64 (by omega)
  have hCa:=CalledOf_ok x
  rw[eSel_eq] at hCa
  have hk1:((l.map called).map AV.str).take (i+1)=((l.map called).map AV.str).take i++[.str (called x)]:=take_snoc (by simp[hx])
  have ho1:(l.map fun x=>oRw s x t).take (i+1)=(l.map fun x=>oRw s x t).take i++[oRw s x t]:=take_snoc (by simp[hx])
  simp only[List.map_map] at *
  have hpK:=fun n=>pureL_take (pureL_map (f:=AV.str∘called) (fun _=>rfl) l) n
  have hpO:=fun n=>pureL_take (pureL_map (f:=fun x=>oRw s x t) (fun _=>pure_oRw _ _ _) l) n
  simp[hx,eSel_eq x]
  refine⟨h,?_⟩
  (refine w_call hP rfl (hCa _) (by simp[hx,eSel_eq x]) (by simp[hx,eSel_eq x]<;>rfl) ?_; refine w_go 4000 ?_; simp[hx,eSel_eq x])
  refine⟨⟨by omega,by omega,by omega⟩,?_⟩
  refine⟨h,?_⟩
  refine goc (fun hid=>?_) (fun hid=>?_)
  ·have hid:x.name=tId:=by simpa [tId] using hid
   have hrw:oRw s x t = .agg [.int .i64 2,.int .i64 t.id,.str [],.nils,.nils]:=by unfold oRw; rw[if_pos hid]; rfl
   rw[hrw] at ho1
   simp
   refine⟨⟨by omega,by omega,by omega⟩,?_⟩
   refine hp _ (i+1) h (by omega) ?_
   have hrn:rnOk [(E.n0,E.n0),(E.n0+1,E.n0+1),(E.n0+2,E.n0+2),(E.n0+3,E.n0+3),(E.n0+4,E.n0+12294),(E.n0+5,E.n0+27654)]:=by simp[hi1,hk1,ho1]
   refine Conv.sub [(E.n0,E.n0),(E.n0+1,E.n0+1),(E.n0+2,E.n0+2),(E.n0+3,E.n0+3),(E.n0+4,E.n0+12294),(E.n0+5,E.n0+27654)] hrn ?_ ?_ ?_ ?_ ?_<;>(try simp[hi1,hk1,ho1])
   exact⟨renL_pure rfl (pureL_append (hpK _) rfl),renL_pure rfl (pureL_append (hpO _) rfl)⟩
  have hid:x.name≠tId:=by simpa [tId] using hid
  obtain⟨k,f,c,e1,e2,e3,e4,e5,hkd,hcl,h4,h5,h6⟩:=fits_at hs ht hty (hf x hxm) hid
  have hFa:=fun id=>FieldAt_ok ty.fields x.name id (by omega)
  rw[e1] at hFa
  have hTy:eTy ty = .agg [.str ty.name,.sl (ty.fields.map eFd)]:=rfl
  have hFd:eFd f = .agg [.str f.name,.int .i64 f.kind,.str f.of]:=rfl
  have hCl:eCl c = .agg [.int .i64 c.n,.str c.text,.sl (c.ids.map eI)]:=rfl
  have hq:t.type=(t.type.toNat:Int):=by have:=hu.ty0; omega
  have hql:=(List.getElem?_eq_some_iff.1 hty).1
  have hkl:=(List.getElem?_eq_some_iff.1 e2).1
  have hcl8:=(List.getElem?_eq_some_iff.1 e3).1
  have hi6:=hcl.i1
  generalize t.type.toNat=q at hq hty hql
  simp only[hq] at hp ⊢
  simp[hx,eSel_eq x,hty,hTy]
  refine⟨hql,h,?_⟩
  (refine w_call hP rfl (hFa _) (by simp[hty,hTy,e2,e3,hFd,hCl,hx,eSel_eq x]) (by simp[hty,hTy,e2,e3,hFd,hCl,hx,eSel_eq x]<;>rfl) ?_; refine w_go 4000 ?_; simp[hty,hTy,e2,e3,hFd,hCl,hx,eSel_eq x])
  refine⟨hql,hkl,hcl8,?_⟩
  obtain⟨T,hT⟩:∃T,T=takeA x.args c.ids:=⟨_,rfl⟩
  have hTl:T.length≤c.ids.length:=by rw[hT]; exact takeA_len _ _
  have hno:T.take 0=[]:=rfl
  have hpS:=fun n=>pureL_take (pureL_map (f:=fun y=>eO (thO s (x.kids.map called) (oL s x.kids) (kindOf s.types f.of) y)) (fun _=>pure_eO _) T) n
  refine w_loop (X:=Nat) (fun j=>⟨[(2,true,.sl (l.map eSel)),(3,true,.ptr E.n0 0 0),(4,true,.ptr (E.n0+1) 0 0),(6,true,.ptr (E.n0+2) 0 0),(7,true,.ptr (E.n0+3) 0 0),(8,true,.int .i64 i),(10,true,.ptr (E.n0+6) 0 0),(11,true,.ptr (E.n0+7) 0 0),(12,true,.bsl (E.n0+8) 0 (T.take j).length),(13,true,.int .i64 j)],
   [(E.n0,some ⟨[.agg [.sl (s.types.map eTy),.sl (s.things.map eTg)]],.agg [.sl (s.types.map eTy),.sl (s.things.map eTg)],false,false⟩),(E.n0+1,some ⟨[.agg [.int .i64 q,.int .i64 t.id,.sl (t.cells.map eCl)]],.agg [.int .i64 q,.int .i64 t.id,.sl (t.cells.map eCl)],false,false⟩),
    (E.n0+2,some ⟨[.agg [.int .i64 0,.int .i64 0,.str [],.nils,.nils]],.agg [.int .i64 0,.int .i64 0,.str [],.nils,.nils],false,false⟩),(E.n0+3,some ⟨[.agg [.int .i64 5,.int .i64 0,.str [],.bsl (E.n0+4) 0 (i+1),.bsl (E.n0+5) 0 i]],.agg [.int .i64 0,.int .i64 0,.str [],.nils,.nils],false,false⟩),
    (E.n0+4,some ⟨((l.map called).map .str).take (i+1),.str [],false,false⟩),(E.n0+5,some ⟨(l.map fun x=>oRw s x t).take i,.agg [.int .i64 0,.int .i64 0,.str [],.nils,.nils],false,false⟩),
    (E.n0+6,some ⟨[.agg [.str f.name,.int .i64 f.kind,.str f.of]],.agg [.str [],.int .i64 0,.str []],false,false⟩),(E.n0+7,some ⟨[.agg [.int .i64 c.n,.str c.text,.sl (c.ids.map eI)]],.agg [.int .i64 0,.str [],.nils],false,false⟩),
    (E.n0+8,some ⟨(T.take j).map fun y=>eO (thO s (x.kids.map called) (oL s x.kids) (kindOf s.types f.of) y),.agg [.int .i64 0,.int .i64 0,.str [],.nils,.nils],false,false⟩)],9⟩)
   (fun j=>j≤c.ids.length) (fun j=>c.ids.length - j) 0 ?_ (by omega) ?_
  ·refine Conv.trans (Conv.voidSlot 12 (x:=.nils) (y:=.bsl (E.n0+57350) 0 0) (by simp) .nils (.agg [.int .i64 0,.int .i64 0,.str [],.nils,.nils])) ?_
   have hrn:rnOk [(E.n0,E.n0),(E.n0+1,E.n0+1),(E.n0+2,E.n0+2),(E.n0+3,E.n0+3),(E.n0+4,E.n0+12294),(E.n0+5,E.n0+5),(E.n0+6,E.n0+51206),(E.n0+7,E.n0+52230),(E.n0+8,E.n0+57350)]:=by simp[hk1]
   refine Conv.sub [(E.n0,E.n0),(E.n0+1,E.n0+1),(E.n0+2,E.n0+2),(E.n0+3,E.n0+3),(E.n0+4,E.n0+12294),(E.n0+5,E.n0+5),(E.n0+6,E.n0+51206),(E.n0+7,E.n0+52230),(E.n0+8,E.n0+57350)] hrn ?_ ?_ ?_ ?_ ?_<;>(try simp[hk1])
   exact⟨renL_pure rfl (pureL_append (hpK _) rfl),renL_pure rfl (hpO _)⟩
  rintro j hj p2 hp2
  refine w_go 4000 ?_
  simp
  refine goc (fun h2=>?_) (fun h2=>?_)
  ·have h2:j<c.ids.length:=by simpa using h2
   obtain⟨y,hy⟩:∃y,c.ids[j]?=some y:=⟨_,List.getElem?_eq_getElem h2⟩
   have hj1:IntKind.i64.wrap ((j:Int)+1)=((j+1:Nat):Int):=wrap64 (by omega)
   obtain⟨u,u1,u2,u3,u4,k',u5,u6⟩:=link_there hs ht e5 e3 (List.mem_of_getElem? hy) (hI t ht c (List.mem_of_getElem? e3) y (List.mem_of_getElem? hy))
   obtain⟨ty',g1,g2,g3⟩:=h6 (fun e=>by rw[e] at hy; cases hy)
   have hTA:=fun id=>TypeAt_ok s.types f.of id (by omega)
   rw[show findJ (fun z:Ty=>z.name==f.of) s.types 0=kindOf s.types f.of from rfl] at hTA
   have hTh:=fun id=>ThingAt_ok s (kindOf s.types f.of) y id (by have:=hs.r.len; omega)
   rw[u5,hSe] at hTh
   have hth:thO s (x.kids.map called) (oL s x.kids) (kindOf s.types f.of) y=oMap (x.kids.map called) (oL s x.kids u):=by unfold thO; rw[u4]
   have hMp:=fun id=>ih x.kids u ty' id (by omega) (by omega) u1 (g3 u u1 u2) (fKids_mem g2)
   have hoe:eO (thO s (x.kids.map called) (oL s x.kids) (kindOf s.types f.of) y) = .agg [.int .i64 5,.int .i64 0,.str [],.sl ((x.kids.map called).map .str),.sl ((oL s x.kids u).map eO)]:=by rw[hth]; unfold oMap; rw[eO_eq]
   rw[←hth,hoe,hSe,tg_eq u] at hMp
   have hu6:=(List.getElem?_eq_some_iff.1 u6).1
   cases hxa:x.args with
   | nil =>
    simp[hx,eSel_eq x,hxa]
    refine⟨h,?_⟩
    (refine w_call hP rfl (hTA _) (by simp[hx,eSel_eq x,hy,eI]) (by simp[hx,eSel_eq x,hy,eI]<;>rfl) ?_; refine w_go 4000 ?_; simp[hx,eSel_eq x,hy,eI])
    refine⟨h2,?_⟩
    (refine w_call hP rfl (hTh _) (by simp[hx,eSel_eq x,hy,eI,u6,tg_eq u]) (by simp[hx,eSel_eq x,hy,eI,u6,tg_eq u]<;>rfl) ?_; refine w_go 4000 ?_; simp[hx,eSel_eq x,hy,eI,u6,tg_eq u])
    refine⟨hu6,h,?_⟩
    (refine w_call hP rfl (hMp _) (by simp) (by simp<;>rfl) ?_; refine w_go 4000 ?_; simp)
    refine⟨⟨by omega,by omega⟩,?_⟩
    have hst:T.take (j+1)=T.take j++[y]:=take_snoc (by rw[hT]; unfold takeA; rw[hxa]; exact hy)
    refine hp2 _ (j+1) h2 (by omega) ?_
    have hrn:rnOk [(E.n0,E.n0),(E.n0+1,E.n0+1),(E.n0+2,E.n0+2),(E.n0+3,E.n0+3),(E.n0+4,E.n0+4),(E.n0+5,E.n0+5),(E.n0+6,E.n0+6),(E.n0+7,E.n0+7),(E.n0+8,E.n0+50185)]:=by simp[hj1,hst,hoe]
    refine Conv.sub [(E.n0,E.n0),(E.n0+1,E.n0+1),(E.n0+2,E.n0+2),(E.n0+3,E.n0+3),(E.n0+4,E.n0+4),(E.n0+5,E.n0+5),(E.n0+6,E.n0+6),(E.n0+7,E.n0+7),(E.n0+8,E.n0+50185)] hrn ?_ ?_ ?_ ?_ ?_<;>(try simp[hj1,hst,hoe])
    exact⟨renL_pure rfl (hpK _),renL_pure rfl (hpO _),renL_pure rfl (pureL_append (hpS _) (by simp[pure_outs]; exact pureL_map (fun _=>rfl) _))⟩
   | cons ag rg =>
    have hr0:((rg.length:Int)+1==0)=false:=by simp; omega
    obtain⟨ag0,ag1⟩:=h5 ag rg hxa
    simp[hx,eSel_eq x,hxa,eAg_eq ag,hr0]
    refine⟨h,?_⟩
    refine goc (fun h3=>?_) (fun h3=>?_)
    ·have h3:(j:Int)<ag.n:=by simpa using h3
     simp[hx,eSel_eq x]
     (refine w_call hP rfl (hTA _) (by simp[hx,eSel_eq x,hy,eI]) (by simp[hx,eSel_eq x,hy,eI]<;>rfl) ?_; refine w_go 4000 ?_; simp[hx,eSel_eq x,hy,eI])
     refine⟨h2,?_⟩
     (refine w_call hP rfl (hTh _) (by simp[hx,eSel_eq x,hy,eI,u6,tg_eq u]) (by simp[hx,eSel_eq x,hy,eI,u6,tg_eq u]<;>rfl) ?_; refine w_go 4000 ?_; simp[hx,eSel_eq x,hy,eI,u6,tg_eq u])
     refine⟨hu6,h,?_⟩
     (refine w_call hP rfl (hMp _) (by simp) (by simp<;>rfl) ?_; refine w_go 4000 ?_; simp)
     refine⟨⟨by omega,by omega⟩,?_⟩
     have hst:T.take (j+1)=T.take j++[y]:=take_snoc (by rw[hT]; unfold takeA; rw[hxa]; simp only; rw[List.getElem?_take_of_lt (by omega)]; exact hy)
     refine hp2 _ (j+1) h2 (by omega) ?_
     have hrn:rnOk [(E.n0,E.n0),(E.n0+1,E.n0+1),(E.n0+2,E.n0+2),(E.n0+3,E.n0+3),(E.n0+4,E.n0+4),(E.n0+5,E.n0+5),(E.n0+6,E.n0+6),(E.n0+7,E.n0+7),(E.n0+8,E.n0+50185)]:=by simp[hj1,hst,hoe]
     refine Conv.sub [(E.n0,E.n0),(E.n0+1,E.n0+1),(E.n0+2,E.n0+2),(E.n0+3,E.n0+3),(E.n0+4,E.n0+4),(E.n0+5,E.n0+5),(E.n0+6,E.n0+6),(E.n0+7,E.n0+7),(E.n0+8,E.n0+50185)] hrn ?_ ?_ ?_ ?_ ?_<;>(try simp[hj1,hst,hoe])
     exact⟨renL_pure rfl (hpK _),renL_pure rfl (hpO _),renL_pure rfl (pureL_append (hpS _) (by simp[pure_outs]; exact pureL_map (fun _=>rfl) _))⟩
    ·have h3:¬(j:Int)<ag.n:=by simpa using h3
     have hl0:T.length≤j:=by rw[hT]; unfold takeA; rw[hxa]; simp only[List.length_take]; omega
     have hst:T.take (j+1)=T.take j:=by rw[List.take_of_length_le hl0,List.take_of_length_le (by omega)]
     simp
     refine hp2 _ (j+1) h2 (by omega) ?_
     have hrn:rnOk [(E.n0,E.n0),(E.n0+1,E.n0+1),(E.n0+2,E.n0+2),(E.n0+3,E.n0+3),(E.n0+4,E.n0+4),(E.n0+5,E.n0+5),(E.n0+6,E.n0+6),(E.n0+7,E.n0+7),(E.n0+8,E.n0+8)]:=by simp[hj1,hst]
     refine Conv.sub [(E.n0,E.n0),(E.n0+1,E.n0+1),(E.n0+2,E.n0+2),(E.n0+3,E.n0+3),(E.n0+4,E.n0+4),(E.n0+5,E.n0+5),(E.n0+6,E.n0+6),(E.n0+7,E.n0+7),(E.n0+8,E.n0+8)] hrn ?_ ?_ ?_ ?_ ?_<;>(try simp[hj1,hst])
     exact⟨renL_pure rfl (hpK _),renL_pure rfl (hpO _),renL_pure rfl (hpS _)⟩
  have h2:¬j<c.ids.length:=by simpa using h2
  have hTj:T.take j=T:=List.take_of_length_le (by omega)
  have hmin:min j T.length=T.length:=by omega
  have hTm:List.take j (List.map (fun y=>eO (thO s (x.kids.map called) (oL s x.kids) (kindOf s.types f.of) y)) T)=List.map (fun y=>eO (thO s (x.kids.map called) (oL s x.kids) (kindOf s.types f.of) y)) T:=List.take_of_length_le (by simp; omega)
  simp
  simp only[hTm,hmin]
  have hO:oRw s x t=if f.kind=1 then rw0 2 c.n [] else if f.kind=2 then rw0 3 0 c.text
    else if f.kind=4 then .agg [.int .i64 4,.int .i64 0,.str [],.nils,.sl (((takeA x.args c.ids).map (thO s (x.kids.map called) (oL s x.kids) (kindOf s.types f.of))).map eO)]
    else match c.ids with
     | []=>rw0 1 0 []
     | y::_=>eO (thO s (x.kids.map called) (oL s x.kids) (kindOf s.types f.of) y):=by unfold oRw; rw[if_neg hid,e4]
  refine goc (fun j1=>?_) (fun j1=>?_)
  ·have j1:f.kind=1:=by simpa using j1
   have hrw:oRw s x t = .agg [.int .i64 2,.int .i64 c.n,.str [],.nils,.nils]:=by rw[hO,if_pos j1]; rfl
   rw[hrw] at ho1
   simp
   refine⟨⟨by omega,by omega,by omega⟩,?_⟩
   refine hp _ (i+1) h (by omega) ?_
   have hrn:rnOk [(E.n0,E.n0),(E.n0+1,E.n0+1),(E.n0+2,E.n0+2),(E.n0+3,E.n0+3),(E.n0+4,E.n0+4),(E.n0+5,E.n0+15369)]:=by simp[hi1,ho1]
   refine Conv.sub [(E.n0,E.n0),(E.n0+1,E.n0+1),(E.n0+2,E.n0+2),(E.n0+3,E.n0+3),(E.n0+4,E.n0+4),(E.n0+5,E.n0+15369)] hrn ?_ ?_ ?_ ?_ ?_<;>(try simp[hi1,ho1])
   exact⟨renL_pure rfl (hpK _),renL_pure rfl (pureL_append (hpO _) rfl)⟩
  have j1:¬f.kind=1:=by simpa using j1
  simp
  refine goc (fun j2=>?_) (fun j2=>?_)
  ·have j2:f.kind=2:=by simpa using j2
   have hrw:oRw s x t = .agg [.int .i64 3,.int .i64 0,.str c.text,.nils,.nils]:=by rw[hO,if_neg j1,if_pos j2]; rfl
   rw[hrw] at ho1
   simp
   refine⟨⟨by omega,by omega,by omega⟩,?_⟩
   refine hp _ (i+1) h (by omega) ?_
   have hrn:rnOk [(E.n0,E.n0),(E.n0+1,E.n0+1),(E.n0+2,E.n0+2),(E.n0+3,E.n0+3),(E.n0+4,E.n0+4),(E.n0+5,E.n0+19465)]:=by simp[hi1,ho1]
   refine Conv.sub [(E.n0,E.n0),(E.n0+1,E.n0+1),(E.n0+2,E.n0+2),(E.n0+3,E.n0+3),(E.n0+4,E.n0+4),(E.n0+5,E.n0+19465)] hrn ?_ ?_ ?_ ?_ ?_<;>(try simp[hi1,ho1])
   exact⟨renL_pure rfl (hpK _),renL_pure rfl (pureL_append (hpO _) rfl)⟩
  have j2:¬f.kind=2:=by simpa using j2
  simp
  refine goc (fun j4=>?_) (fun j4=>?_)
  ·have j4:f.kind=4:=by simpa using j4
   have hrw:oRw s x t = .agg [.int .i64 4,.int .i64 0,.str [],.nils,.sl ((T.map (thO s (x.kids.map called) (oL s x.kids) (kindOf s.types f.of))).map eO)]:=by rw[hO,if_neg j1,if_neg j2,if_pos j4,hT]
   rw[hrw] at ho1
   simp
   refine⟨⟨by omega,by omega,by omega⟩,?_⟩
   refine hp _ (i+1) h (by omega) ?_
   have hrn:rnOk [(E.n0,E.n0),(E.n0+1,E.n0+1),(E.n0+2,E.n0+2),(E.n0+3,E.n0+3),(E.n0+4,E.n0+4),(E.n0+5,E.n0+22537)]:=by simp[hi1,ho1]
   refine Conv.sub [(E.n0,E.n0),(E.n0+1,E.n0+1),(E.n0+2,E.n0+2),(E.n0+3,E.n0+3),(E.n0+4,E.n0+4),(E.n0+5,E.n0+22537)] hrn ?_ ?_ ?_ ?_ ?_<;>(try simp[hi1,ho1])
   exact⟨renL_pure rfl (hpK _),renL_pure rfl (pureL_append (hpO _) (by simp; exact pureL_map (fun _=>pure_eO _) _))⟩
  have j4:¬f.kind=4:=by simpa using j4
  have hTc:T=c.ids:=by rw[hT]; unfold takeA; rw[h4 j4]
  simp
  refine goc (fun j5=>?_) (fun j5=>?_)
  ·have j5:T=[]:=by simpa using j5
   have hrw:oRw s x t = .agg [.int .i64 1,.int .i64 0,.str [],.nils,.nils]:=by rw[hO,if_neg j1,if_neg j2,if_neg j4,←hTc,j5]; rfl
   rw[hrw] at ho1
   simp
   refine⟨⟨by omega,by omega,by omega⟩,?_⟩
   refine hp _ (i+1) h (by omega) ?_
   have hrn:rnOk [(E.n0,E.n0),(E.n0+1,E.n0+1),(E.n0+2,E.n0+2),(E.n0+3,E.n0+3),(E.n0+4,E.n0+4),(E.n0+5,E.n0+25609)]:=by simp[hi1,ho1]
   refine Conv.sub [(E.n0,E.n0),(E.n0+1,E.n0+1),(E.n0+2,E.n0+2),(E.n0+3,E.n0+3),(E.n0+4,E.n0+4),(E.n0+5,E.n0+25609)] hrn ?_ ?_ ?_ ?_ ?_<;>(try simp[hi1,ho1])
   exact⟨renL_pure rfl (hpK _),renL_pure rfl (pureL_append (hpO _) rfl)⟩
  have j5:T≠[]:=by simpa using j5
  obtain⟨y,r,hTy⟩:=List.exists_cons_of_ne_nil j5
  obtain⟨ok,on,ot,oks,ols,hoe⟩:∃(a b:Int) (c:List UInt8) (d:List (List UInt8)) (e:List Out),eO (thO s (x.kids.map called) (oL s x.kids) (kindOf s.types f.of) y) = .agg [.int .i64 a,.int .i64 b,.str c,.sl (d.map .str),.sl (e.map eO)]:=by
   cases thO s (x.kids.map called) (oL s x.kids) (kindOf s.types f.of) y with|mk a b c d e=>exact⟨a,b,c,d,e,eO_eq a b c d e⟩
  have hrw:oRw s x t = .agg [.int .i64 ok,.int .i64 on,.str ot,.sl (oks.map .str),.sl (ols.map eO)]:=by rw[hO,if_neg j1,if_neg j2,if_neg j4,←hTc,hTy]; exact hoe
  rw[hrw] at ho1
  simp[hTy,hoe]
  refine⟨⟨by omega,by omega,by omega⟩,?_⟩
  refine hp _ (i+1) h (by omega) ?_
  have hrn:rnOk [(E.n0,E.n0),(E.n0+1,E.n0+1),(E.n0+2,E.n0+2),(E.n0+3,E.n0+3),(E.n0+4,E.n0+4),(E.n0+5,E.n0+27657)]:=by simp[hi1,ho1]
  refine Conv.sub [(E.n0,E.n0),(E.n0+1,E.n0+1),(E.n0+2,E.n0+2),(E.n0+3,E.n0+3),(E.n0+4,E.n0+4),(E.n0+5,E.n0+27657)] hrn ?_ ?_ ?_ ?_ ?_<;>(try simp[hi1,ho1])
  exact⟨renL_pure rfl (hpK _),renL_pure rfl (pureL_append (hpO _) (by simp[pure_strs,pure_outs]))⟩
 ·have h:¬i<l.length:=of_decide_eq_false h
  have hil:i=l.length:=by omega
  subst hil
  simp
  have hka:List.take l.length (List.map (AV.str∘called) l)=List.map (AV.str∘called) l:=List.take_of_length_le (by simp)
  have hoa:List.take l.length (l.map fun x=>oRw s x t)=l.map fun x=>oRw s x t:=List.take_of_length_le (by simp)
  rw[List.map_map] at hR
  have hrn:rnOk []:=by simp[hka,hoa,idO hid]
  rw[hR]
  refine rt_endR (by simp<;>rfl) (by simp[hka,hoa,idO hid]<;>exact⟨rfl,rfl⟩) [] hrn ⟨?_,?_,?_,?_,?_,?_⟩<;>(try simp[hka,hoa,idO hid])
  exact namesL_pure _ (pureL_map (fun _=>pure_oRw _ _ _) _)
theorem mapOf_ok{s:Sta}(hs:RtL s)(hI:IdsE s):∀(m:Nat) (l:List Sel) (t:Tg) (ty:Ty) (id:Nat),szL l<m→szL l≤1000000→t∈s.things→s.types[t.type.toNat]?=some ty→(∀x∈l,fKid s.types ty x=0) →
  FnOk Tryz.prog 32 [eSta s,eTg t,.sl (l.map eSel)] [] id (eO (oMap (l.map called) (oL s l t))) []
 | 0,l,t,ty,id,hm,_,_,_,_=>by omega
 | m+1,l,t,ty,id,hm,h8,ht,hty,hf=>by
  have h:=(mapOf_raw hs hI m (mapOf_ok hs hI m) l t ty id hm h8 ht hty hf).nrm
  have e:(AV.agg [.int .i64 5,.int .i64 0,.str [],.sl ((l.map called).map .str),.sl (l.map fun x=>oRw s x t)]).nrm=eO (oMap (l.map called) (oL s l t)):=by
   unfold oMap
   rw[eO_eq,oL_map]
   simp only[AV.nrm,nrmL,nrmL_map,List.map_map]
   simp[Function.comp_def,AV.nrm,oRw_nrm]
  rw[e] at h
  exact h
end Go.Am
