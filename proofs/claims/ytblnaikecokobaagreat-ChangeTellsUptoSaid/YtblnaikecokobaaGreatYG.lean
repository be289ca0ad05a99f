/- Parts of the proof: an abstract machine for Go functions, and what functions of the program give back (Rr9, Ur1). No condition. -/
import Derived.Test.YtblnaikecokobaaGreatYE
import Derived.Test.YtblnaikecokobaaGreatYF
import Derived.Test.YtblnaikecokobaaGreatXX
import Derived.Test.YtblnaikecokobaaGreatXV
import Derived.Test.YtblnaikecokobaaGreatXY
namespace Go.Am
set_option linter.all false
open Go Go.RowKit Go.Proofs
set_option maxRecDepth 100000
set_option linter.all false
theorem nrm_eI(n:Int):(eI n).nrm=eI n:=rfl
theorem nrmL_id{α:Type}{f:α→AV}(h:∀x,(f x).nrm=f x)(l:List α):nrmL (l.map f)=l.map f:=by
 rw[nrmL_map,List.map_map]; exact List.map_congr_left fun x _=>h x
theorem nrm_eCl(c:Cl):(eCl c).nrm=eCl c:=by simp[eCl,AV.nrm,nrmL,nrmL_id nrm_eI]
theorem nrm_eTg(t:Tg):(eTg t).nrm=eTg t:=by simp[eTg,AV.nrm,nrmL,nrmL_id nrm_eCl]
theorem nrm_eFd(f:Fd):(eFd f).nrm=eFd f:=by simp[eFd,AV.nrm,nrmL]
theorem nrm_eTy(t:Ty):(eTy t).nrm=eTy t:=by simp[eTy,AV.nrm,nrmL,nrmL_id nrm_eFd]
theorem nrm_insL(S:List AV)(x:AV)(k:Nat):nrmL (insL S x k)=insL (nrmL S) x.nrm k:=by simp[nrmL_map,insL]
theorem nrm_rep(n:Nat)(x:AV):nrmL (List.replicate n x)=List.replicate n x.nrm:=by simp[nrmL_map]
def dooAV(s:Sta)(e:Ev):AV:=if rawE s e=0 then eSta (rawS s e) else eS0
def DooOk(s:Sta)(e:Ev)(id:Nat):Prop:=FnOk Tryz.prog 32 [eSta s,eEv e] [] id (.tup [dooAV s e,.int .i64 (rawE s e)]) []
theorem doo_bad{s:Sta}{e:Ev}{id:Nat}{w:Int}(hE:rawE s e=w)(hw:w≠0)(h:FnOk Tryz.prog 32 [eSta s,eEv e] [] id (.tup [eS0,.int .i64 w]) []):DooOk s e id:=by
 unfold DooOk dooAV
 rw[hE,if_neg hw]; exact h
theorem doo_done{s:Sta}{e:Ev}{id:Nat}(hE:rawE s e=0)(h:FnOk Tryz.prog 32 [eSta s,eEv e] [] id (.tup [eSta (rawS s e),.int .i64 0]) []):DooOk s e id:=by
 unfold DooOk dooAV
 rw[hE,if_pos rfl]; exact h
theorem sta_set(s:Sta)(j k:Nat)(t:Tg)(c:Cl):eSta ⟨s.types,s.things.set j ⟨t.type,t.id,t.cells.set k c⟩⟩ = .agg [.sl (s.types.map eTy),.sl ((s.things.map eTg).set j (.agg [.int .i64 t.type,.int .i64 t.id,.sl ((t.cells.map eCl).set k (eCl c))]))]:=by
 simp[eSta,List.map_set,eTg]
theorem DoOf_made(s:Sta)(q:Nat)(i fd n:Int)(tx:List UInt8)(id:Nat)(h:Rt s)(ty:Ty)(hty:s.types[q]?=some ty)(hf:fForm ⟨1,q,i,fd,n,tx⟩=0)(hi:1≤i∧i≤999)(hb:¬fFindB s.things q i=true)(hE:rawE s ⟨1,q,i,fd,n,tx⟩=doE s ⟨1,q,i,fd,n,tx⟩):DooOk s ⟨1,q,i,fd,n,tx⟩ id:=by
 have h5:=h.r.sch.len
 have h12:=h.r.len
 have hql:=(List.getElem?_eq_some_iff.1 hty).1
 have hb':fFindB s.things q i=false:=by simpa using hb
 have hta:=h.srt.tgAt_eq (kind:=q) (tid:=i) (by omega) (by omega)
 rw[if_neg hb] at hta
 have h6:=h.r.sch.fields ty (List.mem_of_getElem? hty)
 have hfl:fldsAt s.types (q:Int)=ty.fields:=by simp[fldsAt,hty]
 by_cases hl:s.things.length=12
 ·refine doo_bad (w:=2) ?_ (by decide) (DoOf_1b s q i fd n tx id ty hty hf hi (by omega) _ hta (by omega) hl)
  rw[hE]; simp[doE,rawB,hb',hl]
 ·refine doo_done ?_ ?_
  ·rw[hE]; simp[doE,rawB,hb',hl]
  ·have:=(DoOf_1c s q i fd n tx id ty hty hf hi (by omega) _ hta (by omega) hl (by omega) (fFindI s.things q i) fun k hk ha hz=>place_eq h.srt (by omega) hi hb' hk ha hz).nrm
   have key:(AV.tup [.agg [.sl (s.types.map eTy),.sl (insL (s.things.map eTg) (.agg [.int .i64 q,.int .i64 i,.sl (List.replicate ty.fields.length (.agg [.int .i64 0,.str [],.nils]))]) (fFindI s.things q i))],.int .i64 0]).nrm = .tup [eSta (rawS s ⟨1,q,i,fd,n,tx⟩),.int .i64 0]:=by
    have hnr:(AV.tup [.agg [.sl (s.types.map eTy),.sl (insL (s.things.map eTg) (.agg [.int .i64 q,.int .i64 i,.sl (List.replicate ty.fields.length (.agg [.int .i64 0,.str [],.nils]))]) (fFindI s.things q i))],.int .i64 0]).nrm = .tup [.agg [.sl (s.types.map eTy),.sl (insL (s.things.map eTg) (.agg [.int .i64 q,.int .i64 i,.sl (List.replicate ty.fields.length (.agg [.int .i64 0,.str [],.sl []]))]) (fFindI s.things q i))],.int .i64 0]:=by
     simp[AV.nrm,nrmL,nrmL_id nrm_eTy,nrmL_id nrm_eTg,nrm_insL,nrm_rep]
    rw[hnr]
    simp[insL,rawS,eSta,rawI,hfl,List.map_take,List.map_drop,eTg,eCl,cl0]
   rw[key] at this
   exact this
theorem DoOf_dropped(s:Sta)(q:Nat)(i fd n:Int)(tx:List UInt8)(id:Nat)(h:Rt s)(ty:Ty)(hty:s.types[q]?=some ty)(hf:fForm ⟨2,q,i,fd,n,tx⟩=0)(hi:1≤i∧i≤999)(hb:fFindB s.things q i=true)(hE:rawE s ⟨2,q,i,fd,n,tx⟩=doE s ⟨2,q,i,fd,n,tx⟩):DooOk s ⟨2,q,i,fd,n,tx⟩ id:=by
 have h5:=h.r.sch.len
 have h12:=h.r.len
 have hql:=(List.getElem?_eq_some_iff.1 hty).1
 have hta:=h.srt.tgAt_eq (kind:=q) (tid:=i) (by omega) (by omega)
 rw[if_pos hb] at hta
 have hM:=fun id=>isMeant_ok s ⟨2,q,i,fd,n,tx⟩ id (by omega) (by omega) h.r.sch.kinds fun t ht=>by
  have hT:=h.r.tg t ht
  refine⟨hT.ty0,hT.ty1,hT.len,by have:=hT.cells6 h.r.sch; omega,fun c hc=>?_⟩
  obtain⟨k,hk⟩:=List.mem_iff_getElem?.1 hc
  obtain⟨f,_,hco⟩:=hT.cellOk hk
  have:=hco.i1; omega
 have hjl:=find_lt hb
 cases hm:eachB (meantB s.types ⟨2,q,i,fd,n,tx⟩) s.types s.things with
 | false =>
  refine doo_bad (w:=4) ?_ (by decide) (DoOf_2m s q i fd n tx id ty hty hf hi (by omega) _ hta _ rfl _ hM (by rw[hm]; rfl))
  rw[hE]; simp[doE,rawB,hb,hm]
 | true =>
  refine doo_done ?_ ?_
  ·rw[hE]; simp[doE,rawB,hb,hm]
  ·have:=DoOf_2d s q i fd n tx id ty hty hf hi (by omega) _ hta _ rfl _ hM (by rw[hm]; rfl) hjl
   have key:(AV.tup [.agg [.sl (s.types.map eTy),.sl ((s.things.map eTg).take (fFindI s.things q i)++(s.things.map eTg).drop (fFindI s.things q i+1))],.int .i64 0]) = .tup [eSta (rawS s ⟨2,q,i,fd,n,tx⟩),.int .i64 0]:=by
    simp[rawS,eSta,rawI,List.map_take,List.map_drop]
   rw[key] at this
   exact this
theorem DoOf_chg(s:Sta)(kd:Int)(q:Nat)(i fd n:Int)(tx:List UInt8)(id:Nat)(h:Rt s)(hn:I64 n)(hkd:kd=3∨kd=4∨kd=5∨kd=6)(ty:Ty)(hty:s.types[q]?=some ty)(hf:fForm ⟨kd,q,i,fd,n,tx⟩=0)(hi:1≤i∧i≤999)(hb:fFindB s.things q i=true)(hE:rawE s ⟨kd,q,i,fd,n,tx⟩=doE s ⟨kd,q,i,fd,n,tx⟩):DooOk s ⟨kd,q,i,fd,n,tx⟩ id:=by
 have h5:=h.r.sch.len
 have h12:=h.r.len
 have hql:=(List.getElem?_eq_some_iff.1 hty).1
 have hta:=h.srt.tgAt_eq (kind:=q) (tid:=i) (by omega) (by omega)
 rw[if_pos hb] at hta
 have hfl:fldsAt s.types (q:Int)=ty.fields:=by simp[fldsAt,hty]
 obtain⟨t,ht,e1,e2⟩:=h.srt.thereAt (kind:=q) (tid:=i) (by omega) (by omega) hb
 have hTok:=h.r.tg t (List.mem_of_getElem? ht)
 have hlen:t.cells.length=ty.fields.length:=by rw[hTok.len,e1,hfl]
 have h6:=hTok.cells6 h.r.sch
 have hs1000:s.things.length≤1000:=by omega
 have hc1000:t.cells.length≤1000:=by omega
 have ht8:s.types.length≤1000:=by omega
 by_cases hfd:fd<0∨(ty.fields.length:Int)≤fd
 ·have hdo:doE s ⟨kd,q,i,fd,n,tx⟩=5:=by
   have hfo:fdOf s ⟨kd,q,i,fd,n,tx⟩=none:=by
    unfold fdOf
    simp only
    rw[hfl]
    split
    ·rfl
    ·exact List.getElem?_eq_none (by omega)
   unfold doE chE
   rw[hfo,if_neg (by simp only; omega),if_neg (by simp[rawB,hb]),if_neg (by simp only; omega)]
  rw[hdo] at hE
  rcases hkd with rfl|rfl|rfl|rfl
  ·exact doo_bad hE (by decide) (DoOf_3f s q i fd n tx id ty hty hf hi hs1000 _ hta _ rfl t ht hc1000 hfd)
  ·exact doo_bad hE (by decide) (DoOf_4f s q i fd n tx id ty hty hf hi hs1000 _ hta _ rfl t ht hc1000 hfd)
  ·exact doo_bad hE (by decide) (DoOf_5f s q i fd n tx id ty hty hf hi hs1000 _ hta _ rfl t ht hc1000 hfd)
  ·exact doo_bad hE (by decide) (DoOf_6f s q i fd n tx id ty hty hf hi hs1000 _ hta _ rfl t ht hc1000 hfd)
 obtain⟨k,rfl⟩:=Int.eq_ofNat_of_zero_le (show 0≤fd by omega)
 obtain⟨f,hff⟩:∃f,ty.fields[k]?=some f:=⟨_,List.getElem?_eq_getElem (by omega)⟩
 obtain⟨c,hc⟩:∃c,t.cells[k]?=some c:=⟨_,List.getElem?_eq_getElem (by omega)⟩
 have hkf:=h.r.sch.kinds ty (List.mem_of_getElem? hty) f (List.mem_of_getElem? hff)
 obtain⟨f',hf',hco⟩:=hTok.cellOk hc
 rw[e1,hfl,hff] at hf'
 injection hf' with hf'
 subst hf'
 by_cases hfit:kindFits kd f=true
 rotate_left
 ·have hdo:doE s ⟨kd,q,i,k,n,tx⟩=7:=by
   have hfo:fdOf s ⟨kd,q,i,k,n,tx⟩=some f:=by
    unfold fdOf
    simp only
    rw[hfl,if_neg (by omega)]
    exact hff
   have hco:clOf s ⟨kd,q,i,k,n,tx⟩=some c:=by
    unfold clOf rawI
    simp only
    rw[ht]; exact hc
   unfold doE chE
   rw[hfo,hco,if_neg (by simp only; omega),if_neg (by simp[rawB,hb]),if_neg (by simp only; omega)]
   simp only
   rw[if_neg hfit]
  rw[hdo] at hE
  have hlk:(¬(kd=3∨kd=4))→f.kind<3:=fun hk=>by
   unfold kindFits at hfit
   rw[if_neg (by omega),if_neg (by omega)] at hfit
   unfold isLink at hfit
   simp at hfit
   omega
  rcases hkd with rfl|rfl|rfl|rfl
  ·exact doo_bad hE (by decide) (DoOf_3k s q i k n tx id ty hty hf hi hs1000 _ hta _ rfl t ht hc1000 k rfl f hff c hc (by simpa [kindFits] using hfit))
  ·exact doo_bad hE (by decide) (DoOf_4k s q i k n tx id ty hty hf hi hs1000 _ hta _ rfl t ht hc1000 k rfl f hff c hc (by simpa [kindFits] using hfit))
  ·exact doo_bad hE (by decide) (DoOf_5k s q i k n tx id ty hty hf hi hs1000 _ hta _ rfl t ht hc1000 k rfl f hff c hc (hlk (by omega)))
  ·exact doo_bad hE (by decide) (DoOf_6k s q i k n tx id ty hty hf hi hs1000 _ hta _ rfl t ht hc1000 k rfl f hff c hc (hlk (by omega)))
 obtain⟨g1,g2⟩:=chgE_of (s:=s) (e:=⟨kd,q,i,k,n,tx⟩) (t:=t) (f:=f) (c:=c) ht hb (by simp only; omega) (by simp only; omega) (by simp only; rw[hfl]; exact hff) hc hfit
 rw[g1] at hE
 have hS:rawS s ⟨kd,q,i,k,n,tx⟩=⟨s.types,s.things.set (fFindI s.things q i) ⟨t.type,t.id,t.cells.set k (chgC f c ⟨kd,q,i,k,n,tx⟩)⟩⟩:=by
  rw[g2]; exact setC_eq ht
 have hA:=(congrArg eSta hS).trans (sta_set s _ k t _)
 have hi6:=hco.i1
 have hpw:=ascB_pw.1 hco.asc
 have hHas:=i_hasI hpw n
 rcases hkd with rfl|rfl|rfl|rfl
 ·have hkk:f.kind=1:=by simpa [kindFits] using hfit
  by_cases hnn : -999999999≤n∧n≤999999999
  ·refine doo_done (by rw[hE]; simp[chgE]; omega) ?_
   rw[hA]
   exact DoOf_3d s q i k n tx id ty hty hf hi hs1000 _ hta _ rfl t ht hc1000 k rfl f hff c hc hkk hnn
  ·refine doo_bad (w:=3) (by rw[hE]; show (if (3:Int)=3 then _ else _)=_; rw[if_pos rfl,if_neg hnn]) (by decide) ?_
   exact DoOf_3r s q i k n tx id ty hty hf hi hs1000 _ hta _ rfl t ht hc1000 k rfl f hff c hc hkk hnn
 ·have hkk:f.kind=2:=by simpa [kindFits] using hfit
  by_cases hnn:40<tx.length
  ·refine doo_bad (w:=2) (by rw[hE]; simp[chgE,hnn]) (by decide) ?_
   exact DoOf_4m s q i k n tx id ty hty hf hi hs1000 _ hta _ rfl t ht hc1000 k rfl f hff c hc hkk hnn
  ·refine doo_done (by rw[hE]; simp[chgE]; omega) ?_
   rw[hA]
   exact DoOf_4d s q i k n tx id ty hty hf hi hs1000 _ hta _ rfl t ht hc1000 k rfl f hff c hc hkk hnn
 ·have hkk:¬f.kind<3:=by
   have:isLink f.kind=true:=by simpa [kindFits] using hfit
   unfold isLink at this; simp at this; omega
  have hT:=isThere_eq h.r.sch h.srt (f:=f) hn
  by_cases hth:tgAt s.things (kindOf s.types f.of) n<0
  ·refine doo_bad (w:=5) (by rw[hE]; simp only[chgE,linkE]; rw[hT]; simp; omega) (by decide) ?_
   exact DoOf_5a s q i k n tx id ty hty hf hi hs1000 _ hta _ rfl t ht hc1000 k rfl f hff c hc ht8 (by omega) hkk hth
  have hT':isThere s f n=true:=by rw[hT]; simp; omega
  cases hhas:hasI c.ids n with
  | true =>
   refine doo_bad (w:=6) (by rw[hE]; simp[chgE,linkE,hT',hHas,hhas]) (by decide) ?_
   exact DoOf_5t s q i k n tx id ty hty hf hi hs1000 _ hta _ rfl t ht hc1000 k rfl f hff c hc ht8 (by omega) hkk hth hhas
  | false =>
   rw[hhas] at hHas
   by_cases hk3:f.kind=3
   ·refine doo_done (by rw[hE]; simp[chgE,linkE,hT',hHas,hk3]) ?_
    rw[hA]
    have:=DoOf_5o s q i k n tx id ty hty hf hi hs1000 _ hta _ rfl t ht hc1000 k rfl f hff c hc ht8 (by omega) hk3 hth hhas
    simpa [eCl,chgC,linkL,hk3,eI] using this
   by_cases hl6:c.ids.length=6
   ·refine doo_bad (w:=2) (by rw[hE]; simp[chgE,linkE,hT',hHas,hk3,hl6]) (by decide) ?_
    exact DoOf_5m s q i k n tx id ty hty hf hi hs1000 _ hta _ rfl t ht hc1000 k rfl f hff c hc ht8 (by omega) (by omega) hth hhas hl6
   ·refine doo_done (by rw[hE]; simp[chgE,linkE,hT',hHas,hk3,hl6]) ?_
    rw[hA]
    have:=DoOf_5d s q i k n tx id ty hty hf hi hs1000 _ hta _ rfl t ht hc1000 k rfl f hff c hc ht8 (by omega) (by omega) hth hhas hl6 (iFind c.ids n) fun m hm ha hz=>i_place_eq hpw hHas hm ha hz
    have key:insL (c.ids.map eI) (.int .i64 n) (iFind c.ids n)=(linkL f c n).map eI:=by
     unfold linkL insL
     rw[if_neg hk3]
     simp[List.map_take,List.map_drop,eI]
    rw[key] at this
    exact this
 ·have hkk:¬f.kind<3:=by
   have:isLink f.kind=true:=by simpa [kindFits] using hfit
   unfold isLink at this; simp at this; omega
  cases hhas:hasI c.ids n with
  | false =>
   refine doo_bad (w:=5) (by rw[hE]; simp[chgE,hHas,hhas]) (by decide) ?_
   exact DoOf_6x s q i k n tx id ty hty hf hi hs1000 _ hta _ rfl t ht hc1000 k rfl f hff c hc ht8 (by omega) hkk hhas
  | true =>
   refine doo_done (by rw[hE]; simp[chgE,hHas,hhas]) ?_
   rw[hA]
   have:=DoOf_6d s q i k n tx id ty hty hf hi hs1000 _ hta _ rfl t ht hc1000 k rfl f hff c hc ht8 (by omega) hkk hhas
   rw[hhas] at hHas
   have hmem:=(i_there hpw n).1 hHas
   obtain⟨m,hm⟩:=List.mem_iff_getElem?.1 hmem
   have hfi:=i_found hpw hm
   have key:(c.ids.filter fun x=>x != n)=cutL c n:=by
    unfold cutL
    rw[hfi,i_filter hpw hm]
    rfl
   rw[key] at this
   exact this
theorem DoOf_ok(s:Sta)(e:Ev)(id:Nat)(h:Rt s)(hn:I64 e.n):DooOk s e id:=by
 by_cases h0:rawE0 s.types e=0
 ·obtain⟨hf,ty0,ty1,id1,id2,k1,k2⟩:=rawE0_zero h0
  have hE:rawE s e=doE s e:=by unfold rawE; rw[if_neg (by omega)]
  have h5:=h.r.sch.len
  have h12:=h.r.len
  obtain⟨kd,q',i,fd,n,tx⟩:=e
  simp only at ty0 ty1 id1 id2 k1 k2 hn
  obtain⟨q,rfl⟩:=Int.eq_ofNat_of_zero_le ty0
  obtain⟨ty,hty⟩:∃ty,s.types[q]?=some ty:=⟨_,List.getElem?_eq_getElem (by omega)⟩
  have hta:=h.srt.tgAt_eq (kind:=q) (tid:=i) (by omega) (by omega)
  by_cases hb:fFindB s.things q i=true
  ·by_cases k1:kd=1
   ·subst k1
    rw[if_pos hb] at hta
    refine doo_bad (w:=6) ?_ (by decide) (DoOf_1a s q i fd n tx id ty hty hf ⟨id1,id2⟩ (by omega) _ hta (by omega))
    rw[hE]; simp[doE,rawB,hb]
   by_cases k2:kd=2
   ·subst k2
    exact DoOf_dropped s q i fd n tx id h ty hty hf ⟨id1,id2⟩ hb hE
   exact DoOf_chg s kd q i fd n tx id h hn (by omega) ty hty hf ⟨id1,id2⟩ hb hE
  ·by_cases k1:kd=1
   ·subst k1
    exact DoOf_made s q i fd n tx id h ty hty hf ⟨id1,id2⟩ hb hE
   rw[if_neg hb] at hta
   have hdo:doE s ⟨kd,q,i,fd,n,tx⟩=5:=by
    unfold doE
    rw[if_neg (by simpa using k1),if_pos (by simpa [rawB] using hb)]
   rw[hdo] at hE
   refine doo_bad hE (by decide) ?_
   have hkd:kd=2∨kd=3∨kd=4∨kd=5∨kd=6:=by omega
   rcases hkd with rfl|rfl|rfl|rfl|rfl
   ·exact DoOf_2n s q i fd n tx id ty hty hf ⟨id1,id2⟩ (by omega) _ hta (by omega)
   ·exact DoOf_3n s q i fd n tx id ty hty hf ⟨id1,id2⟩ (by omega) _ hta (by omega)
   ·exact DoOf_4n s q i fd n tx id ty hty hf ⟨id1,id2⟩ (by omega) _ hta (by omega)
   ·exact DoOf_5n s q i fd n tx id ty hty hf ⟨id1,id2⟩ (by omega) _ hta (by omega)
   ·exact DoOf_6n s q i fd n tx id ty hty hf ⟨id1,id2⟩ (by omega) _ hta (by omega)
 ·have hE:rawE s e=rawE0 s.types e:=by unfold rawE; rw[if_pos h0]
  exact doo_bad hE h0 (DoOf_e0 s e id h0)
end Go.Am
namespace Go.Am
set_option linter.all false
open Go Go.RowKit Go.Proofs
set_option maxRecDepth 100000
set_option linter.all false
end Go.Am
