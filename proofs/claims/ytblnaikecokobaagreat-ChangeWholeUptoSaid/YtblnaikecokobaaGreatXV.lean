/- Parts of the proof: an abstract machine for Go functions, and what functions of the program give back (Rd1, Rd2). No condition. -/
import Derived.Test.YtblnaikecokobaaGreatXU
namespace Go.Am
set_option linter.all false
open Go Go.RowKit Go.Proofs
set_option maxRecDepth 100000
set_option linter.all false
def ownC(b:Nat):List Cl→List (Option Nat)
 | []=>[]
 | _::cs=>some b::ownC (b+1) cs
def ownS(t:Nat):Nat→List Tg→List OTg
 | _,[]=>[]
 | q,x::xs=>⟨x,t+1+q,ownC (t+16+16*q) x.cells⟩::ownS t (q+1) xs
theorem ownC_get:∀{l:List Cl} {b k:Nat} {c:Cl},l[k]?=some c→(ownC b l)[k]?=some (some (b+k))
 | [],_,_,_,h=>by simp at h
 | _::_,b,0,_,_=>rfl
 | _::l,b,k+1,c,h=>by
  simp only[List.getElem?_cons_succ] at h
  rw[ownC,List.getElem?_cons_succ,ownC_get h]
  congr 2; omega
theorem ownC_len:∀(l:List Cl) (b:Nat),(ownC b l).length=l.length
 | [],_=>rfl
 | _::l,b=>by simp[ownC,ownC_len l]
theorem ownS_len(t:Nat):∀(l:List Tg) (q:Nat),(ownS t q l).length=l.length
 | [],_=>rfl
 | _::l,q=>by simp[ownS,ownS_len t l]
theorem ownS_t(t:Nat):∀(l:List Tg) (q:Nat),(ownS t q l).map OTg.t=l
 | [],_=>rfl
 | _::l,q=>by simp[ownS,ownS_t t l]
theorem ownS_ok(t:Nat):∀(l:List Tg) (q:Nat),∀o∈ownS t q l,o.Ok
 | [],_,o,h=>by cases h
 | x::l,q,o,h=>by
  rcases List.mem_cons.1 h with rfl|h
  ·refine⟨ownC_len ..,fun k c h1 h2=>?_⟩
   have h1:x.cells[k]?=some c:=h1
   have h2:(ownC (t+16+16*q) x.cells)[k]?=some none:=h2
   rw[ownC_get h1] at h2
   cases h2
  ·exact ownS_ok t l (q+1) o h
theorem idsB_own(b:Nat):∀(l:List Cl),∀z∈(idsB l (ownC b l)).map Prod.fst,b≤z∧z<b+l.length
 | [],z,h=>by cases h
 | c::l,z,h=>by
  simp only[ownC,idsB,idB,List.map_append,List.map_cons,List.map_nil,List.cons_append,List.nil_append,List.mem_cons] at h
  rcases h with rfl|h
  ·simp
  ·have:=idsB_own (b+1) l z h
   simp only[List.length_cons]
   omega
theorem idsB_own_nd(b:Nat):∀(l:List Cl),((idsB l (ownC b l)).map Prod.fst).Nodup
 | []=>List.nodup_nil
 | c::l=>by
  simp only[ownC,idsB,idB,List.map_append,List.map_cons,List.map_nil,List.cons_append,List.nil_append,List.nodup_cons]
  refine⟨fun h=>?_,idsB_own_nd (b+1) l⟩
  have:=idsB_own (b+1) l b h
  omega
theorem ownS_nm(t:Nat):∀(l:List Tg) (q:Nat),(∀x∈l,x.cells.length≤16)→∀z∈nmR (ownS t q l),(t+1+q≤z∧z<t+1+q+l.length)∨(t+16+16*q≤z∧z<t+16+16*(q+l.length))
 | [],_,_,z,h=>by cases h
 | x::l,q,h6,z,h=>by
  rw[ownS,nmR_cons] at h
  have hx:=h6 x (List.mem_cons_self ..)
  simp only[List.length_cons]
  rcases List.mem_append.1 h with h|h
  ·rcases List.mem_cons.1 h with rfl|h
   ·left; simp only; omega
   ·have h:z∈(idsB x.cells (ownC (t+16+16*q) x.cells)).map Prod.fst:=h
    have:=idsB_own _ _ z h
    omega
  ·have:=ownS_nm t l (q+1) (fun y hy=>h6 y (List.mem_cons_of_mem _ hy)) z h
   omega
theorem ownS_nd(t:Nat):∀(l:List Tg) (q:Nat),(∀x∈l,x.cells.length≤16)→q+l.length≤12→(nmR (ownS t q l)).Nodup
 | [],_,_,_=>List.nodup_nil
 | x::l,q,h6,h12=>by
  have hx:=h6 x (List.mem_cons_self ..)
  simp only[List.length_cons] at h12
  rw[ownS,nmR_cons,List.nodup_append]
  refine⟨List.nodup_cons.2 ⟨fun h=>?_,idsB_own_nd _ _⟩,ownS_nd t l (q+1) (fun y hy=>h6 y (List.mem_cons_of_mem _ hy)) (by omega),fun a ha b hb=>?_⟩
  ·have h:t+1+q∈(idsB x.cells (ownC (t+16+16*q) x.cells)).map Prod.fst:=h
   have:=idsB_own _ _ _ h
   omega
  ·have hb:=ownS_nm t l (q+1) (fun y hy=>h6 y (List.mem_cons_of_mem _ hy)) b hb
   rcases List.mem_cons.1 ha with rfl|h
   ·simp only; omega
   ·have h:a∈(idsB x.cells (ownC (t+16+16*q) x.cells)).map Prod.fst:=h
    have:=idsB_own _ _ a h
    omega
theorem eCosU_zip(t q:Nat)(l:List Cl):eCosU t q l l.length=List.zipWith eCn l (ownC (t+16+16*q) l):=by
 have:∀k,k≤l.length→eCosU t q l k=(List.zipWith eCn l (ownC (t+16+16*q) l)).take k:=fun k=>by
  induction k with
  | zero=>intro _; simp[eCosU]
  | succ k ih =>
   intro h
   have hc:l[k]?=some l[k]:=List.getElem?_eq_getElem (by omega)
   rw[eCosU,hc]
   simp only
   rw[ih (by omega),List.take_succ,zip_get hc (ownC_get hc)]
   rfl
 rw[this _ (Nat.le_refl _),List.take_of_length_le]
 simp[ownC_len]
theorem ownS_get(t:Nat):∀{l:List Tg} {q i:Nat} {x:Tg},l[i]?=some x→(ownS t q l)[i]?=some ⟨x,t+1+(q+i),ownC (t+16+16*(q+i)) x.cells⟩
 | [],_,_,_,h=>by simp at h
 | x::l,q,0,y,h=>by simp only[List.getElem?_cons_zero,Option.some.injEq] at h; subst h; rfl
 | _::l,q,i+1,y,h=>by
  simp only[List.getElem?_cons_succ] at h
  rw[ownS,List.getElem?_cons_succ,ownS_get t h]
  have:q+1+i=q+(i+1):=by omega
  rw[this]
theorem eTosU_map(t:Nat)(l:List Tg):eTosU t l l.length=(ownS t 0 l).map eTn:=by
 have:∀k,k≤l.length→eTosU t l k=((ownS t 0 l).map eTn).take k:=fun k=>by
  induction k with
  | zero=>intro _; simp[eTosU]
  | succ k ih =>
   intro h
   have hc:l[k]?=some l[k]:=List.getElem?_eq_getElem (by omega)
   rw[eTosU,hc]
   simp only
   rw[ih (by omega),List.take_succ,List.getElem?_map,ownS_get t hc]
   simp[eTo,eTn]
 rw[this _ (Nat.le_refl _),List.take_of_length_le]
 simp[ownS_len]
theorem idsU_in{t q:Nat}{l:List Cl}{k m:Nat}{c:Cl}(hc:l[m]?=some c)(h:m<k):(t+16+16*q+m,some (iBx c))∈idsU t q l k:=by
 induction k with
 | zero=>omega
 | succ k ih =>
  rw[idsU]
  by_cases hk:m=k
  ·subst hk; rw[hc]; exact List.mem_cons_self ..
  ·have:=ih (by omega)
   split
   ·exact List.mem_cons_of_mem _ this
   ·exact this
theorem restU_in{t:Nat}{l:List Tg}{i j:Nat}{x:Tg}(hx:l[j]?=some x)(h:j<i):(t+1+j,some (cBx t j x))∈restU t l i∧∀p∈idsU t j x.cells x.cells.length,p∈restU t l i:=by
 induction i with
 | zero=>omega
 | succ i ih =>
  rw[restU]
  by_cases hk:j=i
  ·subst hk; rw[hx]; exact⟨List.mem_cons_self ..,fun p hp=>List.mem_cons_of_mem _ (List.mem_append_left _ hp)⟩
  ·have:=ih (by omega)
   split
   ·exact⟨List.mem_cons_of_mem _ (List.mem_append_right _ this.1),fun p hp=>List.mem_cons_of_mem _ (List.mem_append_right _ (this.2 p hp))⟩
   ·exact this
theorem idsB_get{b:Nat}:∀{l:List Cl} {p:Nat×Bx},p∈idsB l (ownC b l)→∃k c,l[k]?=some c∧p=(b+k,iBx c)
 | [],p,h=>by cases h
 | c::l,p,h=>by
  simp only[ownC,idsB,idB,List.cons_append,List.nil_append,List.mem_cons] at h
  rcases h with rfl|h
  ·exact⟨0,c,rfl,rfl⟩
  ·obtain⟨k,d,h1,rfl⟩:=idsB_get h
   exact⟨k+1,d,h1,by rw[Nat.add_assoc,Nat.add_comm 1 k]⟩
theorem mem_own{t:Nat}{l:List Tg}{o:OTg}(h:o∈ownS t 0 l):∃i x,l[i]?=some x∧o=⟨x,t+1+i,ownC (t+16+16*i) x.cells⟩:=by
 obtain⟨i,hi⟩:=List.mem_iff_getElem?.1 h
 have hl:i<l.length:=by have:=(List.getElem?_eq_some_iff.1 hi).1; rwa [ownS_len] at this
 have hx:l[i]?=some l[i]:=List.getElem?_eq_getElem hl
 rw[ownS_get t hx] at hi
 injection hi with hi
 exact⟨i,_,hx,by rw[←hi,Nat.zero_add]⟩
theorem own_in{t:Nat}{l:List Tg}{q:Nat×Bx}(h:q∈trB t (ownS t 0 l)):(q.1,some q.2)∈(t,some (⟨eTosU t l l.length,zT,false,false⟩:Bx))::restU t l l.length:=by
 rcases List.mem_cons.1 h with rfl|h
 ·rw[eTosU_map]; exact List.mem_cons_self ..
 ·refine List.mem_cons_of_mem _ ?_
  obtain⟨o,ho,hq⟩:=List.mem_flatMap.1 h
  obtain⟨i,x,hx,rfl⟩:=mem_own ho
  have hin:=restU_in (t:=t) hx (List.getElem?_eq_some_iff.1 hx).1
  rcases List.mem_cons.1 hq with rfl|hq
  ·have:=hin.1
   rw[cBx,eCosU_zip] at this
   exact this
  ·obtain⟨k,c,hc,rfl⟩:=idsB_get hq
   exact hin.2 _ (idsU_in hc (List.getElem?_eq_some_iff.1 hc).1)
theorem own_nd{t:Nat}{l:List Tg}(h6:∀x∈l,x.cells.length≤16)(h12:l.length≤12):(nmT t (ownS t 0 l)).Nodup:=by
 refine List.nodup_cons.2 ⟨fun h=>?_,ownS_nd t l 0 h6 (by omega)⟩
 have:=ownS_nm t l 0 h6 t h
 omega
theorem own_rg{t:Nat}{l:List Tg}(h6:∀x∈l,x.cells.length≤16)(h12:l.length≤12):∀z∈nmT t (ownS t 0 l),t≤z∧z<t+1000:=fun z h=>by
 rcases List.mem_cons.1 h with rfl|h
 ·omega
 ·have:=ownS_nm t l 0 h6 z h
  omega
theorem own_st(t:Nat)(s:Sta):stOf s.types (ownS t 0 s.things)=s:=by simp[stOf,ownS_t]
theorem stR_of{s:Sta}(h:fSt s=0):StR s∧Srt s.things∧eachB (fun f c=>!c.ids.any fun x=>!isThere s f x) s.types s.things=true:=by
 unfold fSt at h
 split at h
 ·rename_i h1; exact (h1 h).elim
 ·rename_i h1
  have h1:fCheckT s.types=0:=by omega
  split at h
  ·omega
  ·rename_i h2
   split at h
   ·rename_i h3; exact (h3 h).elim
   ·rename_i h3
    have h3:firstIx (fun i t=>fTh1 s i t) s.things 0=0:=by omega
    obtain⟨g1,g2⟩:=srt_of (schOk h1) h3
    refine⟨⟨schOk h1,by omega,g1⟩,g2,?_⟩
    split at h
    ·assumption
    ·omega
end Go.Am
namespace Go.Am
set_option linter.all false
open Go Go.RowKit Go.Proofs
set_option maxRecDepth 100000
set_option linter.all false
def fDoE(s:Sta)(e:Ev):Int:=if fSt s≠0 then fSt s else rawE s e
def doAV(s:Sta)(e:Ev):AV:=if fDoE s e=0 then eSta (rawS s e) else eS0
theorem mem_addW1{q:Nat×Option Bx}:∀{wr l:List (Nat×Option Bx)},q∈addW l wr→q∈l∨q∈wr
 | [],_,h=>.inl h
 | p::wr,l,h=>by
  rw[addW] at h
  rcases mem_addW1 h with h|h
  ·rcases List.mem_cons.1 h with rfl|h
   ·exact .inr (List.mem_cons_self ..)
   ·exact .inl h
  ·exact .inr (List.mem_cons_of_mem _ h)
theorem apart_keys{l:List (Nat×Option Bx)}{r:List Nat}(h:∀q∈l,q.1∉r):apartL (l.map (fun x=>x.fst)) r:=apartL_iff.2 fun x hx=>by
 obtain⟨q,hq,rfl⟩:=List.mem_map.1 hx
 exact h q hq
theorem trB_ro{T:Nat}{S:List OTg}:∀q∈trB T S,q.2.ro=false:=fun q hq=>by
 rcases List.mem_cons.1 hq with rfl|hq
 ·rfl
 ·obtain⟨o,_,hq⟩:=List.mem_flatMap.1 hq
  rcases List.mem_cons.1 hq with rfl|hq
  ·rfl
  ·have:∀(cs:List Cl) (is:List (Option Nat)),∀q∈idsB cs is,q.2.ro=false:=fun cs=>by
    induction cs with
    | nil=>intro is q h; cases h
    | cons c cs ih =>
     intro is q h
     cases is with
     | nil=>cases h
     | cons i is =>
      rcases List.mem_append.1 h with h|h
      ·cases i with
       | none=>cases h
       | some i=>simp only[idB,List.mem_singleton] at h; subst h; rfl
      ·exact ih is q h
   exact this _ _ q hq
theorem bk_cons_eq{y:Nat}{b:Option Bx}{L:List (Nat×Option Bx)}:bk ((y,b)::L) y=b:=by simp[bk]
theorem Do_err0(s:Sta)(e:Ev)(id:Nat)(h:fSt s≠0):FnOk Tryz.prog 44 [eSta s,eEv e] [] id (.tup [eS0,.int .i64 (fSt s)]) []:=by
 have hC:=fun id=>stCheck_ok s id
 unfold eSta eEv eS0 at *
 refine fn_okc Tryz.func44 hcc44 (by decide) hcr44 (by simp[Tryz.ntmps44]) fun E hP hR hl hid=>?_
 simp only[cr44] at hR
 refine w_go 4000 ?_
 simp[cc44]
 (refine w_call hP rfl (hC _) (by simp) (by simp<;>rfl) ?_; refine w_go 4000 ?_; simp)
 refine goc_true (by simpa using h) ?_
 simp
 rw[hR]; exact rt_end (by simp<;>rfl) [] trivial (end_pure (by simp) (by simp) (by simp))
set_option maxHeartbeats 2000000 in
theorem Do_err(s:Sta)(e:Ev)(id:Nat)(h:fSt s=0)(he:rawE s e≠0):FnOk Tryz.prog 44 [eSta s,eEv e] [] id (.tup [eS0,.int .i64 (rawE s e)]) []:=by
 obtain⟨hr,hs,hl⟩:=stR_of h
 have hC:=fun id=>stCheck_ok s id
 have h6:∀x∈s.things,x.cells.length≤16∧∀c∈x.cells,c.ids.length≤1000:=fun x hx=>by
  have h1:=(hr.tg x hx).cells6 hr.sch
  refine⟨by omega,fun c hc=>?_⟩
  obtain⟨k,hk⟩:=List.mem_iff_getElem?.1 hc
  obtain⟨f,_,hco⟩:=(hr.tg x hx).cellOk hk
  have:=hco.i1; omega
 have h5:=hr.sch.len
 have h12:=hr.len
 have hW:∀id,FnOk Tryz.prog 43 [eSta s] [] id (.agg [.sl (s.types.map eTy),.bsl id 0 s.things.length]) ((id,some ⟨eTosU id s.things s.things.length,zT,false,false⟩)::restU id s.things s.things.length):=fun id=>stOwn_ok s id (by omega) (fun t ht=>by have:=hr.sch.fields t ht; omega) h12 h6
 have h16:∀x∈s.things,x.cells.length≤16:=fun x hx=>(h6 x hx).1
 have hkey:∀t,∀q∈restU t s.things s.things.length,t+1≤q.1∧q.1<t+1000:=fun t q hq=>by
  obtain⟨y,b⟩:=q
  rcases restU_key h16 hq with⟨j,h1,h2⟩|⟨j,m,h1,h2,h3⟩<;>simp only<;>omega
 have hRw:∀t id,t+1000≤id→FnOk Tryz.prog 69 [.agg [.sl (s.types.map eTy),.bsl t 0 s.things.length],eEv e] (trB t (ownS t 0 s.things)) id (.tup [eS0,.int .i64 (rawE s e)]) []:=fun t id ht=>by
  have:=Raw_wrong (l:=s.types) (S:=ownS t 0 s.things) (T:=t) (e:=e) (id:=id) (own_nd h16 h12) (fun z hz=>by have:=own_rg h16 h12 z hz; omega) (ownS_ok t s.things 0) (by rw[own_st]; exact hr) (by rw[own_st]; exact he)
  rw[own_st,ownS_len] at this
  exact this
 unfold eSta eEv eS0 at *
 refine fn_okc Tryz.func44 hcc44 (by decide) hcr44 (by simp[Tryz.ntmps44]) fun E hP hR hl hid=>?_
 simp only[cr44] at hR
 refine w_go 4000 ?_
 simp[cc44]
 have hsk:∀L z,z<E.n0+10240→bk (addW L (restU (E.n0+10240) s.things s.things.length)) z=bk L z:=fun L z hz=>by
  rw[bk_addW]
  exact appl_none fun q hq=>by have:=hkey _ q hq; omega
 have hin:∀L,∀q∈trB (E.n0+10240) (ownS (E.n0+10240) 0 s.things),bk (addW ((E.n0+10240,some ⟨eTosU (E.n0+10240) s.things s.things.length,zT,false,false⟩)::L) (restU (E.n0+10240) s.things s.things.length)) q.1=some q.2:=fun L q hq=>by
  have hm:=own_in hq
  rw[bk_addW]
  rcases List.mem_cons.1 hm with hm|hm
  ·injection hm with h1 h2
   rw[appl_none fun q' hq'=>by have:=hkey _ q' hq'; omega,h1,h2]
   exact bk_cons_eq
  ·exact appl_get (restU_aside (S:=fun _=>True) h16 s.things.length h12 (fun _ _=>trivial) fun _ _ _ _=>trivial).nd hm
 (refine w_call hP rfl (hC _) (by simp) (by simp<;>rfl) ?_; refine w_go 4000 ?_; simp)
 refine goc_false (by simpa using h) ?_
 simp
 refine w_call hP rfl (hW _) (by simp) (by simp) ?_
 refine w_go 4 ?_
 simp[hsk]
 refine w_call hP rfl (hRw (E.n0+10240) _ (by simp)) (by simp) (HasL.of (hin _)) ?_
 refine w_go 18 ?_
 simp[hsk]
 refine⟨⟨apart_keys fun q hq=>by have:=hkey _ q hq; simp; omega,apart_keys fun q hq=>by simp⟩,?_⟩
 refine w_conv (Conv.deep 4 [(E.n0+2048,⟨[.agg [.nils,.nils]],.agg [.nils,.nils],false,false⟩)] (x:=.ptr (E.n0+2048) 0 0) (y:=.cptr [.nils,.nils]) rfl (fun q hq=>?_) ?_ fun q hq=>?_) ?_
 ·simp only[List.mem_singleton] at hq
  subst hq
  exact⟨bk_cons_eq,rfl⟩
 ·exact .ptr _ _ (.agg [.nils,.nils]) _ (List.mem_singleton.2 rfl) rfl rfl fun j c d h1 h2=>by
   have h1:[AV.nils,AV.nils][j]?=some c:=h1
   rw[h1] at h2; injection h2 with h2; subst h2; exact .same _
 ·rcases List.mem_cons.1 hq with rfl|hq
  ·simp only; omega
  ·rcases mem_addW1 hq with hq|hq
   ·simp only[List.mem_cons,List.not_mem_nil,or_false] at hq
    rcases hq with rfl|rfl|rfl|rfl<;>simp only<;>omega
   ·have:=hkey _ q hq; omega
 ·refine w_go 5 ?_
  simp
  rw[hR]; exact rt_end (by simp<;>rfl) [] trivial (end_pure (by simp) (by simp) (by simp))
set_option maxHeartbeats 2000000 in
theorem Do_done(s:Sta)(e:Ev)(id:Nat)(h:fSt s=0)(he:rawE s e=0):FnOk Tryz.prog 44 [eSta s,eEv e] [] id (.tup [eSta (rawS s e),.int .i64 0]) []:=by
 obtain⟨hr,hs,hl⟩:=stR_of h
 have hC:=fun id=>stCheck_ok s id
 have h6:∀x∈s.things,x.cells.length≤16∧∀c∈x.cells,c.ids.length≤1000:=fun x hx=>by
  have h1:=(hr.tg x hx).cells6 hr.sch
  refine⟨by omega,fun c hc=>?_⟩
  obtain⟨k,hk⟩:=List.mem_iff_getElem?.1 hc
  obtain⟨f,_,hco⟩:=(hr.tg x hx).cellOk hk
  have:=hco.i1; omega
 have h5:=hr.sch.len
 have h12:=hr.len
 have hW:∀id,FnOk Tryz.prog 43 [eSta s] [] id (.agg [.sl (s.types.map eTy),.bsl id 0 s.things.length]) ((id,some ⟨eTosU id s.things s.things.length,zT,false,false⟩)::restU id s.things s.things.length):=fun id=>stOwn_ok s id (by omega) (fun t ht=>by have:=hr.sch.fields t ht; omega) h12 h6
 have h16:∀x∈s.things,x.cells.length≤16:=fun x hx=>(h6 x hx).1
 have hkey:∀t,∀q∈restU t s.things s.things.length,t+1≤q.1∧q.1<t+1000:=fun t q hq=>by
  obtain⟨y,b⟩:=q
  rcases restU_key h16 hq with⟨j,h1,h2⟩|⟨j,m,h1,h2,h3⟩<;>simp only<;>omega
 have hRw:∀t id,t+1000≤id→∃T' S' wr,RawTo s.types (ownS t 0 s.things) t e id T' S' wr:=fun t id ht=>raw_done (l:=s.types) (S:=ownS t 0 s.things) (T:=t) (e:=e) (id:=id) (own_nd h16 h12) (fun z hz=>by have:=own_rg h16 h12 z hz; omega) (ownS_ok t s.things 0) (by rw[own_st]; exact hr) (by rw[own_st]; exact he)
 unfold eSta eEv at *
 refine fn_okc Tryz.func44 hcc44 (by decide) hcr44 (by simp[Tryz.ntmps44]) fun E hP hR hl hid=>?_
 simp only[cr44] at hR
 refine w_go 4000 ?_
 simp[cc44]
 have hsk:∀L z,z<E.n0+10240→bk (addW L (restU (E.n0+10240) s.things s.things.length)) z=bk L z:=fun L z hz=>by
  rw[bk_addW]
  exact appl_none fun q hq=>by have:=hkey _ q hq; omega
 have hin:∀L,∀q∈trB (E.n0+10240) (ownS (E.n0+10240) 0 s.things),bk (addW ((E.n0+10240,some ⟨eTosU (E.n0+10240) s.things s.things.length,zT,false,false⟩)::L) (restU (E.n0+10240) s.things s.things.length)) q.1=some q.2:=fun L q hq=>by
  have hm:=own_in hq
  rw[bk_addW]
  rcases List.mem_cons.1 hm with hm|hm
  ·injection hm with h1 h2
   rw[appl_none fun q' hq'=>by have:=hkey _ q' hq'; omega,h1,h2]
   exact bk_cons_eq
  ·exact appl_get (restU_aside (S:=fun _=>True) h16 s.things.length h12 (fun _ _=>trivial) fun _ _ _ _=>trivial).nd hm
 obtain⟨T',S',wr,hf,ht,hst⟩:=hRw (E.n0+10240) (E.n0+12288) (by omega)
 rw[own_st] at hst
 rw[ownS_len] at hf
 have hRs:rawS s e=⟨s.types,S'.map OTg.t⟩:=hst.symm
 rw[hRs] at hR
 unfold eEv at hf
 have hwk:∀q∈wr,E.n0+10240≤q.1:=fun q hq=>by
  rcases ht.kw q hq with h|h
  ·have:=own_rg h16 h12 _ h; omega
  ·omega
 have hsk2:∀L z,z<E.n0+10240→bk (addW L wr) z=bk L z:=fun L z hz=>by
  rw[bk_addW]
  exact appl_none fun q hq=>by have:=hwk q hq; omega
 (refine w_call hP rfl (hC _) (by simp) (by simp<;>rfl) ?_; refine w_go 4000 ?_; simp)
 refine goc_false (by simpa using h) ?_
 simp
 refine w_call hP rfl (hW _) (by simp) (by simp) ?_
 refine w_go 4 ?_
 simp[hsk]
 refine w_call hP rfl hf (by simp) (HasL.of (hin _)) ?_
 refine w_go 18 ?_
 simp[hsk,hsk2]
 refine⟨⟨apart_keys fun q hq=>by have:=hkey _ q hq; simp; omega,apart_keys fun q hq=>by simp⟩,?_⟩
 refine w_conv (Conv.deep 4 ((E.n0+2048,⟨[.agg [.sl (s.types.map eTy),.bsl T' 0 S'.length]],.agg [.nils,.nils],false,false⟩)::trB T' S') (x:=.ptr (E.n0+2048) 0 0) (y:=.cptr [.sl (s.types.map eTy),.sl ((S'.map OTg.t).map eTg)]) rfl (fun q hq=>?_) ?_ fun q hq=>?_) ?_
 ·rcases List.mem_cons.1 hq with rfl|hq
  ·exact⟨bk_cons_eq,rfl⟩
  ·refine⟨?_,trB_ro q hq⟩
   have hne:q.1≠E.n0+2048:=by
    rcases ht.nm q.1 (List.mem_map.2 ⟨q,hq,rfl⟩) with h|h
    ·have:=own_rg h16 h12 _ h; omega
    ·omega
   rw[bk_skip hne,bk_addW]
   exact ht.has _ (hin _) q hq
 ·refine .ptr _ _ (.agg [.sl (s.types.map eTy),.bsl T' 0 S'.length]) _ (List.mem_cons_self ..) rfl rfl fun j c d h1 h2=>?_
  match j,h1,h2 with
  | 0,h1,h2 =>
   injection h1 with h1; injection h2 with h2
   subst h1 h2; exact .same _
  | 1,h1,h2 =>
   injection h1 with h1; injection h2 with h2
   subst h1 h2
   exact rd_things ht.ok (List.mem_cons_of_mem _ (List.mem_cons_self ..)) fun q hq=>List.mem_cons_of_mem _ (List.mem_cons_of_mem _ hq)
  | j+2,h1,h2=>simp[AV.cells] at h1
 ·rcases List.mem_cons.1 hq with rfl|hq
  ·simp only; omega
  ·rcases mem_addW1 hq with hq|hq
   ·rcases mem_addW1 hq with hq|hq
    ·simp only[List.mem_cons,List.not_mem_nil,or_false] at hq
     rcases hq with rfl|rfl|rfl|rfl<;>simp only<;>omega
    ·have:=hkey _ q hq; omega
   ·have:=hwk q hq; omega
 ·refine w_go 5 ?_
  simp
  have hp:pureL (List.map (eTg∘OTg.t) S')=true:=pureL_map (f:=eTg∘OTg.t) (fun o=>pure_eTg o.t) S'
  rw[hR]; exact rt_end (by simp<;>rfl) [] trivial (end_pure (by simp) (by simp[hp]) (by simp))
theorem Do_ok(s:Sta)(e:Ev)(id:Nat):FnOk Tryz.prog 44 [eSta s,eEv e] [] id (.tup [doAV s e,.int .i64 (fDoE s e)]) []:=by
 by_cases h:fSt s=0
 ·have e1:fDoE s e=rawE s e:=by unfold fDoE; rw[if_neg (by simpa using h)]
  unfold doAV
  rw[e1]
  by_cases he:rawE s e=0
  ·rw[if_pos he,he]; exact Do_done s e id h he
  ·rw[if_neg he]; exact Do_err s e id h he
 ·have e1:fDoE s e=fSt s:=by unfold fDoE; rw[if_pos h]
  unfold doAV
  rw[e1,if_neg h]
  exact Do_err0 s e id h
end Go.Am
