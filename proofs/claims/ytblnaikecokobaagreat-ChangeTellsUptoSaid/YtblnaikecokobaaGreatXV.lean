/- Parts of the proof: an abstract machine for Go functions, and what functions of the program give back (Rd1, Rd2). No condition. -/
import Derived.Test.YtblnaikecokobaaGreatXU
namespace Go.Am
set_option linter.all false
open Go Go.RowKit Go.Proofs
set_option maxRecDepth 100000
set_option linter.all false
def ownC(b:Nat):List Cl→List (Option Nat)
 | []=>[]
 | _::cs=>some b::ownC (b+1) cs
def ownS(t:Nat):Nat→List Tg→List OTg
 | _,[]=>[]
 | q,x::xs=>⟨x,t+1+q,ownC (t+16+16*q) x.cells⟩::ownS t (q+1) xs
theorem ownC_get:∀{l:List Cl} {b k:Nat} {c:Cl},l[k]?=some c→(ownC b l)[k]?=some (some (b+k))
 | [],_,_,_,h=>by simp at h
 | _::_,b,0,_,_=>rfl
 | _::l,b,k+1,c,h=>by
  simp only[List.getElem?_cons_succ] at h
  rw[ownC,List.getElem?_cons_succ,ownC_get h]
  congr 2; omega
theorem ownC_len:∀(l:List Cl) (b:Nat),(ownC b l).length=l.length
 | [],_=>rfl
 | _::l,b=>by simp[ownC,ownC_len l]
theorem ownS_len(t:Nat):∀(l:List Tg) (q:Nat),(ownS t q l).length=l.length
 | [],_=>rfl
 | _::l,q=>by simp[ownS,ownS_len t l]
theorem ownS_t(t:Nat):∀(l:List Tg) (q:Nat),(ownS t q l).map OTg.t=l
 | [],_=>rfl
 | _::l,q=>by simp[ownS,ownS_t t l]
theorem ownS_ok(t:Nat):∀(l:List Tg) (q:Nat),∀o∈ownS t q l,o.Ok
 | [],_,o,h=>by cases h
 | x::l,q,o,h=>by
  rcases List.mem_cons.1 h with rfl|h
  ·refine⟨ownC_len ..,fun k c h1 h2=>?_⟩
   have h1:x.cells[k]?=some c:=h1
   have h2:(ownC (t+16+16*q) x.cells)[k]?=some none:=h2
   rw[ownC_get h1] at h2
   cases h2
  ·exact ownS_ok t l (q+1) o h
theorem idsB_own(b:Nat):∀(l:List Cl),∀z∈(idsB l (ownC b l)).map Prod.fst,b≤z∧z<b+l.length
 | [],z,h=>by cases h
 | c::l,z,h=>by
  simp only[ownC,idsB,idB,List.map_append,List.map_cons,List.map_nil,List.cons_append,List.nil_append,List.mem_cons] at h
  rcases h with rfl|h
  ·simp
  ·have:=idsB_own (b+1) l z h
   simp only[List.length_cons]
   omega
theorem idsB_own_nd(b:Nat):∀(l:List Cl),((idsB l (ownC b l)).map Prod.fst).Nodup
 | []=>List.nodup_nil
 | c::l=>by
  simp only[ownC,idsB,idB,List.map_append,List.map_cons,List.map_nil,List.cons_append,List.nil_append,List.nodup_cons]
  refine⟨fun h=>?_,idsB_own_nd (b+1) l⟩
  have:=idsB_own (b+1) l b h
  omega
theorem ownS_nm(t:Nat):∀(l:List Tg) (q:Nat),(∀x∈l,x.cells.length≤16)→∀z∈nmR (ownS t q l),(t+1+q≤z∧z<t+1+q+l.length)∨(t+16+16*q≤z∧z<t+16+16*(q+l.length))
 | [],_,_,z,h=>by cases h
 | x::l,q,h6,z,h=>by
  rw[ownS,nmR_cons] at h
  have hx:=h6 x (List.mem_cons_self ..)
  simp only[List.length_cons]
  rcases List.mem_append.1 h with h|h
  ·rcases List.mem_cons.1 h with rfl|h
   ·left; simp only; omega
   ·have h:z∈(idsB x.cells (ownC (t+16+16*q) x.cells)).map Prod.fst:=h
    have:=idsB_own _ _ z h
    omega
  ·have:=ownS_nm t l (q+1) (fun y hy=>h6 y (List.mem_cons_of_mem _ hy)) z h
   omega
theorem ownS_nd(t:Nat):∀(l:List Tg) (q:Nat),(∀x∈l,x.cells.length≤16)→q+l.length≤12→(nmR (ownS t q l)).Nodup
 | [],_,_,_=>List.nodup_nil
 | x::l,q,h6,h12=>by
  have hx:=h6 x (List.mem_cons_self ..)
  simp only[List.length_cons] at h12
  rw[ownS,nmR_cons,List.nodup_append]
  refine⟨List.nodup_cons.2 ⟨fun h=>?_,idsB_own_nd _ _⟩,ownS_nd t l (q+1) (fun y hy=>h6 y (List.mem_cons_of_mem _ hy)) (by omega),fun a ha b hb=>?_⟩
  ·have h:t+1+q∈(idsB x.cells (ownC (t+16+16*q) x.cells)).map Prod.fst:=h
   have:=idsB_own _ _ _ h
   omega
  ·have hb:=ownS_nm t l (q+1) (fun y hy=>h6 y (List.mem_cons_of_mem _ hy)) b hb
   rcases List.mem_cons.1 ha with rfl|h
   ·simp only; omega
   ·have h:a∈(idsB x.cells (ownC (t+16+16*q) x.cells)).map Prod.fst:=h
    have:=idsB_own _ _ a h
    omega
theorem eCosU_zip(t q:Nat)(l:List Cl):eCosU t q l l.length=List.zipWith eCn l (ownC (t+16+16*q) l):=by
 have:∀k,k≤l.length→eCosU t q l k=(List.zipWith eCn l (ownC (t+16+16*q) l)).take k:=fun k=>by
  induction k with
  | zero=>intro _; simp[eCosU]
  | succ k ih =>
   intro h
   have hc:l[k]?=some l[k]:=List.getElem?_eq_getElem (by omega)
   rw[eCosU,hc]
   simp only
   rw[ih (by omega),List.take_succ,zip_get hc (ownC_get hc)]
   rfl
 rw[this _ (Nat.le_refl _),List.take_of_length_le]
 simp[ownC_len]
theorem ownS_get(t:Nat):∀{l:List Tg} {q i:Nat} {x:Tg},l[i]?=some x→(ownS t q l)[i]?=some ⟨x,t+1+(q+i),ownC (t+16+16*(q+i)) x.cells⟩
 | [],_,_,_,h=>by simp at h
 | x::l,q,0,y,h=>by simp only[List.getElem?_cons_zero,Option.some.injEq] at h; subst h; rfl
 | _::l,q,i+1,y,h=>by
  simp only[List.getElem?_cons_succ] at h
  rw[ownS,List.getElem?_cons_succ,ownS_get t h]
  have:q+1+i=q+(i+1):=by omega
  rw[this]
theorem eTosU_map(t:Nat)(l:List Tg):eTosU t l l.length=(ownS t 0 l).map eTn:=by
 have:∀k,k≤l.length→eTosU t l k=((ownS t 0 l).map eTn).take k:=fun k=>by
  induction k with
  | zero=>intro _; simp[eTosU]
  | succ k ih =>
   intro h
   have hc:l[k]?=some l[k]:=List.getElem?_eq_getElem (by omega)
   rw[eTosU,hc]
   simp only
   rw[ih (by omega),List.take_succ,List.getElem?_map,ownS_get t hc]
   simp[eTo,eTn]
 rw[this _ (Nat.le_refl _),List.take_of_length_le]
 simp[ownS_len]
theorem idsU_in{t q:Nat}{l:List Cl}{k m:Nat}{c:Cl}(hc:l[m]?=some c)(h:m<k):(t+16+16*q+m,some (iBx c))∈idsU t q l k:=by
 induction k with
 | zero=>omega
 | succ k ih =>
  rw[idsU]
  by_cases hk:m=k
  ·subst hk; rw[hc]; exact List.mem_cons_self ..
  ·have:=ih (by omega)
   split
   ·exact List.mem_cons_of_mem _ this
   ·exact this
theorem restU_in{t:Nat}{l:List Tg}{i j:Nat}{x:Tg}(hx:l[j]?=some x)(h:j<i):(t+1+j,some (cBx t j x))∈restU t l i∧∀p∈idsU t j x.cells x.cells.length,p∈restU t l i:=by
 induction i with
 | zero=>omega
 | succ i ih =>
  rw[restU]
  by_cases hk:j=i
  ·subst hk; rw[hx]; exact⟨List.mem_cons_self ..,fun p hp=>List.mem_cons_of_mem _ (List.mem_append_left _ hp)⟩
  ·have:=ih (by omega)
   split
   ·exact⟨List.mem_cons_of_mem _ (List.mem_append_right _ this.1),fun p hp=>List.mem_cons_of_mem _ (List.mem_append_right _ (this.2 p hp))⟩
   ·exact this
theorem idsB_get{b:Nat}:∀{l:List Cl} {p:Nat×Bx},p∈idsB l (ownC b l)→∃k c,l[k]?=some c∧p=(b+k,iBx c)
 | [],p,h=>by cases h
 | c::l,p,h=>by
  simp only[ownC,idsB,idB,List.cons_append,List.nil_append,List.mem_cons] at h
  rcases h with rfl|h
  ·exact⟨0,c,rfl,rfl⟩
  ·obtain⟨k,d,h1,rfl⟩:=idsB_get h
   exact⟨k+1,d,h1,by rw[Nat.add_assoc,Nat.add_comm 1 k]⟩
theorem mem_own{t:Nat}{l:List Tg}{o:OTg}(h:o∈ownS t 0 l):∃i x,l[i]?=some x∧o=⟨x,t+1+i,ownC (t+16+16*i) x.cells⟩:=by
 obtain⟨i,hi⟩:=List.mem_iff_getElem?.1 h
 have hl:i<l.length:=by have:=(List.getElem?_eq_some_iff.1 hi).1; rwa [ownS_len] at this
 have hx:l[i]?=some l[i]:=List.getElem?_eq_getElem hl
 rw[ownS_get t hx] at hi
 injection hi with hi
 exact⟨i,_,hx,by rw[←hi,Nat.zero_add]⟩
theorem own_in{t:Nat}{l:List Tg}{q:Nat×Bx}(h:q∈trB t (ownS t 0 l)):(q.1,some q.2)∈(t,some (⟨eTosU t l l.length,zT,false,false⟩:Bx))::restU t l l.length:=by
 rcases List.mem_cons.1 h with rfl|h
 ·rw[eTosU_map]; exact List.mem_cons_self ..
 ·refine List.mem_cons_of_mem _ ?_
  obtain⟨o,ho,hq⟩:=List.mem_flatMap.1 h
  obtain⟨i,x,hx,rfl⟩:=mem_own ho
  have hin:=restU_in (t:=t) hx (List.getElem?_eq_some_iff.1 hx).1
  rcases List.mem_cons.1 hq with rfl|hq
  ·have:=hin.1
   rw[cBx,eCosU_zip] at this
   exact this
  ·obtain⟨k,c,hc,rfl⟩:=idsB_get hq
   exact hin.2 _ (idsU_in hc (List.getElem?_eq_some_iff.1 hc).1)
theorem own_nd{t:Nat}{l:List Tg}(h6:∀x∈l,x.cells.length≤16)(h12:l.length≤12):(nmT t (ownS t 0 l)).Nodup:=by
 refine List.nodup_cons.2 ⟨fun h=>?_,ownS_nd t l 0 h6 (by omega)⟩
 have:=ownS_nm t l 0 h6 t h
 omega
theorem own_rg{t:Nat}{l:List Tg}(h6:∀x∈l,x.cells.length≤16)(h12:l.length≤12):∀z∈nmT t (ownS t 0 l),t≤z∧z<t+1000:=fun z h=>by
 rcases List.mem_cons.1 h with rfl|h
 ·omega
 ·have:=ownS_nm t l 0 h6 z h
  omega
theorem own_st(t:Nat)(s:Sta):stOf s.types (ownS t 0 s.things)=s:=by simp[stOf,ownS_t]
theorem stR_of{s:Sta}(h:fSt s=0):StR s∧Srt s.things∧eachB (fun f c=>!c.ids.any fun x=>!isThere s f x) s.types s.things=true:=by
 unfold fSt at h
 split at h
 ·rename_i h1; exact (h1 h).elim
 ·rename_i h1
  have h1:fCheckT s.types=0:=by omega
  split at h
  ·omega
  ·rename_i h2
   split at h
   ·rename_i h3; exact (h3 h).elim
   ·rename_i h3
    have h3:firstIx (fun i t=>fTh1 s i t) s.things 0=0:=by omega
    obtain⟨g1,g2⟩:=srt_of (schOk h1) h3
    refine⟨⟨schOk h1,by omega,g1⟩,g2,?_⟩
    split at h
    ·assumption
    ·omega
end Go.Am
namespace Go.Am
set_option linter.all false
open Go Go.RowKit Go.Proofs
set_option maxRecDepth 100000
set_option linter.all false
theorem mem_addW1{q:Nat×Option Bx}:∀{wr l:List (Nat×Option Bx)},q∈addW l wr→q∈l∨q∈wr
 | [],_,h=>.inl h
 | p::wr,l,h=>by
  rw[addW] at h
  rcases mem_addW1 h with h|h
  ·rcases List.mem_cons.1 h with rfl|h
   ·exact .inr (List.mem_cons_self ..)
   ·exact .inl h
  ·exact .inr (List.mem_cons_of_mem _ h)
theorem trB_ro{T:Nat}{S:List OTg}:∀q∈trB T S,q.2.ro=false:=fun q hq=>by
 rcases List.mem_cons.1 hq with rfl|hq
 ·rfl
 ·obtain⟨o,_,hq⟩:=List.mem_flatMap.1 hq
  rcases List.mem_cons.1 hq with rfl|hq
  ·rfl
  ·have:∀(cs:List Cl) (is:List (Option Nat)),∀q∈idsB cs is,q.2.ro=false:=fun cs=>by
    induction cs with
    | nil=>intro is q h; cases h
    | cons c cs ih =>
     intro is q h
     cases is with
     | nil=>cases h
     | cons i is =>
      rcases List.mem_append.1 h with h|h
      ·cases i with
       | none=>cases h
       | some i=>simp only[idB,List.mem_singleton] at h; subst h; rfl
      ·exact ih is q h
   exact this _ _ q hq
theorem bk_cons_eq{y:Nat}{b:Option Bx}{L:List (Nat×Option Bx)}:bk ((y,b)::L) y=b:=by simp[bk]
end Go.Am
