/- Parts of the proof: an abstract machine for Go functions, and what functions of the program give back (So1, St6). No condition. -/
import Derived.Test.YtgdanfbkhaoieaaXI
namespace Go.Am
set_option linter.all false
open Go Go.RowKit Go.Proofs
set_option maxRecDepth 100000
set_option linter.all false
def isTg (kind tid:Int) (t:Tg):Bool:=t.type == kind && t.id == tid
def tgAt (l:List Tg) (kind tid:Int):Int:=findJ (isTg kind tid) l 0
def aheadB (ta ia tb ib:Int):Bool:=decide (ta<tb) || (decide (ta=tb) && decide (ia<ib))
theorem ord_ahead {ta ia tb ib:Int} (h1:0≤ta∧ta≤1000) (h2:0≤tb∧tb≤1000) (h3:1≤ia∧ia≤999) (h4:1≤ib∧ib≤999):(0≤ordI ta ia tb ib)↔aheadB ta ia tb ib=false:=by
  unfold ordI aheadB
  split
  · rw [wrap64 (by omega)]; simp; omega
  · rw [wrap64 (by omega)]; simp; omega
def I64 (n:Int):Prop:=-9223372036854775808≤n∧n≤9223372036854775807
theorem ord_zero {ta ia kind tid:Int} (h1:0≤ta∧ta≤1000) (h2:-1≤kind∧kind≤1000) (h3:1≤ia∧ia≤999) (h4:I64 tid):ordI ta ia kind tid=0↔ta=kind∧ia=tid:=by
  unfold ordI
  unfold I64 at h4
  split
  · rw [wrap64 (by omega)]; omega
  · by_cases hr:ia - tid≤9223372036854775807
    · rw [wrap64 (by omega)]; omega
    · have:IntKind.i64.wrap (ia - tid)=ia - tid - 18446744073709551616:=by
        rw [IntKind.wrap_i64]; omega
      rw [this]; omega
theorem bs_spec (f:Nat→Int) (j:Nat):∀ (n a b:Nat),b - a<n→a≤j→j≤b→(∀ k,a≤k→k<j→f k<0)→(∀ k,j≤k→k<b→¬ f k<0)→bs f a b=j
  | 0,a,b,hn,_,_,_,_=>by omega
  | n+1,a,b,hn,h1,h2,h3,h4=>by
    rw [bs]
    split
    · rename_i hab
      split
      · rename_i hm
        have hj:(a+b) / 2<j:=by
          by_cases hh:(a+b) / 2<j
          · exact hh
          · exact (h4 _ (by omega) (by omega) hm).elim
        exact bs_spec f j n _ b (by omega) (by omega) h2 (fun k hk hkj=>h3 k (by omega) hkj) h4
      · rename_i hm
        have hj:j≤(a+b) / 2:=by
          by_cases hh:j≤(a+b) / 2
          · exact hh
          · exact (hm (h3 _ (by omega) (by omega))).elim
        exact bs_spec f j n a _ (by omega) h1 hj h3 (fun k hk hkb=>h4 k hk (by omega))
    · omega
structure Srt (l:List Tg):Prop where
  ty:∀ t∈l,0≤t.type∧t.type≤1000
  id:∀ t∈l,1≤t.id∧t.id≤999
  asc:∀ (i j:Nat) (a b:Tg),i<j→l[i]? = some a→l[j]? = some b→aheadB a.type a.id b.type b.id=true
theorem ahead_trans {a b c d e f:Int} (h1:aheadB a b c d=true) (h2:aheadB c d e f=true):aheadB a b e f=true:=by
  simp [aheadB] at *; omega
theorem ord_ahead2 {ta ia tb ib:Int} (h1:0≤ta∧ta≤1000) (h2:0≤tb∧tb≤1000) (h3:1≤ia∧ia≤999) (h4:1≤ib∧ib≤999):(ordI ta ia tb ib<0)↔aheadB ta ia tb ib=true:=by
  have:=ord_ahead h1 h2 h3 h4
  cases h:aheadB ta ia tb ib <;> simp [h] at this <;> simp <;> omega
theorem Srt.found {l:List Tg} (h:Srt l) {j:Nat} {t:Tg} (ht:l[j]? = some t):fFindI l t.type t.id=j:=by
  have hlt:=(List.getElem?_eq_some_iff.1 ht).1
  have htm:=List.mem_of_getElem? ht
  unfold fFindI
  refine bs_spec _ j (l.length+1) 0 l.length (by omega) (by omega) (by omega) (fun k _ hk=>?_) (fun k hk hkl=>?_)
  · obtain ⟨u,hu⟩:∃ u,l[k]? = some u:=⟨_,List.getElem?_eq_getElem (by omega)⟩
    have hum:=List.mem_of_getElem? hu
    simp only [fOrdAt,hu]
    rw [ord_ahead2 (h.ty u hum) (h.ty t htm) (h.id u hum) (h.id t htm)]
    exact h.asc k j u t hk hu ht
  · obtain ⟨u,hu⟩:∃ u,l[k]? = some u:=⟨_,List.getElem?_eq_getElem (by omega)⟩
    have hum:=List.mem_of_getElem? hu
    simp only [fOrdAt,hu]
    rw [ord_ahead2 (h.ty u hum) (h.ty t htm) (h.id u hum) (h.id t htm)]
    rcases Nat.lt_or_ge j k with hjk | hjk
    · have:=h.asc j k t u hjk ht hu
      simp [aheadB] at this ⊢; omega
    · obtain rfl:k=j:=by omega
      rw [ht] at hu; injection hu with hu; subst hu
      simp [aheadB]
theorem findJ_ge {α : Type} (p:α→Bool):∀ (l:List α) (i:Nat),(0≤findJ p l i)=(l.any p=true):=fun l i=>by
  have:=findJ_any p l i
  rw [Bool.eq_iff_iff] at this
  simpa using this
theorem Srt.findB {l:List Tg} (h:Srt l) {kind tid:Int} (h2:-1≤kind∧kind≤1000) (h4:I64 tid):fFindB l kind tid=l.any (isTg kind tid):=by
  rw [Bool.eq_iff_iff,List.any_eq_true]
  constructor
  · intro hb
    simp only [fFindB,Bool.and_eq_true,decide_eq_true_eq] at hb
    obtain ⟨hlt,hz⟩:=hb
    obtain ⟨u,hu⟩:∃ u,l[fFindI l kind tid]? = some u:=⟨_,List.getElem?_eq_getElem hlt⟩
    have hum:=List.mem_of_getElem? hu
    simp only [fOrdAt,hu] at hz
    rw [ord_zero (h.ty u hum) h2 (h.id u hum) h4] at hz
    exact ⟨u,hum,by simp [isTg,hz.1,hz.2]⟩
  · rintro ⟨t,ht,he⟩
    simp [isTg] at he
    obtain ⟨rfl,rfl⟩:=he
    obtain ⟨j,hj⟩:=List.mem_iff_getElem?.1 ht
    have hf:=h.found hj
    have hlt:=(List.getElem?_eq_some_iff.1 hj).1
    simp only [fFindB,hf,Bool.and_eq_true,decide_eq_true_eq]
    refine ⟨hlt,?_⟩
    simp only [fOrdAt,hj]
    rw [ord_zero (h.ty t ht) h2 (h.id t ht) h4]
    exact ⟨rfl,rfl⟩
theorem srt_of {s:Sta} (hS:SchOk s.types) (hz:firstIx (fun i t=>fTh1 s i t) s.things 0=0):(∀ t∈s.things,TgOk s t)∧Srt s.things:=by
  have h1:∀ (k:Nat) t,s.things[k]? = some t→fTh1 s k t=0:=fun k t hk=>by
    have:=firstIx_zero _ _ _ hz k t hk
    rwa [Nat.zero_add] at this
  have hall:∀ t∈s.things,TgOk s t:=fun t ht=>by
    obtain ⟨k,hk⟩:=List.mem_iff_getElem?.1 ht
    have h0:=h1 k t hk
    refine tgOk ?_
    unfold fTh1 at h0
    split at h0
    · rename_i g; exact (g h0).elim
    · rename_i g; exact Classical.byContradiction g
  have hty:∀ t∈s.things,0≤t.type∧t.type≤1000:=fun t ht=>⟨(hall t ht).ty0,by have:=(hall t ht).ty1; have:=hS.len; omega⟩
  have hid:∀ t∈s.things,1≤t.id∧t.id≤999:=fun t ht=>⟨(hall t ht).id1,(hall t ht).id2⟩
  have hstep:∀ (i:Nat) (a b:Tg),s.things[i]? = some a→s.things[i+1]? = some b→aheadB a.type a.id b.type b.id=true:=fun i a b ha hb=>by
    have h0:=h1 (i+1) b hb
    unfold fTh1 at h0
    split at h0
    · rename_i g; exact (g h0).elim
    split at h0
    · omega
    · rename_i g
      simp [fOrdAt,ha] at g
      have ham:=List.mem_of_getElem? ha
      have hbm:=List.mem_of_getElem? hb
      exact (ord_ahead2 (hty a ham) (hty b hbm) (hid a ham) (hid b hbm)).1 g
  refine ⟨hall,hty,hid,fun i j a b hij ha hb=>?_⟩
  obtain ⟨d,rfl⟩:∃ d,j=i+1+d:=⟨j - i - 1,by omega⟩
  clear hij
  induction d generalizing b with
  | zero=>exact hstep i a b ha hb
  | succ d ih =>
    obtain ⟨c,hc⟩:∃ c,s.things[i+1+d]? = some c:=⟨_,List.getElem?_eq_getElem (by have:=(List.getElem?_eq_some_iff.1 hb).1; omega)⟩
    exact ahead_trans (ih c hc) (hstep _ c b hc (by rw [show i+1+d+1=i+1+(d+1) by omega]; exact hb))
theorem findJ_lt {α : Type} (p:α→Bool):∀ (l:List α) (i:Nat),-1≤findJ p l i∧findJ p l i<(i+l.length:Nat) ∨findJ p l i=-1
  | [],i=>.inr rfl
  | x::l,i=>by
    simp only [findJ]
    split
    · exact .inl ⟨by omega,by simp; omega⟩
    · rcases findJ_lt p l (i+1) with h | h
      · exact .inl ⟨h.1,by have:=h.2; simp at this ⊢; omega⟩
      · exact .inr h
theorem kindOf_lt {l:List Ty} (hS:SchOk l) (n:List UInt8):-1≤kindOf l n∧kindOf l n≤1000:=by
  have:=hS.len
  rcases findJ_lt (fun t:Ty=>t.name == n) l 0 with h | h
  · unfold kindOf; omega
  · unfold kindOf; omega
theorem isThere_eq {s:Sta} (hS:SchOk s.types) (hl:Srt s.things) {f:Fd} {x:Int} (hx:I64 x):isThere s f x=decide (0≤tgAt s.things (kindOf s.types f.of) x):=by
  unfold isThere tgAt
  rw [hl.findB (kindOf_lt hS _) hx,findJ_any]
end Go.Am
namespace Go.Am
set_option linter.all false
open Go Go.RowKit Go.Proofs
set_option maxRecDepth 100000
set_option linter.all false
theorem isAhead_ok (ta ia tb ib:Int) (x y:AV) (id:Nat):FnOk Try.prog 101 [.agg [.int .i64 ta,.int .i64 ia,x],.agg [.int .i64 tb,.int .i64 ib,y]] [] id (.bool (aheadB ta ia tb ib)) []:=by
  refine fn_okc Try.func101 hcc101 (by decide) hcr101 (by simp [Try.ntmps101]) fun E hP hR hl hid=>?_
  simp only [cr101] at hR
  refine w_go 4000 ?_
  simp [cc101]
  (repeat (refine And.intro (by first | assumption | omega | (simp; omega) | (simp_all; done)) ?_))
  rw [hR]; exact rt_end (by simp <;> rfl) [] trivial (end_pure (by simp; unfold aheadB; rw [Bool.eq_iff_iff]; simp) (by simp) (by simp))
set_option maxHeartbeats 1000000 in
theorem ThingAt_ok (s:Sta) (kind tid:Int) (id:Nat) (hl8:s.things.length≤1000000):FnOk Try.prog 54 [eSta s,.int .i64 kind,.int .i64 tid] [] id (.int .i64 (tgAt s.things kind tid)) []:=by
  unfold eSta
  refine fn_okc Try.func54 hcc54 (by decide) hcr54 (by simp [Try.ntmps54]) fun E hP hR hl hid=>?_
  simp only [cr54] at hR
  refine w_go 4000 ?_
  simp [cc54]
  refine w_loop (X:=Nat) (fun i=>⟨[(1,true,.int .i64 kind),(2,true,.int .i64 tid),(3,true,.ptr E.n0 0 0),(7,true,.int .i64 i)],[(E.n0,some ⟨[.agg [.sl (s.types.map eTy),.sl (s.things.map eTg)]],.agg [.sl (s.types.map eTy),.sl (s.things.map eTg)],false,false⟩)],1⟩) (fun i=>i≤s.things.length∧findJ (isTg kind tid) (s.things.drop i) i=tgAt s.things kind tid) (fun i=>s.things.length - i) 0 ?_ ⟨by omega,rfl⟩ ?_
  · have hrn:rnOk [(E.n0,E.n0)]:=by simp
    refine Conv.sub [(E.n0,E.n0)] hrn ?_ ?_ ?_ ?_ ?_ <;> (try simp)
  · rintro i ⟨hi,hf⟩ p hp
    refine w_go 4000 ?_
    simp
    refine goc (fun h=>?_) (fun h=>?_)
    · have h:=of_decide_eq_true h
      obtain ⟨t,hx,hd⟩:=drop_cons h
      rw [hd] at hf
      simp only [findJ] at hf
      have hi1:IntKind.i64.wrap ((i:Int)+1)=((i+1:Nat):Int):=wrap64 (by omega)
      simp [hx,eTg_eq t]
      refine ⟨h,fun h0=>⟨h0,h⟩,?_⟩
      refine goc (fun h1=>?_) (fun h1=>?_) <;> simp
      · rw [if_pos (show isTg kind tid t=true from h1)] at hf
        rw [hR]; exact rt_end (by simp <;> rfl) [] trivial (end_pure (by simp; exact hf) (by simp) (by simp))
      · rw [if_neg (by unfold isTg; rw [h1]; simp)] at hf
        refine hp _ (i+1) ⟨h,hf⟩ (by omega) ?_
        have hrn:rnOk [(E.n0,E.n0)]:=by simp[hi1]
        refine Conv.sub [(E.n0,E.n0)] hrn ?_ ?_ ?_ ?_ ?_ <;> (try simp[hi1])
    · have h:=of_decide_eq_false h
      simp
      rw [List.drop_of_length_le (by omega)] at hf
      rw [hR]; exact rt_end (by simp <;> rfl) [] trivial (end_pure (by simp; exact hf) (by simp) (by simp))
set_option maxHeartbeats 2000000 in
theorem CheckState_ok (s:Sta) (id:Nat) (hI:∀ t∈s.things,∀ c∈t.cells,∀ x∈c.ids,I64 x):FnOk Try.prog 46 [eSta s] [] id (.int .i64 (fSt s)) []:=by
  unfold eSta
  refine fn_okc Try.func46 hcc46 (by decide) hcr46 (by simp [Try.ntmps46]) fun E hP hR hl hid=>?_
  simp only [cr46] at hR
  refine w_go 4000 ?_
  simp [cc46]
  (refine w_call hP rfl (CheckSchema_ok _ _) (by simp) (by simp <;> rfl) ?_; refine w_go 4000 ?_; simp)
  refine goc (fun h=>?_) (fun h=>?_) <;> simp
  · rw [hR]; exact rt_end (by simp <;> rfl) [] trivial (end_pure (by simp; simp at h; unfold fSt; rw [if_pos h]) (by simp) (by simp))
  have h1:fCheckT s.types=0:=by simpa using h
  refine goc (fun h=>?_) (fun h=>?_) <;> simp
  · rw [hR]; exact rt_end (by simp <;> rfl) [] trivial (end_pure (by simp; simp at h; unfold fSt; rw [if_neg (by omega),if_pos (by omega)]) (by simp) (by simp))
  have h2:¬ 12<s.things.length:=by simp at h; omega
  have hS:=schOk h1
  have hft:fSt s=if firstIx (fun i t=>fTh1 s i t) s.things 0≠0 then firstIx (fun i t=>fTh1 s i t) s.things 0
      else if eachB (fun f c=>!c.ids.any fun x=>!isThere s f x) s.types s.things=true then 0 else 5:=by unfold fSt; rw [if_neg (by omega),if_neg h2]
  refine w_loop (X:=Nat) (fun i=>⟨[(1,true,.ptr E.n0 0 0),(4,true,.int .i64 i)],[(E.n0,some ⟨[.agg [.sl (s.types.map eTy),.sl (s.things.map eTg)]],.agg [.sl (s.types.map eTy),.sl (s.things.map eTg)],false,false⟩)],1⟩) (fun i=>i≤s.things.length∧firstIx (fun i t=>fTh1 s i t) (s.things.drop i) i=firstIx (fun i t=>fTh1 s i t) s.things 0∧∀ m t,m<i→s.things[m]? = some t→fThing s.types t=0) (fun i=>s.things.length - i) 0 ?_ ⟨by omega,rfl,fun m t hm=>by omega⟩ ?_
  · have hrn:rnOk [(E.n0,E.n0)]:=by simp
    refine Conv.sub [(E.n0,E.n0)] hrn ?_ ?_ ?_ ?_ ?_ <;> (try simp)
  · rintro i ⟨hi,hf,hpr⟩ p hp
    refine w_go 4000 ?_
    simp
    refine goc (fun h=>?_) (fun h=>?_)
    · have h:=of_decide_eq_true h
      obtain ⟨t,hx,hd⟩:=drop_cons h
      rw [hd] at hf
      simp only [firstIx] at hf
      have hi1:IntKind.i64.wrap ((i:Int)+1)=((i+1:Nat):Int):=wrap64 (by omega)
      have hbad:fThing s.types t≠0→fSt s=fThing s.types t:=fun h0=>by
        have e:fTh1 s i t=fThing s.types t:=by unfold fTh1; rw [if_pos h0]
        rw [e,if_pos h0] at hf
        rw [hft,← hf,if_pos h0]
      simp [hx,eTg_eq t]
      refine ⟨h,?_⟩
      (repeat (refine And.intro (by first | assumption | omega | (simp; omega) | (simp_all; done)) ?_))
      refine goc (fun h=>?_) (fun h=>?_) <;> simp
      · rw [hR]; exact rt_end (by simp <;> rfl) [] trivial (end_pure (by simp; simp at h; rw [hbad] <;> (unfold fThing; rw [if_pos (by omega)]); omega) (by simp) (by simp))
      have g1:¬ ¬ (0≤t.type∧t.type<s.types.length):=by simp at h; omega
      (refine w_call hP rfl (between_ok _ _ _ _) (by simp) (by simp <;> rfl) ?_; refine w_go 4000 ?_; simp)
      refine goc (fun h=>?_) (fun h=>?_) <;> simp
      · rw [hR]; exact rt_end (by simp <;> rfl) [] trivial (end_pure (by simp; simp at h; rw [hbad] <;> (unfold fThing; rw [if_neg g1,if_pos (by omega)]); omega) (by simp) (by simp))
      have g2:¬ ¬ (1≤t.id∧t.id≤999):=by simp at h; omega
      obtain ⟨ty,hty⟩:∃ ty,s.types[t.type.toNat]? = some ty:=⟨_,List.getElem?_eq_getElem (by omega)⟩
      have hfl:fldsAt s.types t.type=ty.fields:=by simp [fldsAt,hty]
      have hr1:0≤t.type:=by omega
      have hr2:t.type.toNat<s.types.length:=by omega
      simp [hty,eTy]
      refine ⟨⟨hr1,hr2⟩,?_⟩
      refine goc (fun h=>?_) (fun h=>?_) <;> simp
      · rw [hR]; exact rt_end (by simp <;> rfl) [] trivial (end_pure (by simp; simp at h; rw [hbad] <;> (unfold fThing; rw [if_neg g1,if_neg g2,hfl,if_pos (by omega)]); omega) (by simp) (by simp))
      have g3:t.cells.length=ty.fields.length:=by simp at h; omega
      have hth:fThing s.types t=firstIx (fun k c=>cellAt ty.fields k c) t.cells 0:=by unfold fThing; rw [if_neg g1,if_neg g2,hfl,if_neg (by omega)]
      have h6:=hS.fields ty (List.mem_of_getElem? hty)
      refine w_loop (X:=Nat) (fun k=>⟨[(1,true,.ptr E.n0 0 0),(4,true,.int .i64 i),(5,true,.ptr (E.n0+1) 0 0),(6,true,.sl (ty.fields.map eFd)),(7,true,.int .i64 k)],[(E.n0,some ⟨[.agg [.sl (s.types.map eTy),.sl (s.things.map eTg)]],.agg [.sl (s.types.map eTy),.sl (s.things.map eTg)],false,false⟩),(E.n0+1,some ⟨[.agg [.int .i64 t.type,.int .i64 t.id,.sl (t.cells.map eCl)]],.agg [.int .i64 0,.int .i64 0,.nils],false,false⟩)],2⟩) (fun k=>k≤t.cells.length∧firstIx (fun k c=>cellAt ty.fields k c) (t.cells.drop k) k=fThing s.types t) (fun k=>t.cells.length - k) 0 ?_ ⟨by omega,hth.symm⟩ ?_
      · have hrn:rnOk [(E.n0,E.n0),(E.n0+1,E.n0+10241)]:=by simp
        refine Conv.sub [(E.n0,E.n0),(E.n0+1,E.n0+10241)] hrn ?_ ?_ ?_ ?_ ?_ <;> (try simp)
      · rintro k ⟨hk,hf2⟩ p2 hp2
        refine w_go 4000 ?_
        simp
        refine goc (fun h=>?_) (fun h=>?_)
        · have h:=of_decide_eq_true h
          obtain ⟨c,hcx,hcd⟩:=drop_cons (l:=t.cells) (i:=k) (by omega)
          obtain ⟨f,hfx,hfd⟩:=drop_cons (l:=ty.fields) (i:=k) (by omega)
          have hi2:IntKind.i64.wrap ((k:Int)+1)=((k+1:Nat):Int):=wrap64 (by omega)
          rw [hcd,firstIx] at hf2
          have hca:cellAt ty.fields k c=fCell f c:=by simp only [cellAt,hfx]
          rw [hca] at hf2
          have hkd:=hS.kinds ty (List.mem_of_getElem? hty) f (List.mem_of_getElem? hfx)
          have hb2:fCell f c≠0→fSt s=fCell f c:=fun h0=>by
            rw [if_pos h0] at hf2
            rw [hbad (by omega),← hf2]
          simp [hcx,hfx,eCl_eq c,eFd]
          (repeat (refine And.intro (by first | assumption | omega | grind) ?_))
          refine goc (fun h=>?_) (fun h=>?_) <;> simp
          · have hb:fCell f c=1:=by simp at h; unfold fCell; rw [if_pos (by simp [isLink]; grind)]
            rw [hR]; exact rt_end (by simp <;> rfl) [] trivial (end_pure (by simp; rw [hb2 (by omega),hb]) (by simp) (by simp))
          have c1:¬ ((f.kind≠1∧c.n≠0)∨(f.kind≠2∧c.text≠[])∨(isLink f.kind=false∧c.ids≠[])):=by simp at h; simp [isLink]; grind
          (refine w_call hP rfl (rIsInt_ok _ _) (by simp) (by simp <;> rfl) ?_; refine w_go 4000 ?_; simp)
          refine goc (fun h=>?_) (fun h=>?_) <;> simp
          · have hb:fCell f c=3:=by simp at h; unfold fCell; rw [if_neg c1,if_pos (by omega)]
            rw [hR]; exact rt_end (by simp <;> rfl) [] trivial (end_pure (by simp; rw [hb2 (by omega),hb]) (by simp) (by simp))
          have c2:¬ ¬ (-999999999≤c.n∧c.n≤999999999):=by simp at h; omega
          (repeat (refine And.intro (by first | assumption | omega | grind) ?_))
          refine goc (fun h=>?_) (fun h=>?_) <;> simp
          · have hb:fCell f c=2:=by
              simp at h; unfold fCell; rw [if_neg c1,if_neg c2,if_pos]
              unfold mostI; split <;> omega
            rw [hR]; exact rt_end (by simp <;> rfl) [] trivial (end_pure (by simp; rw [hb2 (by omega),hb]) (by simp) (by simp))
          have c3:¬ (40<c.text.length∨mostI f.kind<c.ids.length):=by
            simp at h; unfold mostI; split <;> omega
          have c6:c.ids.length≤6:=by have:mostI f.kind≤6:=(by unfold mostI; split <;> omega); omega
          have hfc:fCell f c=if ascB c.ids=true then 0 else 4:=by unfold fCell; rw [if_neg c1,if_neg c2,if_neg c3]
          refine w_loop (X:=Nat) (fun m=>⟨[(1,true,.ptr E.n0 0 0),(4,true,.int .i64 i),(5,true,.ptr (E.n0+1) 0 0),(6,true,.sl (ty.fields.map eFd)),(7,true,.int .i64 k),(8,true,.ptr (E.n0+2) 0 0),(10,true,.int .i64 (m+1))],[(E.n0,some ⟨[.agg [.sl (s.types.map eTy),.sl (s.things.map eTg)]],.agg [.sl (s.types.map eTy),.sl (s.things.map eTg)],false,false⟩),(E.n0+1,some ⟨[.agg [.int .i64 t.type,.int .i64 t.id,.sl (t.cells.map eCl)]],.agg [.int .i64 0,.int .i64 0,.nils],false,false⟩),(E.n0+2,some ⟨[.agg [.int .i64 c.n,.str c.text,.sl (c.ids.map eI)]],.agg [.int .i64 0,.str [],.nils],false,false⟩)],3⟩) (fun m=>m≤c.ids.length∧ascB (c.ids.drop m)=ascB c.ids) (fun m=>c.ids.length - m) 0 ?_ ⟨by omega,rfl⟩ ?_
          · have hrn:rnOk [(E.n0,E.n0),(E.n0+1,E.n0+1),(E.n0+2,E.n0+14338)]:=by simp
            refine Conv.sub [(E.n0,E.n0),(E.n0+1,E.n0+1),(E.n0+2,E.n0+14338)] hrn ?_ ?_ ?_ ?_ ?_ <;> (try simp)
          · rintro m ⟨hm,ha⟩ p3 hp3
            have hw1:IntKind.i64.wrap (m:Int)=(m:Int):=wrap64 (by omega)
            have hw2:IntKind.i64.wrap ((m:Int)+1+1)=((m+1:Nat):Int)+1:=by rw [wrap64 (by omega)]; omega
            have hw3:(0:Int)≤(m:Int)+1:=by omega
            have hw4:((m:Int)+1).toNat=m+1:=by omega
            refine w_go 4000 ?_
            simp
            refine goc (fun h=>?_) (fun h=>?_)
            · have h:=of_decide_eq_true h
              obtain ⟨a,hya⟩:∃ a,c.ids[m]? = some a:=⟨_,List.getElem?_eq_getElem (by omega)⟩
              obtain ⟨b,hyb⟩:∃ b,c.ids[m+1]? = some b:=⟨_,List.getElem?_eq_getElem (by omega)⟩
              have hst:=ascB_step hya hyb
              simp [hw1,hw3,hw4,hya,hyb,eI]
              (repeat (refine And.intro (by first | assumption | omega) ?_))
              refine goc (fun h1=>?_) (fun h1=>?_) <;> simp
              · have hb:fCell f c=4:=by rw [hfc,if_neg]; simp at h1; rw [← ha,hst]; simp; intro h2; omega
                rw [hR]; exact rt_end (by simp <;> rfl) [] trivial (end_pure (by simp; rw [hb2 (by omega),hb]) (by simp) (by simp))
              · simp at h1
                rw [hst] at ha
                refine hp3 _ (m+1) ⟨by omega,by rw [← ha]; simp; intro _; exact h1⟩ (by omega) ?_
                have hrn:rnOk [(E.n0,E.n0),(E.n0+1,E.n0+1),(E.n0+2,E.n0+2)]:=by simp[hw2]
                refine Conv.sub [(E.n0,E.n0),(E.n0+1,E.n0+1),(E.n0+2,E.n0+2)] hrn ?_ ?_ ?_ ?_ ?_ <;> (try simp[hw2])
            · have h:=of_decide_eq_false h
              have hb:fCell f c=0:=by rw [hfc,if_pos]; rw [← ha]; exact ascB_end (by omega)
              rw [if_neg (by omega)] at hf2
              simp
              refine hp2 _ (k+1) ⟨by omega,hf2⟩ (by omega) ?_
              have hrn:rnOk [(E.n0,E.n0),(E.n0+1,E.n0+1)]:=by simp[hi2]
              refine Conv.sub [(E.n0,E.n0),(E.n0+1,E.n0+1)] hrn ?_ ?_ ?_ ?_ ?_ <;> (try simp[hi2])
        · have h:=of_decide_eq_false h
          rw [List.drop_of_length_le (l:=t.cells) (by omega)] at hf2
          have h0:fThing s.types t=0:=hf2.symm
          simp
          have htk:TgOk s t:=tgOk h0
          have hty5:=hS.len
          rcases Nat.eq_zero_or_pos i with hz | hz
          · subst hz
            have e:fTh1 s 0 t=0:=by unfold fTh1; rw [if_neg (by omega),if_neg (by omega)]
            rw [e,if_neg (by omega)] at hf
            simp
            refine w_split (.bool false) (by simp) (fun hg=>by simp at hg) (fun _=>?_)
            refine w_go 4000 ?_
            simp
            refine hp _ 1 ⟨by omega,hf,fun m u hm hu=>?_⟩ (by omega) ?_
            · obtain rfl:m=0:=by omega
              rw [hx] at hu; injection hu with hu; subst hu; exact h0
            have h01:IntKind.i64.wrap 1=1:=wrap64 (by omega)
            have hrn:rnOk [(E.n0,E.n0)]:=by simp[h01]
            refine Conv.sub [(E.n0,E.n0)] hrn ?_ ?_ ?_ ?_ ?_ <;> (try simp[h01])
          · obtain ⟨m,rfl⟩:∃ m,i=m+1:=⟨i - 1,by omega⟩
            obtain ⟨u,hu⟩:∃ u,s.things[m]? = some u:=⟨_,List.getElem?_eq_getElem (by omega)⟩
            have hwm:IntKind.i64.wrap (m:Int)=(m:Int):=wrap64 (by omega)
            have hmi:IntKind.i64.wrap ((m:Int)+1+1)=((m+1+1:Nat):Int):=by rw [wrap64 (by omega)]; omega
            have huk:TgOk s u:=tgOk (hpr m u (by omega) hu)
            have hoa:=ord_ahead (ta:=u.type) (ia:=u.id) (tb:=t.type) (ib:=t.id) ⟨huk.ty0,by have:=huk.ty1; omega⟩ ⟨htk.ty0,by have:=htk.ty1; omega⟩ ⟨huk.id1,huk.id2⟩ ⟨htk.id1,htk.id2⟩
            have e:fTh1 s (m+1) t=if 0≤ordI u.type u.id t.type t.id then 4 else 0:=by
              unfold fTh1
              rw [if_neg (by omega)]
              simp [fOrdAt,hu]
            have hlt:m<s.things.length:=by omega
            have hug:s.things[m]=u:=by rw [List.getElem?_eq_getElem hlt] at hu; injection hu
            rw [e] at hf
            simp [hwm,hug,eTg_eq u,hlt]
            refine w_split (.bool false) (by simp) (fun _=>?_) (fun hg=>by simp at hg)
            (refine w_call hP rfl (isAhead_ok _ _ _ _ _ _ _) (by simp) (by simp <;> rfl) ?_; refine w_go 4000 ?_; simp)
            refine goc (fun h3=>?_) (fun h3=>?_) <;> simp
            · have h3:0≤ordI u.type u.id t.type t.id:=by rw [hoa]; simpa using h3
              rw [if_pos h3,if_pos (by omega)] at hf
              rw [hR]; exact rt_end (by simp <;> rfl) [] trivial (end_pure (by simp; rw [hft,← hf,if_pos (by omega)]) (by simp) (by simp))
            · have h3:¬ 0≤ordI u.type u.id t.type t.id:=by rw [hoa]; simpa using h3
              rw [if_neg h3,if_neg (by omega)] at hf
              refine hp _ (m+1+1) ⟨by omega,hf,fun m' u' hm' hu'=>?_⟩ (by omega) ?_
              · rcases Nat.lt_or_ge m' (m+1) with hl' | hl'
                · exact hpr m' u' hl' hu'
                · obtain rfl:m'=m+1:=by omega
                  rw [hx] at hu'; injection hu' with hu'; subst hu'; exact h0
              have hrn:rnOk [(E.n0,E.n0)]:=by simp[hmi]
              refine Conv.sub [(E.n0,E.n0)] hrn ?_ ?_ ?_ ?_ ?_ <;> (try simp[hmi])
    · have h:=of_decide_eq_false h
      simp
      rw [List.drop_of_length_le (by omega)] at hf
      have hz:firstIx (fun i t=>fTh1 s i t) s.things 0=0:=by rw [← hf]; rfl
      obtain ⟨hall,hsrt⟩:=srt_of hS hz
      rw [hft,hz,if_neg (by omega)] at hR
      clear hp hf hpr
      refine w_loop (X:=Nat) (fun i=>⟨[(1,true,.ptr E.n0 0 0),(11,true,.int .i64 i)],[(E.n0,some ⟨[.agg [.sl (s.types.map eTy),.sl (s.things.map eTg)]],.agg [.sl (s.types.map eTy),.sl (s.things.map eTg)],false,false⟩)],1⟩) (fun i=>i≤s.things.length∧eachB (fun f c=>!c.ids.any fun x=>!isThere s f x) s.types (s.things.drop i)=eachB (fun f c=>!c.ids.any fun x=>!isThere s f x) s.types s.things) (fun i=>s.things.length - i) 0 ?_ ⟨by omega,rfl⟩ ?_
      · have hrn:rnOk [(E.n0,E.n0)]:=by simp
        refine Conv.sub [(E.n0,E.n0)] hrn ?_ ?_ ?_ ?_ ?_ <;> (try simp)
      · rintro i ⟨hi,hf⟩ p hp
        refine w_go 4000 ?_
        simp
        refine goc (fun h=>?_) (fun h=>?_)
        · have h:=of_decide_eq_true h
          obtain ⟨t,hx,hd⟩:=drop_cons h
          have hi1:IntKind.i64.wrap ((i:Int)+1)=((i+1:Nat):Int):=wrap64 (by omega)
          have htm:=List.mem_of_getElem? hx
          have htk:=hall t htm
          obtain ⟨ty,hty⟩:∃ ty,s.types[t.type.toNat]? = some ty:=⟨_,List.getElem?_eq_getElem htk.ty1⟩
          have hfl:fldsAt s.types t.type=ty.fields:=by simp [fldsAt,hty]
          have hlen:=htk.len
          have h6:=hS.fields ty (List.mem_of_getElem? hty)
          rw [hd,eachB,List.all_cons,hfl] at hf
          rw [hfl] at hlen
          simp [hx,eTg_eq t]
          refine ⟨h,?_⟩
          refine w_loop (X:=Nat) (fun k=>⟨[(1,true,.ptr E.n0 0 0),(11,true,.int .i64 i),(12,true,.ptr (E.n0+1) 0 0),(13,true,.int .i64 k)],[(E.n0,some ⟨[.agg [.sl (s.types.map eTy),.sl (s.things.map eTg)]],.agg [.sl (s.types.map eTy),.sl (s.things.map eTg)],false,false⟩),(E.n0+1,some ⟨[.agg [.int .i64 t.type,.int .i64 t.id,.sl (t.cells.map eCl)]],.agg [.int .i64 0,.int .i64 0,.nils],false,false⟩)],2⟩) (fun k=>k≤t.cells.length∧cellsB (fun f c=>!c.ids.any fun x=>!isThere s f x) (ty.fields.drop k) (t.cells.drop k)=cellsB (fun f c=>!c.ids.any fun x=>!isThere s f x) ty.fields t.cells) (fun k=>t.cells.length - k) 0 ?_ ⟨by omega,rfl⟩ ?_
          · have hrn:rnOk [(E.n0,E.n0),(E.n0+1,E.n0+10241)]:=by simp
            refine Conv.sub [(E.n0,E.n0),(E.n0+1,E.n0+10241)] hrn ?_ ?_ ?_ ?_ ?_ <;> (try simp)
          · rintro k ⟨hk,hf2⟩ p2 hp2
            refine w_go 4000 ?_
            simp
            refine goc (fun h=>?_) (fun h=>?_)
            · have h:=of_decide_eq_true h
              obtain ⟨c,hcx,hcd⟩:=drop_cons h
              obtain ⟨f,hfx,hfd⟩:=drop_cons (l:=ty.fields) (i:=k) (by omega)
              have hi2:IntKind.i64.wrap ((k:Int)+1)=((k+1:Nat):Int):=wrap64 (by omega)
              rw [hcd,hfd,cellsB] at hf2
              have hcm:=List.mem_of_getElem? hcx
              have hc6:c.ids.length≤6:=by
                obtain ⟨f',_,hco⟩:=htk.cellOk hcx
                exact hco.i1
              simp
              refine w_loop (X:=Nat) (fun m=>⟨[(1,true,.ptr E.n0 0 0),(11,true,.int .i64 i),(12,true,.ptr (E.n0+1) 0 0),(13,true,.int .i64 k),(14,true,.int .i64 m)],[(E.n0,some ⟨[.agg [.sl (s.types.map eTy),.sl (s.things.map eTg)]],.agg [.sl (s.types.map eTy),.sl (s.things.map eTg)],false,false⟩),(E.n0+1,some ⟨[.agg [.int .i64 t.type,.int .i64 t.id,.sl (t.cells.map eCl)]],.agg [.int .i64 0,.int .i64 0,.nils],false,false⟩)],2⟩) (fun m=>m≤c.ids.length∧((c.ids.drop m).any fun x=>!isThere s f x)=(c.ids.any fun x=>!isThere s f x)) (fun m=>c.ids.length - m) 0 ?_ ⟨by omega,rfl⟩ ?_
              · have hrn:rnOk [(E.n0,E.n0),(E.n0+1,E.n0+1)]:=by simp
                refine Conv.sub [(E.n0,E.n0),(E.n0+1,E.n0+1)] hrn ?_ ?_ ?_ ?_ ?_ <;> (try simp)
              · rintro m ⟨hm,ha⟩ p3 hp3
                refine w_go 4000 ?_
                simp [hcx,eCl_eq c]
                refine ⟨h,?_⟩
                refine goc (fun h'=>?_) (fun h'=>?_)
                · have h':=of_decide_eq_true h'
                  obtain ⟨y,hy,hyd⟩:=drop_cons h'
                  have hi3:IntKind.i64.wrap ((m:Int)+1)=((m+1:Nat):Int):=wrap64 (by omega)
                  have hte:=isThere_eq hS hsrt (f:=f) (hI t htm c hcm y (List.mem_of_getElem? hy))
                  have h5:=hS.len
                  have hTA:=fun id=>ThingAt_ok s (kindOf s.types f.of) y id (by omega)
                  unfold eSta at hTA
                  rw [hyd,List.any_cons] at ha
                  simp [hcx,eCl_eq c,hfx,hty,eTy,eFd,hy,eI]
                  refine ⟨⟨htk.ty0,htk.ty1⟩,by omega,?_⟩
                  (refine w_call hP rfl (TypeAt_ok s.types f.of _ (by omega)) (by simp [kindOf_eq,hcx,eCl_eq c,hy,eI]) (by simp [kindOf_eq,hcx,eCl_eq c,hy,eI] <;> rfl) ?_; refine w_go 4000 ?_; simp [kindOf_eq,hcx,eCl_eq c,hy,eI])
                  refine ⟨h,h',?_⟩
                  (refine w_call hP rfl (hTA _) (by simp) (by simp <;> rfl) ?_; refine w_go 4000 ?_; simp)
                  refine goc (fun h1=>?_) (fun h1=>?_) <;> simp
                  · simp at h1
                    rw [hte,decide_eq_false (by omega)] at ha
                    simp only [Bool.not_false,Bool.true_or] at ha
                    rw [← ha] at hf2
                    simp at hf2
                    rw [hf2,Bool.false_and] at hf
                    rw [hR]; exact rt_end (by simp <;> rfl) [] trivial (end_pure (by simp; rw [← hf]) (by simp) (by simp))
                  · simp at h1
                    rw [hte,decide_eq_true (by omega)] at ha
                    simp only [Bool.not_true,Bool.false_or] at ha
                    refine hp3 _ (m+1) ⟨h',ha⟩ (by omega) ?_
                    have hrn:rnOk [(E.n0,E.n0),(E.n0+1,E.n0+1)]:=by simp[hi3]
                    refine Conv.sub [(E.n0,E.n0),(E.n0+1,E.n0+1)] hrn ?_ ?_ ?_ ?_ ?_ <;> (try simp[hi3])
                · have h':=of_decide_eq_false h'
                  rw [List.drop_of_length_le (l:=c.ids) (by omega)] at ha
                  have ha:(c.ids.any fun x=>!isThere s f x)=false:=by rw [← ha]; rfl
                  rw [ha] at hf2
                  simp at hf2
                  simp
                  refine hp2 _ (k+1) ⟨by omega,hf2⟩ (by omega) ?_
                  have hrn:rnOk [(E.n0,E.n0),(E.n0+1,E.n0+1)]:=by simp[hi2]
                  refine Conv.sub [(E.n0,E.n0),(E.n0+1,E.n0+1)] hrn ?_ ?_ ?_ ?_ ?_ <;> (try simp[hi2])
            · have h:=of_decide_eq_false h
              rw [List.drop_of_length_le (l:=t.cells) (by omega)] at hf2
              have hb:cellsB (fun f c=>!c.ids.any fun x=>!isThere s f x) ty.fields t.cells=true:=by rw [← hf2]; cases ty.fields.drop k <;> rfl
              rw [hb,Bool.true_and] at hf
              simp
              refine hp _ (i+1) ⟨by omega,hf⟩ (by omega) ?_
              have hrn:rnOk [(E.n0,E.n0)]:=by simp[hi1]
              refine Conv.sub [(E.n0,E.n0)] hrn ?_ ?_ ?_ ?_ ?_ <;> (try simp[hi1])
        · have h:=of_decide_eq_false h
          simp
          rw [List.drop_of_length_le (by omega)] at hf
          have:eachB (fun f c=>!c.ids.any fun x=>!isThere s f x) s.types s.things=true:=by rw [← hf]; rfl
          rw [hR]; exact rt_end (by simp <;> rfl) [] trivial (end_pure (by simp; rw [this]) (by simp) (by simp))
end Go.Am
