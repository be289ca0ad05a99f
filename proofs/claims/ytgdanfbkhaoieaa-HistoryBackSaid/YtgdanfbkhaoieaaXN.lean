/- Parts of the proof: an abstract machine for Go functions, and what functions of the program give back (Fs, Fu). No condition. -/
import Derived.Test.YtgdanfbkhaoieaaXG
import Derived.Test.YtgdanfbkhaoieaaXX
import Derived.Test.YtgdanfbkhaoieaaRows
namespace Go.Proofs.Ytgdanfbkhaoieaa
open Go Go.RowKit Go.Am
set_option maxRecDepth 100000
theorem exists_mapP {α : Type} {f:α→AV} {p:α→Prop}:∀ {xs:List AV},(∀ y∈xs,∃ a,y=f a∧p a)→∃ l:List α,xs=l.map f∧∀ a∈l,p a
  | [],_=>⟨[],rfl,fun a h=>by cases h⟩
  | y::r,h=>by
    obtain ⟨a,rfl,ha⟩:=h y (by simp)
    obtain ⟨l,rfl,hl⟩:=exists_mapP (xs:=r) fun z hz=>h z (by simp [hz])
    exact ⟨a::l,rfl,fun b hb=>by
      rcases List.mem_cons.1 hb with rfl | hb
      · exact ha
      · exact hl b hb⟩
theorem fits_i64 {n:Nat} {x:AV} (h:Fits Try.prog n 3 x):∃ m,x=.int .i64 m∧I64 m:=by
  obtain ⟨m,rfl,hw⟩:=fits_int Try.underlying3 h
  exact ⟨m,rfl,i64_of_wf hw⟩
theorem fits_evI {n:Nat} {x:AV} (h:Fits Try.prog n 69 x):∃ e:Ev,x=eEv e∧I64 e.type∧I64 e.id∧I64 e.n:=by
  obtain ⟨m,ys,rfl,rfl,h0⟩:=fits_st Try.underlying69 h
  obtain ⟨a,ys,rfl,ha,h0⟩:=fitsL_cons h0
  obtain ⟨b,ys,rfl,hb,h0⟩:=fitsL_cons h0
  obtain ⟨c,ys,rfl,hc,h0⟩:=fitsL_cons h0
  obtain ⟨d,ys,rfl,hd,h0⟩:=fitsL_cons h0
  obtain ⟨e,ys,rfl,he,h0⟩:=fitsL_cons h0
  obtain ⟨f,ys,rfl,hf,h0⟩:=fitsL_cons h0
  obtain rfl:=fitsL_nil h0
  obtain ⟨a,rfl,_⟩:=fits_i64 ha
  obtain ⟨b,rfl,h1⟩:=fits_i64 hb
  obtain ⟨c,rfl,h2⟩:=fits_i64 hc
  obtain ⟨d,rfl,_⟩:=fits_i64 hd
  obtain ⟨e,rfl,h3⟩:=fits_i64 he
  obtain ⟨f,rfl,_⟩:=fits_str Try.underlying9 hf
  exact ⟨⟨a,b,c,d,e,f⟩,rfl,h1,h2,h3⟩
theorem fits_fd {n:Nat} {x:AV} (h:Fits Try.prog n 138 x):∃ f:Am.Fd,x=eFd f:=by
  obtain ⟨m,ys,rfl,rfl,h0⟩:=fits_st Try.underlying138 h
  obtain ⟨a,ys,rfl,ha,h0⟩:=fitsL_cons h0
  obtain ⟨b,ys,rfl,hb,h0⟩:=fitsL_cons h0
  obtain ⟨c,ys,rfl,hc,h0⟩:=fitsL_cons h0
  obtain rfl:=fitsL_nil h0
  obtain ⟨a,rfl,_⟩:=fits_str Try.underlying9 ha
  obtain ⟨b,rfl,_⟩:=fits_int Try.underlying3 hb
  obtain ⟨c,rfl,_⟩:=fits_str Try.underlying9 hc
  exact ⟨⟨a,b,c⟩,rfl⟩
theorem fits_ty {n:Nat} {x:AV} (h:Fits Try.prog n 134 x):∃ t:Am.Ty,x=eTy t:=by
  obtain ⟨m,ys,rfl,rfl,h0⟩:=fits_st Try.underlying134 h
  obtain ⟨a,ys,rfl,ha,h0⟩:=fitsL_cons h0
  obtain ⟨b,ys,rfl,hb,h0⟩:=fitsL_cons h0
  obtain rfl:=fitsL_nil h0
  obtain ⟨a,rfl,_⟩:=fits_str Try.underlying9 ha
  obtain ⟨k,xs,rfl,rfl,hl,hx⟩:=fits_sl Try.underlying132 hb
  obtain ⟨l,rfl⟩:=exists_map fun y hy=>fits_fd (hx y hy)
  exact ⟨⟨a,l⟩,rfl⟩
theorem fits_tys {n:Nat} {x:AV} (h:Fits Try.prog n 37 x):∃ l:List Am.Ty,x=.sl (l.map eTy):=by
  obtain ⟨k,xs,rfl,rfl,hl,hx⟩:=fits_sl Try.underlying37 h
  obtain ⟨l,rfl⟩:=exists_map fun y hy=>fits_ty (hx y hy)
  exact ⟨l,rfl⟩
theorem fits_cl {n:Nat} {x:AV} (h:Fits Try.prog n 136 x):∃ c:Cl,x=eCl c∧∀ y∈c.ids,I64 y:=by
  obtain ⟨m,ys,rfl,rfl,h0⟩:=fits_st Try.underlying136 h
  obtain ⟨a,ys,rfl,ha,h0⟩:=fitsL_cons h0
  obtain ⟨b,ys,rfl,hb,h0⟩:=fitsL_cons h0
  obtain ⟨c,ys,rfl,hc,h0⟩:=fitsL_cons h0
  obtain rfl:=fitsL_nil h0
  obtain ⟨a,rfl,_⟩:=fits_i64 ha
  obtain ⟨b,rfl,_⟩:=fits_str Try.underlying9 hb
  obtain ⟨k,xs,rfl,rfl,hl,hx⟩:=fits_sl Try.underlying127 hc
  obtain ⟨l,rfl,hp⟩:=exists_mapP (f:=eI) (p:=I64) fun y hy=>fits_i64 (hx y hy)
  exact ⟨⟨a,b,l⟩,rfl,hp⟩
theorem fits_tg {n:Nat} {x:AV} (h:Fits Try.prog n 81 x):∃ t:Tg,x=eTg t∧∀ c∈t.cells,∀ y∈c.ids,I64 y:=by
  obtain ⟨m,ys,rfl,rfl,h0⟩:=fits_st Try.underlying81 h
  obtain ⟨a,ys,rfl,ha,h0⟩:=fitsL_cons h0
  obtain ⟨b,ys,rfl,hb,h0⟩:=fitsL_cons h0
  obtain ⟨c,ys,rfl,hc,h0⟩:=fitsL_cons h0
  obtain rfl:=fitsL_nil h0
  obtain ⟨a,rfl,_⟩:=fits_i64 ha
  obtain ⟨b,rfl,_⟩:=fits_i64 hb
  obtain ⟨k,xs,rfl,rfl,hl,hx⟩:=fits_sl Try.underlying79 hc
  obtain ⟨l,rfl,hp⟩:=exists_mapP fun y hy=>fits_cl (hx y hy)
  exact ⟨⟨a,b,l⟩,rfl,hp⟩
theorem fits_sta {n:Nat} {x:AV} (h:Fits Try.prog n 67 x):∃ s:Sta,x=eSta s∧IdsI s:=by
  obtain ⟨m,ys,rfl,rfl,h0⟩:=fits_st Try.underlying67 h
  obtain ⟨a,ys,rfl,ha,h0⟩:=fitsL_cons h0
  obtain ⟨b,ys,rfl,hb,h0⟩:=fitsL_cons h0
  obtain rfl:=fitsL_nil h0
  obtain ⟨l,rfl⟩:=fits_tys ha
  obtain ⟨k,xs,rfl,rfl,hl,hx⟩:=fits_sl Try.underlying65 hb
  obtain ⟨ts,rfl,hp⟩:=exists_mapP fun y hy=>fits_tg (hx y hy)
  exact ⟨⟨l,ts⟩,rfl,hp⟩
end Go.Proofs.Ytgdanfbkhaoieaa
namespace Go.Proofs.Ytgdanfbkhaoieaa
open Go Go.RowKit Go.Am
set_option maxRecDepth 100000
theorem fits_evs {n:Nat} {x:AV} (h:Fits Try.prog n 22 x):∃ l:List Ev,x=.sl (l.map eEv)∧(∀ e∈l,I64 e.n)∧l.length≤140737488355328:=by
  obtain ⟨k,xs,rfl,rfl,hl,hx⟩:=fits_sl Try.underlying22 h
  obtain ⟨ts,rfl,hp⟩:=exists_mapP (f:=eEv) (p:=fun e=>I64 e.n) fun y hy=>by
    obtain ⟨e,rfl,_,_,h3⟩:=fits_evI (hx y hy)
    exact ⟨e,rfl,h3⟩
  have hr:reachBytes≤140737488355328:=by decide
  exact ⟨ts,rfl,hp,by simp at hl; omega⟩
theorem bulk_pos {H:Type} (d:DataW H):1≤Rows.uptoBulk d:=by
  cases d with
  | lit x=>cases x <;> simp [Rows.uptoBulk]
  | _=>simp [Rows.uptoBulk]
theorem bulk_len {H:Type}:∀ l:List (DataW H),l.length≤Rows.uptoBulkAll l
  | []=>by simp
  | d::r=>by
    have:=bulk_pos d
    have:=bulk_len r
    simp only [List.length_cons,Rows.uptoBulkAll]
    omega
theorem bulk_mem {H:Type} {ds:List (DataW H)} {d:DataW H} (hd:d∈ds):Rows.uptoBulk d≤Rows.uptoBulkAll ds:=by
  induction ds with
  | nil=>cases hd
  | cons x r ih =>
    simp only [Rows.uptoBulkAll]
    rcases List.mem_cons.1 hd with e | h
    · subst e; omega
    · have:=ih h; omega
theorem len_le {H:Type} {ds:List (DataW H)} {d:DataW H} {xs:List AV} (hd:d∈ds) (he:avOf d=.sl xs) (hk:Rows.uptoBulkAll ds≤1048576):xs.length≤1048576:=by
  have h2:=bulk_mem hd
  cases d with
  | nil=>simp only [avOf,AV.sl.injEq] at he; subst he; simp
  | slice es sp =>
    simp only [avOf,AV.sl.injEq] at he
    subst he
    have h3:=bulk_len es
    have h4:Rows.uptoBulk (DataW.slice es sp)=Rows.uptoBulkAll es+Rows.uptoBulkAll sp+1:=by simp [Rows.uptoBulk]
    rw [avAll_map,List.length_map]
    omega
  | lit x=>cases x <;> simp [avOf] at he
  | _=>simp [avOf] at he
end Go.Proofs.Ytgdanfbkhaoieaa
