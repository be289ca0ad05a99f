/- Parts of the proof: an abstract machine for Go functions, and what functions of the program give back (Ow1, Ow2, Ow3). No condition. -/
import Derived.Test.YtblnaikecokobaaGreatXJ
import Derived.Test.YtblnaikecokobaaGreatXD
namespace Go.Am
set_option linter.all false
open Go Go.RowKit Go.Proofs
set_option maxRecDepth 100000
set_option linter.all false
theorem CloneFd_ok(l:List Fd)(id:Nat)(hl8:l.length≤1000000):FnOk Tryz.prog 93 [.sl (l.map eFd)] [] id (.bsl id 0 l.length) [(id,some ⟨l.map eFd,.agg [.str [],.int .i64 0,.str []],false,false⟩)]:=by
 refine fn_okc Tryz.func93 hcc93 (by decide) hcr93 (by simp[Tryz.ntmps93]) fun E hP hR hl hid=>?_
 simp only[cr93] at hR
 refine w_go 9 ?_
 simp[cc93]
 refine w_nil (s:=0) (d:=3) (e:=4) (xs:=l.map eFd) (by simp) (by decide) (fun hx=>?_) ?_
 ·refine w_go 10 ?_
  simp
  have hx:l=[]:=by simpa using hx
  subst hx
  refine w_conv (Conv.voidSlot 2 (x:=.nils) (y:=.bsl (E.n0+4096) 0 0) (by simp) .nils (.agg [.str [],.int .i64 0,.str []])) ?_
  refine w_go 4000 ?_
  simp
  have hrn:rnOk [(id,E.n0+4096)]:=by simp[idO hid]
  rw[hR]
  refine rt_end (by simp<;>rfl) [(id,E.n0+4096)] hrn ⟨?_,?_,?_,?_,?_,?_⟩<;>(try simp[idO hid])
 ·refine w_go 4000 ?_
  simp
  refine⟨⟨fun a _=>by simp[eFd],by omega,by omega⟩,?_⟩
  have hrn:rnOk [(id,E.n0+5120)]:=by simp[idO hid]
  rw[hR]
  refine rt_end (by simp<;>rfl) [(id,E.n0+5120)] hrn ⟨?_,?_,?_,?_,?_,?_⟩<;>(try simp[idO hid])
theorem CloneInt_ok(l:List Int)(id:Nat)(hl8:l.length≤1000000):FnOk Tryz.prog 72 [.sl (l.map eI)] [] id (.bsl id 0 l.length) [(id,some ⟨l.map eI,.int .i64 0,false,false⟩)]:=by
 refine fn_okc Tryz.func72 hcc72 (by decide) hcr72 (by simp[Tryz.ntmps72]) fun E hP hR hl hid=>?_
 simp only[cr72] at hR
 refine w_go 9 ?_
 simp[cc72]
 refine w_nil (s:=0) (d:=3) (e:=4) (xs:=l.map eI) (by simp) (by decide) (fun hx=>?_) ?_
 ·refine w_go 10 ?_
  simp
  have hx:l=[]:=by simpa using hx
  subst hx
  refine w_conv (Conv.voidSlot 2 (x:=.nils) (y:=.bsl (E.n0+4096) 0 0) (by simp) .nils (.int .i64 0)) ?_
  refine w_go 4000 ?_
  simp
  have hrn:rnOk [(id,E.n0+4096)]:=by simp[idO hid]
  rw[hR]
  refine rt_end (by simp<;>rfl) [(id,E.n0+4096)] hrn ⟨?_,?_,?_,?_,?_,?_⟩<;>(try simp[idO hid])
 ·refine w_go 4000 ?_
  simp
  refine⟨⟨fun a _=>by simp[eI],by omega,by omega⟩,?_⟩
  have hrn:rnOk [(id,E.n0+5120)]:=by simp[idO hid]
  rw[hR]
  refine rt_end (by simp<;>rfl) [(id,E.n0+5120)] hrn ⟨?_,?_,?_,?_,?_,?_⟩<;>(try simp[idO hid])
set_option maxHeartbeats 1000000 in
theorem schOwn_ok(l:List Ty)(id:Nat)(hl8:l.length≤1000)(hf8:∀t∈l,t.fields.length≤1000):FnOk Tryz.prog 67 [.sl (l.map eTy)] [] id (.sl (l.map eTy)) []:=by
 refine fn_okc Tryz.func67 hcc67 (by decide) hcr67 (by simp[Tryz.ntmps67]) fun E hP hR hl hid=>?_
 simp only[cr67] at hR
 refine w_go 4000 ?_
 simp[cc67]
 refine w_loop (X:=Nat) (fun i=>⟨[(3,true,.bsl E.n0 0 i),(6,true,.sl (l.map eTy)),(7,true,.int .i64 l.length),(8,true,.int .i64 i)],[(E.n0,some ⟨(l.map eTy).take i,.agg [.str [],.nils],false,false⟩)],1⟩) (fun i=>i≤l.length) (fun i=>l.length - i) 0 ?_ (by omega) ?_
 ·refine Conv.trans (Conv.voidSlot 3 (x:=.nils) (y:=.bsl (E.n0+5120) 0 0) (by simp) .nils (.agg [.str [],.nils])) ?_
  have hrn:rnOk [(E.n0,E.n0+5120)]:=by simp
  refine Conv.sub [(E.n0,E.n0+5120)] hrn ?_ ?_ ?_ ?_ ?_<;>(try simp)
 ·rintro i hi p hp
  refine w_go 4000 ?_
  simp
  refine goc (fun h=>?_) (fun h=>?_)
  ·have h:=of_decide_eq_true h
   obtain⟨x,hx,hd⟩:=drop_cons h
   have hi1:IntKind.i64.wrap ((i:Int)+1)=((i+1:Nat):Int):=wrap64 (by omega)
   have hx6:=hf8 x (List.mem_of_getElem? hx)
   have htk:(l.map eTy).take (i+1)=(l.map eTy).take i++[.agg [.str x.name,.sl (x.fields.map eFd)]]:=by rw[List.take_succ,List.getElem?_map,hx]; rfl
   simp[hx,eTy]
   refine⟨h,?_⟩
   (refine w_call hP rfl (CloneFd_ok x.fields _ (by omega)) (by simp) (by simp<;>rfl) ?_; refine w_go 4000 ?_; simp)
   refine⟨⟨by omega,by omega,by omega⟩,?_⟩
   refine hp _ (i+1) (by omega) (by omega) ?_
   have hrn:rnOk [(E.n0,E.n0+13313)]:=by simp[hi1,htk]
   refine Conv.sub [(E.n0,E.n0+13313)] hrn ?_ ?_ ?_ ?_ ?_<;>(try simp[hi1,htk])
   all_goals exact renL_pure rfl (by rw[←List.map_take]; exact pureL_append (pure_tys _) (by simp))
  ·have h:=of_decide_eq_false h
   simp
   have:l.take i=l:=List.take_of_length_le (by omega)
   have hil:i=l.length:=by omega
   subst hil
   have hrn:rnOk []:=by simp[idO hid]
   rw[hR]
   refine rt_endR (by simp<;>rfl) (by simp[idO hid]<;>exact⟨rfl,rfl⟩) [] hrn ⟨?_,?_,?_,?_,?_,?_⟩<;>(try simp[idO hid])
end Go.Am
namespace Go.Am
set_option linter.all false
open Go Go.RowKit Go.Proofs
set_option maxRecDepth 100000
set_option linter.all false
def zC:AV:=.agg [.int .i64 0,.str [],.nils]
def zT:AV:=.agg [.int .i64 0,.int .i64 0,.nils]
def eCo(t q k:Nat)(c:Cl):AV:=.agg [.int .i64 c.n,.str c.text,.bsl (t+16+16*q+k) 0 c.ids.length]
def eCosU(t q:Nat)(l:List Cl):Nat→List AV
 | 0=>[]
 | k+1=>match l[k]? with
  | some c=>eCosU t q l k++[eCo t q k c]
  | none=>eCosU t q l k
def eTo(t q:Nat)(x:Tg):AV:=.agg [.int .i64 x.type,.int .i64 x.id,.bsl (t+1+q) 0 x.cells.length]
def eTosU(t:Nat)(l:List Tg):Nat→List AV
 | 0=>[]
 | i+1=>match l[i]? with
  | some x=>eTosU t l i++[eTo t i x]
  | none=>eTosU t l i
def iBx(c:Cl):Bx:=⟨c.ids.map eI,.int .i64 0,false,false⟩
def cBx(t q:Nat)(x:Tg):Bx:=⟨eCosU t q x.cells x.cells.length,zC,false,false⟩
def idsU(t q:Nat)(l:List Cl):Nat→List (Nat×Option Bx)
 | 0=>[]
 | k+1=>match l[k]? with
  | some c=>(t+16+16*q+k,some (iBx c))::idsU t q l k
  | none=>idsU t q l k
def restU(t:Nat)(l:List Tg):Nat→List (Nat×Option Bx)
 | 0=>[]
 | i+1=>match l[i]? with
  | some x=>(t+1+i,some (cBx t i x))::(idsU t i x.cells x.cells.length++restU t l i)
  | none=>restU t l i
theorem eCosU_len(t q:Nat)(l:List Cl):∀k,k≤l.length→(eCosU t q l k).length=k
 | 0,_=>rfl
 | k+1,h=>by
  rw[eCosU,List.getElem?_eq_getElem (by omega)]
  simp[eCosU_len t q l k (by omega)]
theorem eTosU_len(t:Nat)(l:List Tg):∀k,k≤l.length→(eTosU t l k).length=k
 | 0,_=>rfl
 | k+1,h=>by
  rw[eTosU,List.getElem?_eq_getElem (by omega)]
  simp[eTosU_len t l k (by omega)]
theorem idsU_mem{t q:Nat}{l:List Cl}:∀{k:Nat} {y:Nat} {b:Option Bx},(y,b)∈idsU t q l k→∃m c,m<k∧l[m]?=some c∧y=t+16+16*q+m∧b=some (iBx c)
 | 0,y,b,h=>by cases h
 | k+1,y,b,h=>by
  rw[idsU] at h
  cases hc:l[k]? with
  | none =>
   rw[hc] at h
   obtain⟨m,c,h1,h2⟩:=idsU_mem h
   exact⟨m,c,by omega,h2⟩
  | some c =>
   rw[hc] at h
   rcases List.mem_cons.1 h with h|h
   ·injection h with h1 h2
    exact⟨k,c,by omega,hc,h1,h2⟩
   ·obtain⟨m,c,h1,h2⟩:=idsU_mem h
    exact⟨m,c,by omega,h2⟩
theorem restU_mem{t:Nat}{l:List Tg}:∀{i:Nat} {y:Nat} {b:Option Bx},(y,b)∈restU t l i→∃j x,j<i∧l[j]?=some x∧((y=t+1+j∧b=some (cBx t j x))∨(y,b)∈idsU t j x.cells x.cells.length)
 | 0,y,b,h=>by cases h
 | i+1,y,b,h=>by
  rw[restU] at h
  cases hx:l[i]? with
  | none =>
   rw[hx] at h
   obtain⟨j,x,h1,h2⟩:=restU_mem h
   exact⟨j,x,by omega,h2⟩
  | some x =>
   rw[hx] at h
   rcases List.mem_cons.1 h with h|h
   ·injection h with h1 h2
    exact⟨i,x,by omega,hx,.inl ⟨h1,h2⟩⟩
   ·rcases List.mem_append.1 h with h|h
    ·exact⟨i,x,by omega,hx,.inr h⟩
    ·obtain⟨j,x,h1,h2⟩:=restU_mem h
     exact⟨j,x,by omega,h2⟩
theorem namesL_ints(S:Nat→Prop)(l:List Int):∀x∈l.map eI,namesIn S x:=fun x hx=>by
 obtain⟨n,_,rfl⟩:=List.mem_map.1 hx
 exact namesIn_pure _ rfl
theorem eCosU_names{t q:Nat}{l:List Cl}{S:Nat→Prop}:∀{k:Nat},(∀m,m<k→S (t+16+16*q+m))→∀x∈eCosU t q l k,namesIn S x
 | 0,_,x,h=>by cases h
 | k+1,hS,x,h=>by
  rw[eCosU] at h
  cases hc:l[k]? with
  | none=>rw[hc] at h; exact eCosU_names (fun m hm=>hS m (by omega)) x h
  | some c =>
   rw[hc] at h
   rcases List.mem_append.1 h with h|h
   ·exact eCosU_names (fun m hm=>hS m (by omega)) x h
   ·simp at h
    subst h
    simp only[eCo,namesIn,namesL]
    exact⟨trivial,trivial,hS k (by omega),trivial⟩
theorem eTosU_names{t:Nat}{l:List Tg}{S:Nat→Prop}:∀{i:Nat},(∀m,m<i→S (t+1+m))→∀x∈eTosU t l i,namesIn S x
 | 0,_,x,h=>by cases h
 | i+1,hS,x,h=>by
  rw[eTosU] at h
  cases hc:l[i]? with
  | none=>rw[hc] at h; exact eTosU_names (fun m hm=>hS m (by omega)) x h
  | some c =>
   rw[hc] at h
   rcases List.mem_append.1 h with h|h
   ·exact eTosU_names (fun m hm=>hS m (by omega)) x h
   ·simp at h
    subst h
    simp only[eTo,namesIn,namesL]
    exact⟨trivial,trivial,hS i (by omega),trivial⟩
theorem idsU_aside{t q:Nat}{l:List Cl}{S:Nat→Prop}(k:Nat)(hS:∀m,m<k→S (t+16+16*q+m)):Aside S (idsU t q l k):=by
 induction k with
 | zero=>exact Aside.nil _
 | succ k ih =>
  rw[idsU]
  cases hc:l[k]? with
  | none=>exact ih fun m hm=>hS m (by omega)
  | some c =>
   refine (ih fun m hm=>hS m (by omega)).cons (hS k (by omega)) (fun p hp=>?_) (namesL_ints _ _)
   obtain⟨y,b⟩:=p
   obtain⟨m,c,h1,_,h2,_⟩:=idsU_mem hp
   simp only; omega
theorem restU_key{t:Nat}{l:List Tg}(h6:∀x∈l,x.cells.length≤16){i:Nat}{y:Nat}{b:Option Bx}(h:(y,b)∈restU t l i):(∃j,j<i∧y=t+1+j)∨∃j m,j<i∧m<16∧y=t+16+16*j+m:=by
 obtain⟨j,x,h1,h2,h3⟩:=restU_mem h
 rcases h3 with⟨h3,_⟩|h3
 ·exact .inl ⟨j,h1,h3⟩
 ·obtain⟨m,c,h4,_,h5,_⟩:=idsU_mem h3
  have:=h6 x (List.mem_of_getElem? h2)
  exact .inr ⟨j,m,h1,by omega,h5⟩
theorem restU_aside{t:Nat}{l:List Tg}{S:Nat→Prop}(h6:∀x∈l,x.cells.length≤16)(i:Nat)(hi:i≤12)(hS1:∀j,j<i→S (t+1+j))(hS2:∀j m,j<i→m<16→S (t+16+16*j+m)):Aside S (restU t l i):=by
 induction i with
 | zero=>exact Aside.nil _
 | succ i ih =>
  rw[restU]
  have ih:=ih (by omega) (fun j hj=>hS1 j (by omega)) fun j m hj hm=>hS2 j m (by omega) hm
  cases hx:l[i]? with
  | none=>exact ih
  | some x =>
   have hx6:=h6 x (List.mem_of_getElem? hx)
   have ha:Aside S (idsU t i x.cells x.cells.length++restU t l i):=(idsU_aside _ fun m hm=>hS2 i m (by omega) (by omega)).append ih fun p hp p' hp' e=>by
    obtain⟨y,b⟩:=p
    obtain⟨y',b'⟩:=p'
    simp only at e
    subst e
    obtain⟨m,c,h1,_,h2,_⟩:=idsU_mem hp
    rcases restU_key h6 hp' with⟨j,h3,h4⟩|⟨j,m',h3,h4,h5⟩<;>omega
   refine ha.cons (hS1 i (by omega)) (fun p hp=>?_) (eCosU_names fun m hm=>hS2 i m (by omega) (by omega))
   obtain⟨y,b⟩:=p
   rcases List.mem_append.1 hp with hp|hp
   ·obtain⟨m,c,h1,_,h2,_⟩:=idsU_mem hp
    simp only; omega
   ·rcases restU_key h6 hp with⟨j,h3,h4⟩|⟨j,m',h3,h4,h5⟩<;>(simp only; omega)
theorem FinB.of{R:Rn}{S:Nat→Prop}{bx':List (Nat×Option Bx)}{fin:Nat→Option Bx}:∀{l:List Nat},(∀y∈l,∀b',fin y=some b'→∃x b,R.ρ y=some x∧Am.bk bx' x=some b∧BxR R S b b')→FinB R S bx' fin l
 | [],_=>trivial
 | y::l,h=>by
  refine⟨?_,FinB.of fun z hz=>h z (List.mem_cons_of_mem _ hz)⟩
  cases hf:fin y with
  | none=>trivial
  | some b'=>exact h y (List.mem_cons_self ..) b' hf
theorem appl_none{B:Nat→Option Bx}:∀{wr:List (Nat×Option Bx)} {y:Nat},(∀q∈wr,q.1≠y)→appl B wr y=B y
 | [],_,_=>rfl
 | (z,b)::l,y,h=>by
  rw[appl,appl_none fun q hq=>h q (List.mem_cons_of_mem _ hq)]
  exact upd_ne _ _ _ (fun e=>h (z,b) (List.mem_cons_self ..) e.symm)
theorem appl_get{B:Nat→Option Bx}:∀{wr:List (Nat×Option Bx)} {y:Nat} {b:Option Bx},(wr.map Prod.fst).Nodup→(y,b)∈wr→appl B wr y=b
 | [],_,_,_,h=>by cases h
 | (z,c)::l,y,b,hn,h=>by
  rw[List.map_cons,List.nodup_cons] at hn
  rw[appl]
  rcases List.mem_cons.1 h with e|h
  ·injection e with e1 e2
   subst e1 e2
   rw[appl_none fun q hq e=>hn.1 (List.mem_map.2 ⟨q,hq,e⟩),upd_eq]
  ·exact appl_get hn.2 h
theorem appl_memO{B:Nat→Option Bx}:∀{wr:List (Nat×Option Bx)} {y:Nat} {b:Bx},appl B wr y=some b→(y,some b)∈wr∨B y=some b
 | [],y,b,h=>.inr h
 | (z,c)::l,y,b,h=>by
  rw[appl] at h
  rcases appl_memO h with h|h
  ·exact .inl (List.mem_cons_of_mem _ h)
  ·by_cases e:y=z
   ·subst e
    rw[upd_eq] at h
    subst h
    exact .inl (List.mem_cons_self ..)
   ·rw[upd_ne _ _ _ e] at h
    exact .inr h
theorem freshL_of{id:Nat}{rd:List (Nat×Option Bx)}:∀{l:List (Nat×Option Bx)},(∀q∈l,hasKey q.1 rd∨(id≤q.1∧q.1<id+1024))→freshL id rd l
 | [],_=>trivial
 | (y,b)::l,h=>⟨h _ (List.mem_cons_self ..),freshL_of fun q hq=>h q (List.mem_cons_of_mem _ hq)⟩
def Shift(R:Rn)(t t':Nat):Prop:=∀o,1≤o→o<1000→R.ρ (t'+o)=some (t+o)
theorem eCosU_ren{R:Rn}{S:Nat→Prop}{t t' q:Nat}{l:List Cl}(h:Shift R t t')(hq:q<12):∀k,k≤16→RenL R S (eCosU t q l k) (eCosU t' q l k)
 | 0,_=>.nil
 | k+1,hk=>by
  rw[eCosU,eCosU]
  cases hc:l[k]? with
  | none=>exact eCosU_ren h hq k (by omega)
  | some c =>
   refine renL_app (eCosU_ren h hq k (by omega)) (.cons _ _ _ _ (.agg _ _ ?_) .nil)
   refine .cons _ _ _ _ (.same _ trivial) (.cons _ _ _ _ (.same _ trivial) (.cons _ _ _ _ (.bsl _ _ _ _ ?_) .nil))
   have:=h (16+16*q+k) (by omega) (by omega)
   rw[show t'+16+16*q+k=t'+(16+16*q+k) by omega,show t+16+16*q+k=t+(16+16*q+k) by omega]
   exact this
theorem eTosU_ren{R:Rn}{S:Nat→Prop}{t t':Nat}{l:List Tg}(h:Shift R t t'):∀i,i≤12→RenL R S (eTosU t l i) (eTosU t' l i)
 | 0,_=>.nil
 | i+1,hi=>by
  rw[eTosU,eTosU]
  cases hc:l[i]? with
  | none=>exact eTosU_ren h i (by omega)
  | some x =>
   refine renL_app (eTosU_ren h i (by omega)) (.cons _ _ _ _ (.agg _ _ ?_) .nil)
   refine .cons _ _ _ _ (.same _ trivial) (.cons _ _ _ _ (.same _ trivial) (.cons _ _ _ _ (.bsl _ _ _ _ ?_) .nil))
   have:=h (1+i) (by omega) (by omega)
   rw[show t'+1+i=t'+(1+i) by omega,show t+1+i=t+(1+i) by omega]
   exact this
theorem idsU_get{t t' q:Nat}{l:List Cl}:∀{k:Nat} {o:Nat} {b:Option Bx},(t'+o,b)∈idsU t' q l k→(t+o,b)∈idsU t q l k
 | 0,o,b,h=>by cases h
 | k+1,o,b,h=>by
  rw[idsU] at h ⊢
  cases hc:l[k]? with
  | none=>rw[hc] at h; exact idsU_get h
  | some c =>
   rw[hc] at h
   rcases List.mem_cons.1 h with h|h
   ·injection h with h1 h2
    subst h2
    have:o=16+16*q+k:=by omega
    subst this
    rw[show t+(16+16*q+k)=t+16+16*q+k by omega]
    exact List.mem_cons_self ..
   ·exact List.mem_cons_of_mem _ (idsU_get h)
theorem restU_get{R:Rn}{S:Nat→Prop}{t t':Nat}{l:List Tg}(h6:∀x∈l,x.cells.length≤16)(hR:Shift R t t'):∀{i:Nat} {y:Nat} {b:Bx},i≤12→(y,some b)∈restU t' l i→∃o b0,1≤o∧o<1000∧y=t'+o∧(t+o,some b0)∈restU t l i∧BxR R S b0 b
 | 0,y,b,_,h=>by cases h
 | i+1,y,b,hi,h=>by
  rw[restU] at h
  rw[restU]
  cases hc:l[i]? with
  | none=>rw[hc] at h; exact restU_get h6 hR (by omega) h
  | some x =>
   have hx6:=h6 x (List.mem_of_getElem? hc)
   rw[hc] at h
   rcases List.mem_cons.1 h with h|h
   ·injection h with h1 h2
    injection h2 with h2
    subst h1 h2
    refine⟨1+i,cBx t i x,by omega,by omega,by omega,?_,⟨eCosU_ren hR (by omega) _ hx6,rfl,rfl,rfl⟩⟩
    rw[show t+(1+i)=t+1+i by omega]
    exact List.mem_cons_self ..
   ·rcases List.mem_append.1 h with h|h
    ·obtain⟨m,c,h1,h2,h3,h4⟩:=idsU_mem h
     injection h4 with h4
     subst h4 h3
     refine⟨16+16*i+m,iBx c,by omega,by omega,by omega,List.mem_cons_of_mem _ (List.mem_append_left _ ?_),⟨renL_pure rfl (pure_ints _),rfl,rfl,rfl⟩⟩
     exact idsU_get (t':=t') (by rw[show t'+(16+16*i+m)=t'+16+16*i+m by omega]; exact h)
    ·obtain⟨o,b0,q1,q2,q3,q4,q5⟩:=restU_get h6 hR (by omega) h
     exact⟨o,b0,q1,q2,q3,List.mem_cons_of_mem _ (List.mem_append_right _ q4),q5⟩
def rnTree(id a:Nat):Nat→List (Nat×Nat)
 | 0=>[]
 | n+1=>(id+(n+1),a+(n+1))::rnTree id a n
theorem rnTree_mem{id a:Nat}:∀{n:Nat} {q:Nat×Nat},q∈rnTree id a n→∃o,1≤o∧o≤n∧q=(id+o,a+o)
 | 0,q,h=>by cases h
 | n+1,q,h=>by
  rw[rnTree] at h
  rcases List.mem_cons.1 h with h|h
  ·exact⟨n+1,by omega,by omega,h⟩
  ·obtain⟨o,h1,h2,h3⟩:=rnTree_mem h
   exact⟨o,h1,by omega,h3⟩
theorem rnTree_gone{id a b:Nat}:∀{n:Nat},(∀o,1≤o→o≤n→b≠a+o)→goneN (rnTree id a n) b=false
 | 0,_=>rfl
 | n+1,h=>by
  rw[rnTree,goneN,if_neg (h (n+1) (by omega) (by omega))]
  exact rnTree_gone fun o h1 h2=>h o h1 (by omega)
theorem rnTree_ok{id a:Nat}:∀n,rnOk (rnTree id a n)
 | 0=>trivial
 | n+1=>⟨rnTree_gone fun o h1 h2=>by omega,rnTree_ok n⟩
theorem rnTree_lk{id a o:Nat}:∀{n:Nat},1≤o→o≤n→lkN (rnTree id a n) (id+o)=some (a+o)
 | 0,h1,h2=>by omega
 | n+1,h1,h2=>by
  rw[rnTree,lkN]
  by_cases e:o=n+1
  ·subst e; simp
  ·rw[if_neg (by omega)]
   exact rnTree_lk h1 (by omega)
theorem newIn_of{a b:Nat}:∀{l:List (Nat×Nat)},(∀q∈l,a≤q.1∧q.1<b)→newIn a b l
 | [],_=>trivial
 | (y,z)::l,h=>⟨h _ (List.mem_cons_self ..),newIn_of fun q hq=>h q (List.mem_cons_of_mem _ hq)⟩
theorem goneOk_of{n0:Nat}{bx':List (Nat×Option Bx)}:∀{l:List (Nat×Nat)},(∀q∈l,n0≤q.2)→goneOk n0 bx' l
 | [],_=>trivial
 | (y,z)::l,h=>⟨.inl (h _ (List.mem_cons_self ..)),goneOk_of fun q hq=>h q (List.mem_cons_of_mem _ hq)⟩
end Go.Am
namespace Go.Am
set_option linter.all false
open Go Go.RowKit Go.Proofs
set_option maxRecDepth 100000
set_option linter.all false
set_option maxHeartbeats 2000000 in
theorem stOwn_ok(s:Sta)(id:Nat)(h5:s.types.length≤1000)(h6:∀t∈s.types,t.fields.length≤1000)(h12:s.things.length≤12)(hc6:∀x∈s.things,x.cells.length≤16∧∀c∈x.cells,c.ids.length≤1000):
  FnOk Tryz.prog 43 [eSta s] [] id (.agg [.sl (s.types.map eTy),.bsl id 0 s.things.length]) ((id,some ⟨eTosU id s.things s.things.length,zT,false,false⟩)::restU id s.things s.things.length):=by
 unfold eSta
 refine fn_okc Tryz.func43 hcc43 (by decide) hcr43 (by simp[Tryz.ntmps43]) fun E hP hR hl hid=>?_
 simp only[cr43] at hR
 refine w_go 4000 ?_
 simp[cc43]
 (refine w_call hP rfl (schOwn_ok s.types _ h5 h6) (by simp) (by simp<;>rfl) ?_; refine w_go 4000 ?_; simp)
 refine w_loop (X:=Nat) (fun i=>⟨[(2,true,.ptr (E.n0+1) 0 0),(3,true,.ptr (E.n0+2) 0 0),(14,true,.sl (s.things.map eTg)),(15,true,.int .i64 s.things.length),(16,true,.int .i64 i)],
  (E.n0+1,some ⟨[.agg [.nils,.nils]],.agg [.nils,.nils],false,false⟩)::(E.n0+2,some ⟨[.agg [.sl (s.types.map eTy),.bsl (E.n0+3) 0 i]],.agg [.nils,.nils],false,false⟩)::(E.n0+3,some ⟨eTosU (E.n0+16) s.things i,zT,false,false⟩)::restU (E.n0+16) s.things i,1024⟩) (fun i=>i≤s.things.length) (fun i=>s.things.length - i) 0 ?_ (by omega) ?_
 ·refine Conv.trans (Conv.voidBox (E.n0+6144) (by simp; rfl) rfl (.agg [.sl (s.types.map eTy),.nils] [.sl (s.types.map eTy),.bsl (E.n0+12288) 0 0] rfl (fun m x y h1 h2=>?_)) zT) ?_
  ·match m,h1,h2 with
   | 0,h1,h2=>simp at h1 h2; exact .inl (h1.symm.trans h2)
   | 1,h1,h2=>simp at h1 h2; exact .inr ⟨h1.symm,h2.symm⟩
   | m+2,h1,h2=>simp at h1
  have hrn:rnOk [(E.n0+1,E.n0+1024),(E.n0+2,E.n0+6144),(E.n0+3,E.n0+12288)]:=by simp[restU,eTosU]
  refine Conv.subK [(E.n0+1,E.n0+1024),(E.n0+2,E.n0+6144),(E.n0+3,E.n0+12288)] hrn ?_ ?_ ?_ ?_ ?_<;>(try simp[restU,eTosU])
 ·rintro i hi p hp
  refine w_go 4000 ?_
  simp
  refine goc (fun h=>?_) (fun h=>?_)
  ·have h:=of_decide_eq_true h
   obtain⟨x,hx,hd⟩:=drop_cons h
   have hi1:IntKind.i64.wrap ((i:Int)+1)=((i+1:Nat):Int):=wrap64 (by omega)
   simp[hx,eTg_eq x]
   refine⟨h,?_⟩
   obtain⟨hx16,hxi⟩:=hc6 x (List.mem_of_getElem? hx)
   have hcl:∀y∈s.things,y.cells.length≤16:=fun y hy=>(hc6 y hy).1
   refine w_loop (X:=Nat) (fun k=>⟨[(2,true,.ptr (E.n0+1) 0 0),(3,true,.ptr (E.n0+2) 0 0),(6,true,.ptr (E.n0+4) 0 0),(14,true,.sl (s.things.map eTg)),(15,true,.int .i64 s.things.length),(16,true,.int .i64 i),(26,true,.sl (x.cells.map eCl)),(27,true,.int .i64 x.cells.length),(28,true,.int .i64 k)],
    (E.n0+1,some ⟨[.agg [.nils,.nils]],.agg [.nils,.nils],false,false⟩)::(E.n0+2,some ⟨[.agg [.sl (s.types.map eTy),.bsl (E.n0+3) 0 i]],.agg [.nils,.nils],false,false⟩)::(E.n0+3,some ⟨eTosU (E.n0+16) s.things i,zT,false,false⟩) ::
    (E.n0+4,some ⟨[.agg [.int .i64 x.type,.int .i64 x.id,.bsl (E.n0+5) 0 k]],.agg [.int .i64 0,.int .i64 0,.nils],false,false⟩)::(E.n0+5,some ⟨eCosU (E.n0+16) i x.cells k,zC,false,false⟩)::(idsU (E.n0+16) i x.cells k++restU (E.n0+16) s.things i),1024⟩) (fun k=>k≤x.cells.length) (fun k=>x.cells.length - k) 0 ?_ (by omega) ?_
   ·refine Conv.trans (Conv.voidBox (E.n0+11264) (by simp; rfl) rfl (.agg [.int .i64 x.type,.int .i64 x.id,.nils] [.int .i64 x.type,.int .i64 x.id,.bsl (E.n0+17408) 0 0] rfl (fun m x y h1 h2=>?_)) zC) ?_
    ·match m,h1,h2 with
     | 0,h1,h2=>simp at h1 h2; exact .inl (h1.symm.trans h2)
     | 1,h1,h2=>simp at h1 h2; exact .inl (h1.symm.trans h2)
     | 2,h1,h2=>simp at h1 h2; exact .inr ⟨h1.symm,h2.symm⟩
     | m+3,h1,h2=>simp at h1
    have hrn:rnOk [(E.n0+4,E.n0+11264),(E.n0+5,E.n0+17408)]:=by simp[idsU,eCosU]
    refine Conv.subK [(E.n0+4,E.n0+11264),(E.n0+5,E.n0+17408)] hrn ?_ ?_ ?_ ?_ ?_<;>(try simp[idsU,eCosU])
    ·have hR:∀z,(E.n0+16≤z∧z<E.n0+1016)→(mkRn (E.n0+1024) [(E.n0+4,E.n0+11264),(E.n0+5,E.n0+17408)] hrn).ρ z=some z:=fun z ⟨h1,h2⟩=>by
      have z1:z≠E.n0+4:=by omega
      have z2:z≠E.n0+5:=by omega
      have z3:z≠E.n0+11264:=by omega
      have z4:z≠E.n0+17408:=by omega
      exact rn_keep (by simp[lkN,z1,z2]) (by simp[goneN,z3,z4]) (by omega)
     have hrest:=restU_aside (t:=E.n0+16) (S:=fun z=>E.n0+16≤z∧z<E.n0+1016) hcl i (by omega) (fun j hj=>⟨by omega,by omega⟩) fun j m hj hm=>⟨by omega,by omega⟩
     refine⟨renL_keep hR (eTosU_names fun m hm=>⟨by omega,by omega⟩),hrest.sub hR fun y b hm=>?_⟩
     have hk:=hrest.keys _ hm
     simp only at hk
     repeat rw[bk_skip (by simp only; omega)]
     exact bk_nodup hrest.nd hm
    ·have hrest:=restU_aside (t:=E.n0+16) (S:=fun z=>E.n0+16≤z∧z<E.n0+1016) hcl i (by omega) (fun j hj=>⟨by omega,by omega⟩) fun j m hj hm=>⟨by omega,by omega⟩
     exact dropOk_own fun q hq=>by have:=hrest.keys q hq; omega
   ·rintro k hk q hq
    refine w_go 10 ?_
    simp
    refine⟨fun h=>?_,fun h=>?_⟩
    ·obtain⟨c,hcx,hcd⟩:=drop_cons h
     have hi2:IntKind.i64.wrap ((k:Int)+1)=((k+1:Nat):Int):=wrap64 (by omega)
     have hids:=hxi c (List.mem_of_getElem? hcx)
     refine w_go 4000 ?_
     simp[hcx,eCl_eq c]
     refine⟨h,?_⟩
     refine w_call hP rfl (CloneInt_ok c.ids _ (by omega)) (by simp) (by simp<;>rfl) ?_
     refine w_go 4 ?_
     simp
     have hlenC:=eCosU_len (E.n0+16) i x.cells k (by omega)
     have hcosS:eCosU (E.n0+16) i x.cells (k+1)=eCosU (E.n0+16) i x.cells k++[eCo (E.n0+16) i k c]:=by rw[eCosU,hcx]
     have hidsS:idsU (E.n0+16) i x.cells (k+1)=(E.n0+16+16+16*i+k,some (iBx c))::idsU (E.n0+16) i x.cells k:=by rw[idsU,hcx]
     refine w_keep (by simp<;>rfl) (by simp) (by simp) (by simp<;>rfl) ?_
     refine w_go 4000 ?_
     simp[hlenC,zC]
     obtain⟨dN,hdN⟩:∃d,d=E.n0+16+16+16*i+k:=⟨_,rfl⟩
     rw[←hdN] at hidsS
     have heCo:eCo (E.n0+16) i k c = .agg [.int .i64 c.n,.str c.text,.bsl dN 0 c.ids.length]:=by rw[hdN]; rfl
     have dn1:∀a,a<16→(E.n0+a=dN)=False:=fun a ha=>by simp; omega
     have dn2:∀a,a<16→(dN=E.n0+a)=False:=fun a ha=>by simp; omega
     have dn3:∀a,1024≤a→(E.n0+a=dN)=False:=fun a ha=>by simp; omega
     have dn4:∀a,1024≤a→(dN=E.n0+a)=False:=fun a ha=>by simp; omega
     have dn5:E.n0≤dN∧dN<E.n0+1024:=by omega
     have hA:Aside (fun z=>(E.n0+16≤z∧z<E.n0+1016)∧z≠dN) (idsU (E.n0+16) i x.cells k++restU (E.n0+16) s.things i):=(idsU_aside _ fun m hm=>⟨⟨by omega,by omega⟩,by omega⟩).append (restU_aside hcl i (by omega) (fun j hj=>⟨⟨by omega,by omega⟩,by omega⟩) fun j m hj hm=>⟨⟨by omega,by omega⟩,by omega⟩) fun u hu u' hu' e=>by
       obtain⟨y,b⟩:=u
       obtain⟨y',b'⟩:=u'
       simp only at e
       subst e
       obtain⟨m,c,h1,_,h2,_⟩:=idsU_mem hu
       rcases restU_key hcl hu' with⟨j,h3,h4⟩|⟨j,m',h3,h4,h5⟩<;>omega
     refine⟨⟨by omega,by omega⟩,hq _ (k+1) (by omega) (by omega) ?_⟩
     have hrn:rnOk [(E.n0+5,E.n0+17408),(dN,E.n0+14336)]:=by simp[hi2,hcosS,heCo,hidsS,iBx,dn1,dn2,dn3,dn4,dn5]
     refine Conv.subK [(E.n0+5,E.n0+17408),(dN,E.n0+14336)] hrn ?_ ?_ ?_ ?_ ?_<;>(try simp[hi2,hcosS,heCo,hidsS,iBx,dn1,dn2,dn3,dn4,dn5])
     ·have hR:∀z,((E.n0+16≤z∧z<E.n0+1016)∧z≠dN)→(mkRn (E.n0+1024) [(E.n0+5,E.n0+17408),(dN,E.n0+14336)] hrn).ρ z=some z:=fun z ⟨⟨h1,h2⟩,hz⟩=>by
       have z2:z≠E.n0+5:=by omega
       have z3:z≠E.n0+14336:=by omega
       have z4:z≠E.n0+17408:=by omega
       exact rn_keep (by simp[lkN,hz,z2]) (by simp[goneN,z3,z4]) (by omega)
      refine⟨renL_keep hR (eTosU_names fun m hm=>⟨⟨by omega,by omega⟩,by omega⟩),⟨renL_app (renL_keep hR (eCosU_names fun m hm=>⟨⟨by omega,by omega⟩,by omega⟩)) (by simp[dn1,dn2,dn3,dn4]),by simp[zC]⟩,hA.sub hR fun y b hm=>?_⟩
      have hk:=hA.keys _ hm
      simp only at hk
      repeat rw[bk_skip (by simp only; omega)]
      exact bk_nodup hA.nd hm
     ·exact dropOk_own fun q hq=>by have:=hA.keys q hq; omega
    ·obtain rfl:k=x.cells.length:=by omega
     refine w_go 18 ?_
     simp
     have hlenT:=eTosU_len (E.n0+16) s.things i (by omega)
     refine w_keep (by simp<;>rfl) (by simp) (by simp) (by simp<;>rfl) ?_
     refine w_go 4000 ?_
     simp[hlenT,zT]
     obtain⟨cN,hcN⟩:∃d,d=E.n0+16+1+i:=⟨_,rfl⟩
     have htosS:eTosU (E.n0+16) s.things (i+1)=eTosU (E.n0+16) s.things i++[.agg [.int .i64 x.type,.int .i64 x.id,.bsl cN 0 x.cells.length]]:=by rw[eTosU,hx,hcN]; rfl
     have hrestS:restU (E.n0+16) s.things (i+1)=(cN,some ⟨eCosU (E.n0+16) i x.cells x.cells.length,zC,false,false⟩)::(idsU (E.n0+16) i x.cells x.cells.length++restU (E.n0+16) s.things i):=by rw[restU,hx,hcN]; rfl
     have dn1:∀a,a<16→(E.n0+a=cN)=False:=fun a ha=>by simp; omega
     have dn2:∀a,a<16→(cN=E.n0+a)=False:=fun a ha=>by simp; omega
     have dn3:∀a,1024≤a→(E.n0+a=cN)=False:=fun a ha=>by simp; omega
     have dn4:∀a,1024≤a→(cN=E.n0+a)=False:=fun a ha=>by simp; omega
     have dn5:E.n0≤cN∧cN<E.n0+1024:=by omega
     have hA:Aside (fun z=>(E.n0+16≤z∧z<E.n0+1016)∧z≠cN) (idsU (E.n0+16) i x.cells x.cells.length++restU (E.n0+16) s.things i):=(idsU_aside _ fun m hm=>⟨⟨by omega,by omega⟩,by omega⟩).append (restU_aside hcl i (by omega) (fun j hj=>⟨⟨by omega,by omega⟩,by omega⟩) fun j m hj hm=>⟨⟨by omega,by omega⟩,by omega⟩) fun u hu u' hu' e=>by
      obtain⟨y,b⟩:=u
      obtain⟨y',b'⟩:=u'
      simp only at e
      subst e
      obtain⟨m,c,h1,_,h2,_⟩:=idsU_mem hu
      rcases restU_key hcl hu' with⟨j,h3,h4⟩|⟨j,m',h3,h4,h5⟩<;>omega
     refine⟨⟨by omega,by omega⟩,hp _ (i+1) (by omega) (by omega) ?_⟩
     have hrn:rnOk [(E.n0+3,E.n0+6144),(cN,E.n0+5)]:=by simp[hi1,htosS,hrestS,dn1,dn2,dn3,dn4,dn5]
     refine Conv.subK [(E.n0+3,E.n0+6144),(cN,E.n0+5)] hrn ?_ ?_ ?_ ?_ ?_<;>(try simp[hi1,htosS,hrestS,dn1,dn2,dn3,dn4,dn5])
     ·have hR:∀z,((E.n0+16≤z∧z<E.n0+1016)∧z≠cN)→(mkRn (E.n0+1024) [(E.n0+3,E.n0+6144),(cN,E.n0+5)] hrn).ρ z=some z:=fun z ⟨⟨h1,h2⟩,hz⟩=>by
       have z2:z≠E.n0+3:=by omega
       have z3:z≠E.n0+5:=by omega
       have z4:z≠E.n0+6144:=by omega
       exact rn_keep (by simp[lkN,hz,z2]) (by simp[goneN,z3,z4]) (by omega)
      refine⟨⟨renL_app (renL_keep hR (eTosU_names fun m hm=>⟨⟨by omega,by omega⟩,by omega⟩)) (by simp[dn1,dn2,dn3,dn4]),by simp[zT]⟩,renL_keep hR (eCosU_names fun m hm=>⟨⟨by omega,by omega⟩,by omega⟩),hA.sub hR fun y b hm=>?_⟩
      have hk:=hA.keys _ hm
      simp only at hk
      repeat rw[bk_skip (by simp only; omega)]
      exact bk_nodup hA.nd hm
     ·exact dropOk_own fun q hq=>by have:=hA.keys q hq; omega
  ·have h:=of_decide_eq_false h
   simp
   obtain rfl:i=s.things.length:=by omega
   have hcl:∀y∈s.things,y.cells.length≤16:=fun y hy=>(hc6 y hy).1
   have hrn:rnOk ((id,E.n0+3)::rnTree id (E.n0+16) 999):=⟨rnTree_gone fun o h1 h2=>by omega,rnTree_ok 999⟩
   have hr0:(mkRn E.n0 ((id,E.n0+3)::rnTree id (E.n0+16) 999) hrn).ρ id=some (E.n0+3):=by
    show rnF E.n0 ((id,E.n0+3)::rnTree id (E.n0+16) 999) id=_
    simp[rnF,lkN]
   have hsh:Shift (mkRn E.n0 ((id,E.n0+3)::rnTree id (E.n0+16) 999) hrn) (E.n0+16) id:=fun o h1 h2=>by
    show rnF E.n0 ((id,E.n0+3)::rnTree id (E.n0+16) 999) (id+o)=_
    unfold rnF
    rw[lkN,if_neg (by omega),rnTree_lk h1 (by omega)]
   have hA:=restU_aside (t:=E.n0+16) (S:=fun z=>E.n0+16≤z∧z<E.n0+1016) hcl s.things.length (by omega) (fun j hj=>⟨by omega,by omega⟩) fun j m hj hm=>⟨by omega,by omega⟩
   have hA':=restU_aside (t:=id) (S:=fun z=>id+1≤z∧z<id+1000) hcl s.things.length (by omega) (fun j hj=>⟨by omega,by omega⟩) fun j m hj hm=>⟨by omega,by omega⟩
   rw[hR]
   refine rt_end (by simp<;>rfl) _ hrn ⟨?_,?_,?_,?_,?_,?_⟩
   ·refine .agg _ _ (.cons _ _ _ _ (renR_pure rfl (by simp)) (.cons _ _ _ _ (.bsl _ _ _ _ hr0) .nil))
   ·refine FinB.of fun y _ b' hb'=>?_
    rcases appl_memO hb' with hm|hm
    ·rcases List.mem_cons.1 hm with e|hm
     ·injection e with e1 e2
      injection e2 with e2
      subst e1 e2
      exact⟨_,⟨eTosU (E.n0+16) s.things s.things.length,zT,false,false⟩,hr0,by simp,⟨eTosU_ren hsh _ (by omega),rfl,rfl,rfl⟩⟩
     ·obtain⟨o,b0,q1,q2,rfl,q4,q5⟩:=restU_get hcl hsh (by omega) hm
      refine⟨_,b0,hsh o q1 q2,?_,q5⟩
      repeat rw[bk_skip (by simp only; omega)]
      exact bk_nodup hA.nd q4
    ·simp[someL,Am.bk] at hm
   ·refine⟨.inl (by omega),.inl (by omega),.inl (by omega),.inl (by omega),dropOk_own fun q hq=>by have:=hA.keys q hq; omega⟩
   ·exact freshL_of fun q hq=>.inr (by
     rcases List.mem_cons.1 hq with rfl|hq
     ·exact⟨Nat.le_refl _,by simp only; omega⟩
     ·have:=hA'.keys q hq; omega)
   ·exact newIn_of fun q hq=>by
     rcases List.mem_cons.1 hq with rfl|hq
     ·exact⟨Nat.le_refl _,by simp only; omega⟩
     ·obtain⟨o,q1,q2,rfl⟩:=rnTree_mem hq
      exact⟨by simp only; omega,by simp only; omega⟩
   ·exact goneOk_of fun q hq=>by
     rcases List.mem_cons.1 hq with rfl|hq
     ·simp only; omega
     ·obtain⟨o,q1,q2,rfl⟩:=rnTree_mem hq
      simp only; omega
end Go.Am
