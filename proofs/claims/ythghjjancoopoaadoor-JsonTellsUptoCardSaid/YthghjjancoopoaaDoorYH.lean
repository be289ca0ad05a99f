/- Parts of the proof: an abstract machine for Go functions, and what functions of the program give back (Ex23, Ex22, Ex24). No condition. -/
import Derived.Test.YthghjjancoopoaaDoorXL
import Derived.Test.YthghjjancoopoaaDoorXD
import Derived.Test.YthghjjancoopoaaDoorProg
import Derived.Maps.OwnOps
import Derived.WalkSpells
import Derived.Test.YthghjjancoopoaaDoorYD
namespace Go.Am
set_option linter.all false
open Go Go.RowKit Go.Proofs Go.Maps Go.WideMaps
set_option maxRecDepth 100000
set_option linter.all false
def fKeyAt(ks:List (List UInt8))(i:Nat)(s:List UInt8):Int:=fDup (fName s) ((ks.take i).any fun x=>x==s)
def fKeys(ks:List (List UInt8)):Int:=firstIx (fKeyAt ks) ks 0
theorem kMap:Keyed Tryd.prog 9:=string_keyed Tryd.underlying9
theorem zMap(w:World):(zeroValue 3).run Tryd.prog w = .ok (.int .i64 0) w:=by kernel_rfl
def Met(ks:List (List UInt8))(k:Nat)(D:DataW Unit):Prop:=IsMap D∧∀s,D.atKey (.string s) (.lit (.int .i64 0)) = .lit (.int .i64 (if (ks.take k).any (fun x=>x==s)=true then 1 else 0))
theorem met_zero(ks:List (List UInt8)):Met ks 0 (.map []):=⟨isMap_empty,fun s=>by simp[DataW.atKey]⟩
theorem met_step{ks:List (List UInt8)}{k:Nat}{s:List UInt8}{D:DataW Unit}(h:Met ks k D)(hs:ks[k]?=some s)(hno:((ks.take k).any fun x=>x==s)=false){n:Int}(hn:n=1):Met ks (k+1) (D.put (.string s) (.lit (.int .i64 n))):=by
 subst hn
 refine⟨h.1.put _ _,fun t=>?_⟩
 rw[any_take_succ hs]
 by_cases e:t=s
 ·subst e
  rw[atKey_put_same h.1 (by trivial)]
  simp
 ·rw[atKey_put_other (by intro h'; injection h' with h'; exact e h'),h.2 t]
  have:(s==t)=false:=by simp; exact fun h=>e h.symm
  rw[this,Bool.or_false]
theorem owns_below{H:Type}{P:Program}{k:TypeId}{R:Value→Option (DataW H×List MemPlace)}{b n:Nat}{D:DataW H}{w w':World}(h:w.ownsMap P k R b n D)(hb:Below w.heap.size w w'):w'.ownsMap P k R b n D:=by
 have hl:=h.lt
 obtain⟨es,clock,h1,h2,h3,h4⟩:=h
 exact⟨es,clock,by rw[hb.block b hl]; exact h1,h2,h3,h4⟩
theorem name_of(s:List UInt8){w:World}(ht:Tabs Tryd.prog w):Calls Tryd.prog 98 #[.string ⟨⟨s⟩⟩] w fun e w'=>e = .returned (.int .i64 (fName s))∧Below w.heap.size w w' :=
 ((Name_ok s 0).plain ht (rvs_one (.str s))).mono fun e w' ⟨v,G',h1,h2,h3⟩=>by cases h2; exact⟨h1,h3⟩
theorem keys_nil(A:Option Addr)(c:Nat)(w:World):Calls Tryd.prog 90 #[.slice A 0 c] w fun e w'=>e = .returned (.int .i64 0)∧Below w.heap.size w w':=by
 have hmm:=@run_makeMap Tryd.prog
 go_enter Tryd.func90,Tryd.ntmps90
 go_wp2
 refine wp_loop_rounds 1 ?_
 rw[rounds_succ]
 go_wp2
 go_ret
 exact⟨rfl,(Below.refl _ _).alloc (Nat.le_refl _) _⟩
theorem keys_of{ks:List (List UInt8)}{b o c:Nat}{w:World}(ht:Tabs Tryd.prog w)(hc:ks.length≤c)(hm:c≤maxLen)(hb:b<w.heap.size)
  (hcell:∀(j:Nat) s,ks[j]?=some s→w.cell? ⟨b,o+j,none⟩=some (.string ⟨⟨s⟩⟩)) (hk:∀s∈ks,s.length≤9223372036854775807) :
  Calls Tryd.prog 90 #[.slice (some ⟨b,o,none⟩) ks.length c] w fun e w'=>e = .returned (.int .i64 (fKeys ks))∧Below w.heap.size w w':=by
 have hmm:=@run_makeMap Tryd.prog
 go_enter Tryd.func90,Tryd.ntmps90
 go_wp2
 go_loopw [10] (fun i wr=>∃k D,k≤ks.length∧i = .int .i64 k∧Met ks k D∧firstIx (fKeyAt ks) (ks.drop k) k=fKeys ks∧wr.ownsMap Tryd.prog 9 (plainElem Tryd.prog 3) w.heap.size k D∧Below w.heap.size w wr)
  (fun i _=>ks.length - (intOf i).toNat)
 case atStart=>exact⟨0,_,Nat.zero_le _,rfl,met_zero ks,rfl,World.ownsMap_made _ _ _ _,(Below.refl _ _).alloc (Nat.le_refl _) _⟩
 case round =>
  obtain⟨k,D,hk1,rfl,hmet,hf,hown,hnx⟩:=hrel
  by_cases hlt:k<ks.length
  rotate_left
  ·go_wp2
   all_goals first|(exfalso; omega)|skip
   go_ret
   rw[List.drop_of_length_le (by omega)] at hf
   simp only[firstIx] at hf
   exact⟨by rw[←hf]; rfl,hnx⟩
  obtain⟨s,hs,hd⟩:=drop_cons hlt
  rw[hd] at hf
  simp only[firstIx] at hf
  have hcx:wr.cell? ⟨b,o+k,none⟩=some (.string ⟨⟨s⟩⟩):=(hnx.cell (by exact hb)).trans (hcell k s hs)
  have hkey:keyOf Tryd.prog 9 (.string ⟨⟨s⟩⟩)=some (.string s):=keyOf_string_mk Tryd.underlying9 (by have:=hk s (List.mem_of_getElem? hs); unfold maxLen; simpa [ByteArray.size] using this)
  have hkm:k<maxLen:=by omega
  have hat0:=hmet.2 s
  have hT:∀w1,Below w.heap.size w w1→Tabs Tryd.prog w1:=fun w1 h=>ht.below h
  clear hcell
  go_wp2_with (first
   | (at_lookup; refine wpList_lookup_own_int _ rfl _ _ 154 rfl 9 3 .i64 kMap Tryd.underlying154 Tryd.underlying3 (zMap _) w.heap.size _ _ rfl hown _ _ rfl hkey ?_; intro c1 hat1 hwc1)
   | (at_mapUpdate; refine wpList_mapUpdate_own _ rfl _ _ _ 154 rfl 9 3 kMap Tryd.underlying154 _ w.heap.size k _ rfl hown hkm _ _ _ rfl rfl hkey _ [] (plainElem_int Tryd.underlying3 (wrap64_wf _)) ?_; intro w1 hown1 hgrow1; have hnx1:=hnx.grown hgrow1 hnx.size (fun j hj=>by cases hj; exact Nat.le_refl _))
   | (go_at_call 98; refine (name_of s (hT _ hnx1)).mono ?_; rintro e w2 ⟨rfl,hb2⟩; have hown2:=owns_below hown1 hb2; have hnx2:=hnx1.trans (hb2.mono hnx1.size))
   | (at_lookup; refine wpList_lookup_own_int _ rfl _ _ 154 rfl 9 3 .i64 kMap Tryd.underlying154 Tryd.underlying3 (zMap _) w.heap.size _ _ rfl hown2 _ _ rfl hkey ?_; intro c2 hat2 hwc2)
   | go_in)
  ·have h0:fName s≠0:=by simpa using ‹(fName s != 0)=true›
   have hv:fKeyAt ks k s=fName s:=by unfold fKeyAt fDup; rw[if_pos h0]
   go_ret
   exact⟨by rw[←hf,if_pos (by rw[hv]; exact h0),hv]; rfl,hnx2⟩
  ·have h0:fName s=0:=by simpa using ‹(fName s != 0)=false›
   have h1:1<c2:=by assumption
   rw[atKey_put_same hmet.1 (by trivial)] at hat2
   rw[hat0] at hat1
   simp only[DataW.lit.injEq,Lit.int.injEq,true_and] at hat1 hat2
   have ha:((ks.take k).any fun x=>x==s)=true:=by
    refine Classical.byContradiction fun hn=>?_
    rw[if_neg hn] at hat1
    subst hat1
    rw[←hat2,show RowKit.wrap64 (0+1)=1 from by unfold RowKit.wrap64; omega] at h1
    omega
   have hv:fKeyAt ks k s=6:=by unfold fKeyAt fDup; rw[if_neg (by simp[h0]),if_pos ha]
   go_ret
   exact⟨by rw[←hf,if_pos (by rw[hv]; decide),hv]; rfl,hnx2⟩
  ·have h0:fName s=0:=by simpa using ‹(fName s != 0)=false›
   have h1:c2≤1:=by assumption
   rw[atKey_put_same hmet.1 (by trivial)] at hat2
   rw[hat0] at hat1
   simp only[DataW.lit.injEq,Lit.int.injEq,true_and] at hat1 hat2
   have ha:((ks.take k).any fun x=>x==s)=false:=by
    refine Bool.eq_false_iff.2 fun hn=>?_
    rw[if_pos hn] at hat1
    subst hat1
    rw[←hat2,show RowKit.wrap64 (1+1)=2 from by unfold RowKit.wrap64; omega] at h1
    omega
   have hv:fKeyAt ks k s=0:=by unfold fKeyAt fDup; rw[if_neg (by simp[h0]),if_neg (by simp[ha])]
   rw[if_neg (by simp[hv])] at hf
   rw[ha] at hat1
   have hw1:RowKit.wrap64 (c1+1)=1:=by rw[←hat1,if_neg (by decide)]; unfold RowKit.wrap64; omega
   have hmet2:=met_step hmet hs ha hw1
   have hk1:RowKit.wrap64 ((k:Int)+1)=((k+1:Nat):Int):=by
    have h63:(k:Int)+1≤9223372036854775807:=by unfold maxLen at hkm; omega
    unfold RowKit.wrap64; omega
   rw[hk1]
   exact⟨⟨k+1,_,hlt,rfl,hmet2,hf,hown2,hnx2⟩,Nat.sub_lt_sub_left hlt (Nat.lt_succ_self k)⟩
theorem keys_pl1 : (Tryd.f90.name == "runtime.NumGoroutine") = false := by decide
theorem keys_pl2:Tryd.f90.body.isNone=false:=rfl
theorem keys_plain:PlainF Tryd.prog 90:=⟨Tryd.f90,Tryd.func90,keys_pl1,keys_pl2⟩
theorem keys_ok(ks:List (List UInt8))(id:Nat)(hk:∀s∈ks,s.length≤9223372036854775807):FnOk Tryd.prog 90 [.sl (ks.map .str)] [] id (.int .i64 (fKeys ks)) []:=by
 refine fn_old keys_plain fun C G bx w vs hs hv=>?_
 obtain⟨v,rfl,hv1⟩:=rvs_one_inv hv
 obtain⟨A,c,rfl,h1,h2,h3⟩:=rv_strs hs hv1
 rcases h3 with rfl|⟨b,o,rfl,h4,h5⟩
 ·exact (keys_nil A c w).mono fun e w' ⟨q1,q2⟩=>⟨_,q1,fun _ _=>.int _ _,q2⟩
 ·exact (keys_of hs.tabs h1 h2 h4 h5 hk).mono fun e w' ⟨q1,q2⟩=>⟨_,q1,fun _ _=>.int _ _,q2⟩
end Go.Am
namespace Go.Am
set_option linter.all false
open Go Go.RowKit Go.Proofs
set_option maxRecDepth 100000
set_option linter.all false
def fOne(o:Out):Int :=
 if o.kind<1∨5<o.kind then 7
 else if (o.kind≠2∧o.n≠0)∨(o.kind≠3∧o.text≠[])∨(o.kind≠5∧o.keys≠[])∨(o.kind<4∧o.kids≠[]) then 1
 else if ¬(-999999999≤o.n∧o.n≤999999999) then 3
 else if 40<o.text.length then 2
 else if o.kind=5∧o.keys.length≠o.kids.length then 1
 else fKeys o.keys
mutual
def fChkO:Out→Int
 | .mk k n t ks l=>if fOne (.mk k n t ks l)≠0 then fOne (.mk k n t ks l) else fChkOs l
def fChkOs:List Out→Int
 | []=>0
 | o::r=>if fChkO o≠0 then fChkO o else fChkOs r
end
theorem fChkO_eq(o:Out):fChkO o=if fOne o≠0 then fOne o else fChkOs o.kids:=by cases o; rfl
def fOut(o:Out):Int:=if 2000<manyO 11 [o]∨11<deepO 11 [o] then 2 else fChkO o
set_option maxHeartbeats 8000000 in
theorem rcheckOut_ok:∀(m:Nat) (o:Out) (id:Nat),o.sz<m→o.sz≤1099511627776→FnOk Tryd.prog 21 [eO o] [] id (.int .i64 (fChkO o)) []
 | 0,o,id,hm,_=>by omega
 | m+1,o,id,hm,h8=>by
  have hsz:=szO_eq o
  have hlen:=szOL_len o.kids
  rw[fChkO_eq,eO_of o]
  refine fn_okc Tryd.func21 hcc21 (by decide) hcr21 (by simp[Tryd.ntmps21]) fun E hP hR hl hid=>?_
  simp only[cr21] at hR
  refine w_go 4000 ?_
  simp[cc21]
  (refine w_call hP rfl (between_ok o.kind 1 5 _) (by simp) (by simp<;>rfl) ?_; refine w_go 4000 ?_; simp)
  refine goc (fun g1=>?_) (fun g1=>?_)<;>simp
  ·have hf:fOne o=7:=by unfold fOne; rw[if_pos (by simp at g1; omega)]
   rw[hf] at hR
   rw[hR]; exact rt_end (by simp<;>rfl) [] trivial (end_pure (by simp) (by simp) (by simp))
  have k1:¬(o.kind<1∨5<o.kind):=by simp at g1; omega
  refine⟨by grind,by grind,by grind,by grind,by grind,by grind,?_⟩
  refine goc (fun g2=>?_) (fun g2=>?_)<;>simp
  ·have hf:fOne o=1:=by unfold fOne; rw[if_neg k1,if_pos (by revert g2; simp; grind)]
   rw[hf] at hR
   rw[hR]; exact rt_end (by simp<;>rfl) [] trivial (end_pure (by simp) (by simp) (by simp))
  have k2:¬((o.kind≠2∧o.n≠0)∨(o.kind≠3∧o.text≠[])∨(o.kind≠5∧o.keys≠[])∨(o.kind<4∧o.kids≠[])):=by revert g2; simp; grind
  (refine w_call hP rfl (rIsInt_ok o.n _) (by simp) (by simp<;>rfl) ?_; refine w_go 4000 ?_; simp)
  refine goc (fun g3=>?_) (fun g3=>?_)<;>simp
  ·have hf:fOne o=3:=by unfold fOne; rw[if_neg k1,if_neg k2,if_pos (by simp at g3; omega)]
   rw[hf] at hR
   rw[hR]; exact rt_end (by simp<;>rfl) [] trivial (end_pure (by simp) (by simp) (by simp))
  have k3:¬¬(-999999999≤o.n∧o.n≤999999999):=by simp at g3; omega
  refine goc (fun g4=>?_) (fun g4=>?_)<;>simp
  ·have hf:fOne o=2:=by unfold fOne; rw[if_neg k1,if_neg k2,if_neg k3,if_pos (by simp at g4; omega)]
   rw[hf] at hR
   rw[hR]; exact rt_end (by simp<;>rfl) [] trivial (end_pure (by simp) (by simp) (by simp))
  have k4:¬40<o.text.length:=by simp at g4; omega
  refine goc (fun g5=>?_) (fun g5=>?_)<;>simp
  ·have hf:fOne o=1:=by unfold fOne; rw[if_neg k1,if_neg k2,if_neg k3,if_neg k4,if_pos (by simp at g5; omega)]
   rw[hf] at hR
   rw[hR]; exact rt_end (by simp<;>rfl) [] trivial (end_pure (by simp) (by simp) (by simp))
  have k5:¬(o.kind=5∧o.keys.length≠o.kids.length):=by simp at g5; omega
  have hf:fOne o=fKeys o.keys:=by unfold fOne; rw[if_neg k1,if_neg k2,if_neg k3,if_neg k4,if_neg k5]
  rw[hf] at hR
  refine w_loop (X:=Nat) (fun i=>⟨[(1,true,.ptr E.n0 0 0),(3,true,.int .i64 i)],[(E.n0,some ⟨[.agg [.int .i64 o.kind,.int .i64 o.n,.str o.text,.sl (o.keys.map .str),.sl (o.kids.map eO)]],.agg [.int .i64 o.kind,.int .i64 o.n,.str o.text,.sl (o.keys.map .str),.sl (o.kids.map eO)],false,false⟩)],1⟩)
   (fun i=>i≤o.keys.length∧firstIx (fKeyAt o.keys) (o.keys.drop i) i=fKeys o.keys) (fun i=>o.keys.length - i) 0 ?_ ⟨by omega,rfl⟩ ?_
  ·have hrn:rnOk [(E.n0,E.n0)]:=by simp
   refine Conv.sub [(E.n0,E.n0)] hrn ?_ ?_ ?_ ?_ ?_<;>(try simp)
  rintro i ⟨hi,hx⟩ p hp
  refine w_go 4000 ?_
  simp
  refine goc (fun h=>?_) (fun h=>?_)
  ·have h:=of_decide_eq_true h
   obtain⟨x,hxx,hd⟩:=drop_cons h
   rw[hd] at hx
   simp only[firstIx] at hx
   have hi1:IntKind.i64.wrap ((i:Int)+1)=((i+1:Nat):Int):=wrap64 (by omega)
   simp[hxx]
   refine⟨h,?_⟩
   refine w_call hP rfl (CheckName_ok x _) (by simp) (by simp<;>rfl) ?_
   refine w_cutS (X:=Int) (fun e=>⟨[(1,true,.ptr E.n0 0 0),(3,true,.int .i64 i),(4,true,.int .i64 e)],[(E.n0,some ⟨[.agg [.int .i64 o.kind,.int .i64 o.n,.str o.text,.sl (o.keys.map .str),.sl (o.kids.map eO)]],.agg [.int .i64 o.kind,.int .i64 o.n,.str o.text,.sl (o.keys.map .str),.sl (o.kids.map eO)],false,false⟩)],1⟩) (fun e=>e=fKeyAt o.keys i x) (fun q3 hq3=>?_) (fun e he=>?_)
   ·refine w_go 4000 ?_
    simp
    refine w_loop (X:=Nat) (fun j=>⟨[(1,true,.ptr E.n0 0 0),(3,true,.int .i64 i),(4,true,.int .i64 (fDup (fName x) ((o.keys.take j).any fun y=>y==x))),(5,true,.int .i64 j)],[(E.n0,some ⟨[.agg [.int .i64 o.kind,.int .i64 o.n,.str o.text,.sl (o.keys.map .str),.sl (o.kids.map eO)]],.agg [.int .i64 o.kind,.int .i64 o.n,.str o.text,.sl (o.keys.map .str),.sl (o.kids.map eO)],false,false⟩)],1⟩) (fun j=>j≤i) (fun j=>i - j) 0 ?_ (by omega) ?_
    ·have hrn:rnOk [(E.n0,E.n0)]:=by simp[fDup]
     refine Conv.sub [(E.n0,E.n0)] hrn ?_ ?_ ?_ ?_ ?_<;>(try simp[fDup])
     all_goals (by_cases h0:fName x=0<;>simp[h0])
    ·intro j hj q4 hq4
     refine w_go 4000 ?_
     simp
     refine goc (fun h1=>?_) (fun h1=>?_)
     ·simp at h1
      obtain⟨h1,h2⟩:=h1
      obtain⟨h3,h4⟩:=fDup_zero h2
      obtain⟨y,hy,-⟩:=drop_cons (l:=o.keys) (i:=j) (by omega)
      have ha:((o.keys.take (j+1)).any fun y=>y==x)=(((o.keys.take j).any fun y=>y==x)||y==x):=any_take_succ hy
      have hj1:IntKind.i64.wrap ((j:Int)+1)=((j+1:Nat):Int):=wrap64 (by omega)
      simp[hy,hxx]
      refine⟨by omega,h,?_⟩
      refine goc (fun h5=>?_) (fun h5=>?_)<;>simp
      ·refine hq4 _ (j+1) (by omega) (by omega) ?_
       have e1:fDup (fName x) ((o.keys.take (j+1)).any fun y=>y==x)=6:=by
        rw[ha]; unfold fDup; rw[if_neg (by simp[h3]),if_pos (by simp[h5])]
       have hrn:rnOk [(E.n0,E.n0)]:=by simp[hj1,e1]
       refine Conv.sub [(E.n0,E.n0)] hrn ?_ ?_ ?_ ?_ ?_<;>(try simp[hj1,e1])
      ·refine hq4 _ (j+1) (by omega) (by omega) ?_
       have e1:fDup (fName x) ((o.keys.take (j+1)).any fun y=>y==x)=0:=by
        rw[ha]; unfold fDup; rw[if_neg (by simp[h3]),if_neg (by rw[h4,h5]; decide)]
       have hrn:rnOk [(E.n0,E.n0)]:=by simp[hj1,e1,h2]
       refine Conv.sub [(E.n0,E.n0)] hrn ?_ ?_ ?_ ?_ ?_<;>(try simp[hj1,e1,h2])
     ·simp at h1
      simp
      have e1:=fDup_end (p:=fun y:List UInt8=>y==x) (l:=o.keys) (e:=fName x) hj (fun z=>h1 z.1 z.2)
      refine hq3 _ (fDup (fName x) ((o.keys.take j).any fun y=>y==x)) e1 ?_
      have hrn:rnOk [(E.n0,E.n0)]:=by simp
      refine Conv.sub [(E.n0,E.n0)] hrn ?_ ?_ ?_ ?_ ?_<;>(try simp)
   ·subst he
    refine w_go 4000 ?_
    simp
    refine goc (fun h5=>?_) (fun h5=>?_)<;>simp
    ·have h5:fKeyAt o.keys i x≠0:=by simpa using h5
     rw[if_pos h5] at hx
     rw[←hx,if_pos h5] at hR
     rw[hR]; exact rt_end (by simp<;>rfl) [] trivial (end_pure (by simp) (by simp) (by simp))
    ·have h5:fKeyAt o.keys i x=0:=by simpa using h5
     rw[if_neg (by simp[h5])] at hx
     refine hp _ (i+1) ⟨h,hx⟩ (by omega) ?_
     have hrn:rnOk [(E.n0,E.n0)]:=by simp[hi1]
     refine Conv.sub [(E.n0,E.n0)] hrn ?_ ?_ ?_ ?_ ?_<;>(try simp[hi1])
  ·have h:=of_decide_eq_false h
   rw[List.drop_of_length_le (by omega)] at hx
   simp only[firstIx] at hx
   rw[←hx] at hR
   simp at hR
   simp
   refine w_loop (X:=Nat) (fun i=>⟨[(1,true,.ptr E.n0 0 0),(6,true,.int .i64 i)],[(E.n0,some ⟨[.agg [.int .i64 o.kind,.int .i64 o.n,.str o.text,.sl (o.keys.map .str),.sl (o.kids.map eO)]],.agg [.int .i64 o.kind,.int .i64 o.n,.str o.text,.sl (o.keys.map .str),.sl (o.kids.map eO)],false,false⟩)],1⟩)
    (fun i=>i≤o.kids.length∧fChkOs (o.kids.drop i)=fChkOs o.kids) (fun i=>o.kids.length - i) 0 ?_ ⟨by omega,rfl⟩ ?_
   ·have hrn:rnOk [(E.n0,E.n0)]:=by simp
    refine Conv.sub [(E.n0,E.n0)] hrn ?_ ?_ ?_ ?_ ?_<;>(try simp)
   clear hp p
   rintro i ⟨hi,hx⟩ p hp
   refine w_go 4000 ?_
   simp
   refine goc (fun h=>?_) (fun h=>?_)
   ·have h:=of_decide_eq_true h
    obtain⟨x,hxx,hd⟩:=drop_cons h
    rw[hd] at hx
    simp only[fChkOs] at hx
    have hi1:IntKind.i64.wrap ((i:Int)+1)=((i+1:Nat):Int):=wrap64 (by omega)
    have hxm:=szOL_mem (List.mem_of_getElem? hxx)
    have ih:=fun id=>rcheckOut_ok m x id (by omega) (by omega)
    rw[eO_of x] at ih
    simp[hxx,eO_of x]
    refine⟨h,?_⟩
    (refine w_call hP rfl (ih _) (by simp) (by simp<;>rfl) ?_; refine w_go 4000 ?_; simp)
    refine goc (fun h5=>?_) (fun h5=>?_)<;>simp
    ·have h5:fChkO x≠0:=by simpa using h5
     rw[if_pos h5] at hx
     rw[←hx] at hR
     rw[hR]; exact rt_end (by simp<;>rfl) [] trivial (end_pure (by simp) (by simp) (by simp))
    ·have h5:fChkO x=0:=by simpa using h5
     rw[if_neg (by simp[h5])] at hx
     refine hp _ (i+1) ⟨h,hx⟩ (by omega) ?_
     have hrn:rnOk [(E.n0,E.n0)]:=by simp[hi1]
     refine Conv.sub [(E.n0,E.n0)] hrn ?_ ?_ ?_ ?_ ?_<;>(try simp[hi1])
   ·have h:=of_decide_eq_false h
    rw[List.drop_of_length_le (by omega)] at hx
    simp only[fChkOs] at hx
    rw[←hx] at hR
    simp
    rw[hR]; exact rt_end (by simp<;>rfl) [] trivial (end_pure (by simp) (by simp) (by simp))
theorem rCheckOut_ok(o:Out)(id:Nat)(h8:o.sz≤1099511627776):FnOk Tryd.prog 11 [eO o] [] id (.int .i64 (fOut o)) []:=by
 have hC:=fun id=>oCount_ok 11 0 [o] id (by omega) (by simp[szOL]; omega)
 have hK:=fun id=>rcheckOut_ok (o.sz+1) o id (by omega) h8
 have hm:mostOK 11 0 [o]=deepO 11 [o]:=by simp[mostOK]
 rw[hm] at hC
 simp only[List.map_cons,List.map_nil] at hC
 rw[eO_of o] at hC hK ⊢
 refine fn_okc Tryd.func11 hcc11 (by decide) hcr11 (by simp[Tryd.ntmps11]) fun E hP hR hl hid=>?_
 simp only[cr11] at hR
 refine w_go 4000 ?_
 simp[cc11]
 (refine w_callR hP rfl (hC _) (by simp<;>rfl) (by simp) (by simp<;>rfl) (by simp) ?_; refine w_go 4000 ?_; simp)
 refine goc (fun g=>?_) (fun g=>?_)<;>simp
 ·have hf:fOut o=2:=by unfold fOut; rw[if_pos (by simp at g; omega)]
  rw[hf] at hR
  rw[hR]; exact rt_end (by simp<;>rfl) [] trivial (end_pure (by simp) (by simp) (by simp))
 ·have hf:fOut o=fChkO o:=by unfold fOut; rw[if_neg (by simp at g; omega)]
  rw[hf] at hR
  (refine w_call hP rfl (hK _) (by simp) (by simp<;>rfl) ?_; refine w_go 4000 ?_; simp)
  rw[hR]; exact rt_end (by simp<;>rfl) [] trivial (end_pure (by simp) (by simp) (by simp))
end Go.Am
namespace Go.Am
set_option linter.all false
open Go Go.RowKit Go.Proofs
set_option maxRecDepth 100000
set_option linter.all false
mutual
def okO:Out→Prop
 | .mk _ _ _ ks l=>(∀s∈ks,s.length≤9223372036854775807)∧okOs l
def okOs:List Out→Prop
 | []=>True
 | o::r=>okO o∧okOs r
end
theorem okO_eq(o:Out):okO o=((∀s∈o.keys,s.length≤9223372036854775807)∧okOs o.kids):=by cases o; rfl
theorem okOs_mem{l:List Out}(h:okOs l):∀o∈l,okO o:=by
 induction l with
 | nil=>intro o ho; cases ho
 | cons x r ih =>
  intro o ho
  rcases List.mem_cons.1 ho with rfl|ho
  ·exact h.1
  ·exact ih h.2 o ho
set_option maxHeartbeats 8000000 in
theorem one_ok'(o:Out)(id:Nat)(hk:∀s∈o.keys,s.length≤9223372036854775807):FnOk Tryd.prog 60 [eO o] [] id (.int .i64 (fOne o)) []:=by
 have hK:=fun id=>keys_ok o.keys id hk
 rw[eO_of o]
 refine fn_okc Tryd.func60 hcc60 (by decide) hcr60 (by simp[Tryd.ntmps60]) fun E hP hR hl hid=>?_
 simp only[cr60] at hR
 refine w_go 4000 ?_
 simp[cc60]
 refine goc (fun g1=>?_) (fun g1=>?_)<;>simp
 ·have hf:fOne o=7:=by unfold fOne; rw[if_pos (by simp at g1; omega)]
  rw[hf] at hR
  rw[hR]; exact rt_end (by simp<;>rfl) [] trivial (end_pure (by simp) (by simp) (by simp))
 have k1:¬(o.kind<1∨5<o.kind):=by simp at g1; omega
 have hB:(o.kind≠2∧o.n≠0)∨(o.kind≠3∧o.text≠[])∨(o.kind≠5∧o.keys≠[])∨(o.kind<4∧o.kids≠[])→fOne o=1:=fun h=>by unfold fOne; rw[if_neg k1,if_pos h]
 refine goc (fun g2=>?_) (fun g2=>?_)<;>simp
 ·rw[hB (.inl (by simpa using g2))] at hR
  refine goc_true g2 ?_
  simp
  rw[hR]; exact rt_end (by simp<;>rfl) [] trivial (end_pure (by simp) (by simp) (by simp))
 refine goc (fun g3=>?_) (fun g3=>?_)<;>simp
 ·rw[hB (.inr (.inl (by simpa using g3)))] at hR
  refine goc_true g3 ?_
  simp
  rw[hR]; exact rt_end (by simp<;>rfl) [] trivial (end_pure (by simp) (by simp) (by simp))
 refine goc (fun g4=>?_) (fun g4=>?_)<;>simp
 ·rw[hB (.inr (.inr (.inl (by simpa [List.length_pos_iff] using g4))))] at hR
  refine goc_true g4 ?_
  simp
  rw[hR]; exact rt_end (by simp<;>rfl) [] trivial (end_pure (by simp) (by simp) (by simp))
 refine goc (fun g5=>?_) (fun g5=>?_)<;>simp
 ·rw[hB (.inr (.inr (.inr (by simpa [List.length_pos_iff] using g5))))] at hR
  rw[hR]; exact rt_end (by simp<;>rfl) [] trivial (end_pure (by simp) (by simp) (by simp))
 have k2:¬((o.kind≠2∧o.n≠0)∨(o.kind≠3∧o.text≠[])∨(o.kind≠5∧o.keys≠[])∨(o.kind<4∧o.kids≠[])):=by revert g2 g3 g4 g5; simp[List.length_pos_iff]; grind
 (refine w_call hP rfl (lexInt_ok o.n _) (by simp) (by simp<;>rfl) ?_; refine w_go 4000 ?_; simp)
 refine goc (fun g6=>?_) (fun g6=>?_)<;>simp
 ·have hf:fOne o=3:=by unfold fOne; rw[if_neg k1,if_neg k2,if_pos (by simp at g6; omega)]
  rw[hf] at hR
  rw[hR]; exact rt_end (by simp<;>rfl) [] trivial (end_pure (by simp) (by simp) (by simp))
 have k3:¬¬(-999999999≤o.n∧o.n≤999999999):=by simp at g6; omega
 refine goc (fun g7=>?_) (fun g7=>?_)<;>simp
 ·have hf:fOne o=2:=by unfold fOne; rw[if_neg k1,if_neg k2,if_neg k3,if_pos (by simp at g7; omega)]
  rw[hf] at hR
  rw[hR]; exact rt_end (by simp<;>rfl) [] trivial (end_pure (by simp) (by simp) (by simp))
 have k4:¬40<o.text.length:=by simp at g7; omega
 refine goc (fun g8=>?_) (fun g8=>?_)<;>simp
 ·have hf:fOne o=1:=by unfold fOne; rw[if_neg k1,if_neg k2,if_neg k3,if_neg k4,if_pos (by simp at g8; omega)]
  rw[hf] at hR
  rw[hR]; exact rt_end (by simp<;>rfl) [] trivial (end_pure (by simp) (by simp) (by simp))
 have k5:¬(o.kind=5∧o.keys.length≠o.kids.length):=by simp at g8; omega
 have hf:fOne o=fKeys o.keys:=by unfold fOne; rw[if_neg k1,if_neg k2,if_neg k3,if_neg k4,if_neg k5]
 rw[hf] at hR
 (refine w_call hP rfl (hK _) (by simp) (by simp<;>rfl) ?_; refine w_go 4000 ?_; simp)
 rw[hR]; exact rt_end (by simp<;>rfl) [] trivial (end_pure (by simp) (by simp) (by simp))
set_option maxHeartbeats 4000000 in
theorem ocheck_ok:∀(m:Nat) (o:Out) (id:Nat),o.sz<m→o.sz≤1099511627776→okO o→FnOk Tryd.prog 31 [eO o] [] id (.int .i64 (fChkO o)) []
 | 0,o,id,hm,_,_=>by omega
 | m+1,o,id,hm,h8,hk=>by
  have hsz:=szO_eq o
  have hlen:=szOL_len o.kids
  rw[okO_eq] at hk
  have h1:=fun id=>one_ok' o id hk.1
  rw[eO_of o] at h1
  rw[fChkO_eq,eO_of o]
  refine fn_okc Tryd.func31 hcc31 (by decide) hcr31 (by simp[Tryd.ntmps31]) fun E hP hR hl hid=>?_
  simp only[cr31] at hR
  refine w_go 4000 ?_
  simp[cc31]
  (refine w_call hP rfl (h1 _) (by simp) (by simp<;>rfl) ?_; refine w_go 4000 ?_; simp)
  refine goc (fun g1=>?_) (fun g1=>?_)<;>simp
  ·have g1:fOne o≠0:=by simpa using g1
   rw[if_pos g1] at hR
   rw[hR]; exact rt_end (by simp<;>rfl) [] trivial (end_pure (by simp) (by simp) (by simp))
  have g1:fOne o=0:=by simpa using g1
  rw[if_neg (by simp[g1])] at hR
  refine w_loop (X:=Nat) (fun i=>⟨[(1,true,.ptr E.n0 0 0),(13,true,.sl (o.kids.map eO)),(14,true,.int .i64 o.kids.length),(15,true,.int .i64 i)],[(E.n0,some ⟨[.agg [.int .i64 o.kind,.int .i64 o.n,.str o.text,.sl (o.keys.map .str),.sl (o.kids.map eO)]],.agg [.int .i64 o.kind,.int .i64 o.n,.str o.text,.sl (o.keys.map .str),.sl (o.kids.map eO)],false,false⟩)],1⟩)
   (fun i=>i≤o.kids.length∧fChkOs (o.kids.drop i)=fChkOs o.kids) (fun i=>o.kids.length - i) 0 ?_ ⟨by omega,rfl⟩ ?_
  ·have hrn:rnOk [(E.n0,E.n0)]:=by simp
   refine Conv.sub [(E.n0,E.n0)] hrn ?_ ?_ ?_ ?_ ?_<;>(try simp)
  rintro i ⟨hi,hx⟩ p hp
  refine w_go 4000 ?_
  simp
  refine goc (fun h=>?_) (fun h=>?_)
  ·have h:=of_decide_eq_true h
   obtain⟨x,hxx,hd⟩:=drop_cons h
   rw[hd] at hx
   simp only[fChkOs] at hx
   have hi1:IntKind.i64.wrap ((i:Int)+1)=((i+1:Nat):Int):=wrap64 (by omega)
   have hxm:=szOL_mem (List.mem_of_getElem? hxx)
   have ih:=fun id=>ocheck_ok m x id (by omega) (by omega) (okOs_mem hk.2 x (List.mem_of_getElem? hxx))
   rw[eO_of x] at ih
   simp[hxx,eO_of x]
   refine⟨h,?_⟩
   (refine w_call hP rfl (ih _) (by simp) (by simp<;>rfl) ?_; refine w_go 4000 ?_; simp)
   refine goc (fun h5=>?_) (fun h5=>?_)<;>simp
   ·have h5:fChkO x≠0:=by simpa using h5
    rw[if_pos h5] at hx
    rw[←hx] at hR
    rw[hR]; exact rt_end (by simp<;>rfl) [] trivial (end_pure (by simp) (by simp) (by simp))
   ·have h5:fChkO x=0:=by simpa using h5
    rw[if_neg (by simp[h5])] at hx
    refine hp _ (i+1) ⟨h,hx⟩ (by omega) ?_
    have hrn:rnOk [(E.n0,E.n0)]:=by simp[hi1]
    refine Conv.sub [(E.n0,E.n0)] hrn ?_ ?_ ?_ ?_ ?_<;>(try simp[hi1])
  ·have h:=of_decide_eq_false h
   rw[List.drop_of_length_le (by omega)] at hx
   simp only[fChkOs] at hx
   rw[←hx] at hR
   simp
   rw[hR]; exact rt_end (by simp<;>rfl) [] trivial (end_pure (by simp) (by simp) (by simp))
theorem oCheck_ok(o:Out)(id:Nat)(h8:o.sz≤1099511627776)(hk:okO o):FnOk Tryd.prog 17 [eO o] [] id (.int .i64 (fOut o)) []:=by
 have hC:=fun id=>oSize_ok 11 [o] id (by omega) (by simp[szOL]; omega)
 have hK:=fun id=>ocheck_ok (o.sz+1) o id (by omega) h8 hk
 simp only[List.map_cons,List.map_nil] at hC
 rw[eO_of o] at hC hK ⊢
 refine fn_okc Tryd.func17 hcc17 (by decide) hcr17 (by simp[Tryd.ntmps17]) fun E hP hR hl hid=>?_
 simp only[cr17] at hR
 refine w_go 4000 ?_
 simp[cc17]
 (refine w_callR hP rfl (hC _) (by simp<;>rfl) (by simp) (by simp<;>rfl) (by simp) ?_; refine w_go 4000 ?_; simp)
 refine goc (fun g=>?_) (fun g=>?_)<;>simp
 ·have hf:fOut o=2:=by unfold fOut; rw[if_pos (by simp at g; omega)]
  rw[hf] at hR
  rw[hR]; exact rt_end (by simp<;>rfl) [] trivial (end_pure (by simp) (by simp) (by simp))
 ·have hf:fOut o=fChkO o:=by unfold fOut; rw[if_neg (by simp at g; omega)]
  rw[hf] at hR
  (refine w_call hP rfl (hK _) (by simp) (by simp<;>rfl) ?_; refine w_go 4000 ?_; simp)
  rw[hR]; exact rt_end (by simp<;>rfl) [] trivial (end_pure (by simp) (by simp) (by simp))
end Go.Am
