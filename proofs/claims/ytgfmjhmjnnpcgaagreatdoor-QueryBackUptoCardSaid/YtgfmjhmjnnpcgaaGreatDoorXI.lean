/- Parts of the proof: an abstract machine for Go functions, and what functions of the program give back (Ln1, Lx1, Lx2, Lx3, Lb3, Am54, Am55, Lx4). No condition. -/
import Derived.Test.YtgfmjhmjnnpcgaaGreatDoorXH
import Derived.Lib.AtoiAll
import Derived.Shelf.Small.Strs
import Derived.Test.YtgfmjhmjnnpcgaaGreatDoorXF
namespace Go.Am
set_option linter.all false
open Go Go.RowKit Go.Proofs
set_option maxRecDepth 100000
set_option linter.all false
def dgB(c:UInt8):Bool:=48≤c.toNat&&c.toNat≤57
def valD(l:List UInt8):Nat:=l.foldl (fun a c=>10*a+(c.toNat - 48)) 0
theorem toNat_u8(n:Nat):(UInt8.ofNat n).toNat=n % 256:=by simp
theorem decD_dg(u:Nat):∀c∈Lib.decDigits u,dgB c=true:=by
 induction u using Nat.strongRecOn with
 | _ u ih =>
  rw[Lib.decDigits]
  split
  ·rename_i h
   intro c hc
   obtain rfl:=List.mem_singleton.1 hc
   simp only[dgB,toNat_u8,Bool.and_eq_true,decide_eq_true_eq]
   omega
  ·rename_i h
   intro c hc
   rcases List.mem_append.1 hc with hc|hc
   ·exact ih (u / 10) (by omega) c hc
   ·obtain rfl:=List.mem_singleton.1 hc
    simp only[dgB,toNat_u8,Bool.and_eq_true,decide_eq_true_eq]
    omega
theorem decD_val(u:Nat):valD (Lib.decDigits u)=u:=by
 induction u using Nat.strongRecOn with
 | _ u ih =>
  rw[Lib.decDigits]
  split
  ·rename_i h
   simp only[valD,List.foldl_cons,List.foldl_nil,toNat_u8]
   omega
  ·rename_i h
   have:=ih (u / 10) (by omega)
   unfold valD at this ⊢
   rw[List.foldl_append,this]
   simp only[List.foldl_cons,List.foldl_nil,toNat_u8]
   omega
theorem val_ge:∀(l:List UInt8) (acc:Nat),acc≤l.foldl (fun a c=>10*a+(c.toNat - 48)) acc
 | [],acc=>Nat.le_refl _
 | c::r,acc=>Nat.le_trans (by omega) (val_ge r (10*acc+(c.toNat - 48)))
theorem pU_ok:∀(l:List UInt8) (acc:Nat),(∀c∈l,dgB c=true)→l.foldl (fun a c=>10*a+(c.toNat - 48)) acc<1844674407370955162→Lib.parseUint10 acc l = .ok (l.foldl (fun a c=>10*a+(c.toNat - 48)) acc)
 | [],acc,_,_=>rfl
 | c::r,acc,hd,hv=>by
  have hc:48≤c.toNat∧c.toNat≤57:=by simpa [dgB] using hd c (List.mem_cons_self ..)
  have hm:=val_ge r (10*acc+(c.toNat - 48))
  simp only[List.foldl_cons] at hv ⊢
  have e:acc*10+(c.toNat - 48)=10*acc+(c.toNat - 48):=by omega
  simp only[Lib.parseUint10]
  rw[if_pos hc,if_neg (by omega),if_neg (by omega),e]
  exact pU_ok r _ (fun x hx=>hd x (List.mem_cons_of_mem _ hx)) hv
theorem decD_ne(u:Nat):Lib.decDigits u≠[]:=fun hd=>by
 have:=congrArg List.length hd
 rw[Lib.decDigits] at this
 split at this<;>simp at this
theorem mag_dec{u:Nat}(hu:u≤999999999):Lib.parseMag (Lib.decDigits u) = .ok u:=by
 have hv:=decD_val u
 have hd:=decD_dg u
 unfold Lib.parseMag
 rw[if_neg (decD_ne u)]
 unfold valD at hv
 rw[pU_ok _ _ hd (by omega),hv]
theorem atoi_itoa{n:Int}(h : -999999999≤n∧n≤999999999):Lib.atoiAll (Lib.itoa n) = .ok n:=by
 unfold Lib.itoa
 split
 ·rename_i hn
  have h1:=mag_dec (u:=n.natAbs) (by omega)
  simp only[Lib.atoiAll]
  rw[if_pos (.inr (by decide)),h1]
  simp only
  rw[if_neg (by rintro⟨h,_⟩; exact h (by decide)),if_neg (by rintro⟨_,h⟩; omega),if_pos (by decide)]
  congr 1
  omega
 ·cases hd:Lib.decDigits n.toNat with
  | nil=>exact (decD_ne _ hd).elim
  | cons c r =>
   have hc:=decD_dg n.toNat c (by rw[hd]; exact List.mem_cons_self ..)
   have hc:48≤c.toNat∧c.toNat≤57:=by simpa [dgB] using hc
   have h1:=mag_dec (u:=n.toNat) (by omega)
   rw[hd] at h1
   simp only[Lib.atoiAll]
   rw[if_neg (by omega),h1]
   simp only
   rw[if_neg (by omega),if_neg (by omega),if_neg (by omega)]
   congr 1
   omega
theorem dec_small{u:Nat}(h:u<10):Lib.decDigits u=[UInt8.ofNat (48+u)]:=by rw[Lib.decDigits,dif_pos h]
theorem dec_big{u:Nat}(h:¬u<10):Lib.decDigits u=Lib.decDigits (u / 10)++Lib.decDigits (u % 10):=by
 rw[Lib.decDigits,dif_neg h,dec_small (show u % 10<10 by omega)]
theorem itoa_nat(u:Nat):Lib.itoa (u:Int)=Lib.decDigits u:=by
 unfold Lib.itoa
 rw[if_neg (by omega)]
 simp
theorem dec_len{u:Nat}(h:u≤999999999):(Lib.decDigits u).length≤9:=by
 have key:∀(k u:Nat),u<10 ^ (k+1)→(Lib.decDigits u).length≤k+1:=fun k=>by
  induction k with
  | zero=>intro u h; rw[dec_small (by simpa using h)]; simp
  | succ k ih =>
   intro u h
   by_cases hu:u<10
   ·rw[dec_small hu]; simp
   ·rw[dec_big hu,dec_small (show u % 10<10 by omega),List.length_append]
    have:=ih (u / 10) (by rw[Nat.pow_succ] at h; omega)
    simp; omega
 exact key 8 u (by omega)
set_option maxHeartbeats 4000000 in
theorem DigitsN_ok:∀(m u id:Nat),u<m→u≤999999999→FnOk Tryz.prog 47 [.int .i64 u] [] id (.str (Lib.decDigits u)) []
 | 0,u,id,h,_=>by omega
 | m+1,u,id,h,h9=>by
  by_cases hu:u<10
  ·rw[dec_small hu]
   have e1:IntKind.i64.wrap (48+(u:Int))=48+(u:Int):=wrap64 (by omega)
   have e2:IntKind.u8.wrap (48+(u:Int))=48+(u:Int):=by simp[IntKind.wrap,IntKind.signed,IntKind.bits]; omega
   have e5:toU8 (.int .u8 (48+(u:Int)))=UInt8.ofNat (48+u):=by
    show UInt8.ofNat (48+(u:Int)).toNat=_
    congr 1
   have e6:isU8 (.int .u8 (48+(u:Int)))=true:=by simp[isU8]; try omega
   refine fn_okc Tryz.func47 hcc47 (by decide) hcr47 (by simp[Tryz.ntmps47]) fun E hP hR hl hid=>?_
   simp only[cr47] at hR
   refine w_go 4000 ?_
   simp[cc47]
   refine goc_false (by simp; omega) ?_
   simp
   refine goc_false (by simp) ?_
   simp
   refine goc_true (by simp; omega) ?_
   simp[e1,e2]
   rw[e5]
   refine⟨e6,?_⟩
   rw[hR]; exact rt_end (by simp<;>rfl) [] trivial (end_pure (by simp) (by simp) (by simp))
  ·rw[dec_big hu]
   have h1:=fun id=>DigitsN_ok m (u / 10) id (by omega) (by omega)
   have h2:=fun id=>DigitsN_ok m (u % 10) id (by omega) (by omega)
   have l1:=dec_len (u:=u / 10) (by omega)
   have l2:=dec_len (u:=u % 10) (by omega)
   refine fn_okc Tryz.func47 hcc47 (by decide) hcr47 (by simp[Tryz.ntmps47]) fun E hP hR hl hid=>?_
   simp only[cr47] at hR
   refine w_go 4000 ?_
   simp[cc47]
   refine goc_false (by simp; omega) ?_
   simp
   refine goc_false (by simp) ?_
   simp
   refine goc_false (by simp; omega) ?_
   have e3:IntKind.i64.wrap ((u:Int) / 10)=((u / 10:Nat):Int):=by rw[show (u:Int) / 10=((u / 10:Nat):Int) by omega]; exact wrap64 (by omega)
   have e4:IntKind.i64.wrap ((u:Int) % 10)=((u % 10:Nat):Int):=by rw[show (u:Int) % 10=((u % 10:Nat):Int) by omega]; exact wrap64 (by omega)
   simp[e3]
   (refine w_call hP rfl (h1 _) (by simp[e4]) (by simp[e4]<;>rfl) ?_; refine w_go 4000 ?_; simp[e4])
   (refine w_call hP rfl (h2 _) (by simp[e4]) (by simp[e4]<;>rfl) ?_; refine w_go 4000 ?_; simp[e4])
   refine⟨by omega,?_⟩
   rw[hR]; exact rt_end (by simp<;>rfl) [] trivial (end_pure (by simp) (by simp) (by simp))
theorem Digits_all(n:Int)(id:Nat)(h : -999999999≤n∧n≤999999999):FnOk Tryz.prog 47 [.int .i64 n] [] id (.str (Lib.itoa n)) []:=by
 by_cases h0:0≤n
 ·obtain⟨u,rfl⟩:=Int.eq_ofNat_of_zero_le h0
  rw[itoa_nat]
  exact DigitsN_ok (u+1) u id (Nat.lt_succ_self _) (by omega)
 obtain⟨u,rfl⟩:∃u:Nat,n = -(u:Int):=⟨n.natAbs,by omega⟩
 have hI:Lib.itoa (-(u:Int))=45::Lib.decDigits u:=by
  unfold Lib.itoa
  rw[if_pos (by omega)]
  simp
 have hl:=dec_len (u:=u) (by omega)
 rw[hI]
 by_cases hu:u<10
 ·have h1:=fun id=>DigitsN_ok (u+1) u id (Nat.lt_succ_self _) (by omega)
  have e1:IntKind.i64.wrap (u:Int)=(u:Int):=wrap64 (by omega)
  refine fn_okc Tryz.func47 hcc47 (by decide) hcr47 (by simp[Tryz.ntmps47]) fun E hP hR hl hid=>?_
  simp only[cr47] at hR
  refine w_go 4000 ?_
  simp[cc47]
  refine goc_true (by simp; omega) ?_
  simp[e1]
  (refine w_call hP rfl (h1 _) (by simp) (by simp<;>rfl) ?_; refine w_go 4000 ?_; simp)
  refine⟨by omega,?_⟩
  rw[hR]; exact rt_end (by simp<;>rfl) [] trivial (end_pure (by simp) (by simp) (by simp))
 ·have h1:=fun id=>DigitsN_ok (u / 10+1) (u / 10) id (Nat.lt_succ_self _) (by omega)
  have h2:=fun id=>DigitsN_ok (u % 10+1) (u % 10) id (Nat.lt_succ_self _) (by omega)
  rw[dec_big hu,List.length_append] at hl
  rw[dec_big hu]
  have q1:IntKind.i64.wrap (-((u:Int) / 10)) = -((u:Int) / 10):=by simp[IntKind.wrap,IntKind.signed,IntKind.bits]; omega
  have q2:IntKind.i64.wrap ((u:Int) / 10)=((u / 10:Nat):Int):=by rw[show (u:Int) / 10=((u / 10:Nat):Int) by omega]; exact wrap64 (by omega)
  have q3:(u:Int).tmod 10=((u % 10:Nat):Int):=by rw[Int.tmod_eq_emod_of_nonneg (by omega)]; omega
  have q4:IntKind.i64.wrap ((u % 10:Nat):Int)=((u % 10:Nat):Int):=wrap64 (by omega)
  have q5:IntKind.i64.wrap ((u:Int) % 10)=(u:Int) % 10:=by rw[show (u:Int) % 10=((u % 10:Nat):Int) by omega]; exact wrap64 (by omega)
  rw[show ((u % 10:Nat):Int)=(u:Int) % 10 by omega] at h2
  refine fn_okc Tryz.func47 hcc47 (by decide) hcr47 (by simp[Tryz.ntmps47]) fun E hP hR hl hid=>?_
  simp only[cr47] at hR
  refine w_go 4000 ?_
  simp[cc47]
  refine goc_false (by simp; omega) ?_
  simp
  refine goc_true (by simp; omega) ?_
  simp[q1,q2]
  (refine w_call hP rfl (h1 _) (by simp[q3,q5]) (by simp[q3,q5]<;>rfl) ?_; refine w_go 4000 ?_; simp[q3,q5])
  refine⟨by omega,?_⟩
  (refine w_call hP rfl (h2 _) (by simp[q5]) (by simp[q5]<;>rfl) ?_; refine w_go 4000 ?_; simp[q5])
  refine⟨by omega,?_⟩
  rw[hR]; exact rt_end (by simp<;>rfl) [] trivial (end_pure (by simp) (by simp) (by simp))
def intE(neg:Bool)(e:List UInt8):Option Int :=
 if e.length<1∨9<e.length∨(e.head?=some 48∧(1<e.length∨neg=true)) then none else if e.all dgB=true then some (if neg=true then -(valD e:Int) else (valD e:Int)) else none
def intOf:List UInt8→Option Int
 | 45::r=>intE true r
 | d=>intE false d
def intN(o:Option Int):Int:=o.getD 0
theorem intOf_neg(r:List UInt8):intOf (45::r)=intE true r:=rfl
theorem intOf_pos{d:List UInt8}(h:d.head?≠some 45):intOf d=intE false d:=by
 unfold intOf
 split
 ·exact (h rfl).elim
 ·rfl
theorem intE_no{neg:Bool}{e:List UInt8}(h:e.length<1∨9<e.length∨(e.head?=some 48∧(1<e.length∨neg=true))):intN (intE neg e)=0∧(intE neg e).isSome=false:=by
 unfold intE; rw[if_pos h]; exact⟨rfl,rfl⟩
theorem intE_bad{neg:Bool}{e:List UInt8}(h:e.all dgB=false):intN (intE neg e)=0∧(intE neg e).isSome=false:=by
 unfold intE; rw[h]; split<;>exact⟨rfl,rfl⟩
theorem intE_yes{neg:Bool}{e:List UInt8}(h:¬(e.length<1∨9<e.length∨(e.head?=some 48∧(1<e.length∨neg=true))))(hd:e.all dgB=true):intN (intE neg e)=(if neg=true then -(valD e:Int) else (valD e:Int))∧(intE neg e).isSome=true:=by
 unfold intE; rw[if_neg h,if_pos hd]; exact⟨rfl,rfl⟩
theorem valD_snoc(l:List UInt8)(c:UInt8):valD (l++[c])=10*valD l+(c.toNat - 48):=by simp[valD]
theorem valD_lt{l:List UInt8}(h:∀c∈l,dgB c=true):∀i:Nat,i≤l.length→valD (l.take i)<10 ^ i
 | 0,_=>by simp[valD]
 | i+1,hi=>by
  obtain⟨c,hc⟩:∃c,l[i]?=some c:=⟨_,List.getElem?_eq_getElem (by omega)⟩
  have h1:=valD_lt h i (by omega)
  have h2:48≤c.toNat∧c.toNat≤57:=by simpa [dgB] using h c (List.mem_of_getElem? hc)
  rw[take_snoc hc,valD_snoc,Nat.pow_succ]
  omega
theorem all_take{l:List UInt8}(h:∀c∈l,dgB c=true):l.all dgB=true:=by simpa using h
theorem pow9{n:Nat}(h:n≤9):10 ^ n≤1000000000:=Nat.pow_le_pow_right (n:=10) (by omega) h
theorem notbt{n:Nat}(h:n<1∨9<n):(decide ((1:Int)≤(n:Int))&&decide ((n:Int)≤9))=false:=by
 rcases h with h|h<;>simp<;>omega
theorem isbt{n:Nat}(h:¬(n<1∨9<n)):(decide ((1:Int)≤(n:Int))&&decide ((n:Int)≤9))=true:=by simp; omega
set_option maxHeartbeats 16000000 in
theorem intOf_ok(d:List UInt8)(id:Nat)(h8:d.length≤1099511627776):FnOk Tryz.prog 42 [.str d] [] id (.tup [.int .i64 (intN (intOf d)),.bool (intOf d).isSome]) []:=by
 have hdw:∀c:UInt8,IntKind.i64.wrap (c.toNat:Int)=(c.toNat:Int):=fun c=>by have:=c.toNat_lt; exact wrap64 (by omega)
 have hdb:∀c:UInt8,(decide ((48:Int)≤(c.toNat:Int))&&decide ((c.toNat:Int)≤57))=dgB c:=fun c=>by
  unfold dgB
  rw[Bool.eq_iff_iff]; simp; omega
 have hD:=fun (c:UInt8) id=>between_ok (c.toNat:Int) 48 57 id
 simp only[hdb] at hD
 cases d with
 | nil =>
  have hB:=fun id=>between_ok 0 1 9 id
  rw[show intN (intOf [])=0 from rfl,show (intOf []).isSome=false from rfl]
  refine fn_okc Tryz.func42 hcc42 (by decide) hcr42 (by simp[Tryz.ntmps42]) fun E hP hR hl hid=>?_
  simp only[cr42] at hR
  refine w_go 4000 ?_
  simp[cc42]
  (refine w_call hP rfl (hB _) (by simp) (by simp<;>rfl) ?_; refine w_go 4000 ?_; simp)
  rw[hR]; exact rt_end (by simp<;>rfl) [] trivial (end_pure (by simp) (by simp) (by simp))
 | cons c r =>
  by_cases hs:c=45
  ·subst hs
   rw[intOf_neg]
   have hB:=fun id=>between_ok (r.length:Int) 1 9 id
   cases r with
   | nil =>
    obtain⟨e1,e2⟩:=intE_no (neg:=true) (e:=[]) (.inl (by simp))
    rw[e1,e2]
    refine fn_okc Tryz.func42 hcc42 (by decide) hcr42 (by simp[Tryz.ntmps42]) fun E hP hR hl hid=>?_
    simp only[cr42] at hR
    refine w_go 4000 ?_
    simp[cc42]
    (refine w_call hP rfl (hB _) (by simp) (by simp<;>rfl) ?_; refine w_go 4000 ?_; simp)
    rw[hR]; exact rt_end (by simp<;>rfl) [] trivial (end_pure (by simp) (by simp) (by simp))
   | cons c r =>
   have hz0:(((r.length:Nat):Int)+1)=((c::r).length:Int):=by simp
   by_cases hl:9<(c::r).length
   ·obtain⟨e1,e2⟩:=intE_no (neg:=true) (e:=c::r) (.inr (.inl hl))
    rw[e1,e2]
    rw[notbt (.inr hl),←hz0] at hB
    refine fn_okc Tryz.func42 hcc42 (by decide) hcr42 (by simp[Tryz.ntmps42]) fun E hP hR hl hid=>?_
    simp only[cr42] at hR
    refine w_go 4000 ?_
    simp[cc42]
    refine⟨by omega,?_⟩
    (refine w_call hP rfl (hB _) (by simp) (by simp<;>rfl) ?_; refine w_go 4000 ?_; simp)
    rw[hR]; exact rt_end (by simp<;>rfl) [] trivial (end_pure (by simp) (by simp) (by simp))
   rw[isbt (by simp at hl ⊢; omega),←hz0] at hB
   have hgd:((c.toNat:Int)=48→(c.toNat:Int)=48∧((r.length:Int)+1≤1→(c.toNat:Int)=48∧(r.length:Int)+1≤1)):=fun h=>⟨h,fun q=>⟨h,q⟩⟩
   have h48:(((c.toNat:Int)==48)=true↔c=48):=by
    rw[beq_iff_eq]
    constructor
    ·intro q; exact UInt8.toNat_inj.1 (by simpa using Int.ofNat_inj.1 q)
    ·intro q; rw[q]; rfl
   by_cases hz:(c::r).head?=some 48∧(1<(c::r).length∨true=true)
   ·obtain⟨e1,e2⟩:=intE_no (neg:=true) (e:=c::r) (.inr (.inr hz))
    rw[e1,e2]
    refine fn_okc Tryz.func42 hcc42 (by decide) hcr42 (by simp[Tryz.ntmps42]) fun E hP hR hl hid=>?_
    simp only[cr42] at hR
    refine w_go 4000 ?_
    simp[cc42]
    refine⟨by omega,?_⟩
    (refine w_call hP rfl (hB _) (by simp) (by simp<;>rfl) ?_; refine w_go 4000 ?_; simp)
    refine⟨hgd,?_⟩
    refine goc_true ?_ ?_
    ·have h1:c=48:=by simpa using hz.1
     have h2:=hz.2
     rw[h48.2 h1]; all_goals (simp at h2 ⊢; try omega)
    simp
    rw[hR]; exact rt_end (by simp<;>rfl) [] trivial (end_pure (by simp) (by simp) (by simp))
   have hnl:¬((c::r).length<1∨9<(c::r).length∨((c::r).head?=some 48∧(1<(c::r).length∨true=true))):=fun q=>by
    rcases q with q|q|q
    ·simp at q
    ·exact hl q
    ·exact hz q
   refine fn_okc Tryz.func42 hcc42 (by decide) hcr42 (by simp[Tryz.ntmps42]) fun E hP hR hl hid=>?_
   simp only[cr42] at hR
   refine w_go 4000 ?_
   simp[cc42]
   refine⟨by omega,?_⟩
   (refine w_call hP rfl (hB _) (by simp) (by simp<;>rfl) ?_; refine w_go 4000 ?_; simp)
   refine⟨hgd,?_⟩
   refine goc_false (by rw[Bool.eq_false_iff]; intro q; exact hz ⟨by simp[h48.1 q],.inr rfl⟩) ?_
   clear hB hgd h48 hz
   have hl9:(c::r).length≤9:=by omega
   simp
   generalize hee:c::r=e at *
   refine w_loop (X:=Nat) (fun i=>⟨[(4,true,.int .i64 (-1)),(5,true,.str e),(6,true,.int .i64 (valD (e.take i))),(7,true,.int .i64 i)],[],0⟩)
    (fun i=>i≤e.length∧∀x∈e.take i,dgB x=true) (fun i=>e.length - i) 0 ?_ ⟨by omega,by simp⟩ ?_
   ·have hv0:valD []=0:=rfl
    have hrn:rnOk []:=by simp[hv0,hee]
    refine Conv.sub [] hrn ?_ ?_ ?_ ?_ ?_<;>(try simp[hv0,hee])
   rintro i ⟨hi,hall⟩ p hp
   rcases Nat.lt_or_ge i e.length with h|h
   ·obtain⟨x,hxc,hd⟩:=drop_cons h
    have hi1:IntKind.i64.wrap ((i:Int)+1)=((i+1:Nat):Int):=wrap64 (by omega)
    have hci:e[i]=x:=by
     rw[List.getElem?_eq_getElem h] at hxc
     injection hxc
    have hDx:=hD x
    have hx8:=x.toNat_lt
    have hxm:=List.mem_of_getElem? hxc
    have hlv:=valD_lt (l:=e.take i) hall i (by rw[List.length_take]; omega)
    rw[List.take_take,Nat.min_self] at hlv
    have h10:=pow9 (n:=i) (by omega)
    have hst:=take_snoc hxc
    cases hdx:dgB x with
    | false =>
     obtain⟨e1,e2⟩:=intE_bad (neg:=true) (e:=e) (by
      rw[Bool.eq_false_iff]
      intro q
      rw[List.all_eq_true] at q
      rw[q x hxm] at hdx; cases hdx)
     rw[e1,e2] at hR
     rw[hdx] at hDx
     refine w_go 4000 ?_
     simp[h,hci,hdw]
     (refine w_call hP rfl (hDx _) (by simp) (by simp<;>rfl) ?_; refine w_go 4000 ?_; simp)
     rw[hR]; exact rt_end (by simp<;>rfl) [] trivial (end_pure (by simp) (by simp) (by simp))
    | true =>
     have hx2:48≤x.toNat∧x.toNat≤57:=by simpa [dgB] using hdx
     have hvs:valD (e.take (i+1))=10*valD (e.take i)+(x.toNat - 48):=by rw[hst,valD_snoc]
     generalize valD (e.take i)=v at *
     have w1:IntKind.i64.wrap (10*(v:Int))=((10*v:Nat):Int):=by rw[show 10*(v:Int)=((10*v:Nat):Int) by omega]; exact wrap64 (by omega)
     have w2:IntKind.i64.wrap (((10*v:Nat):Int)+(x.toNat:Int))=((10*v+x.toNat:Nat):Int):=by rw[show ((10*v:Nat):Int)+(x.toNat:Int)=((10*v+x.toNat:Nat):Int) by omega]; exact wrap64 (by omega)
     have w3:IntKind.i64.wrap (((10*v+x.toNat:Nat):Int) - 48)=((10*v+(x.toNat - 48):Nat):Int):=by rw[show ((10*v+x.toNat:Nat):Int) - 48=((10*v+(x.toNat - 48):Nat):Int) by omega]; exact wrap64 (by omega)
     rw[hdx] at hDx
     refine w_go 4000 ?_
     simp[h,hci,hdw]
     (refine w_call hP rfl (hDx _) (by simp[hxc]) (by simp[hxc]<;>rfl) ?_; refine w_go 4000 ?_; simp[hxc])
     refine⟨h,?_⟩
     rw[hdw,w1,w2,w3,hi1]
     refine hp _ (i+1) ⟨by omega,fun y hy=>by
      rw[hst] at hy
      rcases List.mem_append.1 hy with hy|hy
      ·exact hall y hy
      ·obtain rfl:=List.mem_singleton.1 hy; exact hdx⟩ (by omega) ?_
     have hrn:rnOk []:=by simp[hvs]
     refine Conv.sub [] hrn ?_ ?_ ?_ ?_ ?_<;>(try simp[hvs])
   ·have hie:e.take i=e:=List.take_of_length_le (by omega)
    rw[hie] at hall ⊢
    have hlv:=valD_lt hall e.length (Nat.le_refl _)
    rw[List.take_of_length_le (Nat.le_refl _)] at hlv
    have h10:=pow9 (n:=e.length) hl9
    obtain⟨e1,e2⟩:=intE_yes (neg:=true) (e:=e) hnl (all_take hall)
    simp only[Bool.false_eq_true,if_false,if_true] at e1
    rw[e1,e2] at hR
    have w3:IntKind.i64.wrap (valD e:Int)=(valD e:Int):=wrap64 (by omega)
    have w2:IntKind.i64.wrap (-(valD e:Int)) = -(valD e:Int):=by simp[IntKind.wrap,IntKind.signed,IntKind.bits]; omega
    refine w_go 4000 ?_
    simp[Nat.not_lt.2 h,w2,w3]
    rw[hR]; exact rt_end (by simp<;>rfl) [] trivial (end_pure (by simp) (by simp) (by simp))
  ·have hp:=intOf_pos (d:=c::r) (by simpa using hs)
   rw[hp]
   have hs':((c.toNat:Int)==45)=false:=by
    rw[beq_eq_false_iff_ne]
    intro q
    exact hs (UInt8.toNat_inj.1 (by simpa using Int.ofNat_inj.1 q))
   have hB:=fun id=>between_ok ((c::r).length:Int) 1 9 id
   have hz0:(((r.length:Nat):Int)+1)=((c::r).length:Int):=by simp
   by_cases hl:9<(c::r).length
   ·obtain⟨e1,e2⟩:=intE_no (neg:=false) (e:=c::r) (.inr (.inl hl))
    rw[e1,e2]
    rw[notbt (.inr hl),←hz0] at hB
    refine fn_okc Tryz.func42 hcc42 (by decide) hcr42 (by simp[Tryz.ntmps42]) fun E hP hR hl hid=>?_
    simp only[cr42] at hR
    refine w_go 4000 ?_
    simp[cc42]
    simp[hs']
    (refine w_call hP rfl (hB _) (by simp) (by simp<;>rfl) ?_; refine w_go 4000 ?_; simp)
    rw[hR]; exact rt_end (by simp<;>rfl) [] trivial (end_pure (by simp) (by simp) (by simp))
   rw[isbt (by simp at hl ⊢; omega),←hz0] at hB
   have hgd:((c.toNat:Int)=48→(c.toNat:Int)=48∧((r.length:Int)+1≤1→(c.toNat:Int)=48∧(r.length:Int)+1≤1)):=fun h=>⟨h,fun q=>⟨h,q⟩⟩
   have h48:(((c.toNat:Int)==48)=true↔c=48):=by
    rw[beq_iff_eq]
    constructor
    ·intro q; exact UInt8.toNat_inj.1 (by simpa using Int.ofNat_inj.1 q)
    ·intro q; rw[q]; rfl
   by_cases hz:(c::r).head?=some 48∧(1<(c::r).length∨false=true)
   ·obtain⟨e1,e2⟩:=intE_no (neg:=false) (e:=c::r) (.inr (.inr hz))
    rw[e1,e2]
    refine fn_okc Tryz.func42 hcc42 (by decide) hcr42 (by simp[Tryz.ntmps42]) fun E hP hR hl hid=>?_
    simp only[cr42] at hR
    refine w_go 4000 ?_
    simp[cc42]
    simp[hs']
    (refine w_call hP rfl (hB _) (by simp) (by simp<;>rfl) ?_; refine w_go 4000 ?_; simp)
    refine⟨hgd,?_⟩
    refine goc_true ?_ ?_
    ·have h1:c=48:=by simpa using hz.1
     have h2:=hz.2
     rw[h48.2 h1]; all_goals (simp at h2 ⊢; try omega)
    simp
    rw[hR]; exact rt_end (by simp<;>rfl) [] trivial (end_pure (by simp) (by simp) (by simp))
   have hnl:¬((c::r).length<1∨9<(c::r).length∨((c::r).head?=some 48∧(1<(c::r).length∨false=true))):=fun q=>by
    rcases q with q|q|q
    ·simp at q
    ·exact hl q
    ·exact hz q
   refine fn_okc Tryz.func42 hcc42 (by decide) hcr42 (by simp[Tryz.ntmps42]) fun E hP hR hl hid=>?_
   simp only[cr42] at hR
   refine w_go 4000 ?_
   simp[cc42]
   simp[hs']
   (refine w_call hP rfl (hB _) (by simp) (by simp<;>rfl) ?_; refine w_go 4000 ?_; simp)
   refine⟨hgd,?_⟩
   refine goc_false (by rw[Bool.eq_false_iff]; intro q; rw[Bool.and_eq_true] at q; exact hz ⟨by simp[h48.1 q.1],.inl (by have:=of_decide_eq_true q.2; simp; omega)⟩) ?_
   clear hB hgd h48 hz
   have hl9:(c::r).length≤9:=by omega
   simp
   generalize hee:c::r=e at *
   refine w_loop (X:=Nat) (fun i=>⟨[(4,true,.int .i64 (1)),(5,true,.str e),(6,true,.int .i64 (valD (e.take i))),(7,true,.int .i64 i)],[],0⟩)
    (fun i=>i≤e.length∧∀x∈e.take i,dgB x=true) (fun i=>e.length - i) 0 ?_ ⟨by omega,by simp⟩ ?_
   ·have hv0:valD []=0:=rfl
    have hrn:rnOk []:=by simp[hv0,hee]
    refine Conv.sub [] hrn ?_ ?_ ?_ ?_ ?_<;>(try simp[hv0,hee])
   rintro i ⟨hi,hall⟩ p hp
   rcases Nat.lt_or_ge i e.length with h|h
   ·obtain⟨x,hxc,hd⟩:=drop_cons h
    have hi1:IntKind.i64.wrap ((i:Int)+1)=((i+1:Nat):Int):=wrap64 (by omega)
    have hci:e[i]=x:=by
     rw[List.getElem?_eq_getElem h] at hxc
     injection hxc
    have hDx:=hD x
    have hx8:=x.toNat_lt
    have hxm:=List.mem_of_getElem? hxc
    have hlv:=valD_lt (l:=e.take i) hall i (by rw[List.length_take]; omega)
    rw[List.take_take,Nat.min_self] at hlv
    have h10:=pow9 (n:=i) (by omega)
    have hst:=take_snoc hxc
    cases hdx:dgB x with
    | false =>
     obtain⟨e1,e2⟩:=intE_bad (neg:=false) (e:=e) (by
      rw[Bool.eq_false_iff]
      intro q
      rw[List.all_eq_true] at q
      rw[q x hxm] at hdx; cases hdx)
     rw[e1,e2] at hR
     rw[hdx] at hDx
     refine w_go 4000 ?_
     simp[h,hci,hdw]
     (refine w_call hP rfl (hDx _) (by simp) (by simp<;>rfl) ?_; refine w_go 4000 ?_; simp)
     rw[hR]; exact rt_end (by simp<;>rfl) [] trivial (end_pure (by simp) (by simp) (by simp))
    | true =>
     have hx2:48≤x.toNat∧x.toNat≤57:=by simpa [dgB] using hdx
     have hvs:valD (e.take (i+1))=10*valD (e.take i)+(x.toNat - 48):=by rw[hst,valD_snoc]
     generalize valD (e.take i)=v at *
     have w1:IntKind.i64.wrap (10*(v:Int))=((10*v:Nat):Int):=by rw[show 10*(v:Int)=((10*v:Nat):Int) by omega]; exact wrap64 (by omega)
     have w2:IntKind.i64.wrap (((10*v:Nat):Int)+(x.toNat:Int))=((10*v+x.toNat:Nat):Int):=by rw[show ((10*v:Nat):Int)+(x.toNat:Int)=((10*v+x.toNat:Nat):Int) by omega]; exact wrap64 (by omega)
     have w3:IntKind.i64.wrap (((10*v+x.toNat:Nat):Int) - 48)=((10*v+(x.toNat - 48):Nat):Int):=by rw[show ((10*v+x.toNat:Nat):Int) - 48=((10*v+(x.toNat - 48):Nat):Int) by omega]; exact wrap64 (by omega)
     rw[hdx] at hDx
     refine w_go 4000 ?_
     simp[h,hci,hdw]
     (refine w_call hP rfl (hDx _) (by simp[hxc]) (by simp[hxc]<;>rfl) ?_; refine w_go 4000 ?_; simp[hxc])
     refine⟨h,?_⟩
     rw[hdw,w1,w2,w3,hi1]
     refine hp _ (i+1) ⟨by omega,fun y hy=>by
      rw[hst] at hy
      rcases List.mem_append.1 hy with hy|hy
      ·exact hall y hy
      ·obtain rfl:=List.mem_singleton.1 hy; exact hdx⟩ (by omega) ?_
     have hrn:rnOk []:=by simp[hvs]
     refine Conv.sub [] hrn ?_ ?_ ?_ ?_ ?_<;>(try simp[hvs])
   ·have hie:e.take i=e:=List.take_of_length_le (by omega)
    rw[hie] at hall ⊢
    have hlv:=valD_lt hall e.length (Nat.le_refl _)
    rw[List.take_of_length_le (Nat.le_refl _)] at hlv
    have h10:=pow9 (n:=e.length) hl9
    obtain⟨e1,e2⟩:=intE_yes (neg:=false) (e:=e) hnl (all_take hall)
    simp only[Bool.false_eq_true,if_false,if_true] at e1
    rw[e1,e2] at hR
    have w3:IntKind.i64.wrap (valD e:Int)=(valD e:Int):=wrap64 (by omega)
    have w2:IntKind.i64.wrap (-(valD e:Int)) = -(valD e:Int):=by simp[IntKind.wrap,IntKind.signed,IntKind.bits]; omega
    refine w_go 4000 ?_
    simp[Nat.not_lt.2 h,w2,w3]
    rw[hR]; exact rt_end (by simp<;>rfl) [] trivial (end_pure (by simp) (by simp) (by simp))
theorem dec_head:∀(m u:Nat),u<m→∃c r,Lib.decDigits u=c::r∧dgB c=true∧(c=48→u=0∧r=[])
 | 0,u,h=>by omega
 | m+1,u,h=>by
  by_cases hu:u<10
  ·refine⟨UInt8.ofNat (48+u),[],dec_small hu,?_,fun h=>?_⟩
   ·simp only[dgB,toNat_u8,Bool.and_eq_true,decide_eq_true_eq]
    omega
   ·have:=congrArg UInt8.toNat h
    simp only[toNat_u8] at this
    rw[show (48:UInt8).toNat=48 from rfl] at this
    exact⟨by omega,rfl⟩
  ·obtain⟨c,r,h1,h2,h3⟩:=dec_head m (u / 10) (by omega)
   refine⟨c,r++Lib.decDigits (u % 10),by rw[dec_big hu,h1]; rfl,h2,fun h=>?_⟩
   have:=(h3 h).1
   omega
theorem dg48{c:UInt8}(h:dgB c=true):48≤c.toNat∧c.toNat≤57:=by simpa [dgB] using h
theorem dec_val:∀(m:Nat) (e:List UInt8),e.length<m→e≠[]→(∀c∈e,dgB c=true)→(e.head?=some 48→e.length=1)→Lib.decDigits (valD e)=e
 | 0,e,h,_,_,_=>by omega
 | m+1,e,h,hne,hd,h0=>by
  rcases List.eq_nil_or_concat e with rfl|⟨f,c,rfl⟩
  ·exact (hne rfl).elim
  have hc:=dg48 (hd c (by simp))
  rw[List.concat_eq_append] at *
  rw[valD_snoc]
  have hc2:UInt8.ofNat (48+(c.toNat - 48))=c:=by rw[show 48+(c.toNat - 48)=c.toNat by omega]; simp
  cases f with
  | nil =>
   rw[show valD []=0 from rfl,dec_small (by omega)]
   simp only[Nat.mul_zero,Nat.zero_add,hc2,List.nil_append]
  | cons a f =>
   have ha:a≠48:=fun q=>by
    have:=h0 (by simp[q])
    simp at this
   have ih:=dec_val m (a::f) (by simp at h ⊢; omega) (by simp) (fun x hx=>hd x (by simp at hx ⊢; rcases hx with hx|hx<;>simp[hx])) (fun q=>by simp at q; exact (ha q).elim)
   have hpos:1≤valD (a::f):=by
    obtain⟨c',r',q1,_,q3⟩:=dec_head (valD (a::f)+1) (valD (a::f)) (Nat.lt_succ_self _)
    rcases Nat.eq_zero_or_pos (valD (a::f)) with q|q
    ·exfalso
     rw[q] at ih
     rw[dec_small (by omega)] at ih
     simp at ih
     exact ha ih.1.symm
    ·exact q
   rw[dec_big (by omega),show (10*valD (a::f)+(c.toNat - 48)) / 10=valD (a::f) by omega,show (10*valD (a::f)+(c.toNat - 48)) % 10=c.toNat - 48 by omega,ih,dec_small (by omega),hc2]
theorem intOf_itoa{n:Int}(h : -999999999≤n∧n≤999999999):intOf (Lib.itoa n)=some n:=by
 unfold Lib.itoa
 split
 ·rename_i hn
  obtain⟨c,r,h1,h2,h3⟩:=dec_head (n.natAbs+1) n.natAbs (Nat.lt_succ_self _)
  have hl:=dec_len (u:=n.natAbs) (by omega)
  have hv:=decD_val n.natAbs
  have hd:=decD_dg n.natAbs
  rw[h1] at hl hv hd ⊢
  rw[intOf_neg]
  unfold intE
  rw[if_neg (by
   rintro (q|q|⟨q,_⟩)
   ·simp at q
   ·omega
   ·simp at q; have:=(h3 q).1; omega),if_pos (all_take hd),if_pos rfl,hv]
  congr 1
  omega
 ·obtain⟨c,r,h1,h2,h3⟩:=dec_head (n.toNat+1) n.toNat (Nat.lt_succ_self _)
  have hl:=dec_len (u:=n.toNat) (by omega)
  have hv:=decD_val n.toNat
  have hd:=decD_dg n.toNat
  rw[h1] at hl hv hd ⊢
  rw[intOf_pos (by intro q; simp at q; rw[q] at h2; revert h2; decide)]
  unfold intE
  rw[if_neg (by
   rintro (q|q|⟨q,q2|q2⟩)
   ·simp at q
   ·omega
   ·simp at q; have:=(h3 q).2; rw[this] at q2; simp at q2
   ·cases q2),if_pos (all_take hd),if_neg (by simp),hv]
  congr 1
  omega
theorem intE_itoa{neg:Bool}{e:List UInt8}{n:Int}(h:intE neg e=some n):n=(if neg=true then -(valD e:Int) else (valD e:Int))∧Lib.decDigits (valD e)=e∧valD e≤999999999∧(neg=true→1≤valD e):=by
 unfold intE at h
 split at h
 ·cases h
 rename_i h1
 split at h
 rotate_left
 ·cases h
 rename_i h2
 injection h with h
 have hd:∀c∈e,dgB c=true:=by simpa using h2
 have hne:e≠[]:=fun q=>h1 (.inl (by simp[q]))
 have hl9:e.length≤9:=by
  rcases Nat.lt_or_ge 9 e.length with q|q
  ·exact (h1 (.inr (.inl q))).elim
  ·exact q
 have hl1:1≤e.length:=by cases e; exact (hne rfl).elim; simp
 have h48:e.head?=some 48→e.length=1:=fun q=>by
  rcases Nat.lt_or_ge 1 e.length with q2|q2
  ·exact (h1 (.inr (.inr ⟨q,.inl q2⟩))).elim
  ·omega
 have hv:=dec_val (e.length+1) e (Nat.lt_succ_self _) hne hd h48
 have hlt:=valD_lt hd e.length (Nat.le_refl _)
 rw[List.take_of_length_le (Nat.le_refl _)] at hlt
 have h10:=pow9 hl9
 refine⟨h.symm,hv,by omega,fun q=>?_⟩
 rcases Nat.eq_zero_or_pos (valD e) with q2|q2
 ·exfalso
  rw[q2,dec_small (by omega)] at hv
  exact h1 (.inr (.inr ⟨by rw[←hv]; rfl,.inr q⟩))
 ·exact q2
theorem itoa_intOf{d:List UInt8}{n:Int}(h:intOf d=some n):Lib.itoa n=d∧-999999999≤n∧n≤999999999:=by
 unfold intOf at h
 split at h
 ·rename_i r
  obtain⟨h1,h2,h3,h4⟩:=intE_itoa h
  have h4:=h4 rfl
  rw[if_pos rfl] at h1
  refine⟨?_,by omega,by omega⟩
  unfold Lib.itoa
  rw[if_pos (by omega),show n.natAbs=valD r by omega,h2]
 ·obtain⟨h1,h2,h3,_⟩:=intE_itoa h
  rw[if_neg (by simp)] at h1
  refine⟨?_,by omega,by omega⟩
  unfold Lib.itoa
  rw[if_neg (by omega),show n.toNat=valD d by omega,h2]
end Go.Am
namespace Go.Am
set_option linter.all false
open Go Go.RowKit Go.Proofs
set_option maxRecDepth 100000
set_option linter.all false
structure Tk where
 kind:Int
 text:List UInt8
 n:Int
def blC(c:UInt8):Bool:=c==9||c==10||c==13||c==32||c==44
def blk:Bool→List UInt8→List UInt8
 | _,[]=>[]
 | false,c::r=>if blC c=true then blk false r else if c=35 then blk true r else c::r
 | true,c::r=>if c=10 then blk false r else blk true r
def sgC(c:UInt8):Bool:=[123,125,40,41,58,91,93].contains c
def pTq:Bool→List UInt8→List UInt8→Option (List UInt8×List UInt8)
 | _,_,[]=>none
 | false,acc,c::r=>if c=10 then none else if c=34 then some (acc,r) else if c=92 then pTq true acc r else pTq false (acc++[c]) r
 | true,acc,c::r=>if c=34∨c=92 then pTq false (acc++[c]) r else if c=110 then pTq false (acc++[10]) r else none
def numW(c:UInt8)(r:List UInt8):List UInt8:=c::r.takeWhile isDg
def pTok(c:UInt8)(r:List UInt8):Except Int (Tk×List UInt8) :=
 if isLt c=true then (if fName ((c::r).takeWhile anC)=0 then .ok (⟨1,(c::r).takeWhile anC,0⟩,(c::r).dropWhile anC) else .error (fName ((c::r).takeWhile anC)))
 else if isDg c=true∨c=45 then (match intOf (numW c r) with
  | none=>.error 1
  | some n=>.ok (⟨2,[],n⟩,r.dropWhile isDg))
 else if c=34 then (match pTq false [] r with
  | none=>.error 1
  | some p=>if 40<p.1.length then .error 2 else .ok (⟨3,p.1,0⟩,p.2))
 else if sgC c=true then .ok (⟨4,[c],0⟩,r)
 else .error 1
def pToks:Nat→List Tk→List UInt8→Except Int (List Tk)
 | 0,_,_=>.error 1
 | n+1,acc,s=>match blk false s with
  | []=>.ok acc
  | c::r=>match pTok c r with
   | .error e=>.error e
   | .ok p=>if 300<acc.length+1 then .error 2 else pToks n (acc++[p.1]) p.2
def fAll(s:List UInt8):Except Int (List Tk):=pToks (s.length+1) [] s
def fLex(s:List UInt8):Except Int (List Tk):=if 2000<s.length then .error 2 else fAll s
theorem blk_le:∀(b:Bool) (s:List UInt8),(blk b s).length≤s.length
 | false,[]=>Nat.le_refl _
 | true,[]=>Nat.le_refl _
 | false,c::r=>by
  have h1:=blk_le false r
  have h2:=blk_le true r
  unfold blk
  split
  ·simp; omega
  ·split
   ·simp; omega
   ·exact Nat.le_refl _
 | true,c::r=>by
  have h1:=blk_le false r
  have h2:=blk_le true r
  unfold blk
  split<;>(simp; omega)
theorem blk_suf:∀(b:Bool) (s:List UInt8),blk b s <:+ s
 | false,[]=>List.suffix_refl _
 | true,[]=>List.suffix_refl _
 | false,c::r=>by
  have h1:=blk_suf false r
  have h2:=blk_suf true r
  unfold blk
  split
  ·exact h1.trans (List.suffix_cons c r)
  ·split
   ·exact h2.trans (List.suffix_cons c r)
   ·exact List.suffix_refl _
 | true,c::r=>by
  have h1:=blk_suf false r
  have h2:=blk_suf true r
  unfold blk
  split
  ·exact h1.trans (List.suffix_cons c r)
  ·exact h2.trans (List.suffix_cons c r)
theorem blk_head:∀(b:Bool) (s:List UInt8) (c:UInt8) (r:List UInt8),blk b s=c::r→blC c=false∧c≠35
 | false,[],c,r,h=>by cases h
 | true,[],c,r,h=>by cases h
 | false,d::t,c,r,h=>by
  unfold blk at h
  split at h
  ·exact blk_head false t c r h
  ·rename_i h1
   split at h
   ·exact blk_head true t c r h
   ·rename_i h2
    injection h with h3 h4
    subst h3
    exact⟨by simpa using h1,h2⟩
 | true,d::t,c,r,h=>by
  unfold blk at h
  split at h
  ·exact blk_head false t c r h
  ·exact blk_head true t c r h
theorem blk_fix{c:UInt8}{r:List UInt8}(h1:blC c=false)(h2:c≠35):blk false (c::r)=c::r:=by
 unfold blk
 rw[if_neg (by simp[h1]),if_neg h2]
theorem blk_blk(b:Bool)(s:List UInt8):blk false (blk b s)=blk b s:=by
 cases h:blk b s with
 | nil=>rfl
 | cons c r=>exact blk_fix (blk_head b s c r h).1 (blk_head b s c r h).2
theorem pTq_lt:∀(b:Bool) (acc s t u:List UInt8),pTq b acc s=some (t,u)→u.length<s.length∧u <:+ s
 | false,acc,[],t,u,h=>by cases h
 | true,acc,[],t,u,h=>by cases h
 | false,acc,c::r,t,u,h=>by
  unfold pTq at h
  split at h
  ·cases h
  split at h
  ·simp only[Option.some.injEq,Prod.mk.injEq] at h
   rw[←h.2]; exact⟨by simp,List.suffix_cons c r⟩
  split at h
  ·have:=pTq_lt true acc r t u h
   exact⟨by simp; omega,this.2.trans (List.suffix_cons c r)⟩
  ·have:=pTq_lt false _ r t u h
   exact⟨by simp; omega,this.2.trans (List.suffix_cons c r)⟩
 | true,acc,c::r,t,u,h=>by
  unfold pTq at h
  split at h
  ·have:=pTq_lt false _ r t u h
   exact⟨by simp; omega,this.2.trans (List.suffix_cons c r)⟩
  split at h
  ·have:=pTq_lt false _ r t u h
   exact⟨by simp; omega,this.2.trans (List.suffix_cons c r)⟩
  ·cases h
theorem isLt_an{c:UInt8}(h:isLt c=true):anC c=true:=by unfold anC; rw[h]; rfl
theorem pTok_lt{c:UInt8}{r u:List UInt8}{t:Tk}(h:pTok c r = .ok (t,u)):u.length≤r.length∧u <:+ r:=by
 unfold pTok at h
 split at h
 ·rename_i h1
  split at h
  ·injection h with h
   rw[Prod.mk.injEq] at h
   rw[←h.2,List.dropWhile_cons_of_pos (isLt_an h1)]
   exact⟨(List.dropWhile_suffix _).length_le,List.dropWhile_suffix _⟩
  ·cases h
 split at h
 ·split at h
  ·cases h
  ·injection h with h
   rw[Prod.mk.injEq] at h
   rw[←h.2]
   exact⟨(List.dropWhile_suffix _).length_le,List.dropWhile_suffix _⟩
 split at h
 ·split at h
  ·cases h
  ·rename_i p hp
   split at h
   ·cases h
   ·injection h with h
    rw[Prod.mk.injEq] at h
    obtain⟨p1,p2⟩:=p
    have:=pTq_lt _ _ _ _ _ hp
    rw[←h.2]; exact⟨by simp only; omega,this.2⟩
 split at h
 ·injection h with h
  rw[Prod.mk.injEq] at h
  rw[←h.2]; exact⟨Nat.le_refl _,List.suffix_refl _⟩
 ·cases h
inductive RdT:List UInt8→List Tk→Prop
 | nil {s:List UInt8}:blk false s=[]→RdT s []
 | cons {s r u:List UInt8} {c:UInt8} {t:Tk} {l:List Tk}:blk false s=c::r→pTok c r = .ok (t,u)→RdT u l→RdT s (t::l)
theorem rd_toks:∀(n:Nat) (s:List UInt8) (acc l:List Tk),pToks n acc s = .ok l→acc.length≤300→∃l',l=acc++l'∧RdT s l'∧l.length≤300
 | 0,s,acc,l,h,_=>by cases h
 | n+1,s,acc,l,h,ha=>by
  unfold pToks at h
  split at h
  ·rename_i hb
   injection h with h
   exact⟨[],by rw[h]; simp,.nil hb,by rw[←h]; exact ha⟩
  ·rename_i c r hb
   split at h
   ·cases h
   ·rename_i p hp
    split at h
    ·cases h
    ·obtain⟨l',h1,h2,h3⟩:=rd_toks n p.2 (acc++[p.1]) l h (by simp; omega)
     exact⟨p.1::l',by rw[h1]; simp,.cons hb hp h2,h3⟩
theorem toks_rd{s:List UInt8}{l:List Tk}(h:RdT s l):∀(n:Nat) (acc:List Tk),s.length<n→acc.length+l.length≤300→pToks n acc s = .ok (acc++l):=by
 induction h with
 | nil hb =>
  intro n acc hn hl
  obtain⟨n,rfl⟩:=Nat.exists_eq_succ_of_ne_zero (show n≠0 by omega)
  simp only[Nat.succ_eq_add_one,pToks]
  rw[hb]; simp
 | @cons s r u c t l hb hp _ ih =>
  intro n acc hn hl
  obtain⟨n,rfl⟩:=Nat.exists_eq_succ_of_ne_zero (show n≠0 by omega)
  have h1:=blk_le false s
  have h2:=pTok_lt hp
  rw[hb] at h1
  simp only[List.length_cons] at h1 hl
  simp only[Nat.succ_eq_add_one,pToks]
  rw[hb]
  simp only
  rw[hp]
  simp only
  rw[if_neg (by omega),ih n (acc++[t]) (by omega) (by simp; omega)]
  simp
theorem fLex_ok(s:List UInt8)(l:List Tk):fLex s = .ok l↔s.length≤2000∧RdT s l∧l.length≤300:=by
 unfold fLex fAll
 constructor
 ·intro h
  split at h
  ·cases h
  ·obtain⟨l',h1,h2,h3⟩:=rd_toks _ _ _ _ h (by simp)
   rw[List.nil_append] at h1
   subst h1
   exact⟨by omega,h2,h3⟩
 ·rintro⟨h1,h2,h3⟩
  rw[if_neg (by omega),toks_rd h2 _ _ (by omega) (by simpa using h3)]
  simp
theorem rd_blk{s t:List UInt8}{l:List Tk}(h:blk false s=blk false t)(hs:RdT s l):RdT t l:=by
 cases hs with
 | nil h1=>exact .nil (by rw[←h]; exact h1)
 | cons h1 h2 h3=>exact .cons (by rw[←h]; exact h1) h2 h3
end Go.Am
namespace Go.Am
set_option linter.all false
open Go Go.RowKit Go.Proofs
set_option maxRecDepth 100000
set_option linter.all false
def fTk(t:Tk):Int :=
 if t.kind<1∨4<t.kind then 7
 else if (t.kind=2∧t.text≠[])∨(t.kind≠2∧t.n≠0) then 1
 else if t.kind=1 then fName t.text
 else if t.kind=2 then (if -999999999≤t.n∧t.n≤999999999 then 0 else 3)
 else if t.kind=3 then (if 40<t.text.length then 2 else 0)
 else (if t.text.length=1∧t.text.all sgC=true then 0 else 1)
def fTkL:List Tk→Int
 | []=>0
 | t::l=>if fTk t≠0 then fTk t else fTkL l
def fTks(l:List Tk):Int:=if 300<l.length then 2 else fTkL l
def lQ(c:UInt8):List UInt8:=if c=34 then [92,34] else if c=92 then [92,92] else if c=10 then [92,110] else [c]
def lQs(s:List UInt8):List UInt8:=s.flatMap lQ
def wrTk(t:Tk):List UInt8:=if t.kind=2 then Lib.itoa t.n else if t.kind=3 then 34::lQs t.text++[34] else t.text
def tkB(l:List Tk):List UInt8:=Lib.join (l.map wrTk) [32]
theorem fTkL_all:∀l:List Tk,fTkL l=0↔∀t∈l,fTk t=0
 | []=>by simp[fTkL]
 | t::l=>by
  have:=fTkL_all l
  unfold fTkL
  split
  ·rename_i h
   constructor
   ·intro h2; exact (h h2).elim
   ·intro h2; exact (h (h2 t (List.mem_cons_self ..))).elim
  ·rename_i h
   rw[this]
   simp at h
   simp[h]
theorem fTks_all(l:List Tk):fTks l=0↔l.length≤300∧∀t∈l,fTk t=0:=by
 unfold fTks
 split
 ·constructor
  ·intro h; cases h
  ·rintro⟨h,_⟩; omega
 ·rw[fTkL_all]
  constructor
  ·intro h; exact⟨by omega,h⟩
  ·rintro⟨_,h⟩; exact h
theorem tkB_nil:tkB []=[]:=rfl
theorem tkB_cons(t:Tk)(l:List Tk):tkB (t::l)=wrTk t++l.flatMap fun x=>32::wrTk x:=by
 unfold tkB
 cases l with
 | nil=>simp[Lib.join]
 | cons u l =>
  have key:∀(l:List (List UInt8)) (a:List UInt8),Lib.join (a::l) [32]=a++l.flatMap fun x=>32::x:=fun l=>by
   induction l with
   | nil=>intro a; simp[Lib.join]
   | cons b l ih =>
    intro a
    have:=ih b
    simp[Lib.join] at this ⊢
    try rw[this]
  rw[List.map_cons,key]
  simp[List.flatMap_map]
theorem pTq_q:∀(s acc x:List UInt8),pTq false acc (lQs s++34::x)=some (acc++s,x)
 | [],acc,x=>by simp[lQs,pTq]
 | c::s,acc,x=>by
  have ih:=pTq_q s (acc++[c]) x
  have e:lQs (c::s)++34::x=lQ c++(lQs s++34::x):=by simp[lQs]
  have e2:acc++c::s=acc++[c]++s:=by simp
  rw[e,e2,←ih]
  unfold lQ
  by_cases h1:c=34
  ·subst h1; simp[pTq]
  rw[if_neg h1]
  by_cases h2:c=92
  ·subst h2; simp[pTq]
  rw[if_neg h2]
  by_cases h3:c=10
  ·subst h3; simp[pTq]
  rw[if_neg h3]
  simp[pTq,h1,h2,h3]
theorem tw_end{p:UInt8→Bool}{a:List UInt8}(h:∀c∈a,p c=true){x:List UInt8}(hx:∀c r,x=c::r→p c=false):(a++x).takeWhile p=a∧(a++x).dropWhile p=x:=by
 induction a with
 | nil =>
  cases x with
  | nil=>exact⟨rfl,rfl⟩
  | cons c r =>
   have:=hx c r rfl
   simp[this]
 | cons d a ih =>
  have h1:=h d (List.mem_cons_self ..)
  have h2:=ih fun c hc=>h c (List.mem_cons_of_mem _ hc)
  rw[List.cons_append,List.takeWhile_cons_of_pos h1,List.dropWhile_cons_of_pos h1,h2.1,h2.2]
  exact⟨rfl,rfl⟩
theorem lt_bl:∀c:UInt8,isLt c=true→blC c=false∧c≠35∧isDg c=false∧c≠45∧c≠34:=by
 intro c h
 have h:((97≤c.toNat∧c.toNat≤122)∨(65≤c.toNat∧c.toNat≤90))∨c.toNat=95:=by simpa [isLt] using h
 have key:∀d:UInt8,c=d→c.toNat=d.toNat:=fun d e=>by rw[e]
 refine⟨?_,?_,?_,?_,?_⟩
 ·unfold blC
  simp only[Bool.or_eq_false_iff,beq_eq_false_iff_ne]
  refine⟨⟨⟨⟨?_,?_⟩,?_⟩,?_⟩,?_⟩<;>(intro e; have:=key _ e; simp at this; omega)
 ·intro e; have:=key _ e; simp at this; omega
 ·unfold isDg; simp; omega
 ·intro e; have:=key _ e; simp at this; omega
 ·intro e; have:=key _ e; simp at this; omega
theorem dg_bl:∀c:UInt8,isDg c=true∨c=45→blC c=false∧c≠35∧isLt c=false:=by
 intro c h
 have h:45≤c.toNat∧c.toNat≤57:=by
  rcases h with h|rfl
  ·simp[isDg] at h; omega
  ·decide
 have key:∀d:UInt8,c=d→c.toNat=d.toNat:=fun d e=>by rw[e]
 refine⟨?_,?_,?_⟩
 ·unfold blC
  simp only[Bool.or_eq_false_iff,beq_eq_false_iff_ne]
  refine⟨⟨⟨⟨?_,?_⟩,?_⟩,?_⟩,?_⟩<;>(intro e; have:=key _ e; simp at this; omega)
 ·intro e; have:=key _ e; simp at this; omega
 ·unfold isLt; simp; omega
theorem sg_bl{c:UInt8}(h:sgC c=true):blC c=false∧c≠35∧isLt c=false∧isDg c=false∧c≠45∧c≠34:=by
 have h:c=123∨c=125∨c=40∨c=41∨c=58∨c=91∨c=93:=by simpa [sgC] using h
 rcases h with rfl|rfl|rfl|rfl|rfl|rfl|rfl<;>decide
theorem itoa_num(n:Int):∃c r,Lib.itoa n=c::r∧(isDg c=true∨c=45)∧∀d∈r,isDg d=true:=by
 unfold Lib.itoa
 split
 ·exact⟨45,_,rfl,.inr rfl,fun d hd=>decD_dg _ d hd⟩
 ·cases h:Lib.decDigits n.toNat with
  | nil=>exact (decD_ne _ h).elim
  | cons c r =>
   have:=decD_dg n.toNat
   rw[h] at this
   exact⟨c,r,rfl,.inl (this c (List.mem_cons_self ..)),fun d hd=>this d (List.mem_cons_of_mem _ hd)⟩
def endT(x:List UInt8):Prop:=∀c r,x=c::r→c=32
theorem wr_read{t:Tk}(h:fTk t=0){x:List UInt8}(hx:endT x):∃c r,wrTk t++x=c::r∧blC c=false∧c≠35∧pTok c r = .ok (t,x):=by
 have han:∀c r,x=c::r→anC c=false:=fun c r e=>by rw[hx c r e]; decide
 have hdg:∀c r,x=c::r→isDg c=false:=fun c r e=>by rw[hx c r e]; decide
 obtain⟨k,tx,n⟩:=t
 unfold fTk at h
 simp only at h
 split at h
 ·cases h
 rename_i h0
 split at h
 ·cases h
 rename_i h1
 split at h
 ·rename_i hk
  subst hk
  have hn:n=0:=by
   apply Classical.byContradiction
   intro q
   exact h1 (.inr ⟨by decide,q⟩)
  subst hn
  have hok:nameOk tx=true:=by
   unfold fName at h
   split at h
   ·cases h
   ·split at h
    ·assumption
    ·cases h
  cases tx with
  | nil=>cases hok
  | cons c r =>
   simp only[nameOk,Bool.and_eq_true,List.all_eq_true] at hok
   obtain⟨b1,b2,b3,b4,b5⟩:=lt_bl c hok.1
   have hall:∀d∈c::r,anC d=true:=fun d hd=>by
    rcases List.mem_cons.1 hd with rfl|hd
    ·exact isLt_an hok.1
    ·exact hok.2 d hd
   obtain⟨e1,e2⟩:=tw_end hall han
   refine⟨c,r++x,by simp[wrTk],b1,b2,?_⟩
   unfold pTok
   rw[←List.cons_append,e1,e2,if_pos hok.1,if_pos h]
 split at h
 ·rename_i hk
  subst hk
  have ht:tx=[]:=by
   apply Classical.byContradiction
   intro q
   exact h1 (.inl ⟨rfl,q⟩)
  subst ht
  split at h
  ·rename_i hr
   obtain⟨c,r,e,hc,hd⟩:=itoa_num n
   obtain⟨b1,b2,b3⟩:=dg_bl c hc
   obtain⟨e1,e2⟩:=tw_end hd hdg
   refine⟨c,r++x,by simp[wrTk,e],b1,b2,?_⟩
   unfold pTok
   rw[if_neg (by simp[b3]),if_pos hc]
   have hw:numW c (r++x)=Lib.itoa n:=by unfold numW; rw[e1,e]
   rw[hw,intOf_itoa hr,e2]
  ·cases h
 rename_i hk2
 have hn:n=0:=by
  apply Classical.byContradiction
  intro q
  exact h1 (.inr ⟨hk2,q⟩)
 subst hn
 split at h
 ·rename_i hk
  subst hk
  split at h
  ·cases h
  ·rename_i hl
   refine⟨34,lQs tx++34::x,by simp[wrTk],by decide,by decide,?_⟩
   unfold pTok
   rw[if_neg (by decide),if_neg (by decide),if_pos rfl,pTq_q,List.nil_append]
   simp only
   rw[if_neg hl]
 rename_i hk1 hk3
 split at h
 ·rename_i hs
  obtain⟨hl,ha⟩:=hs
  obtain⟨c,rfl⟩:=List.length_eq_one_iff.1 hl
  have hc:sgC c=true:=by simpa using ha
  obtain⟨b1,b2,b3,b4,b5,b6⟩:=sg_bl hc
  have hk:k=4:=by omega
  subst hk
  refine⟨c,x,by simp[wrTk],b1,b2,?_⟩
  unfold pTok
  rw[if_neg (by simp[b3]),if_neg (by simp[b4,b5]),if_neg b6,if_pos hc]
 ·cases h
theorem rd_more:∀l:List Tk,(∀t∈l,fTk t=0)→RdT (l.flatMap fun x=>32::wrTk x) l
 | [],_=>.nil rfl
 | t::l,h=>by
  have h1:=h t (List.mem_cons_self ..)
  have ih:=rd_more l fun x hx=>h x (List.mem_cons_of_mem _ hx)
  have hx:endT (l.flatMap fun x=>32::wrTk x):=by
   intro c r e
   cases l with
   | nil=>cases e
   | cons u l=>simp only[List.flatMap_cons,List.cons_append] at e; injection e with e1 e2; exact e1.symm
  obtain⟨c,r,e,b1,b2,hp⟩:=wr_read h1 hx
  rw[List.flatMap_cons,List.cons_append,e]
  refine .cons ?_ hp ih
  show blk false (32::c::r)=c::r
  rw[show blk false (32::c::r)=blk false (c::r) from by simp[blk,blC]]
  exact blk_fix b1 b2
theorem rd_wr{l:List Tk}(h:∀t∈l,fTk t=0):RdT (tkB l) l:=by
 have:=rd_more l h
 cases l with
 | nil=>exact .nil rfl
 | cons t l =>
  refine rd_blk ?_ this
  rw[tkB_cons,List.flatMap_cons,List.cons_append]
  simp[blk,blC]
theorem tok_right{c:UInt8}{r u:List UInt8}{t:Tk}(h:pTok c r = .ok (t,u)):fTk t=0:=by
 unfold pTok at h
 split at h
 ·split at h
  ·rename_i h2
   injection h with h
   rw[Prod.mk.injEq] at h
   rw[←h.1]; simp[fTk,h2]
  ·cases h
 split at h
 ·split at h
  ·cases h
  ·rename_i n hn
   injection h with h
   rw[Prod.mk.injEq] at h
   have:=(itoa_intOf hn).2
   rw[←h.1]; simp[fTk,this]
 split at h
 ·split at h
  ·cases h
  ·rename_i p hp
   split at h
   ·cases h
   ·rename_i hl
    injection h with h
    rw[Prod.mk.injEq] at h
    rw[←h.1]; simp[fTk,hl]
 split at h
 ·rename_i hc
  injection h with h
  rw[Prod.mk.injEq] at h
  rw[←h.1]; simp[fTk,hc]
 ·cases h
theorem rd_right{s:List UInt8}{l:List Tk}(h:RdT s l):∀t∈l,fTk t=0:=by
 induction h with
 | nil=>intro t ht; cases ht
 | cons _ hp _ ih =>
  intro t ht
  rcases List.mem_cons.1 ht with rfl|ht
  ·exact tok_right hp
  ·exact ih t ht
theorem lex_back{s:List UInt8}{l:List Tk}(h:fLex s = .ok l):fTks l=0:=by
 obtain⟨_,h2,h3⟩:=(fLex_ok s l).1 h
 exact (fTks_all l).2 ⟨h3,rd_right h2⟩
theorem lex_print{l:List Tk}(h:fTks l=0)(h8:(tkB l).length≤2000):fLex (tkB l) = .ok l:=by
 obtain⟨h1,h2⟩:=(fTks_all l).1 h
 exact (fLex_ok _ l).2 ⟨h8,rd_wr h2,h1⟩
end Go.Am
namespace Go.Am
set_option linter.all false
open Go Go.RowKit Go.Proofs
set_option maxRecDepth 100000
set_option linter.all false
theorem toks_fuel:∀(n m:Nat) (acc:List Tk) (s t:List UInt8),blk false s=blk false t→(blk false s).length<n→(blk false s).length<m→pToks n acc s=pToks m acc t
 | 0,_,_,_,_,_,h,_=>by omega
 | _,0,_,_,_,_,_,h=>by omega
 | n+1,m+1,acc,s,t,he,hn,hm=>by
  unfold pToks
  rw[←he]
  cases hb:blk false s with
  | nil=>rfl
  | cons c r =>
   simp only
   rw[hb] at hn hm
   simp only[List.length_cons] at hn hm
   cases hp:pTok c r with
   | error e=>rfl
   | ok p =>
    simp only
    obtain⟨k,u⟩:=p
    have h1:=pTok_lt hp
    have h2:=blk_le false u
    rw[toks_fuel n m (acc++[k]) u u rfl (by omega) (by omega)]
end Go.Am
namespace Go.Am
set_option linter.all false
open Go Go.RowKit Go.Proofs Go.Shelf
set_option maxRecDepth 100000
set_option linter.all false
def layIndexByte_ren:Go.Shelf.Ren:=⟨fun|137=>110|217=>131|266=>144|n=>n,fun|9=>9|5=>5|3=>3|n=>n,fun|n=>n⟩
theorem layIndexByte:Go.Proofs.Lays.n137 Tryz.prog layIndexByte_ren:={ mixed:=by kernel_rfl,f137:=Tryz.func110.trans (congrArg some (by kernel_rfl)),f217:=Tryz.func131.trans (congrArg some (by kernel_rfl)),f266:=Tryz.func144.trans (congrArg some (by kernel_rfl)),t3:=Tryz.underlying3,a3:=Tryz.isAgg3,z3:=Tryz.sizeOf3,v3:=Tryz.zeroValue3,t5:=Tryz.underlying5,a5:=Tryz.isAgg5,z5:=Tryz.sizeOf5,v5:=Tryz.zeroValue5,t9:=Tryz.underlying9,a9:=Tryz.isAgg9,z9:=Tryz.sizeOf9,v9:=Tryz.zeroValue9 }
theorem ixb_pl1 : (Tryz.f110.name == "runtime.NumGoroutine") = false := by decide
theorem ixb_pl2:Tryz.f110.body.isNone=false:=rfl
theorem ixb_plain:PlainF Tryz.prog 110:=⟨_,Tryz.func110,ixb_pl1,ixb_pl2⟩
theorem IndexByte_ok(s:List UInt8)(c:UInt8)(id:Nat):FnOk Tryz.prog 110 [.str s,.int .u8 c.toNat] [] id (.int .i64 (Lib.indexByte s c)) []:=by
 refine fn_old ixb_plain fun C G bx w vs hs hv=>?_
 obtain⟨u,v,rfl,hv1,hv2⟩:=rvs_two_inv hv
 cases hv1
 cases hv2
 refine (Any.strings_IndexByte layIndexByte ⟨⟨s⟩⟩ c.toNat w).mono ?_
 rintro e w' ⟨h1,rfl⟩
 refine⟨_,h1,fun _ _=>?_,Below.refl _ _⟩
 simpa using RV.int (G:=_) (w:=_) .i64 (Lib.indexByte s c)
end Go.Am
namespace Go.Am
set_option linter.all false
open Go Go.RowKit
set_option linter.all false
section
variable {P:Program} {C:Cx P} {N:Nat} {D:List Deferred} {n0:Nat} {G0:Gh} {w0:World} {ops:Array Oper} {Q:Exit→Act→World→Prop}
theorem any_pn{crs:List CR}{rs:List RR}{base p m:Nat}{pv:AV}{F0:Fr}{B0:Nat→Option Bx}(hn:n0≤base)(hl2:crs.length=rs.length)(hml:m=crs.length)(hpm:p<m)(hms:m≤ops.size)(hcr:∀(i:Nat) o c,ops[i]?=some o→crs[i]?=some c→compR P N ops o=some c)
  (hr:∀(j:Nat) cr r,j≠p→crs[j]?=some cr→rs[j]?=some r→OpR P cr (base+1024*j) (foldD (stF crs rs) (fun i=>decide (i<j)&&decide (i≠p)) (List.range m) F0) (foldD (stB rs) (fun i=>decide (i<j)&&decide (i≠p)) (List.range m) B0) r)
  (hac:∀(j:Nat) o,ops[j]?=some o→∀e∈o.after,Region.binds .any e=true→e.on<j)
  (hcf:∀(i j:Nat) x y r s,i<j→crs[i]?=some x→crs[j]?=some y→rs[i]?=some r→rs[j]?=some s→Before ops i j∨(slotsApart x y=true∧apartR r s))
  (hw:∀i,m≤i→i<ops.size→Before ops p i)
  (hpn:∀cr r,crs[p]?=some cr→rs[p]?=some r→OpP P cr (base+1024*p) (foldD (stF crs rs) (fun i=>decide (i<p)&&decide (i≠p)) (List.range m) F0) (foldD (stB rs) (fun i=>decide (i<p)&&decide (i≠p)) (List.range m) B0) pv r)
  (hQ:∀r,rs[p]?=some r→∀L G a w u,DescF C N D n0 G0 w0 (foldD (stF crs rs) L (List.range m) F0) (appl (foldD (stB rs) L (List.range m) B0) r.wr) (· < base+1024*ops.size) G a w→RV G w pv u→Q (.panic [{ v:=u,recovered:=false }]) a w) :
  ∀(fuel:Nat) (listed:Array Bool) (G:Gh) (a:Act) (w:World),listed.size=ops.size→Closed ops (fun i=>listed.getD i false)→listed.getD p false=false→(∀i,m≤i→listed.getD i false=false)→(List.range ops.size).countP (fun i=>!listed.getD i false)≤fuel →
   DescF C N D n0 G0 w0 (foldD (stF crs rs) (fun i=>listed.getD i false) (List.range m) F0) (foldD (stB rs) (fun i=>listed.getD i false) (List.range m) B0) (fun id=>id<base∨∃i,listed.getD i false=true∧base+1024*i≤id∧id<base+1024*i+1024) G a w →
   wpAny P .any ops Q fuel listed a w:=by
 have done:∀(listed:Array Bool),listed.size=ops.size→listed.getD p false=false→Region.ready .any ops listed=[]→False:=by
  intro listed hsz hpf hrd
  have all:∀j,j<ops.size→listed.getD j false=true:=fun j=>by
   induction j using Nat.strongRecOn with
   | _ j ih =>
    intro hj
    cases hlj:listed.getD j false with
    | true=>rfl
    | false =>
     obtain⟨o,ho⟩:∃o,ops[j]?=some o:=⟨_,Array.getElem?_eq_getElem hj⟩
     have:j∈Region.ready .any ops listed:=mem_ready.2 ⟨by
      rw[Array.getD_eq_getD_getElem?,Array.getElem?_eq_getElem (by omega)] at hlj ⊢
      exact hlj,o,ho,fun e he hb=>ih e.on (hac j o ho e he hb) (Nat.lt_trans (hac j o ho e he hb) hj)⟩
     rw[hrd] at this; cases this
  have:=all p (by omega)
  rw[hpf] at this; cases this
 intro fuel
 induction fuel with
 | zero =>
  intro listed G a w hsz hcl hpf hlow hct hd
  have hrd:Region.ready .any ops listed=[]:=by
   cases hrd:Region.ready .any ops listed with
   | nil=>rfl
   | cons j l =>
    obtain⟨h0,o,ho,_⟩:=mem_ready.1 (show j∈Region.ready .any ops listed by rw[hrd]; simp)
    have hj:j<ops.size:=(Array.getElem?_eq_some_iff.1 ho).1
    have h1:listed.getD j false=false:=by
     rw[Array.getD_eq_getD_getElem?,Array.getElem?_eq_getElem (by omega)] at h0 ⊢
     exact h0
    have:0<(List.range ops.size).countP (fun i=>!listed.getD i false):=List.countP_pos_iff.2 ⟨j,by simpa using hj,by rw[h1]; rfl⟩
    omega
  exact⟨hrd,(done listed hsz hpf hrd).elim⟩
 | succ fuel ih =>
  intro listed G a w hsz hcl hpf hlow hct hd
  refine⟨fun hrd=>(done listed hsz hpf hrd).elim,fun j hj=>?_⟩
  obtain⟨h0,o,ho,hed⟩:=mem_ready.1 hj
  have hjn:j<ops.size:=(Array.getElem?_eq_some_iff.1 ho).1
  have hDj:listed.getD j false=false:=by
   rw[Array.getD_eq_getD_getElem?,Array.getElem?_eq_getElem (by omega)] at h0 ⊢
   exact h0
  have ahead:∀i,Before ops i j→listed.getD i false=true:=fun i hb=>before_ready hcl hb fun o' ho' e he hbd=>by
   rw[ho] at ho'; injection ho' with ho'; subst ho'; exact hed e he hbd
  have behind:∀i,Before ops j i→listed.getD i false=false:=fun i hb=>by
   cases h:listed.getD i false with
   | false=>rfl
   | true=>have:=hcl.before hb h; rw[hDj] at this; cases this
  have hjm:j<m:=by
   rcases Nat.lt_or_ge j m with h|h
   ·exact h
   ·have:=ahead p (hw j h hjn); rw[hpf] at this; cases this
  have hjl:j<crs.length:=by omega
  obtain⟨cr,hc1⟩:∃c,crs[j]?=some c:=⟨_,List.getElem?_eq_getElem hjl⟩
  have hc2:=hcr j o cr ho hc1
  have hrj:rs[j]?=some rs[j]:=List.getElem?_eq_getElem (by omega)
  generalize rs[j]=r at hrj
  have slots:∀x∈cr.looks,foldD (stF crs rs) (fun i=>decide (i<j)&&decide (i≠p)) (List.range m) F0 x=foldD (stF crs rs) (fun i=>listed.getD i false) (List.range m) F0 x:=fun x hx =>
   foldD_agree stF1 (stF2 hl2) (fun i hi ⟨c,hc,hdst⟩=>by
    have hin:i<m:=by simpa using hi
    by_cases hip:i=p
    ·subst hip; rw[hpf]; simp
    rcases Nat.lt_trichotomy i j with h|h|h
    ·rcases hcf i j c cr _ r h hc hc1 (List.getElem?_eq_getElem (by omega)) hrj with hb|⟨hs,_⟩
     ·rw[ahead i hb]; simp[h,hip]
     ·simp only[slotsApart,hdst,Bool.and_eq_true,Bool.not_eq_true',List.contains_eq_mem,decide_eq_false_iff_not] at hs
      exact (hs.1.1 hx).elim
    ·subst h; rw[hDj]; simp
    ·rcases hcf j i cr c r _ h hc1 hc hrj (List.getElem?_eq_getElem (by omega)) with hb|⟨hs,_⟩
     ·rw[behind i hb]; simp; omega
     ·simp only[slotsApart,hdst,Bool.and_eq_true,Bool.not_eq_true',List.contains_eq_mem,decide_eq_false_iff_not] at hs
      exact (hs.2 hx).elim) rfl
  have boxes:Has (foldD (stB rs) (fun i=>decide (i<j)&&decide (i≠p)) (List.range m) B0) r.rd→Has (foldD (stB rs) (fun i=>listed.getD i false) (List.range m) B0) r.rd:=fun hh q hq=>by
   rw[←hh q hq]
   refine (foldD_agree stB1 stB2 (fun i hi ⟨s,hs,hx⟩=>?_) rfl).symm
   have hin:i<m:=by simpa using hi
   have hqr:q.1∈keysR r.rd:=List.mem_map.2 ⟨q,hq,rfl⟩
   by_cases hip:i=p
   ·subst hip; rw[hpf]; simp
   rcases Nat.lt_trichotomy i j with h|h|h
   ·rcases hcf i j _ cr s r h (List.getElem?_eq_getElem (by omega)) hc1 hs hrj with hb|⟨_,ha⟩
    ·rw[ahead i hb]; simp[h,hip]
    ·exact (apartL_iff.1 ha.1 _ hx hqr).elim
   ·subst h; rw[hDj]; simp
   ·rcases hcf j i cr _ r s h hc1 (List.getElem?_eq_getElem (by omega)) hrj hs with hb|⟨_,ha⟩
    ·rw[behind i hb]; simp; omega
    ·exact (apartL_iff.1 ha.2.2 _ hx hqr).elim
  have hU:∀x,base+1024*j≤x→x<base+1024*j+1024→¬G.used x:=fun x hx1 hx2 h=>by
   rcases hd.used _ h with h|⟨i,hi,h,h'⟩
   ·omega
   ·have:i=j:=by omega
    subst this; rw[hDj] at hi; cases hi
  have hnb:∀x,base+1024*ops.size≤x→¬G.used x:=fun x hx h=>by
   rcases hd.used _ h with h|⟨i,hi,h,h'⟩
   ·omega
   ·have:i<ops.size:=by
     rw[←hsz]
     rcases Nat.lt_or_ge i listed.size with h|h
     ·exact h
     ·rw[Array.getD_eq_getD_getElem?,Array.getElem?_eq_none h] at hi; cases hi
    omega
  by_cases hje:j=p
  ·subst hje
   have hop:=hpn cr r hc1 hrj
   have hop':=hop.local (fun n hn=>slots n (by simp[CR.looks,hn])) (fun n hn=>slots n (by simp[CR.looks,hn])) (fun s want hg=>slots s (by simp[CR.looks,hg])) (boxes hop.has)
   exact op_pn hd ho hc2 hop' hU (by omega) hnb fun G' u w' hd' hv=>hQ r hrj _ G' a w' u (hd'.weak fun x hx=>by
    rcases hx with hx|hx
    ·rcases Nat.lt_or_ge x (base+1024*ops.size) with h|h
     ·exact h
     ·exact (hnb x h hx).elim
    ·omega) hv
  have hop:=hr j cr r hje hc1 hrj
  have hop':=hop.local (fun n hn=>slots n (by simp[CR.looks,hn])) (fun n hn=>slots n (by simp[CR.looks,hn])) (fun s want hg=>slots s (by simp[CR.looks,hg])) fun hrc=>boxes (hop.2.2.1 hrc).has
  refine op_ok hd ho hc2 hop' hU (by omega) hnb fun G' u w' hd'=>?_
  have hget:∀i,(listed.setIfInBounds j true).getD i false=(if i=j then true else listed.getD i false):=fun i=>by
   rw[Array.getD_eq_getD_getElem?,Array.getElem?_setIfInBounds]
   by_cases hij:j=i
   ·subst hij; simp[show j<listed.size by omega]
   ·rw[if_neg hij,if_neg (fun h=>hij h.symm),Array.getD_eq_getD_getElem?]
  have hsp:=range_split j m hjm
  have hnl:j∉List.range' (j+1) (m - j - 1):=fun h=>by rw[List.mem_range'_1] at h; omega
  have eF:updF (foldD (stF crs rs) (fun i=>listed.getD i false) (List.range m) F0) cr.dst r=foldD (stF crs rs) (fun i=>(listed.setIfInBounds j true).getD i false) (List.range m) F0:=by
   have:updF (foldD (stF crs rs) (fun i=>listed.getD i false) (List.range m) F0) cr.dst r=stF crs rs j (foldD (stF crs rs) (fun i=>listed.getD i false) (List.range m) F0):=by
    simp only[stF,hc1,hrj]
   rw[this,hsp]
   refine foldD_add stF1 (stF2 hl2) (by rw[hget,if_pos rfl]) (fun i hi=>by simp only[hget,if_neg hi]) hnl fun i hi hD x ⟨c,hc,hx⟩ ⟨c',hc',hx'⟩=>?_
   rw[List.mem_range'_1] at hi
   rw[hc1] at hc; injection hc with hc; subst hc
   rcases hcf j i cr c' r _ (by omega) hc1 hc' hrj (List.getElem?_eq_getElem (by have:=(List.getElem?_eq_some_iff.1 hc').1; omega)) with hb|⟨hs,_⟩
   ·rw[behind i hb] at hD; cases hD
   ·simp[slotsApart,hx,hx'] at hs
  have eB:appl (foldD (stB rs) (fun i=>listed.getD i false) (List.range m) B0) r.wr=foldD (stB rs) (fun i=>(listed.setIfInBounds j true).getD i false) (List.range m) B0:=by
   have:appl (foldD (stB rs) (fun i=>listed.getD i false) (List.range m) B0) r.wr=stB rs j (foldD (stB rs) (fun i=>listed.getD i false) (List.range m) B0):=by
    simp only[stB,hrj]
   rw[this,hsp]
   refine foldD_add stB1 stB2 (by rw[hget,if_pos rfl]) (fun i hi=>by simp only[hget,if_neg hi]) hnl fun i hi hD x ⟨s,hs,hx⟩ ⟨s',hs',hx'⟩=>?_
   rw[List.mem_range'_1] at hi
   rw[hrj] at hs; injection hs with hs; subst hs
   rcases hcf j i cr _ r s' (by omega) hc1 (List.getElem?_eq_getElem (by have:=(List.getElem?_eq_some_iff.1 hs').1; omega)) hrj hs' with hb|⟨_,ha⟩
   ·rw[behind i hb] at hD; cases hD
   ·exact apartL_iff.1 ha.2.1 _ hx hx'
  rw[eF,eB] at hd'
  refine ih (listed.setIfInBounds j true) G' _ w' (by simp[hsz]) (fun k ok hk hDk e he hb=>?_) (by rw[hget,if_neg (fun h=>hje h.symm)]; exact hpf) (fun i hi=>by rw[hget,if_neg (by omega)]; exact hlow i hi) ?_ (hd'.weak fun id h=>?_)
  ·simp only[hget] at hDk ⊢
   by_cases hkj:k=j
   ·subst hkj
    rw[ho] at hk; injection hk with hk; subst hk
    split
    ·rfl
    ·exact hed e he hb
   ·rw[if_neg hkj] at hDk
    split
    ·rfl
    ·exact hcl k ok hk hDk e he hb
  ·rw[range_split j ops.size hjn] at hct ⊢
   simp only[List.countP_append,List.countP_cons,hDj,Bool.not_false,if_true] at hct
   have hnl:j∉List.range' (j+1) (ops.size - j - 1):=fun h=>by rw[List.mem_range'_1] at h; omega
   have c1:∀l:List Nat,j∉l→l.countP (fun i=>!(listed.setIfInBounds j true).getD i false)=l.countP (fun i=>!listed.getD i false):=fun l hl=>List.countP_congr fun i hi=>by
    have hij:i≠j:=fun h=>hl (h▸hi)
    rw[hget,if_neg hij]
   simp only[List.countP_append,List.countP_cons,hget j,if_true,Bool.not_true,Bool.false_eq_true,if_false]
   rw[c1 _ (by simp),c1 _ hnl]
   omega
  ·rcases h with h|h
   ·rcases hd.used _ h with h|⟨i,hi,h⟩
    ·exact .inl h
    ·exact .inr ⟨i,by rw[hget]; split; rfl; exact hi,h⟩
   ·exact .inr ⟨j,by rw[hget,if_pos rfl],h⟩
end
section
variable {α β:Type} {st:Nat→(α→β)→α→β}
theorem foldS1{p m j:Nat}(hj:j≤p)(hp:p<m)(f:α→β):foldD st (fun i=>decide (i<j)&&decide (i≠p)) (List.range m) f=foldD st (fun _=>true) (List.range' 0 j) f:=by
 rw[foldD_congr (D':=fun i=>decide (i<j)) fun i _=>?_,foldD_below (by omega)]
 by_cases h:i<j
 ·have:i≠p:=by omega
  simp[h,this]
 ·simp[h]
theorem foldS2{p m j:Nat}(hj:p<j)(hm:j≤m)(f:α→β):foldD st (fun i=>decide (i<j)&&decide (i≠p)) (List.range m) f=foldD st (fun _=>true) (List.range' (p+1) (j - p - 1)) (foldD st (fun _=>true) (List.range' 0 p) f):=by
 have e:List.range' (p+1) (m - p - 1)=List.range' (p+1) (j - p - 1)++List.range' j (m - j):=by
  have:=List.range'_append_1 (s:=p+1) (m:=j - p - 1) (n:=m - j)
  rw[show p+1+(j - p - 1)=j by omega,show j - p - 1+(m - j)=m - p - 1 by omega] at this
  exact this.symm
 rw[range_split p m (by omega),foldD_append,e,List.range_eq_range']
 simp only[foldD]
 rw[if_neg (by simp),foldD_append]
 rw[foldD_congr (D':=fun _=>true) (l:=List.range' 0 p) fun i hi=>by rw[List.mem_range'_1] at hi; simp; omega]
 rw[foldD_congr (D':=fun _=>true) (l:=List.range' (p+1) (j - p - 1)) fun i hi=>by rw[List.mem_range'_1] at hi; simp; omega]
 exact foldD_false fun i hi=>by rw[List.mem_range'_1] at hi; simp; omega
end
def dynS(rs:List RR)(p m:Nat):List (Nat×Nat)→Prop
 | []=>True
 | q::l=>(if q.2<m then apartR (getR rs q.1) (getR rs q.2) else q.1≠p)∧dynS rs p m l
theorem dynS_mem{rs:List RR}{p m:Nat}:∀{ps:List (Nat×Nat)},dynS rs p m ps→∀q∈ps,(q.2<m→apartR (getR rs q.1) (getR rs q.2))∧(m≤q.2→q.1≠p)
 | [],_,q,hq=>by cases hq
 | x::l,h,q,hq=>by
  rcases List.mem_cons.1 hq with rfl|hq
  ·have h1:=h.1
   split at h1
   ·exact⟨fun _=>h1,fun h=>by omega⟩
   ·exact⟨fun h=>by omega,fun _=>h1⟩
  ·exact dynS_mem h.2 q hq
section
variable {E:Env} {σ:St} {k:List Itm}
theorem ARuns.len{P:Program}{base:Nat}:∀{l:List CR} {j:Nat} {σ:St} {rs:List RR},ARuns P base j l σ rs→l.length=rs.length
 | [],_,_,[],_=>rfl
 | [],_,_,_::_,h=>h.elim
 | _::_,_,_,[],h=>h.elim
 | cr::l,j,σ,r::rs,h=>by simp[ARuns.len h.2]
theorem foldF_out{crs:List CR}{rs:List RR}{L:Nat→Bool}{n:Nat}:∀(l:List Nat) {F:Fr},(∀(i:Nat) (c0:CR),crs[i]?=some c0→c0.dst≠some n)→foldD (stF crs rs) L l F n=F n
 | [],_,_=>rfl
 | i::l,F,h=>by
  simp only[foldD]
  rw[foldF_out l h]
  split
  ·exact stF1 i F n fun⟨c0,h1,h2⟩=>h i c0 h1 h2
  ·rfl
set_option maxHeartbeats 2000000 in
theorem region_pnQ{id:Nat}{ops:Array Oper}{ps:List (Nat×Nat)}{l1 l2 l3:List CR}{c:CR}(hc:compG E.P E.N ops true = .reg true (l1++c::(l2++l3)) ps){rs1 rs2:List RR}{r:RR}{pv:AV}
  (h1:ARuns E.P (E.n0+σ.k) 0 l1 σ rs1) (h2:OpP E.P c (E.n0+σ.k+1024*l1.length) (lk (σ.apps l1 rs1).fr) (bk (σ.apps l1 rs1).bx) pv r)
  (h3:ARuns E.P (E.n0+σ.k) (l1.length+1) l2 (σ.apps l1 rs1) rs2) (hd:dynS (rs1++r::rs2) l1.length (l1.length+1+l2.length) ps) {Q:Exit→Act→World→Prop}
  (hK:∀F B k' G u a w,DescF E.C E.N E.D E.n0 E.G0 E.w0 F B (· < E.n0+k') G a w→(∀n,(∀x∈l1++c::l2,x.dst≠some n)→F n=lk σ.fr n)→HistB E.β (((σ.apps l1 rs1).apps l2 rs2).app none r).bx B→RV G w pv u→Q (.panic [{ v:=u,recovered:=false }]) a w) {G:Gh} {a:Act} {w:World} (hD:Desc E σ G a w):(Code.region id ops true).wp E.P Q a w:=by
 unfold compG at hc
 split at hc
 ·cases hc
 rename_i cs hcs
 obtain⟨hlen,hget⟩:=compL_get hcs
 have hlen':cs.length=ops.size:=by simpa using hlen
 have hcr:∀(i:Nat) o,ops[i]?=some o→∃c,cs[i]?=some c∧compR E.P E.N ops o=some c:=fun i o ho=>hget i o (by simpa using ho)
 simp only at hc
 split at hc
 rotate_left
 ·cases hc
 rename_i hs
 rw[Bool.and_eq_true] at hs
 simp only[CC.reg.injEq,true_and] at hc
 obtain⟨hcq,rfl⟩:=hc
 obtain⟨s1,s2⟩:=statOk_spec hs.1
 have n1:=h1.len
 have n2:=h3.len
 obtain⟨u1,u2,u3,u4⟩:=h1.runs E.β
 obtain⟨v1,v2,v3,v4⟩:=h3.runs E.β
 rw[←u2,←u3] at v1
 have h2':=h2.ov E.β
 rw[←u2,←u3] at h2'
 have hmw:=h2.mayW
 have hcl:cs.length=l1.length+1+l2.length+l3.length:=by rw[hcq]; simp; omega
 have inA:∀q,q∈((σ.apps l1 rs1).apps l2 rs2).bx→q∈(((σ.apps l1 rs1).apps l2 rs2).app none r).bx:=fun q hq=>mem_addW.2 (.inl hq)
 have inR:∀q,q∈r.wr→q∈(((σ.apps l1 rs1).apps l2 rs2).app none r).bx:=fun q hq=>mem_addW.2 (.inr hq)
 refine wp_region_any hs.2 ?_
 obtain⟨r1,r2⟩:=hD.rs.drew
 have hD':DescF E.C E.N E.D E.n0 E.G0 E.w0 (lk σ.fr) (ov E.β σ.bx) (· < E.n0+σ.k) G a w.drew:=DescF.step hD r1 r2 (fun id h=>hD.used id h) fun id _ h=>h
 have anc:=ancs_ok (ops:=ops) (l:=ops.toList) (acc:=[]) (fun i o ho=>by simpa using ho) fun j i hi=>by simp at hi
 have e1:∀(D:Nat→Bool),(∀i,D i=false)→∀{β:Type} (st:Nat→(Nat→β)→Nat→β) (f:Nat→β) (n:Nat),foldD st D (List.range n) f=f:=fun D hD β st f n=>foldD_false fun i _=>hD i
 have none:∀i,(Array.replicate ops.size false).getD i false=false:=fun i=>by simp[Array.getD_eq_getD_getElem?,Array.getElem?_replicate]; split<;>rfl
 have g1:∀(i:Nat) c',(l1++c::l2)[i]?=some c'→i<l1.length+1+l2.length∧cs[i]?=some c':=fun i c' h=>by
  have hi:i<l1.length+1+l2.length:=by have:=(List.getElem?_eq_some_iff.1 h).1; simp at this; omega
  refine⟨hi,?_⟩
  have e:l1++c::(l2++l3)=(l1++c::l2)++l3:=by simp
  rw[hcq,e,List.getElem?_append_left (by simp; omega)]
  exact h
 have at1:∀{i:Nat} {α:Type} (a b:List α) (x:α),i<a.length→(a++x::b)[i]?=a[i]?:=fun a b x h=>List.getElem?_append_left h
 have at2:∀{i:Nat} {α:Type} (a b:List α) (x:α),(a++x::b)[a.length+1+i]?=b[i]?:=fun {i} {α} a b x=>by
  rw[List.getElem?_append_right (by omega),show a.length+1+i - a.length=i+1 by omega]; rfl
 have at0:∀{α:Type} (a b:List α) (x:α),(a++x::b)[a.length]?=some x:=fun a b x=>by
  rw[List.getElem?_append_right (by omega),Nat.sub_self]; rfl
 have hdr1:∀{α:Type} (a b:List α) (x:α),(a++x::b).drop (a.length+1)=b:=fun a b x=>by
  rw[List.drop_append,List.drop_of_length_le (by omega),show a.length+1 - a.length=1 by omega]; rfl
 have hl2:(l1++c::l2).length=(rs1++r::rs2).length:=by simp; omega
 have fF1:∀j,j≤l1.length→foldD (stF (l1++c::l2) (rs1++r::rs2)) (fun i=>decide (i<j)&&decide (i≠l1.length)) (List.range (l1.length+1+l2.length)) (lk σ.fr)=runF (l1.take j) (rs1.take j) (lk σ.fr):=fun j hj=>by
  rw[foldS1 hj (by omega)]
  have:=runF_fold hl2 j 0 (lk σ.fr) (by simp; omega)
  rw[←this,List.drop_zero,List.drop_zero,List.take_append_of_le_length hj,List.take_append_of_le_length (by omega)]
 have fB1:∀j,j≤l1.length→foldD (stB (rs1++r::rs2)) (fun i=>decide (i<j)&&decide (i≠l1.length)) (List.range (l1.length+1+l2.length)) (ov E.β σ.bx)=runB (rs1.take j) (ov E.β σ.bx):=fun j hj=>by
  rw[foldS1 hj (by omega)]
  have:=runB_fold (rs:=rs1++r::rs2) j 0 (ov E.β σ.bx) (by simp; omega)
  rw[←this,List.drop_zero,List.take_append_of_le_length (by omega)]
 have tk1:∀{α:Type} (a b:List α) (x:α),(a++x::b).take a.length=a:=fun a b x=>List.take_left
 have fF2:∀j,j≤l2.length→foldD (stF (l1++c::l2) (rs1++r::rs2)) (fun i=>decide (i<l1.length+1+j)&&decide (i≠l1.length)) (List.range (l1.length+1+l2.length)) (lk σ.fr)=runF (l2.take j) (rs2.take j) (runF l1 rs1 (lk σ.fr)):=fun j hj=>by
  rw[foldS2 (by omega) (by omega)]
  have a1:=runF_fold hl2 l1.length 0 (lk σ.fr) (by simp)
  rw[List.drop_zero,List.drop_zero,tk1,n1,tk1,←n1] at a1
  have a2:=runF_fold hl2 j (l1.length+1) (runF l1 rs1 (lk σ.fr)) (by simp; omega)
  rw[hdr1,n1,hdr1,←n1] at a2
  rw[←a1,show l1.length+1+j - l1.length - 1=j by omega,←a2]
 have fB2:∀j,j≤l2.length→foldD (stB (rs1++r::rs2)) (fun i=>decide (i<l1.length+1+j)&&decide (i≠l1.length)) (List.range (l1.length+1+l2.length)) (ov E.β σ.bx)=runB (rs2.take j) (runB rs1 (ov E.β σ.bx)):=fun j hj=>by
  rw[foldS2 (by omega) (by omega)]
  have a1:=runB_fold (rs:=rs1++r::rs2) l1.length 0 (ov E.β σ.bx) (by simp; omega)
  rw[List.drop_zero,n1,tk1,←n1] at a1
  have a2:=runB_fold (rs:=rs1++r::rs2) j (l1.length+1) (runB rs1 (ov E.β σ.bx)) (by simp; omega)
  rw[n1,hdr1,←n1] at a2
  rw[←a1,show l1.length+1+j - l1.length - 1=j by omega,←a2]
 have pure:∀(i:Nat) z t,i≠l1.length→(l1++c::l2)[i]?=some z→(rs1++r::rs2)[i]?=some t→z.op.mayW=false→t.wr=[]:=fun i z t hi hz ht hzw=>by
  have key:∀{id:Nat} {F:Fr} {B:Nat→Option Bx},OpR E.P z id F B t→t.wr=[]:=fun h=>by
   obtain⟨_,_,g3,g4⟩:=h
   cases hc:t.c with
   | false=>exact g4 hc
   | true=>exact mayW_false (g3 hc) hzw
  rcases Nat.lt_or_ge i l1.length with h|h
  ·rw[at1 _ _ _ h] at hz
   rw[at1 _ _ _ (by omega)] at ht
   exact key (u1.get i z t hz ht)
  ·obtain⟨i,rfl⟩:∃i',i=l1.length+1+i':=⟨i - l1.length - 1,by omega⟩
   rw[at2] at hz
   rw[n1,at2] at ht
   exact key (v1.get i z t hz ht)
 have hcf:∀(i j:Nat) x y r0 s,i<j→(l1++c::l2)[i]?=some x→(l1++c::l2)[j]?=some y→(rs1++r::rs2)[i]?=some r0→(rs1++r::rs2)[j]?=some s→Before ops i j∨(slotsApart x y=true∧apartR r0 s):=fun i j x y r0 s hij hx hy hr' hs'=>by
  obtain⟨hi1,hx1⟩:=g1 i x hx
  obtain⟨hj1,hy1⟩:=g1 j y hy
  by_cases hb:i∈(ancs ops.toList []).getD j []
  ·exact .inl (anc j i hb)
  ·refine .inr ?_
   have hj:j<ops.size:=by omega
   have hm:=mem_openPairs.2 ⟨hj,hij,hb⟩
   refine⟨s2 i j hm x y hx1 hy1,?_⟩
   cases hw:x.op.mayW||y.op.mayW with
   | true =>
    have:=(dynS_mem hd (i,j) (List.mem_filter.2 ⟨hm,by simp only[hx1,hy1,hw]⟩)).1 hj1
    simpa only[getR_some hr',getR_some hs'] using this
   | false =>
    simp only[Bool.or_eq_false_iff] at hw
    have hip:i≠l1.length:=fun h=>by subst h; rw[at0] at hx; injection hx with hx; subst hx; rw[hmw] at hw; cases hw.1
    have hjp:j≠l1.length:=fun h=>by subst h; rw[at0] at hy; injection hy with hy; subst hy; rw[hmw] at hw; cases hw.2
    simp[apartR,pure i x r0 hip hx hr' hw.1,pure j y s hjp hy hs' hw.2,keysW,apartL]
 refine any_pn (C:=E.C) (D:=E.D) (G0:=E.G0) (w0:=E.w0) (n0:=E.n0) (base:=E.n0+σ.k) (p:=l1.length) (m:=l1.length+1+l2.length) (crs:=l1++c::l2) (rs:=rs1++r::rs2) (pv:=pv) (F0:=lk σ.fr) (B0:=ov E.β σ.bx) (by omega) hl2 (by simp; omega) (by omega) (by omega)
  (fun i o c' ho hc'=>by obtain⟨c'',k1,k2⟩:=hcr i o ho; rw[(g1 i c' hc').2] at k1; injection k1 with k1; rw[k1]; exact k2) (fun j cr r0 hj hcj hrj=>?_) s1 hcf (fun i hi hi2=>?_) (fun cr r0 hcj hrj=>?_) (fun r0 hrj L G a w u h hv=>?_) ops.size _ G a w.drew (by simp) (fun j o ho hj=>by simp only[none] at hj; cases hj) (none _) (fun i _=>none i) ?_ ?_
 ·rcases Nat.lt_or_ge j l1.length with h|h
  ·rw[fF1 j (by omega),fB1 j (by omega)]
   rw[at1 _ _ _ h] at hcj
   rw[at1 _ _ _ (by omega)] at hrj
   have:=u1.get j cr r0 hcj hrj
   rw[Nat.zero_add] at this
   exact this
  ·obtain⟨i,rfl⟩:∃i',j=l1.length+1+i':=⟨j - l1.length - 1,by omega⟩
   rw[at2] at hcj
   rw[n1,at2] at hrj
   have hil:i<l2.length:=(List.getElem?_eq_some_iff.1 hcj).1
   rw[fF2 i (by omega),fB2 i (by omega)]
   exact v1.get i cr r0 hcj hrj
 ·by_cases hb:l1.length∈(ancs ops.toList []).getD i []
  ·exact anc i _ hb
  ·exfalso
   have hm:=mem_openPairs.2 ⟨hi2,(show l1.length<i by omega),hb⟩
   obtain⟨y,hy⟩:∃y,cs[i]?=some y:=⟨_,List.getElem?_eq_getElem (by omega)⟩
   have hcp:cs[l1.length]?=some c:=by rw[hcq]; exact at0 _ _ _
   exact (dynS_mem hd (l1.length,i) (List.mem_filter.2 ⟨hm,by simp only[hcp,hy,hmw,Bool.true_or]⟩)).2 hi rfl
 ·rw[at0] at hcj
  rw[n1,at0] at hrj
  injection hcj with hcj; injection hrj with hrj
  subst hcj hrj
  rw[fF1 _ (Nat.le_refl _),fB1 _ (Nat.le_refl _),List.take_of_length_le (Nat.le_refl _),List.take_of_length_le (by omega)]
  exact h2'
 ·rw[n1,at0] at hrj
  injection hrj with hrj
  subst hrj
  refine hK _ _ (σ.k+1024*ops.size) G u a w (h.weak fun x hx=>by omega) (fun n hn=>?_) (fun y=>?_) hv
  ·refine foldF_out _ fun i c0 hi hd0=>hn c0 (List.mem_of_getElem? hi) hd0
  by_cases hy:y∈keysW r.wr
  ·exact .inr (inR _ (appl_mem hy))
  ·rw[appl_out hy]
   rcases foldB_hist (rs:=rs1++r::rs2) (L:=L) y (l:=List.range (l1.length+1+l2.length)) (B:=ov E.β σ.bx) with h|⟨r0,k1,k2⟩
   ·rw[h]
    exact (ov_hist y _).imp _root_.id fun h=>inA _ (mem_apps (by omega) (.inl (mem_apps (by omega) (.inl h))))
   ·refine .inr ?_
    rcases List.mem_append.1 k1 with k1|k1
    ·exact inA _ (mem_apps (by omega) (.inl (mem_apps (by omega) (.inr ⟨r0,k1,k2⟩))))
    ·rcases List.mem_cons.1 k1 with k1|k1
     ·subst k1; exact inR _ k2
     ·exact inA _ (mem_apps (by omega) (.inr ⟨r0,k1,k2⟩))
 ·refine Nat.le_trans List.countP_le_length (by simp)
 ·rw[e1 _ none,e1 _ none]
  exact hD'.weak fun id hid=>.inl hid
theorem region_pnS{id:Nat}{ops:Array Oper}{ps:List (Nat×Nat)}{l1 l2 l3:List CR}{c:CR}(hc:compG E.P E.N ops true = .reg true (l1++c::(l2++l3)) ps){rs1 rs2:List RR}{r:RR}{pv:AV}
  (h1:ARuns E.P (E.n0+σ.k) 0 l1 σ rs1) (h2:OpP E.P c (E.n0+σ.k+1024*l1.length) (lk (σ.apps l1 rs1).fr) (bk (σ.apps l1 rs1).bx) pv r)
  (h3:ARuns E.P (E.n0+σ.k) (l1.length+1) l2 (σ.apps l1 rs1) rs2) (hd:dynS (rs1++r::rs2) l1.length (l1.length+1+l2.length) ps) {K:St→Prop} {X:Nat→St→Prop}
  (hK:E.Pn pv (((σ.apps l1 rs1).apps l2 rs2).app none r)) {G:Gh} {a:Act} {w:World} (hD:Desc E σ G a w):(Code.region id ops true).wp E.P (Post E K X) a w :=
 region_pnQ hc h1 h2 h3 hd (fun F B k' G u a w q1 _ q3 q4=>⟨pv,u,_,F,B,_,G,rfl,q1,q3,q4,hK⟩) hD
theorem w_regS{ps:List (Nat×Nat)}(l1 l2 l3:List CR)(c:CR){rs1 rs2:List RR}{r:RR}{pv:AV}
  (h1:ARuns E.P (E.n0+σ.k) 0 l1 σ rs1) (h2:OpP E.P c (E.n0+σ.k+1024*l1.length) (lk (σ.apps l1 rs1).fr) (bk (σ.apps l1 rs1).bx) pv r)
  (h3:ARuns E.P (E.n0+σ.k) (l1.length+1) l2 (σ.apps l1 rs1) rs2) (hd:dynS (rs1++r::rs2) l1.length (l1.length+1+l2.length) ps)
  (hK:E.Pn pv (((σ.apps l1 rs1).apps l2 rs2).app none r)):Wk E (.code (.reg true (l1++c::(l2++l3)) ps)::k) σ:=fun c' hc' G a w hD=>by
 obtain⟨id,ops,rfl,hg⟩:=comp_reg hc'
 exact region_pnS hg h1 h2 h3 hd hK hD
theorem ar_sem{P:Program}{F:Fr}{B:Nat→Option Bx}{dst:Option Nat}{us:List Nat}{op:COp}{id:Nat}{v:AV}{rd:List (Nat×Bx)}{wr:List (Nat×Option Bx)}(hu:uses F us)(h:match Am.sem (veF F) B id op with
  | some (p,q)=>p∧q=⟨v,rd,wr⟩
  | none=>False):OpR P ⟨dst,none,us,op⟩ id F B ⟨true,v,rd,wr⟩:=by
 refine⟨trivial,rfl,fun _=>?_,fun h=>by cases h⟩
 split at h
 ·rename_i p q hs
  obtain⟨hp,rfl⟩:=h
  exact .sem _ _ p _ _ _ hu hs hp
 ·exact h.elim
theorem ar_call{P:Program}{F:Fr}{B:Nat→Option Bx}{dst:Option Nat}{us:List Nat}{f:Nat}{xs:List Opd}{args:List AV}{id:Nat}{pv:AV}{rd:List (Nat×Bx)}(hu:uses F us)(ha:xs.map (veF F)=args)(h:FnPn P f args rd id pv)(hh:HasL B rd):OpP P ⟨dst,none,us,.call f xs⟩ id F B pv ⟨true,.nili,rd,goL rd⟩:=by
 subst ha
 exact⟨trivial,rfl,.call f xs pv _ hu (.inl ⟨⟨h,rfl⟩,hh.has⟩)⟩
end
end Go.Am
namespace Go.Am
set_option linter.all false
open Go Go.RowKit
set_option linter.all false
section
variable {E:Env} {σ:St} {k:List Itm} {P:Program}
theorem w_callvg(hP:E.P=P){dst:Option Nat}{g:Option (Nat×Bool)}{us:List Nat}{f:Nat}{caps:List AV}{x:Opd}{xs:List Opd}{l:List CR}{j:Nat}{acc:List RR}{ps:List (Nat×Nat)}{args:List AV}{rd:List (Nat×Bx)}{v:AV}
  (hg:gokF (lk σ.fr) g) (ha:xs.map (veF (lk σ.fr))=args) (hc:cndF (lk σ.fr) g=true→veF (lk σ.fr) x = .fn f caps∧FnOk P f (args++caps) rd (E.n0+(σ.k+1024*j)) v []∧uses (lk σ.fr) us∧HasL (bk σ.bx) rd)
  (h:Wk E (.ops l (j+1) (accN ps ⟨cndF (lk σ.fr) g,v,rd,[]⟩ acc) ps::k) (σ.app dst ⟨cndF (lk σ.fr) g,v,rd,[]⟩)) :
  Wk E (.ops (⟨dst,g,us,.callv x xs⟩::l) j acc ps::k) σ:=by
 subst hP ha
 refine w_op (r:=⟨cndF (lk σ.fr) g,v,rd,[]⟩) ⟨hg,rfl,fun hcc=>?_,fun _=>rfl⟩ (w_accN h)
 obtain⟨hx,h1,h2,h3⟩:=hc hcc
 refine .callv x xs f caps _ h2 hx (.inl ⟨?_,h3.has⟩)
 rw[Nat.add_assoc]; exact h1
end
end Go.Am
namespace Go.Am
set_option linter.all false
open Go Go.RowKit Go.Proofs
set_option maxRecDepth 100000
set_option linter.all false
def eTk(t:Tk):AV:=.agg [.int .i64 t.kind,.str t.text,.int .i64 t.n]
def zTk:AV:=.agg [.int .i64 0,.str [],.int .i64 0]
def rB(z:List UInt8)(i:Nat):Bx:=⟨[.agg [.str z,.int .i64 i]],.agg [.str z,.int .i64 0],false,false⟩
theorem rB_eq(z:List UInt8)(i:Nat):rB z i=⟨[.agg [.str z,.int .i64 i]],.agg [.str z,.int .i64 0],false,false⟩:=rfl
def erV(e:Int):AV:=.iface 23 (.int .i64 e)
theorem lfail_ok(e:Int)(id:Nat):FnE Tryz.prog 75 [.int .i64 e] [] id (.error (erV e)):=by
 refine fn_okE Tryz.func75 hcc75 (by decide) hcr75 (by simp[Tryz.ntmps75]) fun E hP hR hPn hl hid hB hu=>?_
 simp only[cr75] at hR
 refine w_go 9 ?_
 simp[cc75]
 refine w_panic (by simp<;>rfl) (by simp) ⟨by simp,hPn _ _ rfl rfl (by simp)⟩
theorem tw_stopP{p:UInt8→Bool}{s:List UInt8}{i:Nat}(h:∀c∈s.take i,p c=true)(hs:∀c,s[i]?=some c→p c=false):s.takeWhile p=s.take i:=by
 conv=>lhs; rw[←List.take_append_drop i s]
 rw[List.takeWhile_append_of_pos h]
 cases hd:s.drop i with
 | nil=>simp
 | cons c r =>
  have:s[i]?=some c:=by
   have:=congrArg (fun l=>l[0]?) hd
   simpa using this
  rw[List.takeWhile_cons_of_neg (by simp[hs c this])]; simp
theorem tw_lenP(p:UInt8→Bool)(s:List UInt8):(s.takeWhile p).length≤s.length:=(List.takeWhile_prefix _).length_le
def at2(p:UInt8→Bool)(z:List UInt8)(i:Nat):Nat:=i+((z.drop i).takeWhile p).length
set_option maxHeartbeats 4000000 in
theorem pass_ok(z:List UInt8)(i:Nat)(p:UInt8→Bool)(F:Nat)(J id:Nat)(hi:i≤z.length)(h8:z.length≤1099511627776)(hF:∀(c:UInt8) id,FnOk Tryz.prog F [.int .u8 c.toNat] [] id (.bool (p c)) []):
  FnOk Tryz.prog 102 [.ptr J 0 0,.fn F []] [(J,rB z i)] id (.str ((z.drop i).takeWhile p)) [(J,some (rB z (at2 p z i)))]:=by
 rw[rB_eq,rB_eq]
 refine fn_okc Tryz.func102 hcc102 (by decide) hcr102 (by simp[Tryz.ntmps102]) fun E hP hR hl hid=>?_
 simp only[cr102] at hR
 refine w_go 4000 ?_
 simp[cc102]
 have hJ:=hl (J,_) (List.mem_cons_self ..)
 simp only at hJ
 have J1:=lf hJ
 refine w_loop (X:=Nat) (fun j=>⟨[(0,true,.ptr J 0 0),(1,true,.fn F []),(5,true,.int .i64 i)],[(J,some (rB z j))],0⟩)
  (fun j=>(i≤j∧j≤z.length)∧∀c∈(z.drop i).take (j - i),p c=true) (fun j=>z.length - j) i ?_ ⟨⟨by omega,by omega⟩,by simp⟩ ?_
 ·have hrn:rnOk []:=by simp[rB,J1]
  refine Conv.sub [] hrn ?_ ?_ ?_ ?_ ?_<;>(try simp[rB,J1])
 rintro j ⟨⟨hij,hj⟩,hall⟩ q hq
 rw[rB_eq]
 have ending:(∀c,(z.drop i)[j - i]?=some c→p c=false)→(z.drop i).takeWhile p=(z.take j).drop i∧at2 p z i=j:=fun hs=>by
  have h1:=tw_stopP hall hs
  have h2:(z.drop i).take (j - i)=(z.take j).drop i:=by rw[List.drop_take]
  unfold at2
  rw[h1,List.length_take,List.length_drop,h2]
  exact⟨rfl,by omega⟩
 rcases Nat.lt_or_ge j z.length with h|h
 ·obtain⟨c,hc,hd⟩:=drop_cons h
  have hcj:z[j]=c:=by
   rw[List.getElem?_eq_getElem h] at hc
   injection hc
  have hj1:IntKind.i64.wrap ((j:Int)+1)=((j+1:Nat):Int):=wrap64 (by omega)
  have hix:(z.drop i)[j - i]?=some c:=by rw[List.getElem?_drop,show i+(j - i)=j by omega]; exact hc
  refine w_go 4000 ?_
  simp[h,hcj,J1]
  refine w_callvg hP (by simp) rfl (fun hh=>⟨by simp<;>rfl,hF c _,by simp,by simp⟩) ?_
  refine w_go 4000 ?_
  simp[h,hcj,J1]
  by_cases hpc:p c=true
  ·refine goc_true hpc ?_
   simp[J1]
   refine hq _ (j+1) ⟨⟨by omega,h⟩,fun x hx=>?_⟩ (by omega) ?_
   ·rw[show j+1 - i=j - i+1 by omega,take_snoc hix] at hx
    rcases List.mem_append.1 hx with hx|hx
    ·exact hall x hx
    ·obtain rfl:=List.mem_singleton.1 hx; exact hpc
   ·have hrn:rnOk []:=by simp[rB,hj1,J1]
    refine Conv.sub [] hrn ?_ ?_ ?_ ?_ ?_<;>(try simp[rB,hj1,J1])
  ·have hpc:p c=false:=by simpa using hpc
   obtain⟨e1,e2⟩:=ending fun d hd=>by rw[hix] at hd; injection hd with hd; rw[←hd]; exact hpc
   rw[e1,e2] at hR
   refine goc_false hpc ?_
   simp[J1]
   refine⟨⟨by omega,by omega⟩,?_⟩
   have hrn:rnOk []:=by simp[rB,J1,idO hid]
   rw[hR]
   refine rt_end (by simp<;>rfl) [] hrn ⟨?_,?_,?_,?_,?_,?_⟩<;>(try simp[rB,J1,idO hid])
 ·obtain⟨e1,e2⟩:=ending fun c hc=>by rw[List.getElem?_drop,show i+(j - i)=j by omega,List.getElem?_eq_none (by omega)] at hc; cases hc
  rw[e1,e2] at hR
  refine w_go 4000 ?_
  simp[h,Nat.not_lt.2 h,J1]
  refine w_callvg hP (by simp) rfl (v:=.bool false) (rd:=[]) (f:=F) (caps:=[]) (fun hh=>by simp at hh) ?_
  refine w_go 4000 ?_
  simp[h,Nat.not_lt.2 h,J1]
  refine⟨⟨by omega,by omega⟩,?_⟩
  have hrn:rnOk []:=by simp[rB,J1,idO hid]
  rw[hR]
  refine rt_end (by simp<;>rfl) [] hrn ⟨?_,?_,?_,?_,?_,?_⟩<;>(try simp[rB,J1,idO hid])
end Go.Am
