/- Numbers in digits: what they tell; R.Digits, R.isDigit, R.IntOf. No condition. -/
import Derived.Test.YtgfmjhmjnnpcgaaGreatDoorYA
import Derived.Test.YtgfmjhmjnnpcgaaGreatDoorXH
import Derived.Test.YtgfmjhmjnnpcgaaGreatDoorXF
import Derived.Test.YtgfmjhmjnnpcgaaGreatDoorXI
import Derived.Lib.AtoiAll
namespace Go.Am
set_option linter.all false
open Go Go.RowKit Go.Proofs
set_option maxRecDepth 100000
set_option linter.all false
def dgB(c:UInt8):Bool:=48≤c.toNat&&c.toNat≤57
def valD(l:List UInt8):Nat:=l.foldl (fun a c=>10*a+(c.toNat - 48)) 0
theorem toNat_u8(n:Nat):(UInt8.ofNat n).toNat=n % 256:=by simp
theorem decD_dg(u:Nat):∀c∈Lib.decDigits u,dgB c=true:=by
 induction u using Nat.strongRecOn with
 | _ u ih =>
  rw[Lib.decDigits]
  split
  ·rename_i h
   intro c hc
   obtain rfl:=List.mem_singleton.1 hc
   simp only[dgB,toNat_u8,Bool.and_eq_true,decide_eq_true_eq]
   omega
  ·rename_i h
   intro c hc
   rcases List.mem_append.1 hc with hc|hc
   ·exact ih (u / 10) (by omega) c hc
   ·obtain rfl:=List.mem_singleton.1 hc
    simp only[dgB,toNat_u8,Bool.and_eq_true,decide_eq_true_eq]
    omega
theorem decD_val(u:Nat):valD (Lib.decDigits u)=u:=by
 induction u using Nat.strongRecOn with
 | _ u ih =>
  rw[Lib.decDigits]
  split
  ·rename_i h
   simp only[valD,List.foldl_cons,List.foldl_nil,toNat_u8]
   omega
  ·rename_i h
   have:=ih (u / 10) (by omega)
   unfold valD at this ⊢
   rw[List.foldl_append,this]
   simp only[List.foldl_cons,List.foldl_nil,toNat_u8]
   omega
theorem val_ge:∀(l:List UInt8) (acc:Nat),acc≤l.foldl (fun a c=>10*a+(c.toNat - 48)) acc
 | [],acc=>Nat.le_refl _
 | c::r,acc=>Nat.le_trans (by omega) (val_ge r (10*acc+(c.toNat - 48)))
theorem pU_ok:∀(l:List UInt8) (acc:Nat),(∀c∈l,dgB c=true)→l.foldl (fun a c=>10*a+(c.toNat - 48)) acc<1844674407370955162→Lib.parseUint10 acc l = .ok (l.foldl (fun a c=>10*a+(c.toNat - 48)) acc)
 | [],acc,_,_=>rfl
 | c::r,acc,hd,hv=>by
  have hc:48≤c.toNat∧c.toNat≤57:=by simpa [dgB] using hd c (List.mem_cons_self ..)
  have hm:=val_ge r (10*acc+(c.toNat - 48))
  simp only[List.foldl_cons] at hv ⊢
  have e:acc*10+(c.toNat - 48)=10*acc+(c.toNat - 48):=by omega
  simp only[Lib.parseUint10]
  rw[if_pos hc,if_neg (by omega),if_neg (by omega),e]
  exact pU_ok r _ (fun x hx=>hd x (List.mem_cons_of_mem _ hx)) hv
theorem decD_ne(u:Nat):Lib.decDigits u≠[]:=fun hd=>by
 have:=congrArg List.length hd
 rw[Lib.decDigits] at this
 split at this<;>simp at this
theorem mag_dec{u:Nat}(hu:u≤999999999):Lib.parseMag (Lib.decDigits u) = .ok u:=by
 have hv:=decD_val u
 have hd:=decD_dg u
 unfold Lib.parseMag
 rw[if_neg (decD_ne u)]
 unfold valD at hv
 rw[pU_ok _ _ hd (by omega),hv]
theorem atoi_itoa{n:Int}(h : -999999999≤n∧n≤999999999):Lib.atoiAll (Lib.itoa n) = .ok n:=by
 unfold Lib.itoa
 split
 ·rename_i hn
  have h1:=mag_dec (u:=n.natAbs) (by omega)
  simp only[Lib.atoiAll]
  rw[if_pos (.inr (by decide)),h1]
  simp only
  rw[if_neg (by rintro⟨h,_⟩; exact h (by decide)),if_neg (by rintro⟨_,h⟩; omega),if_pos (by decide)]
  congr 1
  omega
 ·cases hd:Lib.decDigits n.toNat with
  | nil=>exact (decD_ne _ hd).elim
  | cons c r =>
   have hc:=decD_dg n.toNat c (by rw[hd]; exact List.mem_cons_self ..)
   have hc:48≤c.toNat∧c.toNat≤57:=by simpa [dgB] using hc
   have h1:=mag_dec (u:=n.toNat) (by omega)
   rw[hd] at h1
   simp only[Lib.atoiAll]
   rw[if_neg (by omega),h1]
   simp only
   rw[if_neg (by omega),if_neg (by omega),if_neg (by omega)]
   congr 1
   omega
theorem dec_small{u:Nat}(h:u<10):Lib.decDigits u=[UInt8.ofNat (48+u)]:=by rw[Lib.decDigits,dif_pos h]
theorem dec_big{u:Nat}(h:¬u<10):Lib.decDigits u=Lib.decDigits (u / 10)++Lib.decDigits (u % 10):=by
 rw[Lib.decDigits,dif_neg h,dec_small (show u % 10<10 by omega)]
theorem itoa_nat(u:Nat):Lib.itoa (u:Int)=Lib.decDigits u:=by
 unfold Lib.itoa
 rw[if_neg (by omega)]
 simp
theorem dec_len{u:Nat}(h:u≤999999999):(Lib.decDigits u).length≤9:=by
 have key:∀(k u:Nat),u<10 ^ (k+1)→(Lib.decDigits u).length≤k+1:=fun k=>by
  induction k with
  | zero=>intro u h; rw[dec_small (by simpa using h)]; simp
  | succ k ih =>
   intro u h
   by_cases hu:u<10
   ·rw[dec_small hu]; simp
   ·rw[dec_big hu,dec_small (show u % 10<10 by omega),List.length_append]
    have:=ih (u / 10) (by rw[Nat.pow_succ] at h; omega)
    simp; omega
 exact key 8 u (by omega)
set_option maxHeartbeats 4000000 in
theorem DigitsN_ok:∀(m u id:Nat),u<m→u≤999999999→FnOk Tryz.prog 47 [.int .i64 u] [] id (.str (Lib.decDigits u)) []
 | 0,u,id,h,_=>by omega
 | m+1,u,id,h,h9=>by
  by_cases hu:u<10
  ·rw[dec_small hu]
   have e1:IntKind.i64.wrap (48+(u:Int))=48+(u:Int):=wrap64 (by omega)
   have e2:IntKind.u8.wrap (48+(u:Int))=48+(u:Int):=by simp[IntKind.wrap,IntKind.signed,IntKind.bits]; omega
   have e5:toU8 (.int .u8 (48+(u:Int)))=UInt8.ofNat (48+u):=by
    show UInt8.ofNat (48+(u:Int)).toNat=_
    congr 1
   have e6:isU8 (.int .u8 (48+(u:Int)))=true:=by simp[isU8]; try omega
   refine fn_okc Tryz.func47 hcc47 (by decide) hcr47 (by simp[Tryz.ntmps47]) fun E hP hR hl hid=>?_
   simp only[cr47] at hR
   refine w_go 4000 ?_
   simp[cc47]
   refine goc_false (by simp; omega) ?_
   simp
   refine goc_false (by simp) ?_
   simp
   refine goc_true (by simp; omega) ?_
   simp[e1,e2]
   rw[e5]
   refine⟨e6,?_⟩
   rw[hR]; exact rt_end (by simp<;>rfl) [] trivial (end_pure (by simp) (by simp) (by simp))
  ·rw[dec_big hu]
   have h1:=fun id=>DigitsN_ok m (u / 10) id (by omega) (by omega)
   have h2:=fun id=>DigitsN_ok m (u % 10) id (by omega) (by omega)
   have l1:=dec_len (u:=u / 10) (by omega)
   have l2:=dec_len (u:=u % 10) (by omega)
   refine fn_okc Tryz.func47 hcc47 (by decide) hcr47 (by simp[Tryz.ntmps47]) fun E hP hR hl hid=>?_
   simp only[cr47] at hR
   refine w_go 4000 ?_
   simp[cc47]
   refine goc_false (by simp; omega) ?_
   simp
   refine goc_false (by simp) ?_
   simp
   refine goc_false (by simp; omega) ?_
   have e3:IntKind.i64.wrap ((u:Int) / 10)=((u / 10:Nat):Int):=by rw[show (u:Int) / 10=((u / 10:Nat):Int) by omega]; exact wrap64 (by omega)
   have e4:IntKind.i64.wrap ((u:Int) % 10)=((u % 10:Nat):Int):=by rw[show (u:Int) % 10=((u % 10:Nat):Int) by omega]; exact wrap64 (by omega)
   simp[e3]
   (refine w_call hP rfl (h1 _) (by simp[e4]) (by simp[e4]<;>rfl) ?_; refine w_go 4000 ?_; simp[e4])
   (refine w_call hP rfl (h2 _) (by simp[e4]) (by simp[e4]<;>rfl) ?_; refine w_go 4000 ?_; simp[e4])
   refine⟨by omega,?_⟩
   rw[hR]; exact rt_end (by simp<;>rfl) [] trivial (end_pure (by simp) (by simp) (by simp))
theorem Digits_all(n:Int)(id:Nat)(h : -999999999≤n∧n≤999999999):FnOk Tryz.prog 47 [.int .i64 n] [] id (.str (Lib.itoa n)) []:=by
 by_cases h0:0≤n
 ·obtain⟨u,rfl⟩:=Int.eq_ofNat_of_zero_le h0
  rw[itoa_nat]
  exact DigitsN_ok (u+1) u id (Nat.lt_succ_self _) (by omega)
 obtain⟨u,rfl⟩:∃u:Nat,n = -(u:Int):=⟨n.natAbs,by omega⟩
 have hI:Lib.itoa (-(u:Int))=45::Lib.decDigits u:=by
  unfold Lib.itoa
  rw[if_pos (by omega)]
  simp
 have hl:=dec_len (u:=u) (by omega)
 rw[hI]
 by_cases hu:u<10
 ·have h1:=fun id=>DigitsN_ok (u+1) u id (Nat.lt_succ_self _) (by omega)
  have e1:IntKind.i64.wrap (u:Int)=(u:Int):=wrap64 (by omega)
  refine fn_okc Tryz.func47 hcc47 (by decide) hcr47 (by simp[Tryz.ntmps47]) fun E hP hR hl hid=>?_
  simp only[cr47] at hR
  refine w_go 4000 ?_
  simp[cc47]
  refine goc_true (by simp; omega) ?_
  simp[e1]
  (refine w_call hP rfl (h1 _) (by simp) (by simp<;>rfl) ?_; refine w_go 4000 ?_; simp)
  refine⟨by omega,?_⟩
  rw[hR]; exact rt_end (by simp<;>rfl) [] trivial (end_pure (by simp) (by simp) (by simp))
 ·have h1:=fun id=>DigitsN_ok (u / 10+1) (u / 10) id (Nat.lt_succ_self _) (by omega)
  have h2:=fun id=>DigitsN_ok (u % 10+1) (u % 10) id (Nat.lt_succ_self _) (by omega)
  rw[dec_big hu,List.length_append] at hl
  rw[dec_big hu]
  have q1:IntKind.i64.wrap (-((u:Int) / 10)) = -((u:Int) / 10):=by simp[IntKind.wrap,IntKind.signed,IntKind.bits]; omega
  have q2:IntKind.i64.wrap ((u:Int) / 10)=((u / 10:Nat):Int):=by rw[show (u:Int) / 10=((u / 10:Nat):Int) by omega]; exact wrap64 (by omega)
  have q3:(u:Int).tmod 10=((u % 10:Nat):Int):=by rw[Int.tmod_eq_emod_of_nonneg (by omega)]; omega
  have q4:IntKind.i64.wrap ((u % 10:Nat):Int)=((u % 10:Nat):Int):=wrap64 (by omega)
  have q5:IntKind.i64.wrap ((u:Int) % 10)=(u:Int) % 10:=by rw[show (u:Int) % 10=((u % 10:Nat):Int) by omega]; exact wrap64 (by omega)
  rw[show ((u % 10:Nat):Int)=(u:Int) % 10 by omega] at h2
  refine fn_okc Tryz.func47 hcc47 (by decide) hcr47 (by simp[Tryz.ntmps47]) fun E hP hR hl hid=>?_
  simp only[cr47] at hR
  refine w_go 4000 ?_
  simp[cc47]
  refine goc_false (by simp; omega) ?_
  simp
  refine goc_true (by simp; omega) ?_
  simp[q1,q2]
  (refine w_call hP rfl (h1 _) (by simp[q3,q5]) (by simp[q3,q5]<;>rfl) ?_; refine w_go 4000 ?_; simp[q3,q5])
  refine⟨by omega,?_⟩
  (refine w_call hP rfl (h2 _) (by simp[q5]) (by simp[q5]<;>rfl) ?_; refine w_go 4000 ?_; simp[q5])
  refine⟨by omega,?_⟩
  rw[hR]; exact rt_end (by simp<;>rfl) [] trivial (end_pure (by simp) (by simp) (by simp))
def intE(neg:Bool)(e:List UInt8):Option Int :=
 if e.length<1∨9<e.length∨(e.head?=some 48∧(1<e.length∨neg=true)) then none else if e.all dgB=true then some (if neg=true then -(valD e:Int) else (valD e:Int)) else none
def intOf:List UInt8→Option Int
 | 45::r=>intE true r
 | d=>intE false d
def intN(o:Option Int):Int:=o.getD 0
theorem intOf_neg(r:List UInt8):intOf (45::r)=intE true r:=rfl
theorem intOf_pos{d:List UInt8}(h:d.head?≠some 45):intOf d=intE false d:=by
 unfold intOf
 split
 ·exact (h rfl).elim
 ·rfl
theorem intE_no{neg:Bool}{e:List UInt8}(h:e.length<1∨9<e.length∨(e.head?=some 48∧(1<e.length∨neg=true))):intN (intE neg e)=0∧(intE neg e).isSome=false:=by
 unfold intE; rw[if_pos h]; exact⟨rfl,rfl⟩
theorem intE_bad{neg:Bool}{e:List UInt8}(h:e.all dgB=false):intN (intE neg e)=0∧(intE neg e).isSome=false:=by
 unfold intE; rw[h]; split<;>exact⟨rfl,rfl⟩
theorem intE_yes{neg:Bool}{e:List UInt8}(h:¬(e.length<1∨9<e.length∨(e.head?=some 48∧(1<e.length∨neg=true))))(hd:e.all dgB=true):intN (intE neg e)=(if neg=true then -(valD e:Int) else (valD e:Int))∧(intE neg e).isSome=true:=by
 unfold intE; rw[if_neg h,if_pos hd]; exact⟨rfl,rfl⟩
theorem valD_snoc(l:List UInt8)(c:UInt8):valD (l++[c])=10*valD l+(c.toNat - 48):=by simp[valD]
theorem valD_lt{l:List UInt8}(h:∀c∈l,dgB c=true):∀i:Nat,i≤l.length→valD (l.take i)<10 ^ i
 | 0,_=>by simp[valD]
 | i+1,hi=>by
  obtain⟨c,hc⟩:∃c,l[i]?=some c:=⟨_,List.getElem?_eq_getElem (by omega)⟩
  have h1:=valD_lt h i (by omega)
  have h2:48≤c.toNat∧c.toNat≤57:=by simpa [dgB] using h c (List.mem_of_getElem? hc)
  rw[take_snoc hc,valD_snoc,Nat.pow_succ]
  omega
theorem all_take{l:List UInt8}(h:∀c∈l,dgB c=true):l.all dgB=true:=by simpa using h
theorem pow9{n:Nat}(h:n≤9):10 ^ n≤1000000000:=Nat.pow_le_pow_right (n:=10) (by omega) h
theorem notbt{n:Nat}(h:n<1∨9<n):(decide ((1:Int)≤(n:Int))&&decide ((n:Int)≤9))=false:=by
 rcases h with h|h<;>simp<;>omega
theorem isbt{n:Nat}(h:¬(n<1∨9<n)):(decide ((1:Int)≤(n:Int))&&decide ((n:Int)≤9))=true:=by simp; omega
set_option maxHeartbeats 16000000 in
theorem intOf_ok(d:List UInt8)(id:Nat)(h8:d.length≤1099511627776):FnOk Tryz.prog 42 [.str d] [] id (.tup [.int .i64 (intN (intOf d)),.bool (intOf d).isSome]) []:=by
 have hdw:∀c:UInt8,IntKind.i64.wrap (c.toNat:Int)=(c.toNat:Int):=fun c=>by have:=c.toNat_lt; exact wrap64 (by omega)
 have hdb:∀c:UInt8,(decide ((48:Int)≤(c.toNat:Int))&&decide ((c.toNat:Int)≤57))=dgB c:=fun c=>by
  unfold dgB
  rw[Bool.eq_iff_iff]; simp; omega
 have hD:=fun (c:UInt8) id=>between_ok (c.toNat:Int) 48 57 id
 simp only[hdb] at hD
 cases d with
 | nil =>
  have hB:=fun id=>between_ok 0 1 9 id
  rw[show intN (intOf [])=0 from rfl,show (intOf []).isSome=false from rfl]
  refine fn_okc Tryz.func42 hcc42 (by decide) hcr42 (by simp[Tryz.ntmps42]) fun E hP hR hl hid=>?_
  simp only[cr42] at hR
  refine w_go 4000 ?_
  simp[cc42]
  (refine w_call hP rfl (hB _) (by simp) (by simp<;>rfl) ?_; refine w_go 4000 ?_; simp)
  rw[hR]; exact rt_end (by simp<;>rfl) [] trivial (end_pure (by simp) (by simp) (by simp))
 | cons c r =>
  by_cases hs:c=45
  ·subst hs
   rw[intOf_neg]
   have hB:=fun id=>between_ok (r.length:Int) 1 9 id
   cases r with
   | nil =>
    obtain⟨e1,e2⟩:=intE_no (neg:=true) (e:=[]) (.inl (by simp))
    rw[e1,e2]
    refine fn_okc Tryz.func42 hcc42 (by decide) hcr42 (by simp[Tryz.ntmps42]) fun E hP hR hl hid=>?_
    simp only[cr42] at hR
    refine w_go 4000 ?_
    simp[cc42]
    (refine w_call hP rfl (hB _) (by simp) (by simp<;>rfl) ?_; refine w_go 4000 ?_; simp)
    rw[hR]; exact rt_end (by simp<;>rfl) [] trivial (end_pure (by simp) (by simp) (by simp))
   | cons c r =>
   have hz0:(((r.length:Nat):Int)+1)=((c::r).length:Int):=by simp
   by_cases hl:9<(c::r).length
   ·obtain⟨e1,e2⟩:=intE_no (neg:=true) (e:=c::r) (.inr (.inl hl))
    rw[e1,e2]
    rw[notbt (.inr hl),←hz0] at hB
    refine fn_okc Tryz.func42 hcc42 (by decide) hcr42 (by simp[Tryz.ntmps42]) fun E hP hR hl hid=>?_
    simp only[cr42] at hR
    refine w_go 4000 ?_
    simp[cc42]
    refine⟨by omega,?_⟩
    (refine w_call hP rfl (hB _) (by simp) (by simp<;>rfl) ?_; refine w_go 4000 ?_; simp)
    rw[hR]; exact rt_end (by simp<;>rfl) [] trivial (end_pure (by simp) (by simp) (by simp))
   rw[isbt (by simp at hl ⊢; omega),←hz0] at hB
   have hgd:((c.toNat:Int)=48→(c.toNat:Int)=48∧((r.length:Int)+1≤1→(c.toNat:Int)=48∧(r.length:Int)+1≤1)):=fun h=>⟨h,fun q=>⟨h,q⟩⟩
   have h48:(((c.toNat:Int)==48)=true↔c=48):=by
    rw[beq_iff_eq]
    constructor
    ·intro q; exact UInt8.toNat_inj.1 (by simpa using Int.ofNat_inj.1 q)
    ·intro q; rw[q]; rfl
   by_cases hz:(c::r).head?=some 48∧(1<(c::r).length∨true=true)
   ·obtain⟨e1,e2⟩:=intE_no (neg:=true) (e:=c::r) (.inr (.inr hz))
    rw[e1,e2]
    refine fn_okc Tryz.func42 hcc42 (by decide) hcr42 (by simp[Tryz.ntmps42]) fun E hP hR hl hid=>?_
    simp only[cr42] at hR
    refine w_go 4000 ?_
    simp[cc42]
    refine⟨by omega,?_⟩
    (refine w_call hP rfl (hB _) (by simp) (by simp<;>rfl) ?_; refine w_go 4000 ?_; simp)
    refine⟨hgd,?_⟩
    refine goc_true ?_ ?_
    ·have h1:c=48:=by simpa using hz.1
     have h2:=hz.2
     rw[h48.2 h1]; all_goals (simp at h2 ⊢; try omega)
    simp
    rw[hR]; exact rt_end (by simp<;>rfl) [] trivial (end_pure (by simp) (by simp) (by simp))
   have hnl:¬((c::r).length<1∨9<(c::r).length∨((c::r).head?=some 48∧(1<(c::r).length∨true=true))):=fun q=>by
    rcases q with q|q|q
    ·simp at q
    ·exact hl q
    ·exact hz q
   refine fn_okc Tryz.func42 hcc42 (by decide) hcr42 (by simp[Tryz.ntmps42]) fun E hP hR hl hid=>?_
   simp only[cr42] at hR
   refine w_go 4000 ?_
   simp[cc42]
   refine⟨by omega,?_⟩
   (refine w_call hP rfl (hB _) (by simp) (by simp<;>rfl) ?_; refine w_go 4000 ?_; simp)
   refine⟨hgd,?_⟩
   refine goc_false (by rw[Bool.eq_false_iff]; intro q; exact hz ⟨by simp[h48.1 q],.inr rfl⟩) ?_
   clear hB hgd h48 hz
   have hl9:(c::r).length≤9:=by omega
   simp
   generalize hee:c::r=e at *
   refine w_loop (X:=Nat) (fun i=>⟨[(4,true,.int .i64 (-1)),(5,true,.str e),(6,true,.int .i64 (valD (e.take i))),(7,true,.int .i64 i)],[],0⟩)
    (fun i=>i≤e.length∧∀x∈e.take i,dgB x=true) (fun i=>e.length - i) 0 ?_ ⟨by omega,by simp⟩ ?_
   ·have hv0:valD []=0:=rfl
    have hrn:rnOk []:=by simp[hv0,hee]
    refine Conv.sub [] hrn ?_ ?_ ?_ ?_ ?_<;>(try simp[hv0,hee])
   rintro i ⟨hi,hall⟩ p hp
   rcases Nat.lt_or_ge i e.length with h|h
   ·obtain⟨x,hxc,hd⟩:=drop_cons h
    have hi1:IntKind.i64.wrap ((i:Int)+1)=((i+1:Nat):Int):=wrap64 (by omega)
    have hci:e[i]=x:=by
     rw[List.getElem?_eq_getElem h] at hxc
     injection hxc
    have hDx:=hD x
    have hx8:=x.toNat_lt
    have hxm:=List.mem_of_getElem? hxc
    have hlv:=valD_lt (l:=e.take i) hall i (by rw[List.length_take]; omega)
    rw[List.take_take,Nat.min_self] at hlv
    have h10:=pow9 (n:=i) (by omega)
    have hst:=take_snoc hxc
    cases hdx:dgB x with
    | false =>
     obtain⟨e1,e2⟩:=intE_bad (neg:=true) (e:=e) (by
      rw[Bool.eq_false_iff]
      intro q
      rw[List.all_eq_true] at q
      rw[q x hxm] at hdx; cases hdx)
     rw[e1,e2] at hR
     rw[hdx] at hDx
     refine w_go 4000 ?_
     simp[h,hci,hdw]
     (refine w_call hP rfl (hDx _) (by simp) (by simp<;>rfl) ?_; refine w_go 4000 ?_; simp)
     rw[hR]; exact rt_end (by simp<;>rfl) [] trivial (end_pure (by simp) (by simp) (by simp))
    | true =>
     have hx2:48≤x.toNat∧x.toNat≤57:=by simpa [dgB] using hdx
     have hvs:valD (e.take (i+1))=10*valD (e.take i)+(x.toNat - 48):=by rw[hst,valD_snoc]
     generalize valD (e.take i)=v at *
     have w1:IntKind.i64.wrap (10*(v:Int))=((10*v:Nat):Int):=by rw[show 10*(v:Int)=((10*v:Nat):Int) by omega]; exact wrap64 (by omega)
     have w2:IntKind.i64.wrap (((10*v:Nat):Int)+(x.toNat:Int))=((10*v+x.toNat:Nat):Int):=by rw[show ((10*v:Nat):Int)+(x.toNat:Int)=((10*v+x.toNat:Nat):Int) by omega]; exact wrap64 (by omega)
     have w3:IntKind.i64.wrap (((10*v+x.toNat:Nat):Int) - 48)=((10*v+(x.toNat - 48):Nat):Int):=by rw[show ((10*v+x.toNat:Nat):Int) - 48=((10*v+(x.toNat - 48):Nat):Int) by omega]; exact wrap64 (by omega)
     rw[hdx] at hDx
     refine w_go 4000 ?_
     simp[h,hci,hdw]
     (refine w_call hP rfl (hDx _) (by simp[hxc]) (by simp[hxc]<;>rfl) ?_; refine w_go 4000 ?_; simp[hxc])
     refine⟨h,?_⟩
     rw[hdw,w1,w2,w3,hi1]
     refine hp _ (i+1) ⟨by omega,fun y hy=>by
      rw[hst] at hy
      rcases List.mem_append.1 hy with hy|hy
      ·exact hall y hy
      ·obtain rfl:=List.mem_singleton.1 hy; exact hdx⟩ (by omega) ?_
     have hrn:rnOk []:=by simp[hvs]
     refine Conv.sub [] hrn ?_ ?_ ?_ ?_ ?_<;>(try simp[hvs])
   ·have hie:e.take i=e:=List.take_of_length_le (by omega)
    rw[hie] at hall ⊢
    have hlv:=valD_lt hall e.length (Nat.le_refl _)
    rw[List.take_of_length_le (Nat.le_refl _)] at hlv
    have h10:=pow9 (n:=e.length) hl9
    obtain⟨e1,e2⟩:=intE_yes (neg:=true) (e:=e) hnl (all_take hall)
    simp only[Bool.false_eq_true,if_false,if_true] at e1
    rw[e1,e2] at hR
    have w3:IntKind.i64.wrap (valD e:Int)=(valD e:Int):=wrap64 (by omega)
    have w2:IntKind.i64.wrap (-(valD e:Int)) = -(valD e:Int):=by simp[IntKind.wrap,IntKind.signed,IntKind.bits]; omega
    refine w_go 4000 ?_
    simp[Nat.not_lt.2 h,w2,w3]
    rw[hR]; exact rt_end (by simp<;>rfl) [] trivial (end_pure (by simp) (by simp) (by simp))
  ·have hp:=intOf_pos (d:=c::r) (by simpa using hs)
   rw[hp]
   have hs':((c.toNat:Int)==45)=false:=by
    rw[beq_eq_false_iff_ne]
    intro q
    exact hs (UInt8.toNat_inj.1 (by simpa using Int.ofNat_inj.1 q))
   have hB:=fun id=>between_ok ((c::r).length:Int) 1 9 id
   have hz0:(((r.length:Nat):Int)+1)=((c::r).length:Int):=by simp
   by_cases hl:9<(c::r).length
   ·obtain⟨e1,e2⟩:=intE_no (neg:=false) (e:=c::r) (.inr (.inl hl))
    rw[e1,e2]
    rw[notbt (.inr hl),←hz0] at hB
    refine fn_okc Tryz.func42 hcc42 (by decide) hcr42 (by simp[Tryz.ntmps42]) fun E hP hR hl hid=>?_
    simp only[cr42] at hR
    refine w_go 4000 ?_
    simp[cc42]
    simp[hs']
    (refine w_call hP rfl (hB _) (by simp) (by simp<;>rfl) ?_; refine w_go 4000 ?_; simp)
    rw[hR]; exact rt_end (by simp<;>rfl) [] trivial (end_pure (by simp) (by simp) (by simp))
   rw[isbt (by simp at hl ⊢; omega),←hz0] at hB
   have hgd:((c.toNat:Int)=48→(c.toNat:Int)=48∧((r.length:Int)+1≤1→(c.toNat:Int)=48∧(r.length:Int)+1≤1)):=fun h=>⟨h,fun q=>⟨h,q⟩⟩
   have h48:(((c.toNat:Int)==48)=true↔c=48):=by
    rw[beq_iff_eq]
    constructor
    ·intro q; exact UInt8.toNat_inj.1 (by simpa using Int.ofNat_inj.1 q)
    ·intro q; rw[q]; rfl
   by_cases hz:(c::r).head?=some 48∧(1<(c::r).length∨false=true)
   ·obtain⟨e1,e2⟩:=intE_no (neg:=false) (e:=c::r) (.inr (.inr hz))
    rw[e1,e2]
    refine fn_okc Tryz.func42 hcc42 (by decide) hcr42 (by simp[Tryz.ntmps42]) fun E hP hR hl hid=>?_
    simp only[cr42] at hR
    refine w_go 4000 ?_
    simp[cc42]
    simp[hs']
    (refine w_call hP rfl (hB _) (by simp) (by simp<;>rfl) ?_; refine w_go 4000 ?_; simp)
    refine⟨hgd,?_⟩
    refine goc_true ?_ ?_
    ·have h1:c=48:=by simpa using hz.1
     have h2:=hz.2
     rw[h48.2 h1]; all_goals (simp at h2 ⊢; try omega)
    simp
    rw[hR]; exact rt_end (by simp<;>rfl) [] trivial (end_pure (by simp) (by simp) (by simp))
   have hnl:¬((c::r).length<1∨9<(c::r).length∨((c::r).head?=some 48∧(1<(c::r).length∨false=true))):=fun q=>by
    rcases q with q|q|q
    ·simp at q
    ·exact hl q
    ·exact hz q
   refine fn_okc Tryz.func42 hcc42 (by decide) hcr42 (by simp[Tryz.ntmps42]) fun E hP hR hl hid=>?_
   simp only[cr42] at hR
   refine w_go 4000 ?_
   simp[cc42]
   simp[hs']
   (refine w_call hP rfl (hB _) (by simp) (by simp<;>rfl) ?_; refine w_go 4000 ?_; simp)
   refine⟨hgd,?_⟩
   refine goc_false (by rw[Bool.eq_false_iff]; intro q; rw[Bool.and_eq_true] at q; exact hz ⟨by simp[h48.1 q.1],.inl (by have:=of_decide_eq_true q.2; simp; omega)⟩) ?_
   clear hB hgd h48 hz
   have hl9:(c::r).length≤9:=by omega
   simp
   generalize hee:c::r=e at *
   refine w_loop (X:=Nat) (fun i=>⟨[(4,true,.int .i64 (1)),(5,true,.str e),(6,true,.int .i64 (valD (e.take i))),(7,true,.int .i64 i)],[],0⟩)
    (fun i=>i≤e.length∧∀x∈e.take i,dgB x=true) (fun i=>e.length - i) 0 ?_ ⟨by omega,by simp⟩ ?_
   ·have hv0:valD []=0:=rfl
    have hrn:rnOk []:=by simp[hv0,hee]
    refine Conv.sub [] hrn ?_ ?_ ?_ ?_ ?_<;>(try simp[hv0,hee])
   rintro i ⟨hi,hall⟩ p hp
   rcases Nat.lt_or_ge i e.length with h|h
   ·obtain⟨x,hxc,hd⟩:=drop_cons h
    have hi1:IntKind.i64.wrap ((i:Int)+1)=((i+1:Nat):Int):=wrap64 (by omega)
    have hci:e[i]=x:=by
     rw[List.getElem?_eq_getElem h] at hxc
     injection hxc
    have hDx:=hD x
    have hx8:=x.toNat_lt
    have hxm:=List.mem_of_getElem? hxc
    have hlv:=valD_lt (l:=e.take i) hall i (by rw[List.length_take]; omega)
    rw[List.take_take,Nat.min_self] at hlv
    have h10:=pow9 (n:=i) (by omega)
    have hst:=take_snoc hxc
    cases hdx:dgB x with
    | false =>
     obtain⟨e1,e2⟩:=intE_bad (neg:=false) (e:=e) (by
      rw[Bool.eq_false_iff]
      intro q
      rw[List.all_eq_true] at q
      rw[q x hxm] at hdx; cases hdx)
     rw[e1,e2] at hR
     rw[hdx] at hDx
     refine w_go 4000 ?_
     simp[h,hci,hdw]
     (refine w_call hP rfl (hDx _) (by simp) (by simp<;>rfl) ?_; refine w_go 4000 ?_; simp)
     rw[hR]; exact rt_end (by simp<;>rfl) [] trivial (end_pure (by simp) (by simp) (by simp))
    | true =>
     have hx2:48≤x.toNat∧x.toNat≤57:=by simpa [dgB] using hdx
     have hvs:valD (e.take (i+1))=10*valD (e.take i)+(x.toNat - 48):=by rw[hst,valD_snoc]
     generalize valD (e.take i)=v at *
     have w1:IntKind.i64.wrap (10*(v:Int))=((10*v:Nat):Int):=by rw[show 10*(v:Int)=((10*v:Nat):Int) by omega]; exact wrap64 (by omega)
     have w2:IntKind.i64.wrap (((10*v:Nat):Int)+(x.toNat:Int))=((10*v+x.toNat:Nat):Int):=by rw[show ((10*v:Nat):Int)+(x.toNat:Int)=((10*v+x.toNat:Nat):Int) by omega]; exact wrap64 (by omega)
     have w3:IntKind.i64.wrap (((10*v+x.toNat:Nat):Int) - 48)=((10*v+(x.toNat - 48):Nat):Int):=by rw[show ((10*v+x.toNat:Nat):Int) - 48=((10*v+(x.toNat - 48):Nat):Int) by omega]; exact wrap64 (by omega)
     rw[hdx] at hDx
     refine w_go 4000 ?_
     simp[h,hci,hdw]
     (refine w_call hP rfl (hDx _) (by simp[hxc]) (by simp[hxc]<;>rfl) ?_; refine w_go 4000 ?_; simp[hxc])
     refine⟨h,?_⟩
     rw[hdw,w1,w2,w3,hi1]
     refine hp _ (i+1) ⟨by omega,fun y hy=>by
      rw[hst] at hy
      rcases List.mem_append.1 hy with hy|hy
      ·exact hall y hy
      ·obtain rfl:=List.mem_singleton.1 hy; exact hdx⟩ (by omega) ?_
     have hrn:rnOk []:=by simp[hvs]
     refine Conv.sub [] hrn ?_ ?_ ?_ ?_ ?_<;>(try simp[hvs])
   ·have hie:e.take i=e:=List.take_of_length_le (by omega)
    rw[hie] at hall ⊢
    have hlv:=valD_lt hall e.length (Nat.le_refl _)
    rw[List.take_of_length_le (Nat.le_refl _)] at hlv
    have h10:=pow9 (n:=e.length) hl9
    obtain⟨e1,e2⟩:=intE_yes (neg:=false) (e:=e) hnl (all_take hall)
    simp only[Bool.false_eq_true,if_false,if_true] at e1
    rw[e1,e2] at hR
    have w3:IntKind.i64.wrap (valD e:Int)=(valD e:Int):=wrap64 (by omega)
    have w2:IntKind.i64.wrap (-(valD e:Int)) = -(valD e:Int):=by simp[IntKind.wrap,IntKind.signed,IntKind.bits]; omega
    refine w_go 4000 ?_
    simp[Nat.not_lt.2 h,w2,w3]
    rw[hR]; exact rt_end (by simp<;>rfl) [] trivial (end_pure (by simp) (by simp) (by simp))
theorem dec_head:∀(m u:Nat),u<m→∃c r,Lib.decDigits u=c::r∧dgB c=true∧(c=48→u=0∧r=[])
 | 0,u,h=>by omega
 | m+1,u,h=>by
  by_cases hu:u<10
  ·refine⟨UInt8.ofNat (48+u),[],dec_small hu,?_,fun h=>?_⟩
   ·simp only[dgB,toNat_u8,Bool.and_eq_true,decide_eq_true_eq]
    omega
   ·have:=congrArg UInt8.toNat h
    simp only[toNat_u8] at this
    rw[show (48:UInt8).toNat=48 from rfl] at this
    exact⟨by omega,rfl⟩
  ·obtain⟨c,r,h1,h2,h3⟩:=dec_head m (u / 10) (by omega)
   refine⟨c,r++Lib.decDigits (u % 10),by rw[dec_big hu,h1]; rfl,h2,fun h=>?_⟩
   have:=(h3 h).1
   omega
theorem dg48{c:UInt8}(h:dgB c=true):48≤c.toNat∧c.toNat≤57:=by simpa [dgB] using h
theorem dec_val:∀(m:Nat) (e:List UInt8),e.length<m→e≠[]→(∀c∈e,dgB c=true)→(e.head?=some 48→e.length=1)→Lib.decDigits (valD e)=e
 | 0,e,h,_,_,_=>by omega
 | m+1,e,h,hne,hd,h0=>by
  rcases List.eq_nil_or_concat e with rfl|⟨f,c,rfl⟩
  ·exact (hne rfl).elim
  have hc:=dg48 (hd c (by simp))
  rw[List.concat_eq_append] at *
  rw[valD_snoc]
  have hc2:UInt8.ofNat (48+(c.toNat - 48))=c:=by rw[show 48+(c.toNat - 48)=c.toNat by omega]; simp
  cases f with
  | nil =>
   rw[show valD []=0 from rfl,dec_small (by omega)]
   simp only[Nat.mul_zero,Nat.zero_add,hc2,List.nil_append]
  | cons a f =>
   have ha:a≠48:=fun q=>by
    have:=h0 (by simp[q])
    simp at this
   have ih:=dec_val m (a::f) (by simp at h ⊢; omega) (by simp) (fun x hx=>hd x (by simp at hx ⊢; rcases hx with hx|hx<;>simp[hx])) (fun q=>by simp at q; exact (ha q).elim)
   have hpos:1≤valD (a::f):=by
    obtain⟨c',r',q1,_,q3⟩:=dec_head (valD (a::f)+1) (valD (a::f)) (Nat.lt_succ_self _)
    rcases Nat.eq_zero_or_pos (valD (a::f)) with q|q
    ·exfalso
     rw[q] at ih
     rw[dec_small (by omega)] at ih
     simp at ih
     exact ha ih.1.symm
    ·exact q
   rw[dec_big (by omega),show (10*valD (a::f)+(c.toNat - 48)) / 10=valD (a::f) by omega,show (10*valD (a::f)+(c.toNat - 48)) % 10=c.toNat - 48 by omega,ih,dec_small (by omega),hc2]
theorem intOf_itoa{n:Int}(h : -999999999≤n∧n≤999999999):intOf (Lib.itoa n)=some n:=by
 unfold Lib.itoa
 split
 ·rename_i hn
  obtain⟨c,r,h1,h2,h3⟩:=dec_head (n.natAbs+1) n.natAbs (Nat.lt_succ_self _)
  have hl:=dec_len (u:=n.natAbs) (by omega)
  have hv:=decD_val n.natAbs
  have hd:=decD_dg n.natAbs
  rw[h1] at hl hv hd ⊢
  rw[intOf_neg]
  unfold intE
  rw[if_neg (by
   rintro (q|q|⟨q,_⟩)
   ·simp at q
   ·omega
   ·simp at q; have:=(h3 q).1; omega),if_pos (all_take hd),if_pos rfl,hv]
  congr 1
  omega
 ·obtain⟨c,r,h1,h2,h3⟩:=dec_head (n.toNat+1) n.toNat (Nat.lt_succ_self _)
  have hl:=dec_len (u:=n.toNat) (by omega)
  have hv:=decD_val n.toNat
  have hd:=decD_dg n.toNat
  rw[h1] at hl hv hd ⊢
  rw[intOf_pos (by intro q; simp at q; rw[q] at h2; revert h2; decide)]
  unfold intE
  rw[if_neg (by
   rintro (q|q|⟨q,q2|q2⟩)
   ·simp at q
   ·omega
   ·simp at q; have:=(h3 q).2; rw[this] at q2; simp at q2
   ·cases q2),if_pos (all_take hd),if_neg (by simp),hv]
  congr 1
  omega
theorem intE_itoa{neg:Bool}{e:List UInt8}{n:Int}(h:intE neg e=some n):n=(if neg=true then -(valD e:Int) else (valD e:Int))∧Lib.decDigits (valD e)=e∧valD e≤999999999∧(neg=true→1≤valD e):=by
 unfold intE at h
 split at h
 ·cases h
 rename_i h1
 split at h
 rotate_left
 ·cases h
 rename_i h2
 injection h with h
 have hd:∀c∈e,dgB c=true:=by simpa using h2
 have hne:e≠[]:=fun q=>h1 (.inl (by simp[q]))
 have hl9:e.length≤9:=by
  rcases Nat.lt_or_ge 9 e.length with q|q
  ·exact (h1 (.inr (.inl q))).elim
  ·exact q
 have hl1:1≤e.length:=by cases e; exact (hne rfl).elim; simp
 have h48:e.head?=some 48→e.length=1:=fun q=>by
  rcases Nat.lt_or_ge 1 e.length with q2|q2
  ·exact (h1 (.inr (.inr ⟨q,.inl q2⟩))).elim
  ·omega
 have hv:=dec_val (e.length+1) e (Nat.lt_succ_self _) hne hd h48
 have hlt:=valD_lt hd e.length (Nat.le_refl _)
 rw[List.take_of_length_le (Nat.le_refl _)] at hlt
 have h10:=pow9 hl9
 refine⟨h.symm,hv,by omega,fun q=>?_⟩
 rcases Nat.eq_zero_or_pos (valD e) with q2|q2
 ·exfalso
  rw[q2,dec_small (by omega)] at hv
  exact h1 (.inr (.inr ⟨by rw[←hv]; rfl,.inr q⟩))
 ·exact q2
theorem itoa_intOf{d:List UInt8}{n:Int}(h:intOf d=some n):Lib.itoa n=d∧-999999999≤n∧n≤999999999:=by
 unfold intOf at h
 split at h
 ·rename_i r
  obtain⟨h1,h2,h3,h4⟩:=intE_itoa h
  have h4:=h4 rfl
  rw[if_pos rfl] at h1
  refine⟨?_,by omega,by omega⟩
  unfold Lib.itoa
  rw[if_pos (by omega),show n.natAbs=valD r by omega,h2]
 ·obtain⟨h1,h2,h3,_⟩:=intE_itoa h
  rw[if_neg (by simp)] at h1
  refine⟨?_,by omega,by omega⟩
  unfold Lib.itoa
  rw[if_neg (by omega),show n.toNat=valD d by omega,h2]
end Go.Am
