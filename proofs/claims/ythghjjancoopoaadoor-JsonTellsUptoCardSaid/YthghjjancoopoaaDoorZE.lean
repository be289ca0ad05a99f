/- Parts of the proof: an abstract machine for Go functions, and what functions of the program give back (Jt1, Jt2, Jt3). No condition. -/
import Derived.Test.YthghjjancoopoaaDoorYU
import Derived.Test.YthghjjancoopoaaDoorXF
namespace Go.Am
set_option linter.all false
open Go Go.RowKit Go.Proofs
set_option maxRecDepth 100000
set_option linter.all false
theorem dec_small{u:Nat}(h:u<10):Lib.decDigits u=[UInt8.ofNat (48+u)]:=by rw[Lib.decDigits,dif_pos h]
theorem dec_big{u:Nat}(h:¬u<10):Lib.decDigits u=Lib.decDigits (u / 10)++Lib.decDigits (u % 10):=by
 rw[Lib.decDigits,dif_neg h,dec_small (show u % 10<10 by omega)]
theorem itoa_nat(u:Nat):Lib.itoa (u:Int)=Lib.decDigits u:=by
 unfold Lib.itoa
 rw[if_neg (by omega)]
 simp
theorem dec_len{u:Nat}(h:u≤999999999):(Lib.decDigits u).length≤9:=by
 have key:∀(k u:Nat),u<10 ^ (k+1)→(Lib.decDigits u).length≤k+1:=fun k=>by
  induction k with
  | zero=>intro u h; rw[dec_small (by simpa using h)]; simp
  | succ k ih =>
   intro u h
   by_cases hu:u<10
   ·rw[dec_small hu]; simp
   ·rw[dec_big hu,dec_small (show u % 10<10 by omega),List.length_append]
    have:=ih (u / 10) (by rw[Nat.pow_succ] at h; omega)
    simp; omega
 exact key 8 u (by omega)
set_option maxHeartbeats 4000000 in
theorem DigitsN_ok:∀(m u id:Nat),u<m→u≤999999999→FnOk Tryd.prog 22 [.int .i64 u] [] id (.str (Lib.decDigits u)) []
 | 0,u,id,h,_=>by omega
 | m+1,u,id,h,h9=>by
  by_cases hu:u<10
  ·rw[dec_small hu]
   have e1:IntKind.i64.wrap (48+(u:Int))=48+(u:Int):=wrap64 (by omega)
   have e2:IntKind.u8.wrap (48+(u:Int))=48+(u:Int):=by simp[IntKind.wrap,IntKind.signed,IntKind.bits]; omega
   have e5:toU8 (.int .u8 (48+(u:Int)))=UInt8.ofNat (48+u):=by
    show UInt8.ofNat (48+(u:Int)).toNat=_
    congr 1
   have e6:isU8 (.int .u8 (48+(u:Int)))=true:=by simp[isU8]; try omega
   refine fn_okc Tryd.func22 hcc22 (by decide) hcr22 (by simp[Tryd.ntmps22]) fun E hP hR hl hid=>?_
   simp only[cr22] at hR
   refine w_go 4000 ?_
   simp[cc22]
   refine goc_false (by simp; omega) ?_
   simp
   refine goc_false (by simp) ?_
   simp
   refine goc_true (by simp; omega) ?_
   simp[e1,e2]
   rw[e5]
   refine⟨e6,?_⟩
   rw[hR]; exact rt_end (by simp<;>rfl) [] trivial (end_pure (by simp) (by simp) (by simp))
  ·rw[dec_big hu]
   have h1:=fun id=>DigitsN_ok m (u / 10) id (by omega) (by omega)
   have h2:=fun id=>DigitsN_ok m (u % 10) id (by omega) (by omega)
   have l1:=dec_len (u:=u / 10) (by omega)
   have l2:=dec_len (u:=u % 10) (by omega)
   refine fn_okc Tryd.func22 hcc22 (by decide) hcr22 (by simp[Tryd.ntmps22]) fun E hP hR hl hid=>?_
   simp only[cr22] at hR
   refine w_go 4000 ?_
   simp[cc22]
   refine goc_false (by simp; omega) ?_
   simp
   refine goc_false (by simp) ?_
   simp
   refine goc_false (by simp; omega) ?_
   have e3:IntKind.i64.wrap ((u:Int) / 10)=((u / 10:Nat):Int):=by rw[show (u:Int) / 10=((u / 10:Nat):Int) by omega]; exact wrap64 (by omega)
   have e4:IntKind.i64.wrap ((u:Int) % 10)=((u % 10:Nat):Int):=by rw[show (u:Int) % 10=((u % 10:Nat):Int) by omega]; exact wrap64 (by omega)
   simp[e3]
   (refine w_call hP rfl (h1 _) (by simp[e4]) (by simp[e4]<;>rfl) ?_; refine w_go 4000 ?_; simp[e4])
   (refine w_call hP rfl (h2 _) (by simp[e4]) (by simp[e4]<;>rfl) ?_; refine w_go 4000 ?_; simp[e4])
   refine⟨by omega,?_⟩
   rw[hR]; exact rt_end (by simp<;>rfl) [] trivial (end_pure (by simp) (by simp) (by simp))
theorem Digits_all(n:Int)(id:Nat)(h : -999999999≤n∧n≤999999999):FnOk Tryd.prog 22 [.int .i64 n] [] id (.str (Lib.itoa n)) []:=by
 by_cases h0:0≤n
 ·obtain⟨u,rfl⟩:=Int.eq_ofNat_of_zero_le h0
  rw[itoa_nat]
  exact DigitsN_ok (u+1) u id (Nat.lt_succ_self _) (by omega)
 obtain⟨u,rfl⟩:∃u:Nat,n = -(u:Int):=⟨n.natAbs,by omega⟩
 have hI:Lib.itoa (-(u:Int))=45::Lib.decDigits u:=by
  unfold Lib.itoa
  rw[if_pos (by omega)]
  simp
 have hl:=dec_len (u:=u) (by omega)
 rw[hI]
 by_cases hu:u<10
 ·have h1:=fun id=>DigitsN_ok (u+1) u id (Nat.lt_succ_self _) (by omega)
  have e1:IntKind.i64.wrap (u:Int)=(u:Int):=wrap64 (by omega)
  refine fn_okc Tryd.func22 hcc22 (by decide) hcr22 (by simp[Tryd.ntmps22]) fun E hP hR hl hid=>?_
  simp only[cr22] at hR
  refine w_go 4000 ?_
  simp[cc22]
  refine goc_true (by simp; omega) ?_
  simp[e1]
  (refine w_call hP rfl (h1 _) (by simp) (by simp<;>rfl) ?_; refine w_go 4000 ?_; simp)
  refine⟨by omega,?_⟩
  rw[hR]; exact rt_end (by simp<;>rfl) [] trivial (end_pure (by simp) (by simp) (by simp))
 ·have h1:=fun id=>DigitsN_ok (u / 10+1) (u / 10) id (Nat.lt_succ_self _) (by omega)
  have h2:=fun id=>DigitsN_ok (u % 10+1) (u % 10) id (Nat.lt_succ_self _) (by omega)
  rw[dec_big hu,List.length_append] at hl
  rw[dec_big hu]
  have q1:IntKind.i64.wrap (-((u:Int) / 10)) = -((u:Int) / 10):=by simp[IntKind.wrap,IntKind.signed,IntKind.bits]; omega
  have q2:IntKind.i64.wrap ((u:Int) / 10)=((u / 10:Nat):Int):=by rw[show (u:Int) / 10=((u / 10:Nat):Int) by omega]; exact wrap64 (by omega)
  have q3:(u:Int).tmod 10=((u % 10:Nat):Int):=by rw[Int.tmod_eq_emod_of_nonneg (by omega)]; omega
  have q4:IntKind.i64.wrap ((u % 10:Nat):Int)=((u % 10:Nat):Int):=wrap64 (by omega)
  have q5:IntKind.i64.wrap ((u:Int) % 10)=(u:Int) % 10:=by rw[show (u:Int) % 10=((u % 10:Nat):Int) by omega]; exact wrap64 (by omega)
  rw[show ((u % 10:Nat):Int)=(u:Int) % 10 by omega] at h2
  refine fn_okc Tryd.func22 hcc22 (by decide) hcr22 (by simp[Tryd.ntmps22]) fun E hP hR hl hid=>?_
  simp only[cr22] at hR
  refine w_go 4000 ?_
  simp[cc22]
  refine goc_false (by simp; omega) ?_
  simp
  refine goc_true (by simp; omega) ?_
  simp[q1,q2]
  (refine w_call hP rfl (h1 _) (by simp[q3,q5]) (by simp[q3,q5]<;>rfl) ?_; refine w_go 4000 ?_; simp[q3,q5])
  refine⟨by omega,?_⟩
  (refine w_call hP rfl (h2 _) (by simp[q5]) (by simp[q5]<;>rfl) ?_; refine w_go 4000 ?_; simp[q5])
  refine⟨by omega,?_⟩
  rw[hR]; exact rt_end (by simp<;>rfl) [] trivial (end_pure (by simp) (by simp) (by simp))
end Go.Am
namespace Go.Am
set_option linter.all false
open Go Go.RowKit Go.Proofs
set_option maxRecDepth 100000
set_option linter.all false
theorem hex_at:∀n:Fin 16,((hexT.take (n.val+1)).drop n.val)=[hexD n.val]:=by decide
theorem hex_at'{n:Nat}(h:n<16):((hexT.take (n+1)).drop n)=[hexD n]:=hex_at ⟨n,h⟩
theorem u8w{n:Int}(h:0≤n∧n<256):IntKind.u8.wrap n=n:=by simp[IntKind.wrap,IntKind.signed,IntKind.bits]; omega
theorem hexD_lo{n:Nat}(h:n<16):hexD (n / 16)=48:=by rw[Nat.div_eq_of_lt h]; rfl
theorem hexD_hi{n:Nat}(h:16≤n)(h':n<32):hexD (n / 16)=49:=by rw[show n / 16=1 by omega]; rfl
set_option maxHeartbeats 8000000 in
theorem jText_ok(s:List UInt8)(id:Nat)(h8:s.length≤1099511627776):FnOk Tryd.prog 23 [.str s] [] id (.str (quoted s)) []:=by
 refine fn_okc Tryd.func23 hcc23 (by decide) hcr23 (by simp[Tryd.ntmps23]) fun E hP hR hl hid=>?_
 simp only[cr23] at hR
 refine w_go 4000 ?_
 simp[cc23]
 refine w_loop (X:=Nat) (fun i=>⟨[(0,true,.str s),(3,true,.str (34::qL (s.take i))),(4,true,.int .i64 i)],[],0⟩)
  (fun i=>i≤s.length) (fun i=>s.length - i) 0 ?_ (by omega) ?_
 ·have h1:qL []=[]:=rfl
  have hrn:rnOk []:=by simp[h1]
  refine Conv.sub [] hrn ?_ ?_ ?_ ?_ ?_<;>(try simp[h1])
 rintro i hi p hp
 have h34:∀(c:UInt8) (n:Nat),n<256→(((c.toNat:Int)==(n:Int))=true↔c=UInt8.ofNat n):=fun c n hn=>by
  rw[beq_iff_eq]
  constructor
  ·intro h
   have h:c.toNat=n:=by omega
   rw[←h]; simp
  ·intro h
   subst h
   simp; omega
 refine w_go 4000 ?_
 simp
 refine goc (fun h=>?_) (fun h=>?_)
 ·have h:=of_decide_eq_true h
  obtain⟨c,hc,hd⟩:=drop_cons h
  have hi1:IntKind.i64.wrap ((i:Int)+1)=((i+1:Nat):Int):=wrap64 (by omega)
  have hql:=qL_len (s.take i)
  rw[List.length_take] at hql
  have hst:=qL_take hc
  have hb:=qB_len c
  have hc8:=c.toNat_lt
  simp[hc]
  refine⟨h,?_⟩
  refine goc (fun g=>?_) (fun g=>?_)<;>simp
  ·have g:c=34:=(h34 c 34 (by omega)).1 g
   have hq:qB c=[92,34]:=by unfold qB; rw[if_pos (.inl g),g]
   rw[hq] at hst
   refine⟨by omega,?_⟩
   refine hp _ (i+1) h (by omega) ?_
   have hrn:rnOk []:=by simp[hi1,hst]
   refine Conv.sub [] hrn ?_ ?_ ?_ ?_ ?_<;>(try simp[hi1,hst])
  have g:c≠34:=fun e=>absurd ((h34 c 34 (by omega)).2 e) (by rw[Bool.not_eq_true]; exact g)
  refine goc (fun g1=>?_) (fun g1=>?_)<;>simp
  ·have g1:c=92:=(h34 c 92 (by omega)).1 g1
   have hq:qB c=[92,92]:=by unfold qB; rw[if_pos (.inr g1),g1]
   rw[hq] at hst
   refine⟨by omega,?_⟩
   refine hp _ (i+1) h (by omega) ?_
   have hrn:rnOk []:=by simp[hi1,hst]
   refine Conv.sub [] hrn ?_ ?_ ?_ ?_ ?_<;>(try simp[hi1,hst])
  have g1:c≠92:=fun e=>absurd ((h34 c 92 (by omega)).2 e) (by rw[Bool.not_eq_true]; exact g1)
  have g01:¬(c=34∨c=92):=fun e=>e.elim g g1
  refine goc (fun g2=>?_) (fun g2=>?_)<;>simp
  ·have g2:c=10:=(h34 c 10 (by omega)).1 g2
   have hq:qB c=[92,110]:=by unfold qB; rw[if_neg g01,if_pos g2]
   rw[hq] at hst
   refine⟨by omega,?_⟩
   refine hp _ (i+1) h (by omega) ?_
   have hrn:rnOk []:=by simp[hi1,hst]
   refine Conv.sub [] hrn ?_ ?_ ?_ ?_ ?_<;>(try simp[hi1,hst])
  have g2:c≠10:=fun e=>absurd ((h34 c 10 (by omega)).2 e) (by rw[Bool.not_eq_true]; exact g2)
  refine goc (fun g3=>?_) (fun g3=>?_)
  ·have g3:c.toNat<16:=by simp at g3; omega
   have w1:IntKind.u8.wrap ((c.toNat:Int)+1)=((c.toNat+1:Nat):Int):=u8w (by omega)
   have hx:=hex_at' g3
   unfold hexT at hx
   simp only[List.take_succ_cons] at hx
   have hq:qB c=[92,117,48,48,48,hexD c.toNat]:=by unfold qB; rw[if_neg g01,if_neg g2,if_pos (by omega),hexD_lo g3,Nat.mod_eq_of_lt g3]
   rw[hq] at hst
   simp[w1,hx]
   refine⟨by omega,by omega,?_⟩
   refine hp _ (i+1) h (by omega) ?_
   have hrn:rnOk []:=by simp[hi1,hst]
   refine Conv.sub [] hrn ?_ ?_ ?_ ?_ ?_<;>(try simp[hi1,hst])
  have g3:¬c.toNat<16:=by simp at g3; omega
  simp
  refine goc (fun g4=>?_) (fun g4=>?_)
  ·have g4:c.toNat<32:=by simp at g4; omega
   have w1:IntKind.u8.wrap ((c.toNat:Int) - 16)=((c.toNat - 16:Nat):Int):=by rw[u8w (by omega)]; omega
   have w2:IntKind.u8.wrap ((c.toNat:Int) - 15)=((c.toNat - 16+1:Nat):Int):=by rw[u8w (by omega)]; omega
   have hx:=hex_at' (n:=c.toNat - 16) (by omega)
   unfold hexT at hx
   simp only[List.take_succ_cons] at hx
   have hq:qB c=[92,117,48,48,49,hexD (c.toNat - 16)]:=by unfold qB; rw[if_neg g01,if_neg g2,if_pos g4,hexD_hi (by omega) g4,show c.toNat % 16=c.toNat - 16 by omega]
   rw[hq] at hst
   simp[w1,w2,hx]
   refine⟨by omega,by omega,?_⟩
   refine hp _ (i+1) h (by omega) ?_
   have hrn:rnOk []:=by simp[hi1,hst]
   refine Conv.sub [] hrn ?_ ?_ ?_ ?_ ?_<;>(try simp[hi1,hst])
  have g4:¬c.toNat<32:=by simp at g4; omega
  simp
  have hq:qB c=[c]:=by unfold qB; rw[if_neg g01,if_neg g2,if_neg g4]
  rw[hq] at hst
  have htk:(s.take (i+1)).drop i=[c]:=by
   rw[take_snoc hc,List.drop_append_of_le_length (by simp; omega),List.drop_of_length_le (by simp; omega)]; rfl
  simp[hi1,htk]
  refine⟨by omega,by omega,?_⟩
  refine hp _ (i+1) h (by omega) ?_
  have hrn:rnOk []:=by simp[hi1,hst]
  refine Conv.sub [] hrn ?_ ?_ ?_ ?_ ?_<;>(try simp[hi1,hst])
 ·have h:¬i<s.length:=of_decide_eq_false h
  rw[List.take_of_length_le (show s.length≤i by omega)]
  have hql:=qL_len s
  have hfin:34::(qL s++[34])=quoted s:=by simp[quoted]
  simp[hfin]
  refine⟨by omega,?_⟩
  rw[hR]; exact rt_end (by simp<;>rfl) [] trivial (end_pure (by simp) (by simp) (by simp))
theorem starts_ok(s w:List UInt8)(a id:Nat)(ha:a≤s.length)(h8:s.length≤1099511627776)(hw:w.length≤1099511627776):FnOk Tryd.prog 41 [.str s,.int .i64 a,.str w] [] id (.bool (cutB (s.drop a) w)) []:=by
 have e1:IntKind.i64.wrap ((s.length:Int) - (a:Int))=((s.length - a:Nat):Int):=by rw[show (s.length:Int) - (a:Int)=((s.length - a:Nat):Int) by omega]; exact wrap64 (by omega)
 have e2:IntKind.i64.wrap ((a:Int)+(w.length:Int))=((a+w.length:Nat):Int):=by rw[show (a:Int)+(w.length:Int)=((a+w.length:Nat):Int) by omega]; exact wrap64 (by omega)
 have hres:(decide (w.length≤s.length - a)&&(s.take (a+w.length)).drop a==w)=cutB (s.drop a) w:=by
  rw[←cutB_eq,List.length_drop,List.take_drop,Nat.add_comm]
 have e3:decide ((w.length:Int)≤((s.length - a:Nat):Int))=decide (w.length≤s.length - a):=by rw[decide_eq_decide]; omega
 rw[←hres]
 refine fn_okc Tryd.func41 hcc41 (by decide) hcr41 (by simp[Tryd.ntmps41]) fun E hP hR hl hid=>?_
 simp only[cr41] at hR
 refine w_go 4000 ?_
 simp[cc41]
 simp only[e1,e2,e3,Int.toNat_natCast]
 refine⟨fun h=>⟨h,⟨by omega,by omega⟩,by omega⟩,?_⟩
 rw[hR]; exact rt_end (by simp<;>rfl) [] trivial (end_pure (by simp) (by simp) (by simp))
end Go.Am
namespace Go.Am
set_option linter.all false
open Go Go.RowKit Go.Proofs
set_option maxRecDepth 100000
set_option linter.all false
def toI(s:List UInt8):Option (List UInt8)→Int
 | none=>-1
 | some u=>(s.length:Int) - (u.length:Int)
def txT(r:List UInt8):List UInt8:=match pText r with
 | none=>[]
 | some (t,_)=>t
def txU(r:List UInt8):Option (List UInt8):=(pText r).map (·.2)
theorem tx_none{r:List UInt8}(h:pText r=none):txT r=[]∧txU r=none:=by unfold txT txU; rw[h]; exact⟨rfl,rfl⟩
theorem tx_some{r t u:List UInt8}(h:pText r=some (t,u)):txT r=t∧txU r=some u:=by unfold txT txU; rw[h]; exact⟨rfl,rfl⟩
theorem step_cut{r:List UInt8}{c:UInt8}(h:cutB r (qB c)=true):tStep r=some (c,r.drop (qB c).length):=by
 conv=>lhs; rw[cut_eq h]
 exact tStep_q c _
theorem one_q(c:UInt8):((quoted [c]).take ((quoted [c]).length - 1)).tail=qB c:=by
 have:=(quoted_one c).2
 simpa using this
theorem cut34{c:UInt8}{r:List UInt8}(h:c≠34):cutB (c::r) [34]=false:=cut_ne h
theorem toI_none(s:List UInt8):toI s none = -1:=rfl
theorem txs_none{s r:List UInt8}(h:pText r=none):txT r=[]∧toI s (txU r) = -1:=by obtain⟨h1,h2⟩:=tx_none h; rw[h1,h2]; exact⟨rfl,rfl⟩
theorem txs_some{s r t u:List UInt8}{n:Nat}(h:pText r=some (t,u))(hn:(s.length:Int) - (u.length:Int)=n):txT r=t∧toI s (txU r)=n:=by obtain⟨h1,h2⟩:=tx_some h; rw[h1,h2]; exact⟨rfl,hn⟩
set_option maxHeartbeats 16000000 in
theorem textAt_ok(s:List UInt8)(a id:Nat)(ha:a≤s.length)(h8:s.length≤1099511627000):FnOk Tryd.prog 42 [.str s,.int .i64 a] [] id (.tup [.str (txT (s.drop a)),.int .i64 (toI s (txU (s.drop a)))]) []:=by
 have hS:=fun (w:List UInt8) (b id:Nat) (hb:b≤s.length) (hw:w.length≤1099511627776)=>starts_ok s w b id hb (by omega) hw
 have h0:=fun id=>hS [34] a id ha (by simp)
 by_cases g:cutB (s.drop a) [34]=true
 rotate_left
 ·have e:pText (s.drop a)=none:=by unfold pText; rw[if_neg g]
  obtain⟨e1,e2⟩:=txs_none (s:=s) e
  have g:cutB (s.drop a) [34]=false:=by simpa using g
  rw[g] at h0
  rw[e1,e2]
  refine fn_okc Tryd.func42 hcc42 (by decide) hcr42 (by simp[Tryd.ntmps42]) fun E hP hR hl hid=>?_
  simp only[cr42] at hR
  refine w_go 4000 ?_
  simp[cc42]
  (refine w_call hP rfl (h0 _) (by simp) (by simp<;>rfl) ?_; refine w_go 4000 ?_; simp)
  rw[hR]; exact rt_end (by simp<;>rfl) [] trivial (end_pure (by simp) (by simp) (by simp))
 have ha1:a<s.length:=by
  have:=((cutB_iff _ _).1 g).1
  simp at this; omega
 have hp0:pText (s.drop a)=pTx ((s.drop a).length+1) [] (s.drop (a+1)):=by
  unfold pText; rw[if_pos g,List.drop_drop]
 have a1:IntKind.i64.wrap ((a:Int)+1)=((a+1:Nat):Int):=wrap64 (by omega)
 rw[g] at h0
 refine fn_okc Tryd.func42 hcc42 (by decide) hcr42 (by simp[Tryd.ntmps42]) fun E hP hR hl hid=>?_
 simp only[cr42] at hR
 refine w_go 4000 ?_
 simp[cc42]
 (refine w_call hP rfl (h0 _) (by simp) (by simp<;>rfl) ?_; refine w_go 4000 ?_; simp)
 refine w_loop (X:=List UInt8×Nat×Nat) (fun q=>⟨[(0,true,.str s),(1,true,.int .i64 q.2.1),(6,true,.str q.1)],[],0⟩)
  (fun q=>pTx q.2.2 q.1 (s.drop q.2.1)=pText (s.drop a)∧q.2.1≤s.length∧s.length<q.2.1+q.2.2∧q.1.length≤q.2.1) (fun q=>s.length - q.2.1) ([],a+1,(s.drop a).length+1) ?_ ⟨hp0.symm,by show a+1≤_; omega,by show s.length<a+1+((s.drop a).length+1); rw[List.length_drop]; omega,by simp⟩ ?_
 ·have hrn:rnOk []:=by simp[a1]
  refine Conv.sub [] hrn ?_ ?_ ?_ ?_ ?_<;>(try simp[a1])
 rintro⟨acc,b,n⟩ ⟨hx,hb,hbn,hac⟩ p hp
 simp only at hx hb hbn hac
 obtain⟨n,rfl⟩:=Nat.exists_eq_succ_of_ne_zero (show n≠0 by omega)
 rcases Nat.lt_or_ge b s.length with h|h
 rotate_left
 ·have e:pText (s.drop a)=none:=by
   rw[←hx,List.drop_of_length_le h]
   rfl
  obtain⟨e1,e2⟩:=txs_none (s:=s) e
  rw[e1,e2] at hR
  refine w_go 4000 ?_
  simp[Nat.not_lt.2 h]
  rw[hR]; exact rt_end (by simp<;>rfl) [] trivial (end_pure (by simp) (by simp) (by simp))
 obtain⟨c0,hc,hd⟩:=drop_cons h
 have hci:s[b]=c0:=by
  rw[List.getElem?_eq_getElem h] at hc
  injection hc
 have b1:IntKind.i64.wrap ((b:Int)+1)=((b+1:Nat):Int):=wrap64 (by omega)
 by_cases g2:c0=34
 ·have e:pText (s.drop a)=some (acc,s.drop (b+1)):=by
   rw[←hx,hd]
   simp only[Nat.succ_eq_add_one,pTx]
   rw[g2,if_pos (cut_one _ _)]
   rfl
  obtain⟨e1,e2⟩:=txs_some (s:=s) (n:=b+1) e (by rw[List.length_drop]; omega)
  rw[e1,e2] at hR
  have g2':((c0.toNat:Int)==34)=true:=by rw[g2]; rfl
  refine w_go 4000 ?_
  simp[h,hci,g2',b1]
  rw[hR]; exact rt_end (by simp<;>rfl) [] trivial (end_pure (by simp) (by simp) (by simp))
 have g2':((c0.toNat:Int)==34)=false:=by
  rw[beq_eq_false_iff_ne]
  intro q
  exact g2 (UInt8.toNat_inj.1 (by simpa using Int.ofNat_inj.1 q))
 have hx:(match tStep (s.drop b) with
  | none=>none
  | some (c,u)=>pTx n (acc++[c]) u)=pText (s.drop a):=by
  rw[←hx]
  simp only[Nat.succ_eq_add_one,pTx]
  rw[hd,if_neg (by rw[cut34 g2]; simp)]
  all_goals rfl
 have hQ:=fun (k:Nat) id=>jText_ok [UInt8.ofNat k] id (by simp)
 cases hst:tStep (s.drop b) with
 | none =>
  rw[hst] at hx
  have e:pText (s.drop a)=none:=hx.symm
  obtain⟨e1,e2⟩:=txs_none (s:=s) e
  rw[e1,e2] at hR
  have hno:∀k:Nat,cutB (s.drop b) (qB (UInt8.ofNat k))=false:=fun k=>by
   cases hk:cutB (s.drop b) (qB (UInt8.ofNat k)) with
   | false=>rfl
   | true=>rw[step_cut hk] at hst; cases hst
  refine w_go 4000 ?_
  simp[h,hci,g2']
  refine w_loop (X:=Nat) (fun k=>⟨[(0,true,.str s),(1,true,.int .i64 b),(6,true,.str acc),(7,true,.bool false),(8,true,.int .i64 k)],[],0⟩)
   (fun k=>k≤256) (fun k=>256 - k) 0 ?_ (by omega) ?_
  ·have hrn:rnOk []:=by simp
   refine Conv.sub [] hrn ?_ ?_ ?_ ?_ ?_<;>(try simp)
  rintro k hk p2 hp2
  rcases Nat.lt_or_ge k 256 with hk2|hk2
  rotate_left
  ·obtain rfl:k=256:=by omega
   refine w_go 4000 ?_
   simp
   rw[hR]; exact rt_end (by simp<;>rfl) [] trivial (end_pure (by simp) (by simp) (by simp))
  have hlt:(k:Int)<256:=by omega
  have kw:IntKind.u8.wrap (k:Int)=(k:Int):=u8w (by omega)
  have kb:toU8 (.int .u8 (k:Int))=UInt8.ofNat k:=by
   show UInt8.ofNat (k:Int).toNat=_
   congr 1
  have kq:isU8 (.int .u8 (k:Int))=true:=by simp[isU8]; try omega
  have k1:IntKind.i64.wrap ((k:Int)+1)=((k+1:Nat):Int):=wrap64 (by omega)
  have hQk:=hQ k
  have hno:=hno k
  have q1:=one_q (UInt8.ofNat k)
  have ql:=qB_len (UInt8.ofNat k)
  have hqz:(quoted [UInt8.ofNat k]).length=(qB (UInt8.ofNat k)).length+2:=by simp[quoted,qL]
  have w1:IntKind.i64.wrap (((quoted [UInt8.ofNat k]).length:Int) - 1)=(((quoted [UInt8.ofNat k]).length - 1:Nat):Int):=by rw[show ((quoted [UInt8.ofNat k]).length:Int) - 1=(((quoted [UInt8.ofNat k]).length - 1:Nat):Int) by omega]; exact wrap64 (by omega)
  have hS1:=fun id=>hS (qB (UInt8.ofNat k)) b id (by omega) (by omega)
  rw[hno] at hS1
  generalize UInt8.ofNat k=kc at *
  generalize quoted [kc]=qk at *
  generalize qB kc=qc at *
  refine w_go 4000 ?_
  simp[hlt,kw,kb,kq]
  (refine w_call hP rfl (hQk _) (by simp) (by simp<;>rfl) ?_; refine w_go 4000 ?_; simp)
  rw[w1]
  simp only[Int.toNat_natCast]
  rw[q1]
  refine⟨by omega,?_⟩
  (refine w_call hP rfl (hS1 _) (by simp) (by simp<;>rfl) ?_; refine w_go 4000 ?_; simp)
  refine hp2 _ (k+1) (by omega) (by omega) ?_
  have hrn:rnOk []:=by simp[k1]
  refine Conv.sub [] hrn ?_ ?_ ?_ ?_ ?_<;>(try simp[k1])
 | some p3 =>
  obtain⟨cc,u⟩:=p3
  rw[hst] at hx
  simp only at hx
  have he:=tStep_eq hst
  have hce:=UInt8.ofNat_toNat (x:=cc)
  have hcl:=cc.toNat_lt
  have hqc:=qB_len cc
  have hul:u.length+(qB cc).length+b=s.length:=by
   have:=congrArg List.length he
   rw[List.length_drop,List.length_append] at this
   omega
  have hud:s.drop (b+(qB cc).length)=u:=by
   rw[←List.drop_drop,he,List.drop_left]
  have hno:∀k:Nat,k<256→k≠cc.toNat→cutB (s.drop b) (qB (UInt8.ofNat k))=false:=fun k hk hn=>by
   cases hk2:cutB (s.drop b) (qB (UInt8.ofNat k)) with
   | false=>rfl
   | true =>
    rw[step_cut hk2] at hst
    injection hst with hst
    simp only[Prod.mk.injEq] at hst
    have:=congrArg UInt8.toNat hst.1
    simp at this
    omega
  have hyes:cutB (s.drop b) (qB (UInt8.ofNat cc.toNat))=true:=by
   rw[hce,he]; exact cut_app _ _
  refine w_go 4000 ?_
  simp[h,hci,g2']
  refine w_loop (X:=Nat×Bool) (fun q=>⟨[(0,true,.str s),(1,true,.int .i64 (if q.2=true then (b+(qB cc).length:Nat) else b:Nat)),(6,true,.str (if q.2=true then acc++[cc] else acc)),(7,true,.bool q.2),(8,true,.int .i64 q.1)],[],0⟩)
   (fun q=>q.1≤256∧(q.2=false→q.1≤cc.toNat)) (fun q=>257 - q.1) (0,false) ?_ ⟨by simp,by simp⟩ ?_
  ·have hrn:rnOk []:=by simp
   refine Conv.sub [] hrn ?_ ?_ ?_ ?_ ?_<;>(try simp)
  rintro⟨k,f⟩ ⟨hk,hkf⟩ p2 hp2
  simp only at hk hkf
  have kf:((0:Int)≤(k:Int)):=by omega
  cases f with
  | true =>
   refine w_go 4000 ?_
   simp
   refine hp _ (acc++[cc],b+(qB cc).length,n) ⟨by rw[hud]; exact hx,by simp; omega,by simp at hbn ⊢; omega,by simp; omega⟩ (by simp; omega) ?_
   have hrn:rnOk []:=by simp
   refine Conv.sub [] hrn ?_ ?_ ?_ ?_ ?_<;>(try simp)
  | false =>
  have hkf:=hkf rfl
  have hk2:k<256:=by omega
  have hlt:(k:Int)<256:=by omega
  have kw:IntKind.u8.wrap (k:Int)=(k:Int):=u8w (by omega)
  have kb:toU8 (.int .u8 (k:Int))=UInt8.ofNat k:=by
   show UInt8.ofNat (k:Int).toNat=_
   congr 1
  have kq:isU8 (.int .u8 (k:Int))=true:=by simp[isU8]; try omega
  have k1:IntKind.i64.wrap ((k:Int)+1)=((k+1:Nat):Int):=wrap64 (by omega)
  have hQk:=hQ k
  have q1:=one_q (UInt8.ofNat k)
  have ql:=qB_len (UInt8.ofNat k)
  have hqz:(quoted [UInt8.ofNat k]).length=(qB (UInt8.ofNat k)).length+2:=by simp[quoted,qL]
  have w1:IntKind.i64.wrap (((quoted [UInt8.ofNat k]).length:Int) - 1)=(((quoted [UInt8.ofNat k]).length - 1:Nat):Int):=by rw[show ((quoted [UInt8.ofNat k]).length:Int) - 1=(((quoted [UInt8.ofNat k]).length - 1:Nat):Int) by omega]; exact wrap64 (by omega)
  have hS1:=fun id=>hS (qB (UInt8.ofNat k)) b id (by omega) (by omega)
  by_cases hkc:k=cc.toNat
  ·subst hkc
   have w2:IntKind.i64.wrap ((b:Int)+((qB cc).length:Int))=((b+(qB cc).length:Nat):Int):=by rw[show (b:Int)+((qB cc).length:Int)=((b+(qB cc).length:Nat):Int) by omega]; exact wrap64 (by omega)
   rw[hyes] at hS1
   rw[hce] at *
   generalize quoted [cc]=qk at *
   generalize qB cc=qc at *
   refine w_go 4000 ?_
   simp[hlt,kw,kb,kq]
   (refine w_call hP rfl (hQk _) (by simp) (by simp<;>rfl) ?_; refine w_go 4000 ?_; simp)
   rw[w1]
   simp only[Int.toNat_natCast]
   rw[q1]
   refine⟨by omega,?_⟩
   (refine w_call hP rfl (hS1 _) (by simp) (by simp<;>rfl) ?_; refine w_go 4000 ?_; simp)
   refine⟨by omega,?_⟩
   refine hp2 _ (cc.toNat+1,true) ⟨by simp; omega,by simp⟩ (by simp; omega) ?_
   have hrn:rnOk []:=by simp[k1,w2]
   refine Conv.sub [] hrn ?_ ?_ ?_ ?_ ?_<;>(try simp[k1,w2])
  ·have hno:=hno k hk2 hkc
   rw[hno] at hS1
   generalize UInt8.ofNat k=kc at *
   generalize quoted [kc]=qk at *
   generalize qB kc=qc at *
   refine w_go 4000 ?_
   simp[hlt,kw,kb,kq]
   (refine w_call hP rfl (hQk _) (by simp) (by simp<;>rfl) ?_; refine w_go 4000 ?_; simp)
   rw[w1]
   simp only[Int.toNat_natCast]
   rw[q1]
   refine⟨by omega,?_⟩
   (refine w_call hP rfl (hS1 _) (by simp) (by simp<;>rfl) ?_; refine w_go 4000 ?_; simp)
   refine hp2 _ (k+1,false) ⟨by simp; omega,by simp; omega⟩ (by simp; omega) ?_
   have hrn:rnOk []:=by simp[k1]
   refine Conv.sub [] hrn ?_ ?_ ?_ ?_ ?_<;>(try simp[k1])
end Go.Am
