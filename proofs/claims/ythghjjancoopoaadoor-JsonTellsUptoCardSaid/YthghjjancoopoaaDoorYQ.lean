/- Parts of the proof: an abstract machine for Go functions, and what functions of the program give back (Rj7, Rj8). No condition. -/
import Derived.Test.YthghjjancoopoaaDoorYP
import Derived.Test.YthghjjancoopoaaDoorYA
import Derived.Test.YthghjjancoopoaaDoorXD
namespace Go.Am
set_option linter.all false
open Go Go.RowKit Go.Proofs
set_option maxRecDepth 100000
set_option linter.all false
def zO:AV:=.agg [.int .i64 0,.int .i64 0,.str [],.nils,.nils]
def kB(k:Int)(kv lv:AV):Bx:=⟨[.agg [.int .i64 k,.int .i64 0,.str [],kv,lv]],.agg [.int .i64 0,.int .i64 0,.str [],.nils,.nils],false,false⟩
def pB(J:Nat):Bx:=⟨[.ptr J 0 0],.ptr J 0 0,false,false⟩
def lB(l:List Out):Bx:=⟨l.map eO,.agg [.int .i64 0,.int .i64 0,.str [],.nils,.nils],false,false⟩
def sB(l:List (List UInt8)):Bx:=⟨l.map .str,.str [],false,false⟩
theorem kB_eq(k:Int)(kv lv:AV):kB k kv lv=⟨[.agg [.int .i64 k,.int .i64 0,.str [],kv,lv]],.agg [.int .i64 0,.int .i64 0,.str [],.nils,.nils],false,false⟩:=rfl
theorem pB_eq(J:Nat):pB J=⟨[.ptr J 0 0],.ptr J 0 0,false,false⟩:=rfl
theorem lB_eq(l:List Out):lB l=⟨l.map eO,.agg [.int .i64 0,.int .i64 0,.str [],.nils,.nils],false,false⟩:=rfl
theorem sB_eq(l:List (List UInt8)):sB l=⟨l.map .str,.str [],false,false⟩:=rfl
def outR(o:Option (Out×List UInt8)):Option (AV×List UInt8):=o.map fun p=>(eO p.1,p.2)
def OutIs(n:Nat):Prop:=∀(z s:List UInt8) (J id:Nat),2*s.length+1≤n→s.length≤1099511627776→FnE Tryd.prog 36 [.ptr J 0 0] [(J,bS z s)] id (rdR J z (outR (pOut n s)))
theorem jS_pos(o:Out):0<(jS o).length:=by
 rw[jS_eq]
 split
 ·obtain⟨c,r,h,_⟩:=itoa_head o.n; rw[h]; simp
 repeat' split
 all_goals simp[quoted]
theorem pOut_lt{n:Nat}{s u:List UInt8}{o:Out}(h:pOut n s=some (o,u)):u.length+1≤s.length:=by
 have:=pOut_eq h
 have h2:=jS_pos o
 rw[this,List.length_append]; omega
theorem pText_lt{s t u:List UInt8}(h:pText s=some (t,u)):u.length+2≤s.length:=by
 have:=pText_eq h
 rw[this]; simp[quoted]
theorem eO_agg(x:Out):∃(a b:Int) (c:List UInt8) (d:List (List UInt8)) (e:List Out),eO x = .agg [.int .i64 a,.int .i64 b,.str c,.sl (d.map .str),.sl (e.map eO)]:=by
 cases x with|mk a b c d e=>exact⟨a,b,c,d,e,eO_eq a b c d e⟩
theorem apart4{a b c d:Nat}(h:[a,b,c,d].Nodup):((a=b)=False∧(b=a)=False)∧((a=c)=False∧(c=a)=False)∧((a=d)=False∧(d=a)=False)∧((b=c)=False∧(c=b)=False)∧((b=d)=False∧(d=b)=False)∧(c=d)=False∧(d=c)=False:=by
 simp at h
 obtain⟨⟨h1,h2,h3⟩,⟨h4,h5⟩,h6⟩:=h
 exact⟨⟨eq_false h1,eq_false (Ne.symm h1)⟩,⟨eq_false h2,eq_false (Ne.symm h2)⟩,⟨eq_false h3,eq_false (Ne.symm h3)⟩,⟨eq_false h4,eq_false (Ne.symm h4)⟩,⟨eq_false h5,eq_false (Ne.symm h5)⟩,eq_false h6,eq_false (Ne.symm h6)⟩
def do1R(J V K M id:Nat)(z:List UInt8)(l:List Out):Option (Out×List UInt8)→Except AV (AV×List (Nat×Option Bx))
 | none=>.error wv
 | some (o,u)=>.ok (.tup [],[(J,some (bS z u)),(K,some (kB 4 .nils (.bsl id 0 (l.length+1)))),(M,none),(id,some (lB (l++[o])))])
def crsOf7:CC→List CR
 | .reg _ l _=>l
 | _=>[]
def psOf7:CC→List (Nat×Nat)
 | .reg _ _ p=>p
 | _=>[]
theorem do1_code:cc69 = .reg true ((crsOf7 cc69).take 3++(crsOf7 cc69).getD 3 default::(((crsOf7 cc69).drop 4).take 2++(crsOf7 cc69).drop 6)) (psOf7 cc69):=rfl
set_option maxHeartbeats 8000000 in
theorem do1_ok{n:Nat}(hO:OutIs n)(z s:List UInt8)(l:List Out)(J V K M id:Nat)(hd:[J,V,K,M].Nodup)(hn:2*s.length+1≤n)(h8:s.length≤1099511627776)(hl8:l.length≤1099511627776):
  FnE Tryd.prog 69 [.ptr K 0 0,.ptr V 0 0] [(J,bS z s),(V,pB J),(K,kB 4 .nils (.bsl M 0 l.length)),(M,lB l)] id (do1R J V K M id z l (pOut n s)):=by
 have ho:=fun id=>hO z s J id hn h8
 have d:=apart4 hd
 cases hp:pOut n s with
 | none =>
  rw[hp] at ho
  change ∀id,FnE _ _ _ _ _ (.error wv) at ho
  show FnE _ _ _ _ _ (.error wv)
  rw[bS_eq] at *
  rw[kB_eq,pB_eq,lB_eq]
  refine fn_okE Tryd.func69 hcc69 (by decide) hcr69 (by simp[Tryd.ntmps69]) fun E hP hR hPn hl hid hB hu=>?_
  have hJ:=hl (J,_) (List.mem_cons_self ..)
  simp only at hJ
  have J1:=lf hJ
  have hV:=hl (V,_) (List.mem_cons_of_mem _ (List.mem_cons_self ..))
  simp only at hV
  have V1:=lf hV
  have hK:=hl (K,_) (List.mem_cons_of_mem _ (List.mem_cons_of_mem _ (List.mem_cons_self ..)))
  simp only at hK
  have K1:=lf hK
  have hM:=hl (M,_) (List.mem_cons_of_mem _ (List.mem_cons_of_mem _ (List.mem_cons_of_mem _ (List.mem_cons_self ..))))
  simp only at hM
  have M1:=lf hM
  rw[do1_code]
  refine w_regS _ _ _ _ (rs1:=[⟨true,.ptr K 0 4,[(K,kB 4 .nils (.bsl M 0 l.length))],[]⟩,⟨true,.bsl M 0 l.length,[(K,kB 4 .nils (.bsl M 0 l.length))],[]⟩,⟨true,.ptr J 0 0,[(V,pB J)],[]⟩])
   (r:=⟨true,.nili,[(J,bS z s)],goL [(J,bS z s)]⟩) (rs2:=[⟨true,.int .i64 l.length,[(M,lB l)],[]⟩,⟨true,.bsl (E.n0+5120) 0 1,[],[(E.n0+5120,some ⟨[zO],zO,false,false⟩)]⟩]) (pv:=wv) ?_ ?_ ?_ ?_ ?_
  ·simp only[crsOf7,cc69,CC.d,List.take,ARuns,CR.f,CR.l,St.app,putF,addW,bS_eq,kB_eq,pB_eq,lB_eq]
   refine⟨ar_sem (by simp) (by simp[J1,V1,K1,M1,d]),ar_sem (by simp) (by simp[J1,V1,K1,M1,d]),ar_sem (by simp) (by simp[J1,V1,K1,M1,d]),trivial⟩
  ·simp[crsOf7,cc69,St.apps,St.app,bS_eq,kB_eq,pB_eq,lB_eq]
   refine ar_call (by simp) (by simp<;>rfl) (by rw[hP]; exact ho _) (by simp[J1,V1,K1,M1,d])
  ·simp[crsOf7,cc69,ARuns,St.apps,St.app,bS_eq,kB_eq,pB_eq,lB_eq]
   refine⟨ar_sem (by simp) (by simp[J1,V1,K1,M1,d]),ar_sem (by simp) (by simp[zO,J1,V1,K1,M1,d])⟩
  ·simp only[crsOf7,psOf7,dynS,cc69,CC.d,pr,List.map,List.append,getR,List.take,List.length,List.drop,List.cons_append,List.nil_append]
   simp[apartR,J1,V1,K1,M1,d]
  ·refine hPn _ _ rfl rfl ?_
   simp[crsOf7,cc69,St.apps,St.app,bS_eq,kB_eq,pB_eq,lB_eq,J1,V1,K1,M1,d]
 | some p =>
  obtain⟨o,u⟩:=p
  rw[hp] at ho
  have ho:∀id,FnOk Tryd.prog 36 [.ptr J 0 0] [(J,bS z s)] id (eO o) [(J,some (bS z u))]:=ho
  have hex:(l++[o]).map eO=l.map eO++[eO o]:=by simp
  obtain⟨ok,on,ot,oks,ols,hoe⟩:=eO_agg o
  rw[hoe] at ho hex
  rw[bS_eq,bS_eq] at ho
  rw[bS_eq,kB_eq,pB_eq,lB_eq]
  refine fn_okE Tryd.func69 hcc69 (by decide) hcr69 (by simp[Tryd.ntmps69]) fun E hP hR hPn hl hid hB hu=>?_
  simp only[cr69] at hR
  refine w_go 4000 ?_
  simp[cc69]
  have hJ:=hl (J,_) (List.mem_cons_self ..)
  simp only at hJ
  have J1:=lf hJ
  have hV:=hl (V,_) (List.mem_cons_of_mem _ (List.mem_cons_self ..))
  simp only at hV
  have V1:=lf hV
  have hK:=hl (K,_) (List.mem_cons_of_mem _ (List.mem_cons_of_mem _ (List.mem_cons_self ..)))
  simp only at hK
  have K1:=lf hK
  have hM:=hl (M,_) (List.mem_cons_of_mem _ (List.mem_cons_of_mem _ (List.mem_cons_of_mem _ (List.mem_cons_self ..))))
  simp only at hM
  have M1:=lf hM
  simp[J1,V1,K1,M1,d]
  (refine w_call hP rfl (ho _) (by simp[J1,V1,K1,M1,d]) (by simp[J1,V1,K1,M1,d]<;>rfl) ?_; refine w_go 4000 ?_; simp[J1,V1,K1,M1,d])
  refine⟨⟨by omega,by omega⟩,by omega,?_⟩
  have hrn:rnOk [(id,E.n0+6144)]:=by simp[bS,kB,pB,lB,hoe,J1,V1,K1,M1,d,idO hid]
  refine hR _ _ _ (rfl) ?_
  refine rt_end (by simp[bS,kB,pB,lB,hoe,J1,V1,K1,M1,d,idO hid]<;>rfl) [(id,E.n0+6144)] hrn ⟨?_,?_,?_,?_,?_,?_⟩<;>(try simp[bS,kB,pB,lB,hoe,J1,V1,K1,M1,d,idO hid])
  exact renL_pure rfl (pureL_append (pure_outs _) (by simp[pure_strs,pure_outs]))
end Go.Am
namespace Go.Am
set_option linter.all false
open Go Go.RowKit Go.Proofs
set_option maxRecDepth 100000
set_option linter.all false
def pPart(n:Nat)(s:List UInt8):Option (List UInt8×Out×List UInt8):=match pText s with
 | none=>none
 | some (k,u)=>if cutB u [58]=true then match pOut n (u.drop 1) with
   | none=>none
   | some (o,v)=>some (k,o,v)
  else none
def do2R(J V K N M id:Nat)(z:List UInt8)(ks:List (List UInt8))(l:List Out):Option (List UInt8×Out×List UInt8)→Except AV (AV×List (Nat×Option Bx))
 | none=>.error wv
 | some (k,o,u)=>.ok (.tup [],[(J,some (bS z u)),(K,some (kB 5 (.bsl id 0 (ks.length+1)) (.bsl (id+1) 0 (l.length+1)))),(N,none),(M,none),(id,some (sB (ks++[k]))),(id+1,some (lB (l++[o])))])
theorem apart5{a b c d e:Nat}(h:[a,b,c,d,e].Nodup):((a=b)=False∧(b=a)=False)∧((a=c)=False∧(c=a)=False)∧((a=d)=False∧(d=a)=False)∧((a=e)=False∧(e=a)=False)∧((b=c)=False∧(c=b)=False)∧((b=d)=False∧(d=b)=False)∧((b=e)=False∧(e=b)=False)∧((c=d)=False∧(d=c)=False)∧((c=e)=False∧(e=c)=False)∧(d=e)=False∧(e=d)=False:=by
 simp at h
 obtain⟨⟨h1,h2,h3,h4⟩,⟨h5,h6,h7⟩,⟨h8,h9⟩,h10⟩:=h
 exact⟨⟨eq_false h1,eq_false (Ne.symm h1)⟩,⟨eq_false h2,eq_false (Ne.symm h2)⟩,⟨eq_false h3,eq_false (Ne.symm h3)⟩,⟨eq_false h4,eq_false (Ne.symm h4)⟩,⟨eq_false h5,eq_false (Ne.symm h5)⟩,⟨eq_false h6,eq_false (Ne.symm h6)⟩,⟨eq_false h7,eq_false (Ne.symm h7)⟩,⟨eq_false h8,eq_false (Ne.symm h8)⟩,⟨eq_false h9,eq_false (Ne.symm h9)⟩,eq_false h10,eq_false (Ne.symm h10)⟩
theorem ne1{x id:Nat}(h:x<id∨id+1024≤x):(x=id+1)=False∧(id+1=x)=False:=⟨eq_false (by omega),eq_false (by omega)⟩
theorem ne1o{id n0:Nat}(h:id+1024≤n0):id+1<n0∧(∀t:Nat,(id+1=n0+t)=False)∧(∀t:Nat,(n0+t=id+1)=False)∧(id+1=n0)=False∧(n0=id+1)=False:=⟨by omega,fun t=>eq_false (by omega),fun t=>eq_false (by omega),eq_false (by omega),eq_false (by omega)⟩
set_option maxHeartbeats 8000000 in
theorem do2_ok{n:Nat}(hO:OutIs n)(z s:List UInt8)(ks:List (List UInt8))(l:List Out)(J V K N M id:Nat)(hd:[J,V,K,N,M].Nodup)(hn:2*s.length+1≤n)(h8:s.length≤1099511627776)(hk8:ks.length≤1099511627776)(hl8:l.length≤1099511627776):
  FnE Tryd.prog 70 [.ptr K 0 0,.ptr V 0 0] [(J,bS z s),(V,pB J),(K,kB 5 (.bsl N 0 ks.length) (.bsl M 0 l.length)),(N,sB ks),(M,lB l)] id (do2R J V K N M id z ks l (pPart n s)):=by
 have ht:=fun id=>text_ok z s J id h8
 have d:=apart5 hd
 cases hp:pText s with
 | none =>
  have e:pPart n s=none:=by unfold pPart; rw[hp]
  rw[hp] at ht
  change ∀id,FnE _ _ _ _ _ (.error wv) at ht
  rw[e]
  show FnE _ _ _ _ _ (.error wv)
  rw[bS_eq] at *
  rw[kB_eq,pB_eq,lB_eq,sB_eq]
  refine fn_okE Tryd.func70 hcc70 (by decide) hcr70 (by simp[Tryd.ntmps70]) fun E hP hR hPn hl hid hB hu=>?_
  simp only[cr70] at hR
  refine w_go 4000 ?_
  simp[cc70]
  have hJ:=hl (J,_) (List.mem_cons_self ..)
  simp only at hJ
  have J1:=lf hJ
  have hV:=hl (V,_) (List.mem_cons_of_mem _ (List.mem_cons_self ..))
  simp only at hV
  have V1:=lf hV
  have hK:=hl (K,_) (List.mem_cons_of_mem _ (List.mem_cons_of_mem _ (List.mem_cons_self ..)))
  simp only at hK
  have K1:=lf hK
  have hN:=hl (N,_) (List.mem_cons_of_mem _ (List.mem_cons_of_mem _ (List.mem_cons_of_mem _ (List.mem_cons_self ..))))
  simp only at hN
  have N1:=lf hN
  have hM:=hl (M,_) (List.mem_cons_of_mem _ (List.mem_cons_of_mem _ (List.mem_cons_of_mem _ (List.mem_cons_of_mem _ (List.mem_cons_self ..)))))
  simp only at hM
  have M1:=lf hM
  simp[J1,V1,K1,N1,M1,d]
  refine w_callE hP rfl (ht _) (by simp[J1,V1,K1,N1,M1,d]) (by simp[J1,V1,K1,N1,M1,d]<;>rfl) (fun pv hpv=>⟨by simp[J1,V1,K1,N1,M1,d],by injection hpv with hpv; subst hpv; exact hPn _ _ (rfl) rfl (by simp[J1,V1,K1,N1,M1,d])⟩) (fun v wr h=>by cases h)
 | some p =>
  obtain⟨k,u⟩:=p
  have hlt:=pText_lt hp
  rw[hp] at ht
  have ht:∀id,FnOk Tryd.prog 67 [.ptr J 0 0] [(J,bS z s)] id (.str k) [(J,some (bS z u))]:=ht
  have hkx:(ks++[k]).map AV.str=ks.map AV.str++[.str k]:=by simp
  have hnd:=fun id=>need_ok z u [58] J id
  by_cases g:cutB u [58]=true
  rotate_left
  ·have e:pPart n s=none:=by unfold pPart; rw[hp]; simp only; rw[if_neg g]
   have e1:pNeed u [58]=none:=by unfold pNeed; rw[if_neg g]
   rw[e1] at hnd
   change ∀id,FnE _ _ _ _ _ (.error wv) at hnd
   rw[e]
   show FnE _ _ _ _ _ (.error wv)
   rw[bS_eq] at *
   rw[bS_eq] at *
   rw[kB_eq,pB_eq,lB_eq,sB_eq]
   refine fn_okE Tryd.func70 hcc70 (by decide) hcr70 (by simp[Tryd.ntmps70]) fun E hP hR hPn hl hid hB hu=>?_
   simp only[cr70] at hR
   refine w_go 4000 ?_
   simp[cc70]
   have hJ:=hl (J,_) (List.mem_cons_self ..)
   simp only at hJ
   have J1:=lf hJ
   have hV:=hl (V,_) (List.mem_cons_of_mem _ (List.mem_cons_self ..))
   simp only at hV
   have V1:=lf hV
   have hK:=hl (K,_) (List.mem_cons_of_mem _ (List.mem_cons_of_mem _ (List.mem_cons_self ..)))
   simp only at hK
   have K1:=lf hK
   have hN:=hl (N,_) (List.mem_cons_of_mem _ (List.mem_cons_of_mem _ (List.mem_cons_of_mem _ (List.mem_cons_self ..))))
   simp only at hN
   have N1:=lf hN
   have hM:=hl (M,_) (List.mem_cons_of_mem _ (List.mem_cons_of_mem _ (List.mem_cons_of_mem _ (List.mem_cons_of_mem _ (List.mem_cons_self ..)))))
   simp only at hM
   have M1:=lf hM
   simp[J1,V1,K1,N1,M1,d]
   (refine w_call hP rfl (ht _) (by simp[J1,V1,K1,N1,M1,d]) (by simp[J1,V1,K1,N1,M1,d]<;>rfl) ?_; refine w_go 4000 ?_; simp[J1,V1,K1,N1,M1,d])
   refine⟨⟨by omega,by omega⟩,?_⟩
   refine w_callE hP rfl (hnd _) (by simp[J1,V1,K1,N1,M1,d]) (by simp[J1,V1,K1,N1,M1,d]<;>rfl) (fun pv hpv=>⟨by simp[J1,V1,K1,N1,M1,d],by injection hpv with hpv; subst hpv; exact hPn _ _ (rfl) rfl (by simp[J1,V1,K1,N1,M1,d])⟩) (fun v wr h=>by cases h)
  have e1:pNeed u [58]=some (.tup [],u.drop 1):=by unfold pNeed; rw[if_pos g]; rfl
  have hnd1:∀id,FnOk Tryd.prog 71 [.ptr J 0 0,.str [58]] [(J,bS z u)] id (.tup []) [(J,some (bS z (u.drop 1)))]:=fun id=>by
   have:=hnd id
   rw[e1] at this; exact this
  have hul:(u.drop 1).length+1≤s.length:=by rw[List.length_drop]; omega
  have e0:pPart n s=match pOut n (u.drop 1) with
   | none=>none
   | some (o,v)=>some (k,o,v):=by unfold pPart; rw[hp]; simp only; rw[if_pos g]
  generalize u.drop 1=t at *
  have ho:=fun id=>hO z t J id (by omega) (by omega)
  cases hq:pOut n t with
  | none =>
   rw[hq] at e0 ho
   change ∀id,FnE _ _ _ _ _ (.error wv) at ho
   have e:pPart n s=none:=e0
   rw[e]
   show FnE _ _ _ _ _ (.error wv)
   rw[bS_eq] at ht hnd1 ho
   rw[bS_eq] at ht hnd1
   rw[bS_eq,kB_eq,pB_eq,lB_eq,sB_eq]
   refine fn_okE Tryd.func70 hcc70 (by decide) hcr70 (by simp[Tryd.ntmps70]) fun E hP hR hPn hl hid hB hu=>?_
   simp only[cr70] at hR
   refine w_go 4000 ?_
   simp[cc70]
   have hJ:=hl (J,_) (List.mem_cons_self ..)
   simp only at hJ
   have J1:=lf hJ
   have hV:=hl (V,_) (List.mem_cons_of_mem _ (List.mem_cons_self ..))
   simp only at hV
   have V1:=lf hV
   have hK:=hl (K,_) (List.mem_cons_of_mem _ (List.mem_cons_of_mem _ (List.mem_cons_self ..)))
   simp only at hK
   have K1:=lf hK
   have hN:=hl (N,_) (List.mem_cons_of_mem _ (List.mem_cons_of_mem _ (List.mem_cons_of_mem _ (List.mem_cons_self ..))))
   simp only at hN
   have N1:=lf hN
   have hM:=hl (M,_) (List.mem_cons_of_mem _ (List.mem_cons_of_mem _ (List.mem_cons_of_mem _ (List.mem_cons_of_mem _ (List.mem_cons_self ..)))))
   simp only at hM
   have M1:=lf hM
   simp[J1,V1,K1,N1,M1,d]
   (refine w_call hP rfl (ht _) (by simp[J1,V1,K1,N1,M1,d]) (by simp[J1,V1,K1,N1,M1,d]<;>rfl) ?_; refine w_go 4000 ?_; simp[J1,V1,K1,N1,M1,d])
   refine⟨⟨by omega,by omega⟩,?_⟩
   refine w_call hP rfl (hnd1 _) (by simp[J1,V1,K1,N1,M1,d]) (by simp[J1,V1,K1,N1,M1,d]<;>rfl) ?_
   refine w_go 1 ?_
   simp[J1,V1,K1,N1,M1,d]
   refine w_regS [_,_,_] [_,_] _ _ (rs1:=[⟨true,.ptr K 0 4,[(K,kB 5 (.bsl (E.n0+5120) 0 (ks.length+1)) (.bsl M 0 l.length))],[]⟩,⟨true,.bsl M 0 l.length,[(K,kB 5 (.bsl (E.n0+5120) 0 (ks.length+1)) (.bsl M 0 l.length))],[]⟩,⟨true,.ptr J 0 0,[(V,pB J)],[]⟩])
    (r:=⟨true,.nili,[(J,bS z t)],goL [(J,bS z t)]⟩) (rs2:=[⟨true,.int .i64 l.length,[(M,lB l)],[]⟩,⟨true,.bsl (E.n0+15360) 0 1,[],[(E.n0+15360,some ⟨[zO],zO,false,false⟩)]⟩]) (pv:=wv) ?_ ?_ ?_ ?_ ?_
   ·simp only[ARuns,St.app,putF,addW,bS_eq,kB_eq,pB_eq,lB_eq,sB_eq]
    refine⟨ar_sem (by simp) (by simp[J1,V1,K1,N1,M1,d]),ar_sem (by simp) (by simp[J1,V1,K1,N1,M1,d]),ar_sem (by simp) (by simp[J1,V1,K1,N1,M1,d]),trivial⟩
   ·simp[St.apps,St.app,bS_eq,kB_eq,pB_eq,lB_eq,sB_eq]
    refine ar_call (by simp) (by simp<;>rfl) (by rw[hP]; exact ho _) (by simp[J1,V1,K1,N1,M1,d])
   ·simp[ARuns,St.apps,St.app,bS_eq,kB_eq,pB_eq,lB_eq,sB_eq]
    refine⟨ar_sem (by simp) (by simp[J1,V1,K1,N1,M1,d]),ar_sem (by simp) (by simp[zO,J1,V1,K1,N1,M1,d])⟩
   ·simp only[dynS,List.map,List.append,getR,List.take,List.length,List.drop,List.cons_append,List.nil_append]
    simp[apartR,J1,V1,K1,N1,M1,d]
   ·refine hPn _ _ rfl rfl ?_
    simp[St.apps,St.app,bS_eq,kB_eq,pB_eq,lB_eq,sB_eq,J1,V1,K1,N1,M1,d]
  | some p =>
   obtain⟨o,v⟩:=p
   rw[hq] at e0 ho
   have e:pPart n s=some (k,o,v):=e0
   have ho:∀id,FnOk Tryd.prog 36 [.ptr J 0 0] [(J,bS z t)] id (eO o) [(J,some (bS z v))]:=ho
   have hex:(l++[o]).map eO=l.map eO++[eO o]:=by simp
   obtain⟨ok,on,ot,oks,ols,hoe⟩:=eO_agg o
   rw[hoe] at ho hex
   rw[e]
   rw[bS_eq,bS_eq] at ht hnd1 ho
   rw[bS_eq,kB_eq,pB_eq,lB_eq,sB_eq]
   refine fn_okE Tryd.func70 hcc70 (by decide) hcr70 (by simp[Tryd.ntmps70]) fun E hP hR hPn hl hid hB hu=>?_
   simp only[cr70] at hR
   refine w_go 4000 ?_
   simp[cc70]
   have hJ:=hl (J,_) (List.mem_cons_self ..)
   simp only at hJ
   have J1:=lf hJ
   have hV:=hl (V,_) (List.mem_cons_of_mem _ (List.mem_cons_self ..))
   simp only at hV
   have V1:=lf hV
   have hK:=hl (K,_) (List.mem_cons_of_mem _ (List.mem_cons_of_mem _ (List.mem_cons_self ..)))
   simp only at hK
   have K1:=lf hK
   have hN:=hl (N,_) (List.mem_cons_of_mem _ (List.mem_cons_of_mem _ (List.mem_cons_of_mem _ (List.mem_cons_self ..))))
   simp only at hN
   have N1:=lf hN
   have hM:=hl (M,_) (List.mem_cons_of_mem _ (List.mem_cons_of_mem _ (List.mem_cons_of_mem _ (List.mem_cons_of_mem _ (List.mem_cons_self ..)))))
   simp only at hM
   have M1:=lf hM
   simp[J1,V1,K1,N1,M1,d]
   (refine w_call hP rfl (ht _) (by simp[J1,V1,K1,N1,M1,d]) (by simp[J1,V1,K1,N1,M1,d]<;>rfl) ?_; refine w_go 4000 ?_; simp[J1,V1,K1,N1,M1,d])
   refine⟨⟨by omega,by omega⟩,?_⟩
   (refine w_call hP rfl (hnd1 _) (by simp[J1,V1,K1,N1,M1,d]) (by simp[J1,V1,K1,N1,M1,d]<;>rfl) ?_; refine w_go 4000 ?_; simp[J1,V1,K1,N1,M1,d])
   (refine w_call hP rfl (ho _) (by simp[J1,V1,K1,N1,M1,d]) (by simp[J1,V1,K1,N1,M1,d]<;>rfl) ?_; refine w_go 4000 ?_; simp[J1,V1,K1,N1,M1,d])
   refine⟨⟨by omega,by omega⟩,by omega,?_⟩
   have hrn:rnOk [(id,E.n0+5120),(id+1,E.n0+16384)]:=by simp[bS,kB,pB,lB,sB,hoe,J1,V1,K1,N1,M1,d,ne1 hJ.2,ne1 hV.2,ne1 hK.2,ne1 hN.2,ne1 hM.2,ne1o hid,idO hid]
   refine hR _ _ _ (rfl) ?_
   refine rt_end (by simp[bS,kB,pB,lB,sB,hoe,J1,V1,K1,N1,M1,d,ne1 hJ.2,ne1 hV.2,ne1 hK.2,ne1 hN.2,ne1 hM.2,ne1o hid,idO hid]<;>rfl) [(id,E.n0+5120),(id+1,E.n0+16384)] hrn ⟨?_,?_,?_,?_,?_,?_⟩<;>(try simp[bS,kB,pB,lB,sB,hoe,J1,V1,K1,N1,M1,d,ne1 hJ.2,ne1 hV.2,ne1 hK.2,ne1 hN.2,ne1 hM.2,ne1o hid,idO hid])
   all_goals trace_state
   all_goals exact⟨renL_pure rfl (pureL_append (pure_strs _) (by simp)),renL_pure rfl (pureL_append (pure_outs _) (by simp[pure_strs,pure_outs]))⟩
end Go.Am
