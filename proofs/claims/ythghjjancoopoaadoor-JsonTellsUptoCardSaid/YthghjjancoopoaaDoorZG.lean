/- The document's reading of outs: what stands at a place. No condition. -/
import Derived.Test.YthghjjancoopoaaDoorZF
namespace Go.Am
set_option linter.all false
open Go Go.RowKit Go.Proofs
set_option maxRecDepth 100000
set_option linter.all false
def AtIs(n:Nat):Prop:=∀(s:List UInt8) (a id:Nat),a≤s.length→2*(s.length - a)+1≤n→s.length≤1099511627000→FnOk Tryd.prog 24 [.str s,.int .i64 a] [] id (.tup [eO (jA n (s.drop a)).1,.int .i64 (toI s (jA n (s.drop a)).2)]) []
theorem at_is{n:Nat}{s:List UInt8}{a id:Nat}{o:Out}{u:Option (List UInt8)}{v:AV}{i:Int}(hj:jA n (s.drop a)=(o,u))(hv:v.nrm=eO o)(hi:toI s u=i)(h:FnOk Tryd.prog 24 [.str s,.int .i64 a] [] id (.tup [v,.int .i64 i]) []):
  FnOk Tryd.prog 24 [.str s,.int .i64 a] [] id (.tup [eO (jA n (s.drop a)).1,.int .i64 (toI s (jA n (s.drop a)).2)]) []:=by
 rw[hj]
 show FnOk _ _ _ _ _ (.tup [eO o,.int .i64 (toI s u)]) []
 rw[hi,←hv]
 exact FnOk.nrm h
theorem jA_null{n:Nat}{r:List UInt8}(h:cutB r [110,117,108,108]=true):jA (n+1) r=(oNone,some (r.drop 4)):=by simp only[jA]; rw[if_pos h]
theorem jA_text{n:Nat}{r:List UInt8}(h1:cutB r [110,117,108,108]=false)(h2:cutB r [34]=true):jA (n+1) r=(oText (txT r),txU r):=by simp only[jA]; rw[h1,if_neg (by simp),if_pos h2]
theorem jA_list{n:Nat}{r:List UInt8}(h1:cutB r [110,117,108,108]=false)(h2:cutB r [34]=false)(h3:cutB r [91]=true):jA (n+1) r=(oList (jLs n true [] (r.drop 1)).1,(jLs n true [] (r.drop 1)).2):=by simp only[jA]; rw[h1,h2,if_neg (by simp),if_neg (by simp),if_pos h3]
theorem jA_map{n:Nat}{r:List UInt8}(h1:cutB r [110,117,108,108]=false)(h2:cutB r [34]=false)(h3:cutB r [91]=false)(h4:cutB r [123]=true):jA (n+1) r=(oMap (jPr n true [] [] (r.drop 1)).1 (jPr n true [] [] (r.drop 1)).2.1,(jPr n true [] [] (r.drop 1)).2.2):=by simp only[jA]; rw[h1,h2,h3,if_neg (by simp),if_neg (by simp),if_neg (by simp),if_pos h4]
theorem jA_num{n:Nat}{r:List UInt8}(h1:cutB r [110,117,108,108]=false)(h2:cutB r [34]=false)(h3:cutB r [91]=false)(h4:cutB r [123]=false):jA (n+1) r=numA r:=by simp only[jA]; rw[h1,h2,h3,h4,if_neg (by simp),if_neg (by simp),if_neg (by simp),if_neg (by simp)]
theorem cut_le{s w:List UInt8}{a:Nat}(ha:a≤s.length)(h:cutB (s.drop a) w=true):a+w.length≤s.length:=by
 have:=((cutB_iff _ _).1 h).1
 rw[List.length_drop] at this; omega
theorem toI_at{s:List UInt8}{a k:Nat}(h:a+k≤s.length):toI s (some ((s.drop a).drop k))=((a+k:Nat):Int):=by
 show (s.length:Int) - (((s.drop a).drop k).length:Int)=_
 rw[List.drop_drop,List.length_drop]; omega
set_option maxHeartbeats 16000000 in
theorem at_plain{n:Nat}(s:List UInt8)(a id:Nat)(ha:a≤s.length)(h8:s.length≤1099511627000)(g3:cutB (s.drop a) [91]=false)(g4:cutB (s.drop a) [123]=false):
  FnOk Tryd.prog 24 [.str s,.int .i64 a] [] id (.tup [eO (jA (n+1) (s.drop a)).1,.int .i64 (toI s (jA (n+1) (s.drop a)).2)]) []:=by
 have hS:=fun (w:List UInt8) id (hw:w.length≤1099511627776)=>starts_ok s w a id ha (by omega) hw
 have h1:=fun id=>hS [110,117,108,108] id (by simp)
 have h2:=fun id=>hS [34] id (by simp)
 have h3:=fun id=>hS [91] id (by simp)
 have h4:=fun id=>hS [123] id (by simp)
 rw[g3] at h3
 rw[g4] at h4
 by_cases g1:cutB (s.drop a) [110,117,108,108]=true
 ·have hl:=cut_le ha g1
  have a4:IntKind.i64.wrap ((a:Int)+4)=((a+4:Nat):Int):=wrap64 (by simp at hl; omega)
  refine at_is (v:=.agg [.int .i64 1,.int .i64 0,.str [],.nils,.nils]) (jA_null g1) rfl (toI_at hl) ?_
  rw[g1] at h1
  refine fn_okc Tryd.func24 hcc24 (by decide) hcr24 (by simp[Tryd.ntmps24]) fun E hP hR hl hid=>?_
  simp only[cr24] at hR
  refine w_go 4000 ?_
  simp[cc24]
  (refine w_call hP rfl (h1 _) (by simp[a4]) (by simp[a4]<;>rfl) ?_; refine w_go 4000 ?_; simp[a4])
  rw[hR]; exact rt_end (by simp<;>rfl) [] trivial (end_pure (by simp) (by simp) (by simp))
 have g1:cutB (s.drop a) [110,117,108,108]=false:=by simpa using g1
 rw[g1] at h1
 by_cases g2:cutB (s.drop a) [34]=true
 ·rw[g2] at h2
  have hT:=fun id=>textAt_ok s a id ha h8
  refine at_is (v:=.agg [.int .i64 3,.int .i64 0,.str (txT (s.drop a)),.nils,.nils]) (jA_text g1 g2) rfl rfl ?_
  refine fn_okc Tryd.func24 hcc24 (by decide) hcr24 (by simp[Tryd.ntmps24]) fun E hP hR hl hid=>?_
  simp only[cr24] at hR
  refine w_go 4000 ?_
  simp[cc24]
  (refine w_call hP rfl (h1 _) (by simp) (by simp<;>rfl) ?_; refine w_go 4000 ?_; simp)
  (refine w_call hP rfl (h2 _) (by simp) (by simp<;>rfl) ?_; refine w_go 4000 ?_; simp)
  (refine w_call hP rfl (hT _) (by simp) (by simp<;>rfl) ?_; refine w_go 4000 ?_; simp)
  rw[hR]; exact rt_end (by simp<;>rfl) [] trivial (end_pure (by simp) (by simp) (by simp))
 have g2:cutB (s.drop a) [34]=false:=by simpa using g2
 rw[g2] at h2
 have hj:=jA_num (n:=n) g1 g2 g3 g4
 have hk0:=tw_len (s.drop a)
 rw[List.length_drop] at hk0
 have hz:∀i:Int,(AV.tup [.agg [.int .i64 0,.int .i64 0,.str [],.nils,.nils],.int .i64 i]).nrm = .tup [eO oZ,.int .i64 i]:=fun i=>rfl
 obtain⟨v,i0,hv,hres⟩:∃(v:AV) (i0:Int),v.nrm=eO (numA (s.drop a)).1∧(intOf ((s.drop a).takeWhile numB)=none→v = .agg [.int .i64 0,.int .i64 0,.str [],.nils,.nils]∧i0 = -1)∧(∀j,intOf ((s.drop a).takeWhile numB)=some j→v = .agg [.int .i64 2,.int .i64 j,.str [],.nils,.nils]∧i0=((a+((s.drop a).takeWhile numB).length:Nat):Int))∧toI s (numA (s.drop a)).2=i0:=by
  unfold numA
  cases intOf ((s.drop a).takeWhile numB) with
  | none=>exact⟨_,_,rfl,fun _=>⟨rfl,rfl⟩,(fun j h=>by cases h),rfl⟩
  | some j=>exact⟨_,_,rfl,(fun h=>by cases h),(fun j' h=>by injection h with h; subst h; exact⟨rfl,rfl⟩),toI_at (by omega)⟩
 refine at_is (v:=v) (i:=i0) hj hv hres.2.2 ?_
 have hD:=fun (c:UInt8) id=>isDigit_ok c id
 refine fn_okc Tryd.func24 hcc24 (by decide) hcr24 (by simp[Tryd.ntmps24]) fun E hP hR hl hid=>?_
 simp only[cr24] at hR
 refine w_go 4000 ?_
 simp[cc24]
 (refine w_call hP rfl (h1 _) (by simp) (by simp<;>rfl) ?_; refine w_go 4000 ?_; simp)
 (refine w_call hP rfl (h2 _) (by simp) (by simp<;>rfl) ?_; refine w_go 4000 ?_; simp)
 (refine w_call hP rfl (h3 _) (by simp) (by simp<;>rfl) ?_; refine w_go 4000 ?_; simp)
 (refine w_call hP rfl (h4 _) (by simp) (by simp<;>rfl) ?_; refine w_go 4000 ?_; simp)
 refine w_loop (X:=Nat) (fun b=>⟨[(0,true,.str s),(1,true,.int .i64 a),(4,true,.ptr E.n0 0 0),(15,true,.int .i64 b)],[(E.n0,some ⟨[.agg [.int .i64 0,.int .i64 0,.str [],.nils,.nils]],.agg [.int .i64 0,.int .i64 0,.str [],.nils,.nils],false,false⟩)],1⟩)
  (fun b=>a≤b∧b≤s.length∧∀c∈(s.drop a).take (b - a),numB c=true) (fun b=>s.length - b) a ?_ ⟨by omega,by omega,by simp⟩ ?_
 ·have hrn:rnOk [(E.n0,E.n0)]:=by simp
  refine Conv.sub [(E.n0,E.n0)] hrn ?_ ?_ ?_ ?_ ?_<;>(try simp)
 rintro b ⟨hab,hb,hall⟩ p hp
 have hrk:∀c,(s.drop a)[b - a]?=some c↔s[b]?=some c:=fun c=>by rw[List.getElem?_drop,show a+(b - a)=b by omega]
 have htake:(s.take b).drop a=(s.drop a).take (b - a):=by rw[List.take_drop,show a+(b - a)=b by omega]
 have hI:=fun id=>intOf_ok ((s.drop a).take (b - a)) id (by simp; omega)
 rcases Nat.lt_or_ge b s.length with h|h
 ·obtain⟨c,hc,hd⟩:=drop_cons h
  have hb1:IntKind.i64.wrap ((b:Int)+1)=((b+1:Nat):Int):=wrap64 (by omega)
  have hci:s[b]=c:=by
   rw[List.getElem?_eq_getElem h] at hc
   injection hc
  have hDc:=hD c
  have hnb:(dgB c||(c.toNat:Int)==45)=numB c:=by
   unfold numB
   congr 1
   rw[Bool.eq_iff_iff,beq_iff_eq,beq_iff_eq,←UInt8.toNat_inj]
   show (c.toNat:Int)=45↔c.toNat=45
   omega
  refine w_go 4000 ?_
  simp[h,hci,hc]
  (refine w_callg hP (by simp[hc]) rfl (fun hc=>⟨hDc _,by revert hc; simp[hc]; try grind,by simp[hc]⟩) ?_; refine w_go 4000 ?_; simp[hc])
  refine⟨fun q=>⟨q,h⟩,?_⟩
  by_cases hx:numB c=true
  ·refine goc_true (by rw[hnb]; exact hx) ?_
   simp
   refine hp _ (b+1) ⟨by omega,by omega,fun x hx2=>?_⟩ (by omega) ?_
   ·rw[show b+1 - a=b - a+1 by omega,take_snoc ((hrk c).2 hc)] at hx2
    rcases List.mem_append.1 hx2 with hx2|hx2
    ·exact hall x hx2
    ·obtain rfl:=List.mem_singleton.1 hx2; exact hx
   ·have hrn:rnOk [(E.n0,E.n0)]:=by simp[hb1]
    refine Conv.sub [(E.n0,E.n0)] hrn ?_ ?_ ?_ ?_ ?_<;>(try simp[hb1])
  have hx:numB c=false:=by simpa using hx
  have hst:=tw_stop (s:=s.drop a) (i:=b - a) (by rw[List.length_drop]; omega) hall fun d hd=>by rw[hrk,hc] at hd; injection hd with hd; rw[←hd]; exact hx
  refine goc_false (by rw[hnb]; exact hx) ?_
  simp
  refine⟨⟨hb,hab⟩,?_⟩
  rw[htake]
  rw[hst] at hres
  have hlen:((s.drop a).take (b - a)).length=b - a:=by rw[List.length_take,List.length_drop]; omega
  rw[hlen,show a+(b - a)=b by omega] at hres
  generalize (s.drop a).take (b - a)=d at *
  cases hio:intOf d with
  | none =>
   obtain⟨hv1,hi1⟩:=hres.1 hio
   rw[hio] at hI
   simp only[intN,Option.getD_none,Option.isSome_none] at hI
   subst hv1 hi1
   (refine w_call hP rfl (hI _) (by simp) (by simp<;>rfl) ?_; refine w_go 4000 ?_; simp)
   rw[hR]; exact rt_end (by simp<;>rfl) [] trivial (end_pure (by simp) (by simp) (by simp))
  | some j =>
   obtain⟨hv1,hi1⟩:=hres.2.1 j hio
   rw[hio] at hI
   simp only[intN,Option.getD_some,Option.isSome_some] at hI
   subst hv1 hi1
   (refine w_call hP rfl (hI _) (by simp) (by simp<;>rfl) ?_; refine w_go 4000 ?_; simp)
   rw[hR]; exact rt_end (by simp<;>rfl) [] trivial (end_pure (by simp) (by simp) (by simp))
 ·have hst:=tw_stop (s:=s.drop a) (i:=b - a) (by rw[List.length_drop]; omega) hall fun d hd=>by rw[hrk,List.getElem?_eq_none (by omega)] at hd; cases hd
  refine w_go 4000 ?_
  simp[Nat.not_lt.2 h]
  (refine w_callg hP (by simp[Nat.not_lt.2 h]) rfl (fun hc=>⟨hD 0 _,by revert hc; simp[Nat.not_lt.2 h]; try grind,by simp[Nat.not_lt.2 h]⟩) ?_; refine w_go 4000 ?_; simp[Nat.not_lt.2 h])
  refine⟨⟨hb,hab⟩,?_⟩
  rw[htake]
  rw[hst] at hres
  have hlen:((s.drop a).take (b - a)).length=b - a:=by rw[List.length_take,List.length_drop]; omega
  rw[hlen,show a+(b - a)=b by omega] at hres
  generalize (s.drop a).take (b - a)=d at *
  cases hio:intOf d with
  | none =>
   obtain⟨hv1,hi1⟩:=hres.1 hio
   rw[hio] at hI
   simp only[intN,Option.getD_none,Option.isSome_none] at hI
   subst hv1 hi1
   (refine w_call hP rfl (hI _) (by simp) (by simp<;>rfl) ?_; refine w_go 4000 ?_; simp)
   rw[hR]; exact rt_end (by simp<;>rfl) [] trivial (end_pure (by simp) (by simp) (by simp))
  | some j =>
   obtain⟨hv1,hi1⟩:=hres.2.1 j hio
   rw[hio] at hI
   simp only[intN,Option.getD_some,Option.isSome_some] at hI
   subst hv1 hi1
   (refine w_call hP rfl (hI _) (by simp) (by simp<;>rfl) ?_; refine w_go 4000 ?_; simp)
   rw[hR]; exact rt_end (by simp<;>rfl) [] trivial (end_pure (by simp) (by simp) (by simp))
end Go.Am
