/- Parts of the proof: an abstract machine for Go functions, and what functions of the program give back (St5, St6). No condition. -/
import Derived.Test.YtgfmjhmjnnpcgaaGreatDoorYR
namespace Go.Am
set_option linter.all false
open Go Go.RowKit Go.Proofs
set_option maxRecDepth 100000
set_option linter.all false
def oS(E:Env)(l:List Tk)(b:Bool)(a:Nat)(T:List Ty):St :=
 ⟨[(4,true,.sl (l.map eTk)),(6,true,.bsl E.n0 0 T.length),(7,true,.int .i64 a),(8,true,.bool b)],[(E.n0,some (tyB T))],1⟩
def oF(E:Env)(l:List Tk)(T:List Ty)(nm:List UInt8)(b:Bool)(a:Nat)(acc:List Fd):St :=
 ⟨[(4,true,.sl (l.map eTk)),(6,true,.bsl E.n0 0 T.length),(7,true,.int .i64 a),(9,true,.ptr (E.n0+1) 0 0),(10,true,.bool b)],[(E.n0,some (tyB T)),(E.n0+1,some (yK nm (.bsl (E.n0+2) 0 acc.length))),(E.n0+2,some (fB acc))],3⟩
set_option maxHeartbeats 16000000 in
theorem rSchOf_ok(s:List UInt8)(id:Nat)(hT:∀id,FnOk Tryz.prog 17 [.str s] [] id (lexV (fLex s)) []):FnOk Tryz.prog 25 [.str s] [] id (schV (fSchema s)) []:=by
 unfold fSchema
 cases hx:fLex s with
 | error e =>
  have hne:=fLex_ne hx
  rw[hx] at hT
  have hT:∀id,FnOk Tryz.prog 17 [.str s] [] id (.tup [.nils,.int .i64 e]) []:=hT
  show FnOk _ _ _ _ _ (.tup [.nils,.int .i64 e]) _
  refine fn_okc Tryz.func25 hcc25 (by decide) hcr25 (by simp[Tryz.ntmps25]) fun E hP hR hl hid=>?_
  simp only[cr25] at hR
  refine w_go 4000 ?_
  simp[cc25]
  (refine w_call hP rfl (hT _) (by simp) (by simp<;>rfl) ?_; refine w_go 4000 ?_; simp)
  refine goc_true (by simpa using hne) ?_
  simp
  rw[hR]; exact rt_end (by simp<;>rfl) [] trivial (end_pure (by simp) (by simp) (by simp))
 | ok l =>
  rw[hx] at hT
  have hT:∀id,FnOk Tryz.prog 17 [.str s] [] id (.tup [.sl (l.map eTk),.int .i64 0]) []:=hT
  have hl:=((fLex_ok s l).1 hx).2.2
  show FnOk _ _ _ _ _ (schV (fSchT (tysOf l))) _
  refine fn_okc Tryz.func25 hcc25 (by decide) hcr25 (by simp[Tryz.ntmps25]) fun E hP hR hl hid=>?_
  simp only[cr25] at hR
  refine w_go 4000 ?_
  simp[cc25]
  (refine w_call hP rfl (hT _) (by simp) (by simp<;>rfl) ?_; refine w_go 4000 ?_; simp)
  refine w_loop (X:=Bool×Nat×List Ty) (fun q=>oS E l q.1 q.2.1 q.2.2) (OOk l) (fun q=>(l.length - q.2.1)+(if q.1=true then 1 else 0)) (true,0,[]) ?_ (OOk.zero l) ?_
  ·refine Conv.trans (Conv.voidSlot 6 (x:=.nils) (by simp) .nils (.agg [.str [],.nils])) ?_
   unfold oS
   have hrn:rnOk [(E.n0,E.n0+14336)]:=by simp[tyB]
   refine Conv.sub [(E.n0,E.n0+14336)] hrn ?_ ?_ ?_ ?_ ?_<;>(try simp[tyB])
  rintro⟨b,a,T⟩ hO p hp
  have ha:=hO.1
  have hTa:=hO.2.1
  simp only at ha hTa
  by_cases hb:b=true∨a<l.length
  rotate_left
  ·obtain rfl:b=false:=by cases b<;>simp at hb ⊢
   have h2:¬a<l.length:=fun h=>hb (.inr h)
   have hty:=hO.lst h2
   rw[hty] at hR
   have hC:=fun id=>CheckSchema_ok T id
   unfold oS
   refine w_conv (Conv.frz 6 (x:=.bsl E.n0 0 T.length) (x':=.sl (T.map eTy)) (fz:=[(E.n0,tyB T)]) (by simp) (by simp[tyB]) (by simp[tyB]) (by simp[tyB])) ?_
   refine w_go 4000 ?_
   simp[h2]
   (refine w_call hP rfl (hC _) (by simp) (by simp<;>rfl) ?_; refine w_go 4000 ?_; simp)
   refine goc (fun g=>?_) (fun g=>?_)<;>simp
   ·have g:fCheckT T≠0:=by simpa using g
    rw[show schV (fSchT (some T)) = .tup [.nils,.int .i64 (fCheckT T)] from by unfold fSchT; simp only; rw[if_neg g]; rfl] at hR
    rw[hR]; exact rt_end (by simp<;>rfl) [] trivial (end_pure (by simp) (by simp) (by simp))
   ·have g:fCheckT T=0:=by simpa using g
    rw[show schV (fSchT (some T)) = .tup [.sl (T.map eTy),.int .i64 0] from by unfold fSchT; simp only; rw[if_pos g]; rfl] at hR
    rw[hR]; exact rt_end (by simp<;>rfl) [] trivial (end_pure (by simp; exact g) (by simp) (by simp))
  have hw1:IntKind.i64.wrap ((a:Int)+1)=(a:Int)+1:=wrap64 (by omega)
  have hw2:IntKind.i64.wrap ((a:Int)+2)=(a:Int)+2:=wrap64 (by omega)
  have hw3:IntKind.i64.wrap ((a:Int)+3)=(a:Int)+3:=wrap64 (by omega)
  rcases Nat.lt_or_ge a l.length with halt|halt
  rotate_left
  ·have q0:isW (l.drop a)=false:=by rw[List.drop_of_length_le halt]; rfl
   have hg:l[a]?=none:=List.getElem?_eq_none_iff.2 halt
   rw[hO.bad hb (by rw[pTy_at,if_neg (by simp[q0])])] at hR
   have hR:E.Rt=RtOk E.n0 id E.G0.used [.tmp 2,.tmp 3] [] (.tup [.nils,.int .i64 1]) []:=hR
   unfold oS
   refine w_go 4000 ?_
   simp
   refine goc_true (by simpa using hb) ?_
   simp
   (refine w_call hP rfl (rWord_is l a q0 _ (by simp)) (by simp[hg,hw1,hw2]) (by simp[hg,hw1,hw2]<;>rfl) ?_; refine w_go 4000 ?_; simp[hg,hw1,hw2])
   (refine w_callg hP (by simp[hw1,hw2]) rfl (fun hc=>⟨rWord_is l (a+1) rfl _ (by simp),by revert hc; simp[hw1,hw2]; try grind,by simp[hw1,hw2]⟩) ?_; refine w_go 4000 ?_; simp[hw1,hw2])
   (refine w_callg hP (by simp[hw1,hw2]) rfl (fun hc=>⟨rTok_is l (a+2) 123 rfl _ (by simp),by revert hc; simp[hw1,hw2]; try grind,by simp[hw1,hw2]⟩) ?_; refine w_go 4000 ?_; simp[hw1,hw2])
   rw[hR]; exact rt_end (by simp<;>rfl) [] trivial (end_pure (by simp) (by simp) (by simp))
  obtain⟨t0,hg0,hl0,ht0⟩:=txt_at halt
  unfold oS
  refine w_go 4000 ?_
  simp
  refine goc_true (by simpa using hb) ?_
  simp
  (refine w_call hP rfl (rWord_is l a rfl _ (by simp)) (by simp[halt,hl0,eTk,hw1,hw2]) (by simp[halt,hl0,eTk,hw1,hw2]<;>rfl) ?_; refine w_go 4000 ?_; simp[halt,hl0,eTk,hw1,hw2])
  (refine w_callg hP (by simp[hw1,hw2]) rfl (fun hc=>⟨rWord_is l (a+1) rfl _ (by simp),by revert hc; simp[hw1,hw2]; try grind,by simp[hw1,hw2]⟩) ?_; refine w_go 4000 ?_; simp[hw1,hw2])
  (refine w_callg hP (by simp[hw1,hw2]) rfl (fun hc=>⟨rTok_is l (a+2) 123 rfl _ (by simp),by revert hc; simp[hw1,hw2]; try grind,by simp[hw1,hw2]⟩) ?_; refine w_go 4000 ?_; simp[hw1,hw2])
  refine goc (fun g=>?_) (fun g=>?_)
  ·simp
   rw[hO.bad hb (by
    rw[pTy_at,if_neg]
    rintro⟨⟨e1,e2⟩,e3,e4⟩
    rw[←ht0] at e2
    simp[e1,e2,e3,e4,tType] at g)] at hR
   have hR:E.Rt=RtOk E.n0 id E.G0.used [.tmp 2,.tmp 3] [] (.tup [.nils,.int .i64 1]) []:=hR
   rw[hR]; exact rt_end (by simp<;>rfl) [] trivial (end_pure (by simp) (by simp) (by simp))
  simp at g
  obtain⟨⟨⟨q0,q1⟩,q2⟩,q3⟩:=g
  have q1:txt (l.drop a)=tType:=by rw[←ht0]; exact q1
  have hl1:=isW_lt q2
  obtain⟨t1,hg1,hl1',ht1⟩:=txt_at hl1
  have hn1:((a:Int)+1).toNat=a+1:=by omega
  have hz:=IOk.zero q3
  have hl2:=isS_lt q3
  have hpt:=pTy_at l a
  rw[if_pos ⟨⟨q0,q1⟩,q2,q3⟩] at hpt
  simp[hw1,hn1,hl1,hl1',eTk,hw3]
  refine⟨by omega,?_⟩
  refine w_loop (X:=Bool×Nat×List Fd) (fun q=>oF E l T t1.text q.1 q.2.1 q.2.2) (fun q=>a+3≤q.2.1∧IOk l (pFds ((l.drop a).length+1) [] (l.drop (a+3))) q) (fun q=>(l.length - q.2.1)+(if q.1=true then 1 else 0)) (true,a+3,[]) ?_ ⟨Nat.le_refl _,hz⟩ ?_
  ·refine Conv.trans (Conv.voidBox (E.n0+40961) (by simp; rfl) rfl (void_ty _ _) (.agg [.str [],.int .i64 0,.str []])) ?_
   unfold oF
   have hrn:rnOk [(E.n0,E.n0),(E.n0+1,E.n0+40961),(E.n0+2,E.n0+47105)]:=by simp[yK,fB,tyB]
   refine Conv.sub [(E.n0,E.n0),(E.n0+1,E.n0+40961),(E.n0+2,E.n0+47105)] hrn ?_ ?_ ?_ ?_ ?_<;>(try simp[yK,fB,tyB])
  rintro⟨b2,c,acc⟩ ⟨hac,hI⟩ p2 hp2
  simp only at hac
  have hc:=hI.1
  have hca:=hI.2.1
  simp only at hc hca
  by_cases hb2:b2=true∨isS (l.drop c) 125=false
  rotate_left
  ·obtain rfl:b2=false:=by cases b2<;>simp at hb2 ⊢
   have h3:isS (l.drop c) 125=true:=by simpa using hb2
   have hlc:=isS_lt h3
   have hRe:=hI.lst h3
   rw[hRe] at hpt
   have hon:=hO.next hb hpt (a':=c+1) (by omega) (by omega)
   have hv1:IntKind.i64.wrap ((c:Int)+1)=(c:Int)+1:=wrap64 (by omega)
   have htt:eTy ⟨txt (l.drop (a+1)),acc⟩ = .agg [.str (txt (l.drop (a+1))),.sl (acc.map eFd)]:=rfl
   have hDE:Conv E (oF E l T t1.text false c acc) ⟨[(4,true,.sl (l.map eTk)),(6,true,.bsl E.n0 0 T.length),(7,true,.int .i64 c),(9,true,.ptr (E.n0+1) 0 0),(10,true,.bool false)],[(E.n0+1,some (yK t1.text (.sl (acc.map eFd)))),(E.n0,some (tyB T))],3⟩:=by
    refine Conv.deepBox (σ:=oF E l T t1.text false c acc) (E.n0+1) [(E.n0+2,fB acc)] [(E.n0,some (tyB T))] (b:=yK t1.text (.bsl (E.n0+2) 0 acc.length)) (x:=.agg [.str t1.text,.bsl (E.n0+2) 0 acc.length]) (y:=.agg [.str t1.text,.sl (acc.map eFd)]) ?_ rfl rfl ?_ ?_ ⟨?_,?_⟩ ?_
    ·simp[oF]
    ·intro m c e h1 h2
     match m,h1,h2 with
     | 0,h1,h2=>injection h1 with h1; injection h2 with h2; subst h1 h2; exact .same _
     | 1,h1,h2 =>
      injection h1 with h1; injection h2 with h2; subst h1 h2
      have:=rd_self (E.n0+2) (fB acc)
      simpa [fB] using this
     | m+2,h1,h2=>simp[AV.cells] at h1
    ·intro q hq
     obtain rfl:=List.mem_singleton.1 hq
     exact⟨by simp[oF],rfl⟩
    ·intro y b hy
     simp only[bk] at hy
     split at hy
     ·rename_i hyJ
      subst hyJ
      injection hy with hy
      subst hy
      refine⟨by simp[oF],fun q hq=>?_⟩
      obtain rfl:=List.mem_singleton.1 hq
      show E.n0+2≠E.n0
      omega
     ·cases hy
    ·intro q hq
     simp[oF] at hq
     rcases hq with rfl|rfl|rfl<;>exact .inl (by simp)
    ·intro q hq
     obtain rfl:=List.mem_singleton.1 hq
     show E.n0+2≠E.n0+1
     omega
   refine w_conv hDE ?_
   refine w_go 4000 ?_
   simp[yK,tyB]
   (refine w_callg hP (by simp[hv1]) rfl (fun hc=>⟨rTok_is l c 125 h3 _ (by simp),by revert hc; simp[hv1]; try grind,by simp[hv1]⟩) ?_; refine w_go 4000 ?_; simp[hv1])
   refine⟨⟨by omega,by omega⟩,?_⟩
   refine hp _ (false,c+1,T++[⟨txt (l.drop (a+1)),acc⟩]) hon (by simp; omega) ?_
   unfold oS
   have hrn:rnOk [(E.n0,E.n0+13315)]:=by simp[tyB,htt,ht1,hv1]
   refine Conv.sub [(E.n0,E.n0+13315)] hrn ?_ ?_ ?_ ?_ ?_<;>(try simp[tyB,htt,ht1,hv1])
   all_goals exact renL_pure rfl (pureL_append (pure_tys T) (pure_tys [⟨txt (l.drop (a+1)),acc⟩]))
  have hv1:IntKind.i64.wrap ((c:Int)+1)=(c:Int)+1:=wrap64 (by omega)
  have hv2:IntKind.i64.wrap ((c:Int)+2)=(c:Int)+2:=wrap64 (by omega)
  have hv3:IntKind.i64.wrap ((c:Int)+2+1)=(c:Int)+3:=by rw[wrap64 (by omega)]; omega
  have hv4:IntKind.i64.wrap ((c:Int)+2+2)=(c:Int)+4:=by rw[wrap64 (by omega)]; omega
  have hv5:IntKind.i64.wrap ((c:Int)+2+3)=(c:Int)+5:=by rw[wrap64 (by omega)]; omega
  unfold oF
  refine w_go 4000 ?_
  simp
  (refine w_callg hP (by simp[hv1,hv2]) rfl (fun hc=>⟨rTok_is l c 125 rfl _ (by simp),by revert hc; simp[hv1,hv2]; try grind,by simp[hv1,hv2]⟩) ?_; refine w_go 4000 ?_; simp[hv1,hv2])
  refine goc_true (by simpa using hb2) ?_
  simp
  (refine w_call hP rfl (rWord_is l c rfl _ (by simp)) (by simp[hv1,hv2]) (by simp[hv1,hv2]<;>rfl) ?_; refine w_go 4000 ?_; simp[hv1,hv2])
  (refine w_callg hP (by simp[hv1,hv2]) rfl (fun hc=>⟨rTok_is l (c+1) 58 rfl _ (by simp),by revert hc; simp[hv1,hv2]; try grind,by simp[hv1,hv2]⟩) ?_; refine w_go 4000 ?_; simp[hv1,hv2])
  have hbad:pFd (l.drop c)=none→tysOf l=none:=fun h=>by
   have:=hI.bad hb2 h
   rw[this] at hpt
   exact hO.bad hb hpt
  refine goc (fun g=>?_) (fun g=>?_)
  ·simp
   rw[hbad (by
    rw[pFd_at,if_neg]
    rintro⟨e1,e2⟩
    simp[e1,e2] at g)] at hR
   have hR:E.Rt=RtOk E.n0 id E.G0.used [.tmp 2,.tmp 3] [] (.tup [.nils,.int .i64 1]) []:=hR
   rw[hR]; exact rt_end (by simp<;>rfl) [] trivial (end_pure (by simp) (by simp) (by simp))
  simp at g
  obtain⟨r0,r1⟩:=g
  have hf:=pFd_at l c
  rw[if_pos ⟨r0,r1⟩] at hf
  have hlc:=isW_lt r0
  obtain⟨u0,hu0,hul,hut⟩:=txt_at hlc
  simp[hv2,hlc,hul,eTk,yK]
  (refine w_call hP rfl (rTok_is l (c+2) 91 rfl _ (by simp)) (by simp[hv3,hv4]) (by simp[hv3,hv4]<;>rfl) ?_; refine w_go 4000 ?_; simp[hv3,hv4])
  (refine w_callg hP (by simp[hv3,hv4]) rfl (fun hc=>⟨rWord_is l (c+3) rfl _ (by simp),by revert hc; simp[hv3,hv4]; try grind,by simp[hv3,hv4]⟩) ?_; refine w_go 4000 ?_; simp[hv3,hv4])
  (refine w_callg hP (by simp[hv3,hv4]) rfl (fun hc=>⟨rTok_is l (c+4) 93 rfl _ (by simp),by revert hc; simp[hv3,hv4]; try grind,by simp[hv3,hv4]⟩) ?_; refine w_go 4000 ?_; simp[hv3,hv4])
  refine goc (fun g=>?_) (fun g=>?_)
  ·simp at g
   obtain⟨⟨r2,r3⟩,r4⟩:=g
   rw[if_pos r2,if_pos ⟨r3,r4⟩] at hf
   have hl3:=isW_lt r3
   have hl4:=isS_lt r4
   obtain⟨u3,hu3,hul3,hut3⟩:=txt_at hl3
   have hn3:((c:Int)+3).toNat=c+3:=by omega
   have hnx:=hI.next hb2 hf (by omega) (by omega)
   rw[←hut,←hut3] at hnx
   simp[hv3,hv5,hn3,hl3,hul3,eTk,fB]
   refine⟨by omega,⟨by omega,by omega⟩,?_⟩
   refine hp2 _ (false,c+5,acc++[⟨u0.text,4,u3.text⟩]) ⟨by simp only; omega,hnx⟩ (by simp; omega) ?_
   unfold oF
   have hrn:rnOk [(E.n0,E.n0),(E.n0+1,E.n0+1),(E.n0+2,E.n0+63491)]:=by simp[yK,fB,tyB,eFd]
   refine Conv.sub [(E.n0,E.n0),(E.n0+1,E.n0+1),(E.n0+2,E.n0+63491)] hrn ?_ ?_ ?_ ?_ ?_<;>(try simp[yK,fB,tyB,eFd])
   all_goals exact renL_pure rfl (pureL_append (pure_fds acc) (pure_fds [⟨u0.text,4,u3.text⟩]))
  have g2:¬(isS (l.drop (c+2)) 91=true∧isW (l.drop (c+3))=true∧isS (l.drop (c+4)) 93=true):=by
   rintro⟨e1,e2,e3⟩
   simp[e1,e2,e3] at g
  simp
  (refine w_call hP rfl (rWord_is l (c+2) rfl _ (by simp)) (by simp[hv3,hv4]) (by simp[hv3,hv4]<;>rfl) ?_; refine w_go 4000 ?_; simp[hv3,hv4])
  refine goc (fun g=>?_) (fun g=>?_)
  rotate_left
  ·simp
   rw[hbad (by
    rw[hf]
    split
    ·rw[if_neg (fun e=>g2 ⟨‹_›,e⟩)]
    ·rw[if_neg (by simp[g])])] at hR
   have hR:E.Rt=RtOk E.n0 id E.G0.used [.tmp 2,.tmp 3] [] (.tup [.nils,.int .i64 1]) []:=hR
   rw[hR]; exact rt_end (by simp<;>rfl) [] trivial (end_pure (by simp) (by simp) (by simp))
  have r2:isS (l.drop (c+2)) 91=false:=by
   cases h:isS (l.drop (c+2)) 91 with
   | false=>rfl
   | true=>rw[isW_no h] at g; cases g
  have hl2:=isW_lt g
  obtain⟨u2,hu2,hul2,hut2⟩:=txt_at hl2
  have hn2:((c:Int)+2).toNat=c+2:=by omega
  rw[if_neg (by simp[r2]),if_pos g] at hf
  have hnx:=hI.next hb2 hf (by omega) (by omega)
  rw[←hut,←hut2] at hnx
  simp[hv3,hn2,hl2,hul2,eTk]
  refine⟨by omega,?_⟩
  by_cases hN:u2.text=tNumber
  ·rw[show fdOf u0.text u2.text=⟨u0.text,1,[]⟩ from by unfold fdOf; rw[if_pos hN]] at hnx
   unfold tNumber at hN
   refine goc_true (by simpa using hN) ?_
   simp[hv3,fB]
   refine⟨⟨by omega,by omega⟩,?_⟩
   refine hp2 _ (false,c+3,acc++[⟨u0.text,1,[]⟩]) ⟨by simp only; omega,hnx⟩ (by simp; omega) ?_
   unfold oF
   have hrn:rnOk [(E.n0,E.n0),(E.n0+1,E.n0+1),(E.n0+2,E.n0+76803)]:=by simp[yK,fB,tyB,eFd]
   refine Conv.sub [(E.n0,E.n0),(E.n0+1,E.n0+1),(E.n0+2,E.n0+76803)] hrn ?_ ?_ ?_ ?_ ?_<;>(try simp[yK,fB,tyB,eFd])
   all_goals exact renL_pure rfl (pureL_append (pure_fds acc) (pure_fds [⟨u0.text,1,[]⟩]))
  by_cases hX:u2.text=tText
  ·rw[show fdOf u0.text u2.text=⟨u0.text,2,[]⟩ from by unfold fdOf; rw[if_neg hN,if_pos hX]] at hnx
   unfold tNumber at hN
   unfold tText at hX
   refine goc_false (by simpa using hN) ?_
   simp
   refine goc_true (by simpa using hX) ?_
   simp[hv3,fB]
   refine⟨⟨by omega,by omega⟩,?_⟩
   refine hp2 _ (false,c+3,acc++[⟨u0.text,2,[]⟩]) ⟨by simp only; omega,hnx⟩ (by simp; omega) ?_
   unfold oF
   have hrn:rnOk [(E.n0,E.n0),(E.n0+1,E.n0+1),(E.n0+2,E.n0+76803)]:=by simp[yK,fB,tyB,eFd]
   refine Conv.sub [(E.n0,E.n0),(E.n0+1,E.n0+1),(E.n0+2,E.n0+76803)] hrn ?_ ?_ ?_ ?_ ?_<;>(try simp[yK,fB,tyB,eFd])
   all_goals exact renL_pure rfl (pureL_append (pure_fds acc) (pure_fds [⟨u0.text,2,[]⟩]))
  ·rw[show fdOf u0.text u2.text=⟨u0.text,3,u2.text⟩ from by unfold fdOf; rw[if_neg hN,if_neg hX]] at hnx
   unfold tNumber at hN
   unfold tText at hX
   refine goc_false (by simpa using hN) ?_
   simp
   refine goc_false (by simpa using hX) ?_
   simp[hv3,fB]
   refine⟨⟨by omega,by omega⟩,?_⟩
   refine hp2 _ (false,c+3,acc++[⟨u0.text,3,u2.text⟩]) ⟨by simp only; omega,hnx⟩ (by simp; omega) ?_
   unfold oF
   have hrn:rnOk [(E.n0,E.n0),(E.n0+1,E.n0+1),(E.n0+2,E.n0+72707)]:=by simp[yK,fB,tyB,eFd]
   refine Conv.sub [(E.n0,E.n0),(E.n0+1,E.n0+1),(E.n0+2,E.n0+72707)] hrn ?_ ?_ ?_ ?_ ?_<;>(try simp[yK,fB,tyB,eFd])
   all_goals exact renL_pure rfl (pureL_append (pure_fds acc) (pure_fds [⟨u0.text,3,u2.text⟩]))
end Go.Am
namespace Go.Am
set_option linter.all false
open Go Go.RowKit Go.Proofs
set_option maxRecDepth 100000
set_option linter.all false
theorem at2_step{p:UInt8→Bool}{s:List UInt8}{j:Nat}{c:UInt8}(h:s[j]?=some c)(hp:p c=true):at2 p s (j+1)=at2 p s j:=by
 obtain⟨x,hx,hd⟩:=drop_cons (List.getElem?_eq_some_iff.1 h).1
 rw[h] at hx; injection hx with hx; subst hx
 unfold at2
 rw[hd,List.takeWhile_cons_of_pos hp]; simp; omega
theorem at2_stop{p:UInt8→Bool}{s:List UInt8}{j:Nat}{c:UInt8}(h:s[j]?=some c)(hp:p c=false):at2 p s j=j:=by
 obtain⟨x,hx,hd⟩:=drop_cons (List.getElem?_eq_some_iff.1 h).1
 rw[h] at hx; injection hx with hx; subst hx
 unfold at2
 rw[hd,List.takeWhile_cons_of_neg (by simp[hp])]; simp
theorem at2_end{p:UInt8→Bool}{s:List UInt8}{j:Nat}(h:s.length≤j):at2 p s j=j:=by
 unfold at2
 rw[List.drop_of_length_le h]; simp
theorem at2_slice(p:UInt8→Bool){s:List UInt8}{i k:Nat}(hk:k≤i)(hi:i≤s.length):(s.take (at2 p s i)).drop k=(s.take i).drop k++(s.drop i).takeWhile p:=by
 have h2:(s.drop i).takeWhile p=(s.drop i).take ((s.drop i).takeWhile p).length:=by
  conv=>lhs; rw[←List.take_length (l:=(s.drop i).takeWhile p)]
  have:=List.takeWhile_append_dropWhile (p:=p) (l:=s.drop i)
  conv=>rhs; rw[←this]
  rw[List.take_left',List.take_length]
  rw[this]
 unfold at2
 rw[List.take_add,List.drop_append_of_le_length (by simp; omega),←h2]
def TOk(s:List UInt8)(q:List Tk×Nat):Prop:=q.2≤s.length∧q.1.length≤300∧pToks ((s.drop q.2).length+1) q.1 (s.drop q.2)=fAll s
theorem TOk.zero(s:List UInt8):TOk s ([],0):=⟨by simp,by simp,rfl⟩
theorem TOk.pass{s:List UInt8}{acc:List Tk}{i j:Nat}(h:TOk s (acc,i))(hj:j≤s.length)(hb:blk false (s.drop i)=blk false (s.drop j)):TOk s (acc,j):=by
 refine⟨hj,h.2.1,?_⟩
 rw[←h.2.2]
 show pToks ((s.drop j).length+1) acc (s.drop j)=pToks ((s.drop i).length+1) acc (s.drop i)
 have h1:=blk_le false (s.drop i)
 have h2:=blk_le false (s.drop j)
 exact toks_fuel _ _ _ _ _ hb.symm (by omega) (by rw[←hb]; omega)
theorem TOk.blank{s:List UInt8}{acc:List Tk}{i:Nat}(h:TOk s (acc,i)){c:UInt8}{r:List UInt8}(hd:s.drop i=c::r)(hc:blC c=true):TOk s (acc,i+1):=by
 have hl:=congrArg List.length hd
 simp at hl
 have hr:s.drop (i+1)=r:=by rw[←List.drop_drop,hd]; rfl
 refine h.pass (by omega) ?_
 rw[hd,hr]
 simp[blk,hc]
theorem TOk.rem{s:List UInt8}{acc:List Tk}{i:Nat}(h:TOk s (acc,i)){r:List UInt8}(hd:s.drop i=35::r):TOk s (acc,at2 noNl s i):=by
 refine h.pass (at2_le noNl h.1).2 ?_
 rw[at2_drop,hd,List.dropWhile_cons_of_pos (by decide),←blk_rw]
 simp[blk,blC]
theorem TOk.at{s:List UInt8}{acc:List Tk}{i:Nat}(h:TOk s (acc,i)){c:UInt8}{r:List UInt8}(hd:s.drop i=c::r)(hc:blC c=false)(h35:c≠35):match pTok c r with
   | .error e=>fAll s = .error e
   | .ok p=>if 300<acc.length+1 then fAll s = .error 2 else pToks ((blk false p.2).length+1) (acc++[p.1]) (blk false p.2)=fAll s:=by
 have hb:blk false (s.drop i)=s.drop i:=by rw[hd]; simp[blk,hc,h35]
 have:=toks_at (acc:=acc) (j:=i) h.2.2 hb
 rw[hd] at this
 exact this
theorem TOk.bad{s:List UInt8}{acc:List Tk}{i:Nat}(h:TOk s (acc,i)){c:UInt8}{r:List UInt8}(hd:s.drop i=c::r)(hc:blC c=false)(h35:c≠35){e:Int}(hp:pTok c r = .error e):fAll s = .error e:=by
 have:=h.at hd hc h35
 rw[hp] at this
 exact this
theorem TOk.many{s:List UInt8}{acc:List Tk}{i:Nat}(h:TOk s (acc,i)){c:UInt8}{r:List UInt8}(hd:s.drop i=c::r)(hc:blC c=false)(h35:c≠35){p:Tk×List UInt8}(hp:pTok c r = .ok p)(hm:300<acc.length+1):fAll s = .error 2:=by
 have:=h.at hd hc h35
 rw[hp] at this
 simp only at this
 rwa [if_pos hm] at this
theorem TOk.next{s:List UInt8}{acc:List Tk}{i:Nat}(h:TOk s (acc,i)){c:UInt8}{r:List UInt8}(hd:s.drop i=c::r)(hc:blC c=false)(h35:c≠35){t:Tk}{j:Nat}(hp:pTok c r = .ok (t,s.drop j))(hj:j≤s.length)(hm:¬300<acc.length+1):TOk s (acc++[t],j):=by
 have:=h.at hd hc h35
 rw[hp] at this
 simp only at this
 rw[if_neg hm] at this
 refine⟨hj,by simp; omega,?_⟩
 rw[←this]
 show pToks ((s.drop j).length+1) (acc++[t]) (s.drop j)=_
 have h1:=blk_le false (s.drop j)
 refine toks_fuel _ _ _ _ _ (blk_blk false _).symm (by omega) (by omega)
theorem TOk.fin{s:List UInt8}{acc:List Tk}{i:Nat}(h:TOk s (acc,i))(hi:s.length≤i):fAll s = .ok acc:=by
 rw[←h.2.2]
 rw[List.drop_of_length_le hi]
 rfl
theorem tw_all{p:UInt8→Bool}{x:UInt8}:∀{r:List UInt8},x∈r.takeWhile p→p x=true
 | [],h=>by cases h
 | c::r,h=>by
  cases hc:p c with
  | true =>
   rw[List.takeWhile_cons_of_pos hc] at h
   rcases List.mem_cons.1 h with h|h
   ·rw[h]; exact hc
   ·exact tw_all h
  | false =>
   rw[List.takeWhile_cons_of_neg (by simp[hc])] at h
   cases h
theorem fName_an{c:UInt8}{r:List UInt8}(hc:isLt c=true):fName ((c::r).takeWhile anC)=if 12<((c::r).takeWhile anC).length then 2 else 0:=by
 have han:anC c=true:=by unfold anC; rw[hc]; rfl
 have hok:nameOk ((c::r).takeWhile anC)=true:=by
  rw[List.takeWhile_cons_of_pos han]
  simp only[nameOk,hc,Bool.true_and,List.all_eq_true]
  intro x hx
  exact tw_all hx
 unfold fName
 rw[if_pos hok]
theorem pTok_word{s:List UInt8}{i:Nat}{c:UInt8}{r:List UInt8}(hd:s.drop i=c::r)(hc:isLt c=true):pTok c r=if 12<((s.drop i).takeWhile anC).length then .error 2 else .ok (⟨1,(s.drop i).takeWhile anC,0⟩,s.drop (at2 anC s i)):=by
 unfold pTok
 rw[if_pos hc,at2_drop,hd,fName_an hc]
 by_cases h:12<((c::r).takeWhile anC).length
 ·rw[if_pos h,if_pos h,if_neg (by decide)]
 ·rw[if_neg h,if_neg h,if_pos rfl]
theorem pTok_sign{c:UInt8}{r:List UInt8}(h1:isLt c=false)(h2:¬(isDg c=true∨c=45))(h3:c≠34):pTok c r=if sgC c=true then .ok (⟨4,[c],0⟩,r) else .error 1:=by
 unfold pTok
 rw[if_neg (by simp[h1]),if_neg h2,if_neg h3]
theorem pTok_num2{s:List UInt8}{i:Nat}{c:UInt8}{r:List UInt8}(hd:s.drop i=c::r)(h1:isLt c=false)(h2:isDg c=true∨c=45):
  pTok c r=match intOf ((s.take (at2 isDg s (i+1))).drop i) with
   | none=>.error 1
   | some n=>.ok (⟨2,[],n⟩,s.drop (at2 isDg s (i+1))):=by
 have hl:=congrArg List.length hd
 simp at hl
 have hr:s.drop (i+1)=r:=by rw[←List.drop_drop,hd]; rfl
 have hone:(s.take (i+1)).drop i=[c]:=by
  have:s[i]?=some c:=by
   have:=congrArg (fun l=>l[0]?) hd
   simpa using this
  rw[List.take_succ,this,List.drop_append_of_le_length (by simp; omega),List.drop_of_length_le (by simp; omega)]; rfl
 rw[at2_slice isDg (by omega) (by omega),hone,hr,at2_drop,hr]
 unfold pTok
 rw[if_neg (by simp[h1]),if_pos h2]
 rfl
end Go.Am
