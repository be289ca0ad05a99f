/- Parts of the proof: an abstract machine for Go functions, and what functions of the program give back (Sx1, Qx1, Sx2, Qx2, Dp1, Dw3, CcY, CcX, Ex1, Ex2, Ex3, Ex4, Ex5). No condition. -/
import Derived.Test.YtphjabjjnncebaaGreatDoorXP
import Derived.Test.YtphjabjjnncebaaGreatDoorXI
import Derived.Test.YtphjabjjnncebaaGreatDoorXJ
import Derived.Test.YtphjabjjnncebaaGreatDoorXO
import Derived.Test.YtphjabjjnncebaaGreatDoorXG
import Derived.Test.YtphjabjjnncebaaGreatDoorProg
import Derived.KernelRfl
import Derived.Test.YtphjabjjnncebaaGreatDoorXF
import Derived.Test.YtphjabjjnncebaaGreatDoorXE
set_option maxRecDepth 100000
set_option linter.all false
set_option maxHeartbeats 8000000
namespace Go.Am
open Go Go.Proofs Go.RowKit
def isS(l:List Tk)(c:UInt8):Bool:=match l with
 | t::_=>t.kind==4&&t.text==[c]
 | []=>false
def isW(l:List Tk):Bool:=match l with
 | t::_=>t.kind==1
 | []=>false
def txt(l:List Tk):List UInt8:=match l with
 | t::_=>t.text
 | []=>[]
def isV(l:List Tk):Bool:=match l with
 | t::_=>t.kind==2||t.kind==3
 | []=>false
def C5n(nm:List UInt8)(l:List Tk):Ag:=match l with
 | t::_=>⟨nm,t.kind==3,t.text,t.n⟩
 | []=>⟨nm,false,[],0⟩
def pAg(l:List Tk):Option (Ag×List Tk):=if isW l=true/\isS (l.drop 1) 58=true/\isV (l.drop 2)=true then some (C5n (txt l) (l.drop 2),l.drop 3) else none
def A1f:Nat->List Ag->List Tk->Option (List Ag×List Tk)
 | 0,_,_=>none
 | n+1,acc,l=>match pAg l with
  | none=>none
  | some p=>if isS p.2 41=true then some (acc++[p.1],p.2.drop 1) else A1f n (acc++[p.1]) p.2
def A2l(l:List Tk):Option (List Ag×List Tk):=if isS l 40=true then A1f (l.length+1) [] (l.drop 1) else some ([],l)
def pHd(l:List Tk):Option (List UInt8×List UInt8×List Tk) :=
 if isW l=true then (if isS (l.drop 1) 58=true then (if isW (l.drop 2)=true then some (txt l,txt (l.drop 2),l.drop 3) else none) else some ([],txt l,l.drop 1)) else none
mutual
def A1g:Nat->List Tk->Option (F5×List Tk)
 | 0,_=>none
 | n+1,l=>match pHd l with
  | none=>none
  | some (a,nm,u)=>match A2l u with
   | none=>none
   | some (xs,v)=>if isS v 123=true then (match s6 n v with
     | none=>none
     | some (k,w)=>some (.mk a nm xs k,w)) else some (.mk a nm xs [],v)
def s6:Nat->List Tk->Option (List F5×List Tk)
 | 0,_=>none
 | n+1,l=>if isS l 123=true then T3 n [] (l.drop 1) else none
def T3:Nat->List F5->List Tk->Option (List F5×List Tk)
 | 0,_,_=>none
 | n+1,acc,l=>match A1g n l with
  | none=>none
  | some (s,u)=>if isS u 125=true then some (acc++[s],u.drop 1) else T3 n (acc++[s]) u
end
def B13(l:List Tk):Option (List F5):=match s6 (3*l.length+3) l with
 | none=>none
 | some (q,u)=>if u=[] then some q else none
def A3K(o:Option (List F5)):Except Int (List F5):=match o with
 | none=>.error 1
 | some q=>if V3 q=0 then .ok q else .error (V3 q)
def A3p(s:List UInt8):Except Int (List F5):=match A55 s with
 | .error e=>.error e
 | .ok l=>A3K (B13 l)
theorem C3g{s:List UInt8}{l:List F5}(h:A3p s = .ok l):V3 l=0:=by
 unfold A3p at h;split at h
 ·cases h
 ·unfold A3K at h;split at h
  ·cases h
  ·split at h
   ·rename_i h2;injection h with h
    rw[←h]; exact h2
   ·cases h
def A5r:List Bt->List Bt->Bool
 | _,[]=>false
 | ah,b::r=>(ah.any fun x=>x.number==b.number)||A5r (ah++[b]) r
def opE(l:List Ty)(d:Dk):Int:=if J0 l≠0 then J0 l else if C6 d≠0 then C6 d else if A5r [] (H0 d.seg)=true then 6 else T9 ⟨l,[]⟩ (P1 (H0 d.seg))
def opS(l:List Ty)(d:Dk):I4:=o6 ⟨l,[]⟩ (P1 (H0 d.seg))
structure DOk(l:List Ty)(d:Dk):Prop where
 types:J0 l=0
 disk:C6 d=0
 once:A5r [] (H0 d.seg)=false
 all:T9 ⟨l,[]⟩ (P1 (H0 d.seg))=0
theorem A23{l:List Ty}{d:Dk}:opE l d=0↔DOk l d:=by
 unfold opE;constructor
 ·intro h;by_cases h1:J0 l=0
  rotate_left
  ·rw[if_pos h1] at h; exact absurd h h1
  by_cases h2:C6 d=0
  rotate_left
  ·rw[if_neg (by simpa using h1),if_pos h2] at h; exact absurd h h2
  rw[if_neg (by simpa using h1),if_neg (by simpa using h2)] at h;split at h
  ·cases h
  ·rename_i h3;exact⟨h1,h2,by simpa using h3,h⟩
 ·rintro⟨h1,h2,h3,h4⟩;rw[if_neg (by simpa using h1),if_neg (by simpa using h2),if_neg (by simp[h3]),h4]
theorem A24{s:I4}{e:Ev}{r:List Ev}:T9 s (e::r)=if A1c s e≠0 then A1c s e else T9 (A2m s e) r:=rfl
theorem B9q{a b:List Ev}:∀{s:I4},T9 s a=0->T9 s (a++b)=T9 (o6 s a) b:=by
 induction a with
 | nil=>intro s _; rfl
 | cons e r ih =>
  intro s h;rw[A24] at h;rw[List.cons_append,A24];by_cases hr:A1c s e=0
  ·rw[if_neg (by simpa using hr)] at h ⊢;exact ih h
  ·rw[if_pos hr] at h;exact absurd h hr
theorem B9r{a b:List Ev}:∀{s:I4},T9 s (a++b)=0->T9 s a=0:=by
 induction a with
 | nil=>intro s _; rfl
 | cons e r ih =>
  intro s h;rw[List.cons_append,A24] at h;rw[A24];by_cases hr:A1c s e=0
  ·rw[if_neg (by simpa using hr)] at h ⊢;exact ih h
  ·rw[if_pos hr] at h;exact absurd h hr
theorem B33(a b:List Bt):P1 (a++b)=P1 a++P1 b:=by simp[P1]
theorem B9s(b:Bt):P1 [b]=b.events:=by simp[P1]
theorem B9t(ah a:List Bt)(b:Bt):A5r ah (a++[b])=(A5r ah a||(ah++a).any fun x=>x.number==b.number):=by
 induction a generalizing ah with
 | nil=>simp[A5r]
 | cons x r ih=>simp[A5r,ih,Bool.or_assoc]
def z7(l:List Ty)(d:Dk)(at_:Nat):I4:=o6 ⟨l,[]⟩ (P1 ((H0 d.seg).take at_))
theorem A6y{d:Dk}(h:C6 d=0):(H0 d.seg).length<=3200/\∀b∈H0 d.seg,H8 b=0:=by
 have g:=B5G h;constructor
 ·have h8:=g.h8;have h4:=g.h4;generalize d.seg=l at *;have:∀l:List (List UInt8),(∀s∈l,s.length<=400)->(H0 l).length<=400*l.length:=fun l=>by
   induction l with
   | nil=>intro _; simp[H0]
   | cons s r ih =>
    intro h;have h1:=B8c s;have h2:=h s (List.mem_cons_self ..);have h3:=ih fun x hx=>h x (List.mem_cons_of_mem _ hx);simp only[H0,List.flatMap_cons,List.length_append,List.length_cons] at h3 ⊢; omega
  have:=this l h4;omega
 ·intro b hb;obtain⟨s,hs,hb⟩:=List.mem_flatMap.1 hb;exact (M8 s 0 (by omega)).2.2.2.2.2.2 b hb
theorem A25{b:Bt}(h:H8 b=0):b.events.length<=8/\∀e∈b.events,X0 e=0:=by
 unfold H8 at h;split at h
 ·cases h
 split at h
 ·cases h
 split at h
 ·cases h
 rename_i h8;exact⟨by omega,A1I.1 h⟩
theorem B9u{e:Ev}(h:X0 e=0):I64 e.n:=by
 unfold X0 at h;split at h
 ·contradiction
 split at h
 ·cases h
 rename_i hq;unfold I64; omega
theorem A8F{l:List Bt}(h:∀b∈l,H8 b=0):∀e∈P1 l,I64 e.n:=fun e he=>by
 obtain⟨b,hb,he⟩:=List.mem_flatMap.1 he;exact B9u ((A25 (h b hb)).2 e he)
def opV(e:Int)(id:Nat):AV:=if e=0 then .ptr id 0 0 else .nilp
def opW(e:Int)(s:I4)(bs:List Bt)(id:Nat):List (Nat×Option Bx):=if e=0 then [(id,some (bxO s bs))] else []
theorem B14(l:List Ty)(d:Dk)(id:Nat):A2 Tryz.prog 46 [.sl (l.map J3),eDk d] [] id (.tup [opV (opE l d) id,.int .i64 (opE l d)]) (opW (opE l d) (opS l d) (H0 d.seg) id):=by
 have hC:=fun id=>A5a l id;have hO:=fun id=>B5C d id;unfold eDk at hO ⊢;by_cases h1:J0 l=0
 rotate_left
 ·have e:opE l d=J0 l:=by unfold opE; rw[if_pos h1]
  rw[e];have e1:opV (J0 l) id = .nilp:=by unfold opV; rw[if_neg h1]
  have e2:opW (J0 l) (opS l d) (H0 d.seg) id=[]:=by unfold opW; rw[if_neg h1]
  rw[e1,e2];refine w46.e.1 fun E hP hR hl hid=>?_;simp[w46];(refine yH rfl (hC _) ?_; simp);refine B2 (by simpa using h1) ?_;simp;exact yP hR
 rw[h1] at hC;by_cases h2:C6 d=0
 rotate_left
 ·have e:opE l d=C6 d:=by unfold opE; rw[if_neg (by simpa using h1),if_pos h2]
  rw[e];have e1:opV (C6 d) id = .nilp:=by unfold opV; rw[if_neg h2]
  have e2:opW (C6 d) (opS l d) (H0 d.seg) id=[]:=by unfold opW; rw[if_neg h2]
  rw[e1,e2];simp only[if_neg h2] at hO;refine w46.e.1 fun E hP hR hl hid=>?_;simp[w46];(refine yH rfl (hC _) ?_; simp);(refine yH rfl (hO _) ?_; simp);refine B2 (by simpa using h2) ?_;simp;exact yP hR
 simp only[if_pos h2] at hO;rw[h2] at hO;have hbs:=A6y h2;have hev:=A8F hbs.2;have hop:opE l d=if A5r [] (H0 d.seg)=true then 6 else T9 ⟨l,[]⟩ (P1 (H0 d.seg)):=by
  unfold opE; rw[if_neg (by simpa using h1),if_neg (by simpa using h2)]
 have hos:opS l d=o6 ⟨l,[]⟩ (P1 (H0 d.seg)):=rfl;rw[hop,hos];generalize H0 d.seg=bs at *;refine w46.e.1 fun E hP hR hl hid=>?_;simp[w46];(refine yH rfl (hC _) ?_; simp);(refine yH rfl (hO _) ?_; simp);refine D3 (X:=Nat) (fun i=>⟨[(0,true,.sl (l.map J3)),(7,true,.sl (bs.map p7)),(28,true,.sl (bs.map p7)),(29,true,.int .i64 bs.length),(30,true,.int .i64 i)],[],0⟩)
  (fun i=>i<=bs.length/\A5r (bs.take i) (bs.drop i)=A5r [] bs) (fun i=>bs.length - i) 0 ?_ ⟨by omega,by simp⟩ ?_
 ·refine yV [] (by simp) fun hrn=>⟨?_,?_,?_,?_,?_⟩<;>(try simp)
 rintro i ⟨hi,hf⟩ p hp;rcases Nat.lt_or_ge i bs.length with h|h
 ·obtain⟨b,hb,hd⟩:=B6 h;have hi1:IntKind.i64.wrap ((i:Int)+1)=((i+1:Nat):Int):=A5 (by omega);have hst:bs.take (i+1)=bs.take i++[b]:=by rw[List.take_succ,hb]; rfl
  have hli:bs[i]=b:=by
   rw[List.getElem?_eq_getElem h] at hb;injection hb
  rw[hd] at hf;simp only[A5r] at hf;have hcf:=fun j id=>A9Z 104 j (p7 b) (.agg [.int .i64 0,.nils]) b.number (B2G b) (fun x id=>B8j x b j id) (bs.take i) id (by rw[List.length_take]; omega);have htl:(bs.take i).length=i:=by rw[List.length_take]; omega
  unfold p7 at hcf;rw[List.map_take] at hcf;refine A3 4000 ?_;simp[h,hli,p7];refine⟨by omega,?_⟩;(refine yH rfl (hcf _ _) ?_; simp);refine E6 (fun g=>?_) (fun g=>?_)
  ·simp;rw[g,Bool.true_or] at hf;rw[if_pos hf.symm] at hR;have e1:opV 6 id = .nilp:=rfl;have e2:opW 6 (o6 ⟨l,[]⟩ (P1 bs)) bs id=[]:=rfl;rw[e1,e2] at hR;exact yP hR
  ·simp;rw[g,Bool.false_or,←hst] at hf;refine hp _ (i+1) ⟨h,hf⟩ (by omega) ?_;refine yV [] (by simp[hi1]) fun hrn=>⟨?_,?_,?_,?_,?_⟩<;>(try simp[hi1])
 ·rw[List.drop_of_length_le h] at hf;have hdf:A5r [] bs=false:=hf.symm;have hE:=fun j id=>A9s j .nils .nils rfl rfl bs bs.length (Nat.le_refl _) id (by omega) fun b hb=>(A25 (hbs.2 b hb)).1;rw[List.take_length] at hE;have hel:=A86 (l:=bs) fun b hb=>(A25 (hbs.2 b hb)).1;have hA:=fun id=>B9V l (P1 bs) id hev (by omega);have hat:atE l (P1 bs) ((P1 bs).length:Int)=T9 ⟨l,[]⟩ (P1 bs):=by
   unfold atE;rw[if_neg (by simpa using h1),if_neg (by omega)];simp
  have has:atS l (P1 bs) ((P1 bs).length:Int)=o6 ⟨l,[]⟩ (P1 bs):=by
   unfold atS;simp
  rw[hat,has] at hA;rw[if_neg (by simp[hdf])] at hR;unfold bxQ at hE;unfold A1d at hA;refine A3 4000 ?_;simp[Nat.not_lt.2 h];(refine yH rfl (hE _ _) ?_; simp);(refine yH rfl (hA _) ?_; simp);by_cases h3:T9 ⟨l,[]⟩ (P1 bs)=0
  ·rw[h3] at hR ⊢;have e1:opV 0 id = .ptr id 0 0:=rfl;have e2:opW 0 (o6 ⟨l,[]⟩ (P1 bs)) bs id=[(id,some (bxO (o6 ⟨l,[]⟩ (P1 bs)) bs))]:=rfl;rw[e1,e2] at hR;unfold bxO bxQ at hR;simp[B4M,B4N];refine yE hR [(id,E.n0+3072)] (by simp[A4 hid]) fun hrn=>⟨?_,?_,?_,?_,?_,?_⟩<;>(try simp[A4 hid])
  ·have e1:opV (T9 ⟨l,[]⟩ (P1 bs)) id = .nilp:=(by unfold opV; rw[if_neg h3]);have e2:opW (T9 ⟨l,[]⟩ (P1 bs)) (o6 ⟨l,[]⟩ (P1 bs)) bs id=[]:=(by unfold opW; rw[if_neg h3]);rw[e1,e2] at hR;refine⟨⟨A4y _ _,A4z _ _⟩,?_⟩;refine B2 (by simpa using h3) ?_;simp;exact yP hR
def B5h:CC:=(.r [.al 4 (.int .i64 0)])
def B5i:CC:=(.r [.m 8 0,.c 9 108 [8],.m 7 9,.e 10 7 0,.e 11 7 1,.m 5 10,.st 1 4 11])
def B5j:CC:=(.r [.l 12 4,.k 13 .neq 12 0])
def B5k:CC:=(.r [.m 16 5,⟨some 17,none,[16],.build [.nils] [(0,1,.t 16)]⟩,.bx 18 17,.m 6 18])
def A57:CC:=(.r [.m 19 1,.m 20 6,⟨some 21,none,[19,20],.callv (.t 19) [.t 20]⟩])
def A58:CC:=(.r [.m 22 6,.c 23 110 [22]])
def B5l:CC:=(.r [.si 1 4 0])
def B5m:CC:=(.seq (.r [.l 14 4,.st 1 4 14]) CC.ret)
def C4w:CC:=.seq B5h (.seq B5i (.seq (.seq B5j (.cond (.t 13) B5m CC.skip)) (.seq CC.bad (.seq B5k (.seq A57 (.seq A58 (.seq B5l CC.ret)))))))
def C4x:List t7:=[.cell 4 false 1]
theorem C4y:O5 Tryz.prog Tryz.f52.results.toList=some C4x:=by kernel_rfl
theorem C4z:Tryz.f52.body.map (D2 Tryz.prog Tryz.f52.ntmps)=some C4w:=by kernel_rfl
def B5n:CC:=(.r [.bx 2 0,.al 4 (.agg [.int .i64 0,.int .i64 0,.str [],.nils,.nils]),.al 5 (.bool false)])
def B5o:CC:=(.r [.L 8 2 2,⟨some 9,none,[8],.build [.nils,.nils,.int .i64 0] [(0,2,.t 8)]⟩,.bx 10 9,.m 6 10])
def B04:CC:=(.r [.m 11 6,.m 12 1,.m 13 6,⟨some 14,none,[13],.conv (.rcv 122) (.t 13)⟩,.c 15 121 [11,12,14],.st 5 4 15,⟨none,none,[5],.st 1 (.t 5) (.c (.bool true))⟩])
def C50:CC:=.seq B5n (.seq CC.bad (.seq B5o (.seq B04 CC.ret)))
def C51:List t7:=[.cell 4 true 5,.cell 5 false 1]
theorem C52:O5 Tryz.prog Tryz.f60.results.toList=some C51:=by kernel_rfl
theorem C53:Tryz.f60.body.map (D2 Tryz.prog Tryz.f60.ntmps)=some C50:=by kernel_rfl
def B15:CC:=(.seq (.r [.m 8 1,⟨some 9,none,[8],.conv (.ta 31) (.t 8)⟩,.m 7 9,.e 10 7 0,.e 11 7 1,.m 2 10,.m 3 11]) (.seq (.seq (.r [.m 12 3,.no 13 12]) (.cond (.t 13) (.r [.m 14 1,⟨none,none,[14],.pnk (.t 14)⟩]) CC.skip)) (.r [.m 15 2,.st 1 0 15])))
def C2U:CC:=.seq CC.bad (.seq (.r [.m 5 1,⟨some 6,none,[5],.bin .neq (some [7]) (.t 5) (.c .nili)⟩]) (.cond (.t 6) B15 CC.skip))
theorem C3h:Tryz.f109.body.map (D2 Tryz.prog Tryz.f109.ntmps)=some C2U:=by kernel_rfl
def B16:CC:=(.seq (.seq (.r [.m 9 2,⟨some 10,none,[9],.conv (.ta 173) (.t 9)⟩,.m 8 10,.e 11 8 0,.e 12 8 1,.al 3 (.agg []),.st 0 3 11,.m 4 12]) (.seq (.r [.m 13 4,.no 14 13]) (.cond (.t 14) (.r [.m 15 2,⟨none,none,[15],.pnk (.t 15)⟩]) CC.skip))) (.r [⟨some 16,none,[],.build [.int .i64 0,.int .i64 0,.str [],.nils,.nils] []⟩,.st 5 0 16,⟨none,none,[1],.st 1 (.t 1) (.c (.bool false))⟩]))
def C2V:CC:=.seq CC.bad (.seq (.r [.m 6 2,⟨some 7,none,[6],.bin .neq (some [7]) (.t 6) (.c .nili)⟩]) (.cond (.t 7) B16 CC.skip))
theorem C3i:Tryz.f120.body.map (D2 Tryz.prog Tryz.f120.ntmps)=some C2V:=by kernel_rfl
def B17:CC:=(.r [.al 2 .nils,.al 3 (.int .i64 0)])
def B18:CC:=(.r [.m 6 0,⟨some 7,none,[6],.build [.str [],.int .i64 0] [(0,1,.t 6)]⟩,.bx 8 7,.m 4 8])
def A8G:CC:=(.r [.m 9 4,.c 10 248 [9]])
def A8H:CC:=(.r [.m 11 4,.ck 12 11,.f 13 1 12,.l 14 13,.m 15 0,.ns 16 15,.b 17 .lss 14 16])
def A0N:CC:=(.d [.l 20 2,.m 21 4,.c 22 249 [21],⟨some 23,none,[22],.bslice (.agg [.int .i64 0,.str [],.int .i64 0]) 1 [(0,.t 22)]⟩,⟨some 24,none,[20,23],.app false (.agg [.int .i64 0,.str [],.int .i64 0]) 32 (.t 20) (.t 23)⟩,.st 1 2 24] [(0,2),(0,3)])
def B19:CC:=(.r [.l 25 2,.n 26 25,.k 27 .gtr 26 300])
def A5s:CC:=(.r [⟨some 28,none,[],.call 250 [.c (.int .i64 2)]⟩])
def B1A:CC:=(.r [.m 18 4,.c 19 248 [18]])
def A8I:CC:=(.r [.l 29 2,.st 1 2 29,.si 1 3 0])
def B4W:CC:=.block 1 (.seq A0N (.seq B19 (.cond (.t 27) A5s CC.skip)))
def A5t:CC:=.seq (.seq A8H (.cond (.t 17) CC.skip (.exit 0))) (.seq B4W B1A)
def C2W:CC:=.seq B17 (.seq CC.bad (.seq B18 (.seq (.seq A8G (.block 0 (.loop A5t))) (.seq A8I CC.ret))))
def B9v:List t7:=[.cell 2 false 1,.cell 3 false 1]
theorem B9w:O5 Tryz.prog Tryz.f175.results.toList=some B9v:=by kernel_rfl
theorem C3j:Tryz.f175.body.map (D2 Tryz.prog Tryz.f175.ntmps)=some C2W:=by kernel_rfl
def A8J:CC:=(.seq (.r [.m 9 2,⟨some 10,none,[9],.conv (.ta 31) (.t 9)⟩,.m 8 10,.e 11 8 0,.e 12 8 1,.m 3 11,.m 4 12]) (.seq (.seq (.r [.m 13 4,.no 14 13]) (.cond (.t 14) (.r [.m 15 2,⟨none,none,[15],.pnk (.t 15)⟩]) CC.skip)) (.r [.m 16 3,⟨none,none,[0],.st 1 (.t 0) (.c .nils)⟩,.st 1 1 16])))
def C2X:CC:=.seq CC.bad (.seq (.r [.m 6 2,⟨some 7,none,[6],.bin .neq (some [7]) (.t 6) (.c .nili)⟩]) (.cond (.t 7) A8J CC.skip))
theorem C3k:Tryz.f247.body.map (D2 Tryz.prog Tryz.f247.ntmps)=some C2X:=by kernel_rfl
def bR(s:I4)(m:Nat):Bx:=⟨[.agg [.sl (s.types.map J3),.sl (s.things.map X2),.int .i64 m]],.agg [.sl (s.types.map J3),.sl (s.things.map X2),.int .i64 0],false,false⟩
theorem s7(s:I4)(m:Nat):bR s m=⟨[.agg [.sl (s.types.map J3),.sl (s.things.map X2),.int .i64 m]],.agg [.sl (s.types.map J3),.sl (s.things.map X2),.int .i64 0],false,false⟩:=rfl
def tm:AV:=.iface 173 (.agg [])
def rnR(s:I4)(J m w:Nat)(v:AV):Except AV (AV×List (Nat×Option Bx)):=if m+w<=2000 then .ok (v,[(J,some (bR s (m+w)))]) else .error tm
theorem K8{s:I4}{J m w:Nat}{v:AV}(h:m+w<=2000):rnR s J m w v = .ok (v,[(J,some (bR s (m+w)))]):=if_pos h
theorem J8{s:I4}{J m w:Nat}{v:AV}(h:¬m+w<=2000):rnR s J m w v = .error tm:=if_neg h
theorem B5p(s:I4)(J m:Nat)(k n:Int)(tx:List UInt8)(id:Nat)(hm:m<=2000):Y0 Tryz.prog 186 [.ptr J 0 0,.agg [.int .i64 k,.int .i64 n,.str tx,.nils,.nils]] [(J,bR s m)] id (rnR s J m 1 (.agg [.int .i64 k,.int .i64 n,.str tx,.nils,.nils])):=by
 have hw:IntKind.i64.wrap ((m:Int)+1)=((m+1:Nat):Int):=A5 (by omega);rw[s7];refine A31 w186.hf w186.hc w186.hn w186.hr (by simp[Tryz.ntmps186]) fun E hP hR hPn hl hid hB hu=>?_;refine A3 74 ?_;simp[w186];have hJ:=hl (J,_) (List.mem_cons_self ..);simp only at hJ;have J1:=lf hJ;simp[J1,hw];refine⟨fun h=>?_,fun h=>?_⟩
 ·refine A3 9 ?_;simp;refine B0e (by simp<;>rfl) (by simp) ⟨by simp,hPn _ _ (J8 (by omega)) rfl (by simp[J1])⟩
 ·refine A3 4000 ?_;simp[J1];have hrn:H2 []:=by simp[bR,J1,A4 hid]
  refine hR _ _ _ (K8 (by omega)) ?_;refine E9 (by simp[bR,J1,A4 hid]<;>rfl) [] hrn ⟨?_,?_,?_,?_,?_,?_⟩<;>(try simp[bR,J1,A4 hid])
inductive H4 where
 | mk (kind n:Int) (text:List UInt8) (keys:List (List UInt8)) (list:List H4)
mutual
def eO:H4->AV
 | .mk k n t ks l=>.agg [.int .i64 k,.int .i64 n,.str t,.sl (ks.map .str),.sl (eOs l)]
def eOs:List H4->List AV
 | []=>[]
 | o::r=>eO o::eOs r
end
theorem B5q(l:List H4):eOs l=l.map eO:=by
 induction l with
 | nil=>rfl
 | cons o r ih=>simp[eOs,ih]
theorem A1T(k n:Int)(t:List UInt8)(ks:List (List UInt8))(l:List H4):eO (.mk k n t ks l) = .agg [.int .i64 k,.int .i64 n,.str t,.sl (ks.map .str),.sl (l.map eO)]:=by
 simp[eO,B5q]
theorem X6(l:List (List UInt8)):F8 (l.map AV.str)=true:=E8 (fun _=>rfl) l
mutual
theorem A3n:∀o:H4,(eO o).pureB=true
 | .mk k n t ks l=>by simp[eO,X6,B34 l]
theorem B34:∀l:List H4,F8 (eOs l)=true
 | []=>rfl
 | o::r=>by simp[eOs,A3n o,B34 r]
end
theorem z8(l:List H4):F8 (l.map eO)=true:=E8 A3n l
def A1U:H4:=.mk 1 0 [] [] []
def A0m(n:Int):H4:=.mk 2 n [] [] []
def n9(t:List UInt8):H4:=.mk 3 0 t [] []
def U6(l:List H4):H4:=.mk 4 0 [] [] l
def A0O(ks:List (List UInt8))(l:List H4):H4:=.mk 5 0 [] ks l
def thA(s:I4)(kd id:Int):Option Tg:=if F7 s.things kd id=true then s.things[C8 s.things kd id]? else none
def A8K(s:I4)(t:Tg)(name:List UInt8):Option (Fd×Cl) :=
 match (D8 s.types t.type)[(C2 (fun f=>f.name==name) (D8 s.types t.type) 0).toNat]?,t.cells[(C2 (fun f=>f.name==name) (D8 s.types t.type) 0).toNat]? with
 | some f,some c=>some (f,c)
 | _,_=>none
def A3L(args:List Ag)(ids:List Int):List Int:=match args with
 | []=>ids
 | a::_=>ids.take a.n.toNat
def thW(s:I4)(g:Tg->Nat)(kd id:Int):Nat:=match thA s kd id with
 | none=>1
 | some u=>1+g u
def thO(s:I4)(ks:List (List UInt8))(g:Tg->List H4)(kd id:Int):H4:=match thA s kd id with
 | none=>A1U
 | some u=>A0O ks (g u)
mutual
def wS(s:I4):F5->Tg->Nat
 | .mk _ name args kids,t=>if name=tId then 1 else match A8K s t name with
  | none=>1
  | some (f,c)=>if f.kind=1\/f.kind=2 then 1
   else if f.kind=4 then 1+((A3L args c.ids).map (thW s (wL s kids) (C4 s.types f.of))).sum
   else match c.ids with
    | []=>1
    | x::_=>thW s (wL s kids) (C4 s.types f.of) x
def wL(s:I4):List F5->Tg->Nat
 | [],_=>0
 | a::r,t=>wS s a t+wL s r t
end
mutual
def oS(s:I4):F5->Tg->H4
 | .mk _ name args kids,t=>if name=tId then A0m t.id else match A8K s t name with
  | none=>A1U
  | some (f,c)=>if f.kind=1 then A0m c.n else if f.kind=2 then n9 c.text
   else if f.kind=4 then U6 ((A3L args c.ids).map (thO s (kids.map D4) (oL s kids) (C4 s.types f.of)))
   else match c.ids with
    | []=>A1U
    | x::_=>thO s (kids.map D4) (oL s kids) (C4 s.types f.of) x
def oL(s:I4):List F5->Tg->List H4
 | [],_=>[]
 | a::r,t=>oS s a t::oL s r t
end
theorem B1B(s:I4)(t:Tg):∀l:List F5,wL s l t=(l.map fun x=>wS s x t).sum
 | []=>by simp[wL]
 | a::r=>by simp[wL,B1B s t r]
theorem A3M(s:I4)(t:Tg):∀l:List F5,oL s l t=l.map fun x=>oS s x t
 | []=>by simp[oL]
 | a::r=>by simp[oL,A3M s t r]
theorem B35{l:List Nat}(i:Nat):(l.take i).sum<=l.sum:=by
 have:l.sum=(l.take i).sum+(l.drop i).sum:=by rw[←List.sum_append,List.take_append_drop]
 omega
theorem A1h{α:Type}{l:List α}{i:Nat}{x:α}(f:α->Nat)(hx:l[i]?=some x):((l.take (i+1)).map f).sum=((l.take i).map f).sum+f x:=by
 rw[List.take_succ,hx]; simp
theorem A5u{α:Type}{l:List α}{i:Nat}(f:α->Nat):((l.take i).map f).sum<=(l.map f).sum:=by
 rw[List.map_take]; exact B35 i
theorem A00{s:I4}{J m:Nat}(k n:Int)(tx:List UInt8)(id:Nat)(h:m+1<=2000):A2 Tryz.prog 186 [.ptr J 0 0,.agg [.int .i64 k,.int .i64 n,.str tx,.nils,.nils]] [(J,bR s m)] id (.agg [.int .i64 k,.int .i64 n,.str tx,.nils,.nils]) [(J,some (bR s (m+1)))]:=by
 have:=B5p s J m k n tx id (by omega);rw[K8 h] at this; exact this
theorem A2b{s:I4}{J m:Nat}(k n:Int)(tx:List UInt8)(id:Nat)(hm:m<=2000)(h:¬m+1<=2000):Y0 Tryz.prog 186 [.ptr J 0 0,.agg [.int .i64 k,.int .i64 n,.str tx,.nils,.nils]] [(J,bR s m)] id (.error tm):=by
 have:=B5p s J m k n tx id hm;rw[J8 h] at this; exact this
def bP(J:Nat):Bx:=⟨[.ptr J 0 0],.ptr J 0 0,false,false⟩
def bT(t:Tg):Bx:=⟨[X2 t],.agg [.int .i64 0,.int .i64 0,.nils],false,false⟩
theorem B9x(s:I4)(t:Tg)(l:List F5)(J A B m:Nat)(id:Nat)(d1:J≠A)(d2:J≠B)(d3:A≠B)(hm:m<=2000)(hl8:l.length<=1000000)
  (hdo:∀x∈l,∀m id,m<=2000->Y0 Tryz.prog 255 [D7 x,.ptr A 0 0,.ptr B 0 0] [(J,bR s m),(A,bP J),(B,bT t)] id (rnR s J m (wS s x t) (eO (oS s x t)))) :
  Y0 Tryz.prog 121 [.ptr J 0 0,.sl (l.map D7),.fn 255 [.ptr A 0 0,.ptr B 0 0]] [(J,bR s m),(A,bP J),(B,bT t)] id (rnR s J m (1+wL s l t) (eO (A0O (l.map D4) (oL s l t)))):=by
 have hsum:=B1B s t l;refine w121.x.1 fun E hP hR hPn hl hid hB hu=>?_;simp[w121];have hJ:=hl (J,_) (List.mem_cons_self ..);simp only at hJ;have J1:=lf hJ;have hA:=hl (A,_) (List.mem_cons_of_mem _ (List.mem_cons_self ..));simp only at hA;have A1:=lf hA;have hB:=hl (B,_) (List.mem_cons_of_mem _ (List.mem_cons_of_mem _ (List.mem_cons_self ..)));simp only at hB;have B1:=lf hB;by_cases h1:m+1<=2000
 rotate_left
 ·refine D5 hP rfl (A2b 5 0 [] _ hm h1) (by simp[J1,A1,B1,d1,d2,d3]) (by simp[J1,A1,B1,d1,d2,d3]<;>rfl) (fun pv hpv=>⟨by simp[J1,A1,B1,d1,d2,d3],by injection hpv with hpv; subst hpv; exact hPn _ _ (J8 (by omega)) rfl (by simp[J1,A1,B1,d1,d2,d3])⟩) (fun v wr h=>by cases h)
 (refine E0 hP rfl (A00 5 0 [] _ h1) (by simp[J1,A1,B1,d1,d2,d3]) (by simp[J1,A1,B1,d1,d2,d3]<;>rfl) ?_; refine A3 4000 ?_; simp[J1,A1,B1,d1,d2,d3]);refine D3 (X:=Nat) (fun i=>⟨[(2,true,.fn 255 [.ptr A 0 0,.ptr B 0 0]),(6,true,.ptr E.n0 0 0),(7,true,.ptr (E.n0+1) 0 0),(13,true,.sl (l.map D7)),(14,true,.int .i64 l.length),(15,true,.int .i64 i)],
   [(J,some (bR s (m+1+((l.take i).map fun x=>wS s x t).sum))),(A,some (bP J)),(B,some (bT t)),(E.n0,some ⟨[.agg [.int .i64 0,.int .i64 0,.str [],.nils,.nils]],.agg [.int .i64 0,.int .i64 0,.str [],.nils,.nils],false,false⟩),(E.n0+1,some ⟨[.agg [.int .i64 5,.int .i64 0,.str [],.bsl (E.n0+2) 0 i,.bsl (E.n0+3) 0 i]],.agg [.int .i64 0,.int .i64 0,.str [],.nils,.nils],false,false⟩),(E.n0+2,some ⟨((l.map D4).map .str).take i,.str [],false,false⟩),(E.n0+3,some ⟨((oL s l t).map eO).take i,.agg [.int .i64 0,.int .i64 0,.str [],.nils,.nils],false,false⟩)],4⟩)
  (fun i=>i<=l.length/\m+1+((l.take i).map fun x=>wS s x t).sum<=2000) (fun i=>l.length - i) 0 ?_ ⟨by omega,by simp; omega⟩ ?_
 ·refine E5.trans (E5.voidBox (E.n0+4096) (by simp; rfl) rfl (.agg [.int .i64 5,.int .i64 0,.str [],.nils,.nils] [.int .i64 5,.int .i64 0,.str [],.bsl (E.n0+9216) 0 0,.nils] rfl (fun m x y h1 h2=>?_)) (.str [])) (E5.trans (E5.voidBox (E.n0+4096) (by simp; rfl) rfl (.agg [.int .i64 5,.int .i64 0,.str [],.bsl (E.n0+9216) 0 0,.nils] [.int .i64 5,.int .i64 0,.str [],.bsl (E.n0+9216) 0 0,.bsl (E.n0+9217) 0 0] rfl (fun m x y h1 h2=>?_)) (.agg [.int .i64 0,.int .i64 0,.str [],.nils,.nils])) ?_)
  ·match m,h1,h2 with
   | 0,h1,h2|1,h1,h2|2,h1,h2|4,h1,h2=>simp at h1 h2; exact .inl (h1.symm.trans h2)
   | 3,h1,h2=>simp at h1 h2; exact .inr ⟨h1.symm,h2.symm⟩
   | m+5,h1,h2=>simp at h1
  ·match m,h1,h2 with
   | 0,h1,h2|1,h1,h2|2,h1,h2|3,h1,h2=>simp at h1 h2; exact .inl (h1.symm.trans h2)
   | 4,h1,h2=>simp at h1 h2; exact .inr ⟨h1.symm,h2.symm⟩
   | m+5,h1,h2=>simp at h1
  ·refine yV [(E.n0,E.n0),(E.n0+1,E.n0+4096),(E.n0+2,E.n0+9216),(E.n0+3,E.n0+9217)] (by simp[bR,bP,bT,J1,A1,B1,d1,d2,d3,Ne.symm d1,Ne.symm d2,Ne.symm d3]) fun hrn=>⟨?_,?_,?_,?_,?_⟩<;>(try simp[bR,bP,bT,J1,A1,B1,d1,d2,d3,Ne.symm d1,Ne.symm d2,Ne.symm d3])
 ·rintro i ⟨hi,hm2⟩ p hp;refine A3 4000 ?_;simp;refine E6 (fun h=>?_) (fun h=>?_)
  ·have h:=of_decide_eq_true h;obtain⟨x,hx,hd⟩:=B6 h;have hi1:IntKind.i64.wrap ((i:Int)+1)=((i+1:Nat):Int):=A5 (by omega);have hxm:=List.mem_of_getElem? hx;have hst:=A1h (fun x=>wS s x t) hx;have hCa:=A3k x;rw[H5] at hCa;have hdx:=hdo x hxm;have hk1:((l.map D4).map AV.str).take (i+1)=((l.map D4).map AV.str).take i++[.str (D4 x)]:=O2 (by simp[hx]);have ho1:((oL s l t).map eO).take (i+1)=((oL s l t).map eO).take i++[eO (oS s x t)]:=O2 (by rw[A3M]; simp[hx]);have hlo:(oL s l t).length=l.length:=(by rw[A3M]; simp);obtain⟨ok,on,ot,oks,ols,hoe⟩:∃(a b:Int) (c:List UInt8) (d:List (List UInt8)) (e:List H4),eO (oS s x t) = .agg [.int .i64 a,.int .i64 b,.str c,.sl (d.map .str),.sl (e.map eO)]:=by
    cases oS s x t with|mk a b c d e=>exact⟨a,b,c,d,e,A1T a b c d e⟩
   rw[hoe,H5] at hdx;rw[hoe] at ho1;simp only[List.map_map] at *;simp[hx,H5 x,J1,A1,B1,d1,d2,d3,Ne.symm d1,Ne.symm d2,Ne.symm d3];refine⟨h,?_⟩;(refine yC rfl (hCa _) ?_; simp[J1,A1,B1,d1,d2,d3,Ne.symm d1,Ne.symm d2,Ne.symm d3]);refine⟨⟨by omega,by omega,by omega⟩,?_⟩;have hsl:=A5u (l:=l) (i:=i+1) (fun x=>wS s x t);by_cases h2:m+1+((l.take i).map fun x=>wS s x t).sum+wS s x t<=2000
   ·have hd2:∀id,A2 Tryz.prog 255 _ _ id _ _:=fun id=>by
     have:=hdx (m+1+((l.take i).map fun x=>wS s x t).sum) id hm2;rw[K8 h2] at this; exact this
    simp only[List.map_take] at *;refine L7 hP rfl rfl (hd2 _) (by simp) (by simp[J1,A1,B1,d1,d2,d3,Ne.symm d1,Ne.symm d2,Ne.symm d3]<;>rfl) ?_;refine A3 4000 ?_;simp[J1,A1,B1,d1,d2,d3,Ne.symm d1,Ne.symm d2,Ne.symm d3];refine⟨⟨by omega,by omega,by omega⟩,?_⟩;have hst2:(List.take (i+1) (List.map (fun x=>wS s x t) l)).sum=(List.take i (List.map (fun x=>wS s x t) l)).sum+wS s x t:=(by simpa only[List.map_take] using hst);refine hp _ (i+1) ⟨h,by omega⟩ (by omega) ?_;refine yV [(E.n0,E.n0),(E.n0+1,E.n0+1),(E.n0+2,E.n0+10244),(E.n0+3,E.n0+19460)] (by simp[hi1,bR,bP,bT,hst2,hk1,ho1,J1,A1,B1,d1,d2,d3,Ne.symm d1,Ne.symm d2,Ne.symm d3]) fun hrn=>⟨?_,?_,?_,?_,?_⟩<;>(try simp[hi1,bR,bP,bT,hst2,hk1,ho1,J1,A1,B1,d1,d2,d3,Ne.symm d1,Ne.symm d2,Ne.symm d3]);refine⟨by omega,C1 rfl (C3 (by rw[←List.map_take]; exact E8 (fun _=>rfl) _) rfl),C1 rfl (C3 (by rw[←List.map_take]; exact z8 _) (by simp[X6,z8]))⟩
   ·have hd2:∀id,Y0 Tryz.prog 255 _ _ id _:=fun id=>by
     have:=hdx (m+1+((l.take i).map fun x=>wS s x t).sum) id hm2;rw[J8 h2] at this; exact this
    simp only[List.map_take] at *;refine A1s hP rfl rfl (hd2 _) (by simp) (by simp[J1,A1,B1,d1,d2,d3,Ne.symm d1,Ne.symm d2,Ne.symm d3]<;>rfl) (fun pv hpv=>⟨by simp[J1,A1,B1,d1,d2,d3,Ne.symm d1,Ne.symm d2,Ne.symm d3],by injection hpv with hpv; subst hpv; exact hPn _ _ (J8 (by omega)) rfl (by simp[J1,A1,B1,d1,d2,d3,Ne.symm d1,Ne.symm d2,Ne.symm d3])⟩) (fun v wr h=>by cases h)
  ·have h:¬i<l.length:=of_decide_eq_false h;have hil:i=l.length:=(by omega);subst hil;simp[J1,A1,B1,d1,d2,d3,Ne.symm d1,Ne.symm d2,Ne.symm d3];have hlo:(oL s l t).length=l.length:=(by rw[A3M]; simp);have hsa:(List.take l.length (List.map (fun x=>wS s x t) l)).sum=wL s l t:=(by rw[hsum,List.take_of_length_le (by simp)]);have hka:List.take l.length (List.map (AV.str∘D4) l)=List.map (AV.str∘D4) l:=List.take_of_length_le (by simp);have hoa:List.take l.length ((oL s l t).map eO)=(oL s l t).map eO:=List.take_of_length_le (by simp[hlo]);simp only[List.map_take] at hm2;rw[hsa] at hm2;unfold A0O at hR;rw[A1T,List.map_map] at hR;have hrn:H2 []:=(by simp[bR,bP,bT,hsa,hka,hoa,hlo,J1,A1,B1,d1,d2,d3,Ne.symm d1,Ne.symm d2,Ne.symm d3,A4 hid]);refine hR _ _ _ (K8 (by omega)) ?_;refine K5 (by simp[bR,bP,bT,hsa,hka,hoa,hlo,J1,A1,B1,d1,d2,d3,Ne.symm d1,Ne.symm d2,Ne.symm d3,A4 hid]<;>rfl) (by simp[bR,bP,bT,hsa,hka,hoa,hlo,J1,A1,B1,d1,d2,d3,Ne.symm d1,Ne.symm d2,Ne.symm d3,A4 hid]<;>exact⟨rfl,rfl⟩) [] hrn ⟨?_,?_,?_,?_,?_,?_⟩<;>(try simp[bR,bP,bT,hsa,hka,hoa,hlo,J1,A1,B1,d1,d2,d3,Ne.symm d1,Ne.symm d2,Ne.symm d3,A4 hid])
   ·exact⟨B4 _ (E8 (fun _=>rfl) _),B4 _ (z8 _)⟩
   ·omega
@[simp] theorem C54 (S:Nat->Prop):F2 S []:=B4 _ rfl
@[simp] theorem C0v (S:Nat->Prop) (l:List F5):F2 S (l.map (AV.str∘D4)):=B4 _ (E8 (fun _=>rfl) l)
@[simp] theorem C3l (S:Nat->Prop) (l:List (List UInt8)):F2 S (l.map .str):=B4 _ (X6 l)
@[simp] theorem C3m (S:Nat->Prop) (l:List H4):F2 S (l.map eO):=B4 _ (z8 l)
attribute [simp] X6 z8
theorem Y0.nrm{P:Program}{f:Nat}{args:List AV}{rd:List (Nat×Bx)}{id:Nat}{s:I4}{J m w:Nat}{v:AV}(h:Y0 P f args rd id (rnR s J m w v)):Y0 P f args rd id (rnR s J m w v.nrm):=by
 by_cases k:m+w<=2000
 ·rw[K8 k] at h ⊢; exact A2.nrm h
 ·rw[J8 k] at h ⊢; exact h
theorem B36(s:I4)(J m:Nat)(id:Nat)(hm:m<=2000):Y0 Tryz.prog 254 [.ptr J 0 0] [(J,bR s m)] id (rnR s J m 1 (eO A1U)):=by
 refine Y0.nrm (v:=.agg [.int .i64 1,.int .i64 0,.str [],.nils,.nils]) ?_;refine w254.x.1 fun E hP hR hPn hl hid hB hu=>?_;simp[w254];have hJ:=hl (J,_) (List.mem_cons_self ..);simp only at hJ;have J1:=lf hJ;by_cases h1:m+1<=2000
 rotate_left
 ·refine D5 hP rfl (A2b 1 0 [] _ hm h1) (by simp[J1]) (by simp[J1]<;>rfl) (fun pv hpv=>⟨by simp[J1],by injection hpv with hpv; subst hpv; exact hPn _ _ (J8 h1) rfl (by simp[J1])⟩) (fun v wr h=>by cases h)
 (refine E0 hP rfl (A00 1 0 [] _ h1) (by simp[J1]) (by simp[J1]<;>rfl) ?_; refine A3 4000 ?_; simp[J1]);have hrn:H2 []:=by simp[bR,J1,A4 hid]
 refine hR _ _ _ (K8 h1) ?_;refine E9 (by simp[bR,J1,A4 hid]<;>rfl) [] hrn ⟨?_,?_,?_,?_,?_,?_⟩<;>(try simp[bR,J1,A4 hid])
theorem B7H{s:I4}{t:Tg}{x:F5}{J A B m w:Nat}{o:H4}(id:Nat)(d1:J≠A)(d2:J≠B)(d3:A≠B)
  (hF:∀id,Y0 Tryz.prog 256 [.ptr J 0 0,X2 t,D7 x] [(J,bR s m)] id (rnR s J m w (eO o))) :
  Y0 Tryz.prog 255 [D7 x,.ptr A 0 0,.ptr B 0 0] [(J,bR s m),(A,bP J),(B,bT t)] id (rnR s J m w (eO o)):=by
 obtain⟨ok,on,ot,oks,ols,hoe⟩:∃(a b:Int) (c:List UInt8) (d:List (List UInt8)) (e:List H4),eO o = .agg [.int .i64 a,.int .i64 b,.str c,.sl (d.map .str),.sl (e.map eO)]:=by
  cases o with|mk a b c d e=>exact⟨a,b,c,d,e,A1T a b c d e⟩
 have hTg:X2 t = .agg [.int .i64 t.type,.int .i64 t.id,.sl (t.cells.map eCl)]:=rfl;unfold bP bT;simp only[hoe,H5 x,hTg] at *;refine w255.x.1 fun E hP hR hPn hl hid hB hu=>?_;simp[w255];have hJ:=hl (J,_) (List.mem_cons_self ..);simp only at hJ;have J1:=lf hJ;have hA:=hl (A,_) (List.mem_cons_of_mem _ (List.mem_cons_self ..));simp only at hA;have A1:=lf hA;have hB:=hl (B,_) (List.mem_cons_of_mem _ (List.mem_cons_of_mem _ (List.mem_cons_self ..)));simp only at hB;have B1:=lf hB;simp[J1,A1,B1,d1,d2,d3,Ne.symm d1,Ne.symm d2,Ne.symm d3];by_cases h1:m+w<=2000
 rotate_left
 ·simp only[J8 h1] at hF;refine D5 hP rfl (hF _) (by simp[J1,A1,B1,d1,d2,d3,Ne.symm d1,Ne.symm d2,Ne.symm d3]) (by simp[J1,A1,B1,d1,d2,d3,Ne.symm d1,Ne.symm d2,Ne.symm d3]<;>rfl) (fun pv hpv=>⟨by simp[J1,A1,B1,d1,d2,d3,Ne.symm d1,Ne.symm d2,Ne.symm d3],by injection hpv with hpv; subst hpv; exact hPn _ _ (J8 h1) rfl (by simp[J1,A1,B1,d1,d2,d3,Ne.symm d1,Ne.symm d2,Ne.symm d3])⟩) (fun v wr h=>by cases h)
 have hF1:∀id,A2 Tryz.prog 256 _ _ id _ _:=fun id=>by
  have:=hF id;rw[K8 h1] at this; exact this
 (refine yC rfl (hF1 _) ?_; simp[J1,A1,B1,d1,d2,d3,Ne.symm d1,Ne.symm d2,Ne.symm d3]);have hrn:H2 []:=by simp[bR,J1,A1,B1,d1,d2,d3,Ne.symm d1,Ne.symm d2,Ne.symm d3,A4 hid]
 refine hR _ _ _ (K8 h1) ?_;refine E9 (by simp[bR,J1,A1,B1,d1,d2,d3,Ne.symm d1,Ne.symm d2,Ne.symm d3,A4 hid]<;>rfl) [] hrn ⟨?_,?_,?_,?_,?_,?_⟩<;>(try simp[bR,J1,A1,B1,d1,d2,d3,Ne.symm d1,Ne.symm d2,Ne.symm d3,A4 hid])
theorem B37{s:I4}{kids:List F5}{J m:Nat}{kd tid:Int}(id:Nat)(hm:m<=2000)(h12:s.things.length<=1000)(hk8:kids.length<=1000000)
  (hF:∀u,thA s kd tid=some u->∀x∈kids,∀m id,m<=2000->Y0 Tryz.prog 256 [.ptr J 0 0,X2 u,D7 x] [(J,bR s m)] id (rnR s J m (wS s x u) (eO (oS s x u)))) :
  Y0 Tryz.prog 188 [.ptr J 0 0,.int .i64 kd,.int .i64 tid,.sl (kids.map D7)] [(J,bR s m)] id (rnR s J m (thW s (wL s kids) kd tid) (eO (thO s (kids.map D4) (oL s kids) kd tid))):=by
 have hFi:=fun id=>A9a s kd tid id (by omega);unfold I2 at hFi;cases hb:F7 s.things kd tid with
 | false =>
  have ht:thA s kd tid=none:=by unfold thA; rw[hb]; rfl
  have e1:thW s (wL s kids) kd tid=1:=by unfold thW; rw[ht]
  have e2:thO s (kids.map D4) (oL s kids) kd tid=A1U:=by unfold thO; rw[ht]
  rw[hb] at hFi;rw[e1,e2];have hN:=fun id=>B36 s J m id hm;have hoe:eO A1U = .agg [.int .i64 1,.int .i64 0,.str [],.sl [],.sl []]:=rfl;rw[hoe] at hN ⊢;rw[s7] at *;refine w188.x.1 fun E hP hR hPn hl hid hB hu=>?_;simp[w188];have hJ:=hl (J,_) (List.mem_cons_self ..);simp only at hJ;have J1:=lf hJ;simp[J1];(refine yC rfl (hFi _) ?_; simp[J1]);by_cases h1:m+1<=2000
  rotate_left
  ·simp only[J8 h1] at hN;refine D5 hP rfl (hN _) (by simp[J1]) (by simp[J1]<;>rfl) (fun pv hpv=>⟨by simp[J1],by injection hpv with hpv; subst hpv; exact hPn _ _ (J8 h1) rfl (by simp[J1])⟩) (fun v wr h=>by cases h)
  have hN1:∀id,A2 Tryz.prog 254 _ _ id _ _:=fun id=>by
   have:=hN id;rw[K8 h1] at this; exact this
  (refine yC rfl (hN1 _) ?_; simp[J1]);have hrn:H2 []:=by simp[bR,J1,A4 hid]
  refine hR _ _ _ (K8 h1) ?_;refine E9 (by simp[bR,J1,A4 hid]<;>rfl) [] hrn ⟨?_,?_,?_,?_,?_,?_⟩<;>(try simp[bR,J1,A4 hid])
 | true =>
  obtain⟨u,hus⟩:∃u,s.things[C8 s.things kd tid]?=some u:=by
   unfold F7 at hb;simp at hb;exact⟨_,List.getElem?_eq_getElem hb.1⟩
  have hlt:=(List.getElem?_eq_some_iff.1 hus).1;have ht:thA s kd tid=some u:=by unfold thA; rw[hb,if_pos rfl,hus]
  have e1:thW s (wL s kids) kd tid=1+wL s kids u:=by unfold thW; rw[ht]
  have e2:thO s (kids.map D4) (oL s kids) kd tid=A0O (kids.map D4) (oL s kids u):=by unfold thO; rw[ht]
  rw[hb] at hFi;rw[e1,e2];have hP2:=fun A B id (d1:J≠A) (d2:J≠B) (d3:A≠B)=>B9x s u kids J A B m id d1 d2 d3 hm hk8 fun x hx m id hm=>B7H id d1 d2 d3 fun id=>hF u ht x hx m id hm;unfold A0O at hP2 ⊢;rw[A1T] at hP2 ⊢;have hTu:X2 u = .agg [.int .i64 u.type,.int .i64 u.id,.sl (u.cells.map eCl)]:=rfl;unfold bP bT at hP2;rw[hTu] at hP2;rw[s7] at *;generalize hv:(AV.agg [.int .i64 5,.int .i64 0,.str [],.sl ((kids.map D4).map .str),.sl ((oL s kids u).map eO)])=V at hP2 ⊢;refine w188.x.1 fun E hP hR hPn hl hid hB hu=>?_;simp[w188];have hJ:=hl (J,_) (List.mem_cons_self ..);simp only at hJ;have J1:=lf hJ;simp[J1];(refine yC rfl (hFi _) ?_; simp[hus,hTu,J1]);refine⟨hlt,?_⟩;have hP3:=fun id=>hP2 E.n0 (E.n0+24576) id (by simp[J1]) (by simp[J1]) (by omega);by_cases h1:m+(1+wL s kids u)<=2000
  rotate_left
  ·simp only[J8 h1] at hP3;refine D5 hP rfl (hP3 _) (by simp[J1]) (by simp[J1]<;>rfl) (fun pv hpv=>⟨by simp[J1],by injection hpv with hpv; subst hpv; exact hPn _ _ (J8 h1) rfl (by simp[J1])⟩) (fun v wr h=>by cases h)
  have hP4:∀id,A2 Tryz.prog 121 _ _ id _ _:=fun id=>by
   have:=hP3 id;rw[K8 h1] at this; exact this
  rw[←hv] at hP4;(refine yC rfl (hP4 _) ?_; simp[J1]);rw[←hv] at hR;have hrn:H2 []:=by simp[bR,J1,A4 hid]
  refine hR _ _ _ (K8 h1) ?_;refine E9 (by simp[bR,J1,A4 hid]<;>rfl) [] hrn ⟨?_,?_,?_,?_,?_,?_⟩<;>(try simp[bR,J1,A4 hid])
mutual
theorem B9y:∀o:H4,(eO o).nrm=eO o
 | .mk k n t ks l=>by
  have h1:A46 (ks.map AV.str)=ks.map AV.str:=by
   induction ks with
   | nil=>rfl
   | cons a r ih=>simp[A46,AV.nrm,ih]
  simp[eO,AV.nrm,A46,h1,B1C l]
theorem B1C:∀l:List H4,A46 (eOs l)=eOs l
 | []=>rfl
 | o::r=>by simp[eOs,A46,B9y o,B1C r]
end
theorem B5r{s:I4}{kids:List F5}{ids:List Int}{J m:Nat}{kd:Int}{W:Int->Nat}{O:Int->H4}(id:Nat)(hm:m<=2000)(hi8:ids.length<=1000000)
  (hT:∀x∈ids,∀m id,m<=2000->Y0 Tryz.prog 188 [.ptr J 0 0,.int .i64 kd,.int .i64 x,.sl (kids.map D7)] [(J,bR s m)] id (rnR s J m (W x) (eO (O x)))) :
  Y0 Tryz.prog 189 [.ptr J 0 0,.int .i64 kd,.sl (ids.map eI),.sl (kids.map D7)] [(J,bR s m)] id (rnR s J m (1+(ids.map W).sum) (eO (U6 (ids.map O)))):=by
 have hres:(AV.agg [.int .i64 4,.int .i64 0,.str [],.nils,.sl ((ids.map O).map eO)]).nrm=eO (U6 (ids.map O)):=by
  have:=B1C (ids.map O);rw[B5q] at this;unfold U6;rw[A1T];simp[AV.nrm,A46] at this ⊢;exact this
 rw[←hres];refine Y0.nrm ?_;refine w189.x.1 fun E hP hR hPn hl hid hB hu=>?_;simp[w189];have hJ:=hl (J,_) (List.mem_cons_self ..);simp only at hJ;have J1:=lf hJ;by_cases h1:m+1<=2000
 rotate_left
 ·refine D5 hP rfl (A2b 4 0 [] _ hm h1) (by simp[J1]) (by simp[J1]<;>rfl) (fun pv hpv=>⟨by simp[J1],by injection hpv with hpv; subst hpv; exact hPn _ _ (J8 (by omega)) rfl (by simp[J1])⟩) (fun v wr h=>by cases h)
 (refine E0 hP rfl (A00 4 0 [] _ h1) (by simp[J1]) (by simp[J1]<;>rfl) ?_; refine A3 4000 ?_; simp[J1]);refine D3 (X:=Nat) (fun i=>⟨[(0,true,.ptr J 0 0),(1,true,.int .i64 kd),(3,true,.sl (kids.map D7)),(8,true,.ptr E.n0 0 0),(9,true,.ptr (E.n0+1) 0 0),(15,true,.sl (ids.map eI)),(16,true,.int .i64 ids.length),(17,true,.int .i64 i)],
   [(J,some (bR s (m+1+((ids.take i).map W).sum))),(E.n0,some ⟨[.agg [.int .i64 0,.int .i64 0,.str [],.nils,.nils]],.agg [.int .i64 0,.int .i64 0,.str [],.nils,.nils],false,false⟩),(E.n0+1,some ⟨[.agg [.int .i64 4,.int .i64 0,.str [],.nils,.bsl (E.n0+2) 0 i]],.agg [.int .i64 0,.int .i64 0,.str [],.nils,.nils],false,false⟩),(E.n0+2,some ⟨((ids.map O).map eO).take i,.agg [.int .i64 0,.int .i64 0,.str [],.nils,.nils],false,false⟩)],3⟩)
  (fun i=>i<=ids.length/\m+1+((ids.take i).map W).sum<=2000) (fun i=>ids.length - i) 0 ?_ ⟨by omega,by simp; omega⟩ ?_
 ·refine E5.trans (E5.voidBox (E.n0+4096) (by simp; rfl) rfl (.agg [.int .i64 4,.int .i64 0,.str [],.nils,.nils] [.int .i64 4,.int .i64 0,.str [],.nils,.bsl (E.n0+9216) 0 0] rfl (fun m x y h1 h2=>?_)) (.agg [.int .i64 0,.int .i64 0,.str [],.nils,.nils])) ?_
  ·match m,h1,h2 with
   | 0,h1,h2|1,h1,h2|2,h1,h2|3,h1,h2=>simp at h1 h2; exact .inl (h1.symm.trans h2)
   | 4,h1,h2=>simp at h1 h2; exact .inr ⟨h1.symm,h2.symm⟩
   | m+5,h1,h2=>simp at h1
  ·refine yV [(E.n0,E.n0),(E.n0+1,E.n0+4096),(E.n0+2,E.n0+9216)] (by simp[bR,J1]) fun hrn=>⟨?_,?_,?_,?_,?_⟩<;>(try simp[bR,J1])
 ·rintro i ⟨hi,hm2⟩ p hp;refine A3 4000 ?_;simp;refine E6 (fun h=>?_) (fun h=>?_)
  ·have h:=of_decide_eq_true h;obtain⟨x,hx,hd⟩:=B6 h;have hi1:IntKind.i64.wrap ((i:Int)+1)=((i+1:Nat):Int):=A5 (by omega);have hxm:=List.mem_of_getElem? hx;have hst:=A1h W hx;have hdx:=hT x hxm;have ho1:((ids.map O).map eO).take (i+1)=((ids.map O).map eO).take i++[eO (O x)]:=O2 (by simp[hx]);obtain⟨ok,on,ot,oks,ols,hoe⟩:∃(a b:Int) (c:List UInt8) (d:List (List UInt8)) (e:List H4),eO (O x) = .agg [.int .i64 a,.int .i64 b,.str c,.sl (d.map .str),.sl (e.map eO)]:=by
    cases O x with|mk a b c d e=>exact⟨a,b,c,d,e,A1T a b c d e⟩
   rw[hoe] at ho1;simp only[hoe] at hdx;have hsl:=A5u (l:=ids) (i:=i+1) W;have heI:eI x = .int .i64 x:=rfl;simp[hx,heI,J1];refine⟨h,?_⟩;by_cases h2:m+1+((ids.take i).map W).sum+W x<=2000
   ·have hd2:∀id,A2 Tryz.prog 188 _ _ id _ _:=fun id=>by
     have:=hdx (m+1+((ids.take i).map W).sum) id hm2;rw[K8 h2] at this; exact this
    have hst2:(List.take (i+1) (List.map W ids)).sum=(List.take i (List.map W ids)).sum+W x:=(by simpa only[List.map_take] using hst);simp only[List.map_take,List.map_map] at *;(refine yC rfl (hd2 _) ?_; simp[J1]);refine⟨⟨by omega,by omega,by omega⟩,?_⟩;refine hp _ (i+1) ⟨h,by omega⟩ (by omega) ?_;refine yV [(E.n0,E.n0),(E.n0+1,E.n0+1),(E.n0+2,E.n0+12291)] (by simp[hi1,bR,hst2,ho1,J1]) fun hrn=>⟨?_,?_,?_,?_,?_⟩<;>(try simp[hi1,bR,hst2,ho1,J1]);exact⟨by omega,C1 rfl (C3 (by rw[←List.map_take]; exact E8 (fun _=>A3n _) _) (by simp[X6,z8]))⟩
   ·have hd2:∀id,Y0 Tryz.prog 188 _ _ id _:=fun id=>by
     have:=hdx (m+1+((ids.take i).map W).sum) id hm2;rw[J8 h2] at this; exact this
    simp only[List.map_take,List.map_map] at *;refine D5 hP rfl (hd2 _) (by simp[J1]) (by simp[J1]<;>rfl) (fun pv hpv=>⟨by simp[J1],by injection hpv with hpv; subst hpv; exact hPn _ _ (J8 (by omega)) rfl (by simp[J1])⟩) (fun v wr h=>by cases h)
  ·have h:¬i<ids.length:=of_decide_eq_false h;have hil:i=ids.length:=(by omega);subst hil;simp[J1];have hsa:(List.take ids.length (List.map W ids)).sum=(List.map W ids).sum:=(by rw[List.take_of_length_le (by simp)]);have hoa:List.take ids.length (List.map (eO∘O) ids)=List.map (eO∘O) ids:=List.take_of_length_le (by simp);simp only[List.map_take,List.map_map] at *;rw[hsa] at hm2;have hrn:H2 []:=(by simp[bR,hsa,hoa,J1,A4 hid]);refine hR _ _ _ (K8 (by omega)) ?_;refine K5 (by simp[bR,hsa,hoa,J1,A4 hid]<;>rfl) (by simp[bR,hsa,hoa,J1,A4 hid]<;>exact⟨rfl,rfl⟩) [] hrn ⟨?_,?_,?_,?_,?_,?_⟩<;>(try simp[bR,hsa,hoa,J1,A4 hid])
   ·exact B4 _ (E8 (fun _=>A3n _) _)
   ·omega
end Go.Am
