/- Parts of the proof: an abstract machine for Go functions, and what functions of the program give back (Sx1, Qx1, Sx2, Qx2, Dp1, Dw3, CcY, CcX, Ex1, Ex2, Ex3, Ex4, Ex5). No condition. -/
import Derived.Test.YtphjabjjnncebaaGreatDoorXP
import Derived.Test.YtphjabjjnncebaaGreatDoorXI
import Derived.Test.YtphjabjjnncebaaGreatDoorXJ
import Derived.Test.YtphjabjjnncebaaGreatDoorXO
import Derived.Test.YtphjabjjnncebaaGreatDoorXG
import Derived.Test.YtphjabjjnncebaaGreatDoorProg
import Derived.KernelRfl
import Derived.Test.YtphjabjjnncebaaGreatDoorXF
import Derived.Test.YtphjabjjnncebaaGreatDoorXE
set_option maxRecDepth 100000
set_option linter.all false
set_option maxHeartbeats 8000000
namespace Go.Am
open Go Go.Proofs Go.RowKit
def isS(l:List Tk)(c:UInt8):Bool:=match l with
 | t::_=>t.kind==4&&t.text==[c]
 | []=>false
def isW(l:List Tk):Bool:=match l with
 | t::_=>t.kind==1
 | []=>false
def txt(l:List Tk):List UInt8:=match l with
 | t::_=>t.text
 | []=>[]
def isV(l:List Tk):Bool:=match l with
 | t::_=>t.kind==2||t.kind==3
 | []=>false
def C6G(nm:List UInt8)(l:List Tk):Ag:=match l with
 | t::_=>⟨nm,t.kind==3,t.text,t.n⟩
 | []=>⟨nm,false,[],0⟩
def pAg(l:List Tk):Option (Ag×List Tk):=if isW l=true/\isS (l.drop 1) 58=true/\isV (l.drop 2)=true then some (C6G (txt l) (l.drop 2),l.drop 3) else none
def A1t:Nat->List Ag->List Tk->Option (List Ag×List Tk)
 | 0,_,_=>none
 | n+1,acc,l=>match pAg l with
  | none=>none
  | some p=>if isS p.2 41=true then some (acc++[p.1],p.2.drop 1) else A1t n (acc++[p.1]) p.2
def A2v(l:List Tk):Option (List Ag×List Tk):=if isS l 40=true then A1t (l.length+1) [] (l.drop 1) else some ([],l)
def pHd(l:List Tk):Option (List UInt8×List UInt8×List Tk) :=
 if isW l=true then (if isS (l.drop 1) 58=true then (if isW (l.drop 2)=true then some (txt l,txt (l.drop 2),l.drop 3) else none) else some ([],txt l,l.drop 1)) else none
mutual
def A1u:Nat->List Tk->Option (F6×List Tk)
 | 0,_=>none
 | n+1,l=>match pHd l with
  | none=>none
  | some (a,nm,u)=>match A2v u with
   | none=>none
   | some (xs,v)=>if isS v 123=true then (match u9 n v with
     | none=>none
     | some (k,w)=>some (.mk a nm xs k,w)) else some (.mk a nm xs [],v)
def u9:Nat->List Tk->Option (List F6×List Tk)
 | 0,_=>none
 | n+1,l=>if isS l 123=true then U3 n [] (l.drop 1) else none
def U3:Nat->List F6->List Tk->Option (List F6×List Tk)
 | 0,_,_=>none
 | n+1,acc,l=>match A1u n l with
  | none=>none
  | some (s,u)=>if isS u 125=true then some (acc++[s],u.drop 1) else U3 n (acc++[s]) u
end
def B1E(l:List Tk):Option (List F6):=match u9 (3*l.length+3) l with
 | none=>none
 | some (q,u)=>if u=[] then some q else none
def A3S(o:Option (List F6)):Except Int (List F6):=match o with
 | none=>.error 1
 | some q=>if V8 q=0 then .ok q else .error (V8 q)
def A4W(s:List UInt8):Except Int (List F6):=match A5E s with
 | .error e=>.error e
 | .ok l=>A3S (B1E l)
theorem C42{s:List UInt8}{l:List F6}(h:A4W s = .ok l):V8 l=0:=by
 unfold A4W at h;split at h
 ·cases h
 ·unfold A3S at h;split at h
  ·cases h
  ·split at h
   ·rename_i h2;injection h with h
    rw[←h]; exact h2
   ·cases h
def A60:List Bt->List Bt->Bool
 | _,[]=>false
 | ah,b::r=>(ah.any fun x=>x.number==b.number)||A60 (ah++[b]) r
def opE(l:List Ty)(d:Dk):Int:=if J2 l≠0 then J2 l else if F2 d≠0 then F2 d else if A60 [] (H3 d.seg)=true then 6 else U7 ⟨l,[]⟩ (P3 (H3 d.seg))
def opS(l:List Ty)(d:Dk):H0:=r8 ⟨l,[]⟩ (P3 (H3 d.seg))
structure DOk(l:List Ty)(d:Dk):Prop where
 types:J2 l=0
 disk:F2 d=0
 once:A60 [] (H3 d.seg)=false
 all:U7 ⟨l,[]⟩ (P3 (H3 d.seg))=0
theorem A0Q{l:List Ty}{d:Dk}:opE l d=0↔DOk l d:=by
 unfold opE;constructor
 ·intro h;by_cases h1:J2 l=0
  rotate_left
  ·rw[zj h1] at h; exact absurd h h1
  by_cases h2:F2 d=0
  rotate_left
  ·rw[zf (by simpa using h1),zj h2] at h; exact absurd h h2
  rw[zf (by simpa using h1),zf (by simpa using h2)] at h;split at h
  ·cases h
  ·rename_i h3;exact⟨h1,h2,by simpa using h3,h⟩
 ·rintro⟨h1,h2,h3,h4⟩;rw[zf (by simpa using h1),zf (by simpa using h2),zf (by simp[h3]),h4]
theorem A2G{s:H0}{e:Ev}{r:List Ev}:U7 s (e::r)=if U6 s e≠0 then U6 s e else U7 (A06 s e) r:=rfl
theorem C09{a b:List Ev}:∀{s:H0},U7 s a=0->U7 s (a++b)=U7 (r8 s a) b:=by
 induction a with
 | nil=>intro s _; rfl
 | cons e r ih =>
  intro s h;rw[A2G] at h;rw[yv,A2G];by_cases hr:U6 s e=0
  ·rw[zf (by simpa using hr)] at h ⊢;exact ih h
  ·rw[zj hr] at h;exact absurd h hr
theorem C0A{a b:List Ev}:∀{s:H0},U7 s (a++b)=0->U7 s a=0:=by
 induction a with
 | nil=>intro s _; rfl
 | cons e r ih =>
  intro s h;rw[yv,A2G] at h;rw[A2G];by_cases hr:U6 s e=0
  ·rw[zf (by simpa using hr)] at h ⊢;exact ih h
  ·rw[zj hr] at h;exact absurd h hr
theorem B38(a b:List Bt):P3 (a++b)=P3 a++P3 b:=by simp[P3]
theorem C0B(b:Bt):P3 [b]=b.events:=by simp[P3]
theorem C0C(ah a:List Bt)(b:Bt):A60 ah (a++[b])=(A60 ah a||(ah++a).any fun x=>x.number==b.number):=by
 induction a generalizing ah with
 | nil=>simp[A60]
 | cons x r ih=>simp[A60,ih,Bool.or_assoc]
def A0y(l:List Ty)(d:Dk)(at_:Nat):H0:=r8 ⟨l,[]⟩ (P3 ((H3 d.seg).take at_))
theorem A3y{d:Dk}(h:F2 d=0):(H3 d.seg).length<=3200/\∀b∈H3 d.seg,I2 b=0:=by
 have g:=B5R h;constructor
 ·have h8:=g.h8;have h4:=g.h4;generalize d.seg=l at *;have:∀l:List (List UInt8),(∀s∈l,s.length<=400)->(H3 l).length<=400*l.length:=fun l=>by
   induction l with
   | nil=>intro _; simp[H3]
   | cons s r ih =>
    intro h;have h1:=B8t s;have h2:=h s (za ..);have h3:=ih fun x hx=>h x (zb _ hx);simp only[H3,xj,yl,yd] at h3 ⊢; omega
  have:=this l h4;omega
 ·intro b hb;obtain⟨s,hs,hb⟩:=xy.1 hb;exact (M9 s 0 (by omega)).2.2.2.2.2.2 b hb
theorem A18{b:Bt}(h:I2 b=0):b.events.length<=8/\∀e∈b.events,X6 e=0:=by
 unfold I2 at h;split at h
 ·cases h
 split at h
 ·cases h
 split at h
 ·cases h
 rename_i h8;exact⟨by omega,A1T.1 h⟩
theorem C0D{e:Ev}(h:X6 e=0):I64 e.n:=by
 unfold X6 at h;split at h
 ·contradiction
 split at h
 ·cases h
 rename_i hq;unfold I64; omega
theorem A8P{l:List Bt}(h:∀b∈l,I2 b=0):∀e∈P3 l,I64 e.n:=fun e he=>by
 obtain⟨b,hb,he⟩:=xy.1 he;exact C0D ((A18 (h b hb)).2 e he)
def opV(e:Int)(id:Nat):AV:=if e=0 then .ptr id 0 0 else .nilp
def opW(e:Int)(s:H0)(bs:List Bt)(id:Nat):List (Nat×Option Bx):=if e=0 then [(id,some (bxO s bs))] else []
theorem B1F(l:List Ty)(d:Dk)(id:Nat):A2 Tryz.prog 46 [.sl (l.map I8),eDk d] [] id (.tup [opV (opE l d) id,.int .i64 (opE l d)]) (opW (opE l d) (opS l d) (H3 d.seg) id):=by
 have hC:=fun id=>A5h l id;have hO:=fun id=>C1m d id;unfold eDk at hO ⊢;by_cases h1:J2 l=0
 rotate_left
 ·have e:opE l d=J2 l:=by unfold opE; rw[zj h1]
  rw[e];have e1:opV (J2 l) id = .nilp:=by unfold opV; rw[zf h1]
  have e2:opW (J2 l) (opS l d) (H3 d.seg) id=[]:=by unfold opW; rw[zf h1]
  rw[e1,e2];refine w46.e.1 fun E hP hR hl hid=>?_;simp[w46];(refine yH rfl (hC _) ?_; simp);refine A9 (by simpa using h1) ?_;simp;exact yP hR
 rw[h1] at hC;by_cases h2:F2 d=0
 rotate_left
 ·have e:opE l d=F2 d:=by unfold opE; rw[zf (by simpa using h1),zj h2]
  rw[e];have e1:opV (F2 d) id = .nilp:=by unfold opV; rw[zf h2]
  have e2:opW (F2 d) (opS l d) (H3 d.seg) id=[]:=by unfold opW; rw[zf h2]
  rw[e1,e2];simp only[zf h2] at hO;refine w46.e.1 fun E hP hR hl hid=>?_;simp[w46];(refine yH rfl (hC _) ?_; simp);(refine yH rfl (hO _) ?_; simp);refine A9 (by simpa using h2) ?_;simp;exact yP hR
 simp only[zj h2] at hO;rw[h2] at hO;have hbs:=A3y h2;have hev:=A8P hbs.2;have hop:opE l d=if A60 [] (H3 d.seg)=true then 6 else U7 ⟨l,[]⟩ (P3 (H3 d.seg)):=by
  unfold opE; rw[zf (by simpa using h1),zf (by simpa using h2)]
 have hos:opS l d=r8 ⟨l,[]⟩ (P3 (H3 d.seg)):=rfl;rw[hop,hos];generalize H3 d.seg=bs at *;refine w46.e.1 fun E hP hR hl hid=>?_;simp[w46];(refine yH rfl (hC _) ?_; simp);(refine yH rfl (hO _) ?_; simp);refine D0 (X:=Nat) (fun i=>⟨[(0,true,.sl (l.map I8)),(7,true,.sl (bs.map Y9)),(28,true,.sl (bs.map Y9)),(29,true,.int .i64 bs.length),(30,true,.int .i64 i)],[],0⟩)
  (fun i=>i<=bs.length/\A60 (bs.take i) (bs.drop i)=A60 [] bs) (fun i=>bs.length - i) 0 ?_ ⟨by omega,by simp⟩ ?_
 ·refine yV [] (by simp) fun hrn=>⟨?_,?_,?_,?_,?_⟩<;>(try simp)
 rintro i ⟨hi,hf⟩ p hp;rcases yh i bs.length with h|h
 ·obtain⟨b,hb,hd⟩:=B2 h;have hi1:IntKind.i64.wrap ((i:Int)+1)=((i+1:Nat):Int):=A5 (by omega);have hst:bs.take (i+1)=bs.take i++[b]:=by rw[vk,hb]; rfl
  have hli:bs[i]=b:=by
   rw[zc h] at hb;injection hb
  rw[hd] at hf;simp only[A60] at hf;have hcf:=fun j id=>A9g 104 j (Y9 b) (.agg [.int .i64 0,.nils]) b.number (B2Q b) (fun x id=>B8y x b j id) (bs.take i) id (by rw[zw]; omega);have htl:(bs.take i).length=i:=by rw[zw]; omega
  unfold Y9 at hcf;rw[yu] at hcf;refine A3 4000 ?_;simp[h,hli,Y9];refine⟨by omega,?_⟩;(refine yH rfl (hcf _ _) ?_; simp);refine E5 (fun g=>?_) (fun g=>?_)
  ·simp;rw[g,qj] at hf;rw[zj hf.symm] at hR;have e1:opV 6 id = .nilp:=rfl;have e2:opW 6 (r8 ⟨l,[]⟩ (P3 bs)) bs id=[]:=rfl;rw[e1,e2] at hR;exact yP hR
  ·simp;rw[g,Bool.false_or,←hst] at hf;refine hp _ (i+1) ⟨h,hf⟩ (by omega) ?_;refine yV [] (by simp[hi1]) fun hrn=>⟨?_,?_,?_,?_,?_⟩<;>(try simp[hi1])
 ·rw[zn h] at hf;have hdf:A60 [] bs=false:=hf.symm;have hE:=fun j id=>A9y j .nils .nils rfl rfl bs bs.length (ya _) id (by omega) fun b hb=>(A18 (hbs.2 b hb)).1;rw[uo] at hE;have hel:=A8G (l:=bs) fun b hb=>(A18 (hbs.2 b hb)).1;have hA:=fun id=>B9o l (P3 bs) id hev (by omega);have hat:atE l (P3 bs) ((P3 bs).length:Int)=U7 ⟨l,[]⟩ (P3 bs):=by
   unfold atE;rw[zf (by simpa using h1),zf (by omega)];simp
  have has:atS l (P3 bs) ((P3 bs).length:Int)=r8 ⟨l,[]⟩ (P3 bs):=by
   unfold atS;simp
  rw[hat,has] at hA;rw[zf (by simp[hdf])] at hR;unfold bxQ at hE;unfold A1H at hA;refine A3 4000 ?_;simp[ru.2 h];(refine yH rfl (hE _ _) ?_; simp);(refine yH rfl (hA _) ?_; simp);by_cases h3:U7 ⟨l,[]⟩ (P3 bs)=0
  ·rw[h3] at hR ⊢;have e1:opV 0 id = .ptr id 0 0:=rfl;have e2:opW 0 (r8 ⟨l,[]⟩ (P3 bs)) bs id=[(id,some (bxO (r8 ⟨l,[]⟩ (P3 bs)) bs))]:=rfl;rw[e1,e2] at hR;unfold bxO bxQ at hR;simp[B4c,B4d];refine yE hR [(id,E.n0+3072)] (by simp[A4 hid]) fun hrn=>⟨?_,?_,?_,?_,?_,?_⟩<;>(try simp[A4 hid])
  ·have e1:opV (U7 ⟨l,[]⟩ (P3 bs)) id = .nilp:=(by unfold opV; rw[zf h3]);have e2:opW (U7 ⟨l,[]⟩ (P3 bs)) (r8 ⟨l,[]⟩ (P3 bs)) bs id=[]:=(by unfold opW; rw[zf h3]);rw[e1,e2] at hR;refine⟨⟨A57 _ _,A58 _ _⟩,?_⟩;refine A9 (by simpa using h3) ?_;simp;exact yP hR
def B5t:CC:=(.r [.al 4 (.int .i64 0)])
def B5u:CC:=(.r [.m 8 0,.c 9 108 [8],.m 7 9,.e 10 7 0,.e 11 7 1,.m 5 10,.st 1 4 11])
def B5v:CC:=(.r [.l 12 4,.k 13 .neq 12 0])
def B5w:CC:=(.r [.m 16 5,⟨some 17,none,[16],.build [.nils] [(0,1,.t 16)]⟩,.bx 18 17,.m 6 18])
def A5G:CC:=(.r [.m 19 1,.m 20 6,⟨some 21,none,[19,20],.callv (.t 19) [.t 20]⟩])
def A5H:CC:=(.r [.m 22 6,.c 23 110 [22]])
def B5x:CC:=(.r [.si 1 4 0])
def B5y:CC:=(.seq (.r [.l 14 4,.st 1 4 14]) CC.ret)
def C5O:CC:=.seq B5t (.seq B5u (.seq (.seq B5v (.cond (.t 13) B5y CC.skip)) (.seq CC.bad (.seq B5w (.seq A5G (.seq A5H (.seq B5x CC.ret)))))))
def C5P:List x2:=[.cell 4 false 1]
theorem C5Q:O6 Tryz.prog Tryz.f52.results.toList=some C5P:=by kernel_rfl
theorem C5R:Tryz.f52.body.map (D3 Tryz.prog Tryz.f52.ntmps)=some C5O:=by kernel_rfl
def B5z:CC:=(.r [.bx 2 0,.al 4 (.agg [.int .i64 0,.int .i64 0,.str [],.nils,.nils]),.al 5 (.bool false)])
def B60:CC:=(.r [.L 8 2 2,⟨some 9,none,[8],.build [.nils,.nils,.int .i64 0] [(0,2,.t 8)]⟩,.bx 10 9,.m 6 10])
def B0B:CC:=(.r [.m 11 6,.m 12 1,.m 13 6,⟨some 14,none,[13],.conv (.rcv 122) (.t 13)⟩,.c 15 121 [11,12,14],.st 5 4 15,⟨none,none,[5],.st 1 (.t 5) (.c (.bool true))⟩])
def C5S:CC:=.seq B5z (.seq CC.bad (.seq B60 (.seq B0B CC.ret)))
def C5T:List x2:=[.cell 4 true 5,.cell 5 false 1]
theorem C5U:O6 Tryz.prog Tryz.f60.results.toList=some C5T:=by kernel_rfl
theorem C5V:Tryz.f60.body.map (D3 Tryz.prog Tryz.f60.ntmps)=some C5S:=by kernel_rfl
def B1G:CC:=(.seq (.r [.m 8 1,⟨some 9,none,[8],.conv (.ta 31) (.t 8)⟩,.m 7 9,.e 10 7 0,.e 11 7 1,.m 2 10,.m 3 11]) (.seq (.seq (.r [.m 12 3,.no 13 12]) (.cond (.t 13) (.r [.m 14 1,⟨none,none,[14],.pnk (.t 14)⟩]) CC.skip)) (.r [.m 15 2,.st 1 0 15])))
def C2v:CC:=.seq CC.bad (.seq (.r [.m 5 1,⟨some 6,none,[5],.bin .neq (some [7]) (.t 5) (.c .nili)⟩]) (.cond (.t 6) B1G CC.skip))
theorem C43:Tryz.f109.body.map (D3 Tryz.prog Tryz.f109.ntmps)=some C2v:=by kernel_rfl
def B1H:CC:=(.seq (.seq (.r [.m 9 2,⟨some 10,none,[9],.conv (.ta 173) (.t 9)⟩,.m 8 10,.e 11 8 0,.e 12 8 1,.al 3 (.agg []),.st 0 3 11,.m 4 12]) (.seq (.r [.m 13 4,.no 14 13]) (.cond (.t 14) (.r [.m 15 2,⟨none,none,[15],.pnk (.t 15)⟩]) CC.skip))) (.r [⟨some 16,none,[],.build [.int .i64 0,.int .i64 0,.str [],.nils,.nils] []⟩,.st 5 0 16,⟨none,none,[1],.st 1 (.t 1) (.c (.bool false))⟩]))
def C2w:CC:=.seq CC.bad (.seq (.r [.m 6 2,⟨some 7,none,[6],.bin .neq (some [7]) (.t 6) (.c .nili)⟩]) (.cond (.t 7) B1H CC.skip))
theorem C44:Tryz.f120.body.map (D3 Tryz.prog Tryz.f120.ntmps)=some C2w:=by kernel_rfl
def B1I:CC:=(.r [.al 2 .nils,.al 3 (.int .i64 0)])
def B1J:CC:=(.r [.m 6 0,⟨some 7,none,[6],.build [.str [],.int .i64 0] [(0,1,.t 6)]⟩,.bx 8 7,.m 4 8])
def A8Q:CC:=(.r [.m 9 4,.c 10 248 [9]])
def A8R:CC:=(.r [.m 11 4,.ck 12 11,.f 13 1 12,.l 14 13,.m 15 0,.ns 16 15,.b 17 .lss 14 16])
def A0Z:CC:=(.d [.l 20 2,.m 21 4,.c 22 249 [21],⟨some 23,none,[22],.bslice (.agg [.int .i64 0,.str [],.int .i64 0]) 1 [(0,.t 22)]⟩,⟨some 24,none,[20,23],.app false (.agg [.int .i64 0,.str [],.int .i64 0]) 32 (.t 20) (.t 23)⟩,.st 1 2 24] [(0,2),(0,3)])
def B1K:CC:=(.r [.l 25 2,.n 26 25,.k 27 .gtr 26 300])
def A61:CC:=(.r [⟨some 28,none,[],.call 250 [.c (.int .i64 2)]⟩])
def B1L:CC:=(.r [.m 18 4,.c 19 248 [18]])
def A8S:CC:=(.r [.l 29 2,.st 1 2 29,.si 1 3 0])
def B4m:CC:=.block 1 (.seq A0Z (.seq B1K (.cond (.t 27) A61 CC.skip)))
def A62:CC:=.seq (.seq A8R (.cond (.t 17) CC.skip (.exit 0))) (.seq B4m B1L)
def C2x:CC:=.seq B1I (.seq CC.bad (.seq B1J (.seq (.seq A8Q (.block 0 (.loop A62))) (.seq A8S CC.ret))))
def C0E:List x2:=[.cell 2 false 1,.cell 3 false 1]
theorem C0F:O6 Tryz.prog Tryz.f175.results.toList=some C0E:=by kernel_rfl
theorem C45:Tryz.f175.body.map (D3 Tryz.prog Tryz.f175.ntmps)=some C2x:=by kernel_rfl
def A8T:CC:=(.seq (.r [.m 9 2,⟨some 10,none,[9],.conv (.ta 31) (.t 9)⟩,.m 8 10,.e 11 8 0,.e 12 8 1,.m 3 11,.m 4 12]) (.seq (.seq (.r [.m 13 4,.no 14 13]) (.cond (.t 14) (.r [.m 15 2,⟨none,none,[15],.pnk (.t 15)⟩]) CC.skip)) (.r [.m 16 3,⟨none,none,[0],.st 1 (.t 0) (.c .nils)⟩,.st 1 1 16])))
def C2y:CC:=.seq CC.bad (.seq (.r [.m 6 2,⟨some 7,none,[6],.bin .neq (some [7]) (.t 6) (.c .nili)⟩]) (.cond (.t 7) A8T CC.skip))
theorem C46:Tryz.f247.body.map (D3 Tryz.prog Tryz.f247.ntmps)=some C2y:=by kernel_rfl
def bR(s:H0)(m:Nat):Bx:=⟨[.agg [.sl (s.types.map I8),.sl (s.things.map T4),.int .i64 m]],.agg [.sl (s.types.map I8),.sl (s.things.map T4),.int .i64 0],false,false⟩
theorem v6(s:H0)(m:Nat):bR s m=⟨[.agg [.sl (s.types.map I8),.sl (s.things.map T4),.int .i64 m]],.agg [.sl (s.types.map I8),.sl (s.things.map T4),.int .i64 0],false,false⟩:=rfl
def tm:AV:=.iface 173 (.agg [])
def rnR(s:H0)(J m w:Nat)(v:AV):Except AV (AV×List (Nat×Option Bx)):=if m+w<=2000 then .ok (v,[(J,some (bR s (m+w)))]) else .error tm
theorem L2{s:H0}{J m w:Nat}{v:AV}(h:m+w<=2000):rnR s J m w v = .ok (v,[(J,some (bR s (m+w)))]):=zj h
theorem K0{s:H0}{J m w:Nat}{v:AV}(h:¬m+w<=2000):rnR s J m w v = .error tm:=zf h
theorem B61(s:H0)(J m:Nat)(k n:Int)(tx:List UInt8)(id:Nat)(hm:m<=2000):Y5 Tryz.prog 186 [.ptr J 0 0,.agg [.int .i64 k,.int .i64 n,.str tx,.nils,.nils]] [(J,bR s m)] id (rnR s J m 1 (.agg [.int .i64 k,.int .i64 n,.str tx,.nils,.nils])):=by
 have hw:IntKind.i64.wrap ((m:Int)+1)=((m+1:Nat):Int):=A5 (by omega);rw[v6];refine A38 w186.hf w186.hc w186.hn w186.hr (by simp[Tryz.ntmps186]) fun E hP hR hPn hl hid hB hu=>?_;refine A3 74 ?_;simp[w186];have hJ:=hl (J,_) (za ..);simp only at hJ;have J1:=lf hJ;simp[J1,hw];refine⟨fun h=>?_,fun h=>?_⟩
 ·refine A3 9 ?_;simp;refine B0l (by simp<;>rfl) (by simp) ⟨by simp,hPn _ _ (K0 (by omega)) rfl (by simp[J1])⟩
 ·refine A3 4000 ?_;simp[J1];have hrn:H5 []:=by simp[bR,J1,A4 hid]
  refine hR _ _ _ (L2 (by omega)) ?_;refine E8 (by simp[bR,J1,A4 hid]<;>rfl) [] hrn ⟨?_,?_,?_,?_,?_,?_⟩<;>(try simp[bR,J1,A4 hid])
inductive H6 where
 | mk (kind n:Int) (text:List UInt8) (keys:List (List UInt8)) (list:List H6)
mutual
def eO:H6->AV
 | .mk k n t ks l=>.agg [.int .i64 k,.int .i64 n,.str t,.sl (ks.map .str),.sl (eOs l)]
def eOs:List H6->List AV
 | []=>[]
 | o::r=>eO o::eOs r
end
theorem B62(l:List H6):eOs l=l.map eO:=by
 induction l with
 | nil=>rfl
 | cons o r ih=>simp[eOs,ih]
theorem A1g(k n:Int)(t:List UInt8)(ks:List (List UInt8))(l:List H6):eO (.mk k n t ks l) = .agg [.int .i64 k,.int .i64 n,.str t,.sl (ks.map .str),.sl (l.map eO)]:=by
 simp[eO,B62]
theorem Y1(l:List (List UInt8)):F9 (l.map AV.str)=true:=E7 (fun _=>rfl) l
mutual
theorem A3z:∀o:H6,(eO o).pureB=true
 | .mk k n t ks l=>by simp[eO,Y1,B39 l]
theorem B39:∀l:List H6,F9 (eOs l)=true
 | []=>rfl
 | o::r=>by simp[eOs,A3z o,B39 r]
end
theorem A09(l:List H6):F9 (l.map eO)=true:=E7 A3z l
def A1h:H6:=.mk 1 0 [] [] []
def A0z(n:Int):H6:=.mk 2 n [] [] []
def p9(t:List UInt8):H6:=.mk 3 0 t [] []
def V3(l:List H6):H6:=.mk 4 0 [] [] l
def A0a(ks:List (List UInt8))(l:List H6):H6:=.mk 5 0 [] ks l
def thA(s:H0)(kd id:Int):Option Tg:=if E9 s.things kd id=true then s.things[B9 s.things kd id]? else none
def A8U(s:H0)(t:Tg)(name:List UInt8):Option (Fd×Cl) :=
 match (C8 s.types t.type)[(B8 (fun f=>f.name==name) (C8 s.types t.type) 0).toNat]?,t.cells[(B8 (fun f=>f.name==name) (C8 s.types t.type) 0).toNat]? with
 | some f,some c=>some (f,c)
 | _,_=>none
def A3T(args:List Ag)(ids:List Int):List Int:=match args with
 | []=>ids
 | a::_=>ids.take a.n.toNat
def thW(s:H0)(g:Tg->Nat)(kd id:Int):Nat:=match thA s kd id with
 | none=>1
 | some u=>1+g u
def thO(s:H0)(ks:List (List UInt8))(g:Tg->List H6)(kd id:Int):H6:=match thA s kd id with
 | none=>A1h
 | some u=>A0a ks (g u)
mutual
def wS(s:H0):F6->Tg->Nat
 | .mk _ name args kids,t=>if name=tId then 1 else match A8U s t name with
  | none=>1
  | some (f,c)=>if f.kind=1\/f.kind=2 then 1
   else if f.kind=4 then 1+((A3T args c.ids).map (thW s (wL s kids) (C3 s.types f.of))).sum
   else match c.ids with
    | []=>1
    | x::_=>thW s (wL s kids) (C3 s.types f.of) x
def wL(s:H0):List F6->Tg->Nat
 | [],_=>0
 | a::r,t=>wS s a t+wL s r t
end
mutual
def oS(s:H0):F6->Tg->H6
 | .mk _ name args kids,t=>if name=tId then A0z t.id else match A8U s t name with
  | none=>A1h
  | some (f,c)=>if f.kind=1 then A0z c.n else if f.kind=2 then p9 c.text
   else if f.kind=4 then V3 ((A3T args c.ids).map (thO s (kids.map D4) (oL s kids) (C3 s.types f.of)))
   else match c.ids with
    | []=>A1h
    | x::_=>thO s (kids.map D4) (oL s kids) (C3 s.types f.of) x
def oL(s:H0):List F6->Tg->List H6
 | [],_=>[]
 | a::r,t=>oS s a t::oL s r t
end
theorem B1M(s:H0)(t:Tg):∀l:List F6,wL s l t=(l.map fun x=>wS s x t).sum
 | []=>by simp[wL]
 | a::r=>by simp[wL,B1M s t r]
theorem A3U(s:H0)(t:Tg):∀l:List F6,oL s l t=l.map fun x=>oS s x t
 | []=>by simp[oL]
 | a::r=>by simp[oL,A3U s t r]
theorem B3A{l:List Nat}(i:Nat):(l.take i).sum<=l.sum:=by
 have:l.sum=(l.take i).sum+(l.drop i).sum:=by rw[←List.sum_append,yx]
 omega
theorem A1v{α:Type}{l:List α}{i:Nat}{x:α}(f:α->Nat)(hx:l[i]?=some x):((l.take (i+1)).map f).sum=((l.take i).map f).sum+f x:=by
 rw[vk,hx]; simp
theorem A63{α:Type}{l:List α}{i:Nat}(f:α->Nat):((l.take i).map f).sum<=(l.map f).sum:=by
 rw[yu]; exact B3A i
theorem A0A{s:H0}{J m:Nat}(k n:Int)(tx:List UInt8)(id:Nat)(h:m+1<=2000):A2 Tryz.prog 186 [.ptr J 0 0,.agg [.int .i64 k,.int .i64 n,.str tx,.nils,.nils]] [(J,bR s m)] id (.agg [.int .i64 k,.int .i64 n,.str tx,.nils,.nils]) [(J,some (bR s (m+1)))]:=by
 have:=B61 s J m k n tx id (by omega);rw[L2 h] at this; exact this
theorem A2m{s:H0}{J m:Nat}(k n:Int)(tx:List UInt8)(id:Nat)(hm:m<=2000)(h:¬m+1<=2000):Y5 Tryz.prog 186 [.ptr J 0 0,.agg [.int .i64 k,.int .i64 n,.str tx,.nils,.nils]] [(J,bR s m)] id (.error tm):=by
 have:=B61 s J m k n tx id hm;rw[K0 h] at this; exact this
def bP(J:Nat):Bx:=⟨[.ptr J 0 0],.ptr J 0 0,false,false⟩
def bT(t:Tg):Bx:=⟨[T4 t],.agg [.int .i64 0,.int .i64 0,.nils],false,false⟩
theorem C0G(s:H0)(t:Tg)(l:List F6)(J A B m:Nat)(id:Nat)(d1:J≠A)(d2:J≠B)(d3:A≠B)(hm:m<=2000)(hl8:l.length<=1000000)
  (hdo:∀x∈l,∀m id,m<=2000->Y5 Tryz.prog 255 [E0 x,.ptr A 0 0,.ptr B 0 0] [(J,bR s m),(A,bP J),(B,bT t)] id (rnR s J m (wS s x t) (eO (oS s x t)))) :
  Y5 Tryz.prog 121 [.ptr J 0 0,.sl (l.map E0),.fn 255 [.ptr A 0 0,.ptr B 0 0]] [(J,bR s m),(A,bP J),(B,bT t)] id (rnR s J m (1+wL s l t) (eO (A0a (l.map D4) (oL s l t)))):=by
 have hsum:=B1M s t l;refine w121.x.1 fun E hP hR hPn hl hid hB hu=>?_;simp[w121];have hJ:=hl (J,_) (za ..);simp only at hJ;have J1:=lf hJ;have hA:=hl (A,_) (zb _ (za ..));simp only at hA;have A1:=lf hA;have hB:=hl (B,_) (zb _ (zb _ (za ..)));simp only at hB;have B1:=lf hB;by_cases h1:m+1<=2000
 rotate_left
 ·refine D5 hP rfl (A2m 5 0 [] _ hm h1) (by simp[J1,A1,B1,d1,d2,d3]) (by simp[J1,A1,B1,d1,d2,d3]<;>rfl) (fun pv hpv=>⟨by simp[J1,A1,B1,d1,d2,d3],by injection hpv with hpv; subst hpv; exact hPn _ _ (K0 (by omega)) rfl (by simp[J1,A1,B1,d1,d2,d3])⟩) (fun v wr h=>by cases h)
 (refine D8 hP rfl (A0A 5 0 [] _ h1) (by simp[J1,A1,B1,d1,d2,d3]) (by simp[J1,A1,B1,d1,d2,d3]<;>rfl) ?_; refine A3 4000 ?_; simp[J1,A1,B1,d1,d2,d3]);refine D0 (X:=Nat) (fun i=>⟨[(2,true,.fn 255 [.ptr A 0 0,.ptr B 0 0]),(6,true,.ptr E.n0 0 0),(7,true,.ptr (E.n0+1) 0 0),(13,true,.sl (l.map E0)),(14,true,.int .i64 l.length),(15,true,.int .i64 i)],
   [(J,some (bR s (m+1+((l.take i).map fun x=>wS s x t).sum))),(A,some (bP J)),(B,some (bT t)),(E.n0,some ⟨[.agg [.int .i64 0,.int .i64 0,.str [],.nils,.nils]],.agg [.int .i64 0,.int .i64 0,.str [],.nils,.nils],false,false⟩),(E.n0+1,some ⟨[.agg [.int .i64 5,.int .i64 0,.str [],.bsl (E.n0+2) 0 i,.bsl (E.n0+3) 0 i]],.agg [.int .i64 0,.int .i64 0,.str [],.nils,.nils],false,false⟩),(E.n0+2,some ⟨((l.map D4).map .str).take i,.str [],false,false⟩),(E.n0+3,some ⟨((oL s l t).map eO).take i,.agg [.int .i64 0,.int .i64 0,.str [],.nils,.nils],false,false⟩)],4⟩)
  (fun i=>i<=l.length/\m+1+((l.take i).map fun x=>wS s x t).sum<=2000) (fun i=>l.length - i) 0 ?_ ⟨by omega,by simp; omega⟩ ?_
 ·refine E4.trans (E4.voidBox (E.n0+4096) (by simp; rfl) rfl (.agg [.int .i64 5,.int .i64 0,.str [],.nils,.nils] [.int .i64 5,.int .i64 0,.str [],.bsl (E.n0+9216) 0 0,.nils] rfl (fun m x y h1 h2=>?_)) (.str [])) (E4.trans (E4.voidBox (E.n0+4096) (by simp; rfl) rfl (.agg [.int .i64 5,.int .i64 0,.str [],.bsl (E.n0+9216) 0 0,.nils] [.int .i64 5,.int .i64 0,.str [],.bsl (E.n0+9216) 0 0,.bsl (E.n0+9217) 0 0] rfl (fun m x y h1 h2=>?_)) (.agg [.int .i64 0,.int .i64 0,.str [],.nils,.nils])) ?_)
  ·match m,h1,h2 with
   | 0,h1,h2|1,h1,h2|2,h1,h2|4,h1,h2=>simp at h1 h2; exact .inl (h1.symm.trans h2)
   | 3,h1,h2=>simp at h1 h2; exact .inr ⟨h1.symm,h2.symm⟩
   | m+5,h1,h2=>simp at h1
  ·match m,h1,h2 with
   | 0,h1,h2|1,h1,h2|2,h1,h2|3,h1,h2=>simp at h1 h2; exact .inl (h1.symm.trans h2)
   | 4,h1,h2=>simp at h1 h2; exact .inr ⟨h1.symm,h2.symm⟩
   | m+5,h1,h2=>simp at h1
  ·refine yV [(E.n0,E.n0),(E.n0+1,E.n0+4096),(E.n0+2,E.n0+9216),(E.n0+3,E.n0+9217)] (by simp[bR,bP,bT,J1,A1,B1,d1,d2,d3,zt d1,zt d2,zt d3]) fun hrn=>⟨?_,?_,?_,?_,?_⟩<;>(try simp[bR,bP,bT,J1,A1,B1,d1,d2,d3,zt d1,zt d2,zt d3])
 ·rintro i ⟨hi,hm2⟩ p hp;refine A3 4000 ?_;simp;refine E5 (fun h=>?_) (fun h=>?_)
  ·have h:=zr h;obtain⟨x,hx,hd⟩:=B2 h;have hi1:IntKind.i64.wrap ((i:Int)+1)=((i+1:Nat):Int):=A5 (by omega);have hxm:=zg hx;have hst:=A1v (fun x=>wS s x t) hx;have hCa:=A3u x;rw[H8] at hCa;have hdx:=hdo x hxm;have hk1:((l.map D4).map AV.str).take (i+1)=((l.map D4).map AV.str).take i++[.str (D4 x)]:=O2 (by simp[hx]);have ho1:((oL s l t).map eO).take (i+1)=((oL s l t).map eO).take i++[eO (oS s x t)]:=O2 (by rw[A3U]; simp[hx]);have hlo:(oL s l t).length=l.length:=(by rw[A3U]; simp);obtain⟨ok,on,ot,oks,ols,hoe⟩:∃(a b:Int) (c:List UInt8) (d:List (List UInt8)) (e:List H6),eO (oS s x t) = .agg [.int .i64 a,.int .i64 b,.str c,.sl (d.map .str),.sl (e.map eO)]:=by
    cases oS s x t with|mk a b c d e=>exact⟨a,b,c,d,e,A1g a b c d e⟩
   rw[hoe,H8] at hdx;rw[hoe] at ho1;simp only[va] at *;simp[hx,H8 x,J1,A1,B1,d1,d2,d3,zt d1,zt d2,zt d3];refine⟨h,?_⟩;(refine yC rfl (hCa _) ?_; simp[J1,A1,B1,d1,d2,d3,zt d1,zt d2,zt d3]);refine⟨⟨by omega,by omega,by omega⟩,?_⟩;have hsl:=A63 (l:=l) (i:=i+1) (fun x=>wS s x t);by_cases h2:m+1+((l.take i).map fun x=>wS s x t).sum+wS s x t<=2000
   ·have hd2:∀id,A2 Tryz.prog 255 _ _ id _ _:=fun id=>by
     have:=hdx (m+1+((l.take i).map fun x=>wS s x t).sum) id hm2;rw[L2 h2] at this; exact this
    simp only[yu] at *;refine L5 hP rfl rfl (hd2 _) (by simp) (by simp[J1,A1,B1,d1,d2,d3,zt d1,zt d2,zt d3]<;>rfl) ?_;refine A3 4000 ?_;simp[J1,A1,B1,d1,d2,d3,zt d1,zt d2,zt d3];refine⟨⟨by omega,by omega,by omega⟩,?_⟩;have hst2:(List.take (i+1) (List.map (fun x=>wS s x t) l)).sum=(List.take i (List.map (fun x=>wS s x t) l)).sum+wS s x t:=(by simpa only[yu] using hst);refine hp _ (i+1) ⟨h,by omega⟩ (by omega) ?_;refine yV [(E.n0,E.n0),(E.n0+1,E.n0+1),(E.n0+2,E.n0+10244),(E.n0+3,E.n0+19460)] (by simp[hi1,bR,bP,bT,hst2,hk1,ho1,J1,A1,B1,d1,d2,d3,zt d1,zt d2,zt d3]) fun hrn=>⟨?_,?_,?_,?_,?_⟩<;>(try simp[hi1,bR,bP,bT,hst2,hk1,ho1,J1,A1,B1,d1,d2,d3,zt d1,zt d2,zt d3]);refine⟨by omega,C2 rfl (C4 (by rw[←yu]; exact E7 (fun _=>rfl) _) rfl),C2 rfl (C4 (by rw[←yu]; exact A09 _) (by simp[Y1,A09]))⟩
   ·have hd2:∀id,Y5 Tryz.prog 255 _ _ id _:=fun id=>by
     have:=hdx (m+1+((l.take i).map fun x=>wS s x t).sum) id hm2;rw[K0 h2] at this; exact this
    simp only[yu] at *;refine A28 hP rfl rfl (hd2 _) (by simp) (by simp[J1,A1,B1,d1,d2,d3,zt d1,zt d2,zt d3]<;>rfl) (fun pv hpv=>⟨by simp[J1,A1,B1,d1,d2,d3,zt d1,zt d2,zt d3],by injection hpv with hpv; subst hpv; exact hPn _ _ (K0 (by omega)) rfl (by simp[J1,A1,B1,d1,d2,d3,zt d1,zt d2,zt d3])⟩) (fun v wr h=>by cases h)
  ·have h:¬i<l.length:=zp h;have hil:i=l.length:=(by omega);subst hil;simp[J1,A1,B1,d1,d2,d3,zt d1,zt d2,zt d3];have hlo:(oL s l t).length=l.length:=(by rw[A3U]; simp);have hsa:(List.take l.length (List.map (fun x=>wS s x t) l)).sum=wL s l t:=(by rw[hsum,zq (by simp)]);have hka:List.take l.length (List.map (AV.str∘D4) l)=List.map (AV.str∘D4) l:=zq (by simp);have hoa:List.take l.length ((oL s l t).map eO)=(oL s l t).map eO:=zq (by simp[hlo]);simp only[yu] at hm2;rw[hsa] at hm2;unfold A0a at hR;rw[A1g,va] at hR;have hrn:H5 []:=(by simp[bR,bP,bT,hsa,hka,hoa,hlo,J1,A1,B1,d1,d2,d3,zt d1,zt d2,zt d3,A4 hid]);refine hR _ _ _ (L2 (by omega)) ?_;refine L6 (by simp[bR,bP,bT,hsa,hka,hoa,hlo,J1,A1,B1,d1,d2,d3,zt d1,zt d2,zt d3,A4 hid]<;>rfl) (by simp[bR,bP,bT,hsa,hka,hoa,hlo,J1,A1,B1,d1,d2,d3,zt d1,zt d2,zt d3,A4 hid]<;>exact⟨rfl,rfl⟩) [] hrn ⟨?_,?_,?_,?_,?_,?_⟩<;>(try simp[bR,bP,bT,hsa,hka,hoa,hlo,J1,A1,B1,d1,d2,d3,zt d1,zt d2,zt d3,A4 hid])
   ·exact⟨B3 _ (E7 (fun _=>rfl) _),B3 _ (A09 _)⟩
   ·omega
@[simp] theorem C5W (S:Nat->Prop):F3 S []:=B3 _ rfl
@[simp] theorem C1A (S:Nat->Prop) (l:List F6):F3 S (l.map (AV.str∘D4)):=B3 _ (E7 (fun _=>rfl) l)
@[simp] theorem C47 (S:Nat->Prop) (l:List (List UInt8)):F3 S (l.map .str):=B3 _ (Y1 l)
@[simp] theorem C48 (S:Nat->Prop) (l:List H6):F3 S (l.map eO):=B3 _ (A09 l)
attribute [simp] Y1 A09
theorem Y5.nrm{P:Program}{f:Nat}{args:List AV}{rd:List (Nat×Bx)}{id:Nat}{s:H0}{J m w:Nat}{v:AV}(h:Y5 P f args rd id (rnR s J m w v)):Y5 P f args rd id (rnR s J m w v.nrm):=by
 by_cases k:m+w<=2000
 ·rw[L2 k] at h ⊢; exact A2.nrm h
 ·rw[K0 k] at h ⊢; exact h
theorem B3B(s:H0)(J m:Nat)(id:Nat)(hm:m<=2000):Y5 Tryz.prog 254 [.ptr J 0 0] [(J,bR s m)] id (rnR s J m 1 (eO A1h)):=by
 refine Y5.nrm (v:=.agg [.int .i64 1,.int .i64 0,.str [],.nils,.nils]) ?_;refine w254.x.1 fun E hP hR hPn hl hid hB hu=>?_;simp[w254];have hJ:=hl (J,_) (za ..);simp only at hJ;have J1:=lf hJ;by_cases h1:m+1<=2000
 rotate_left
 ·refine D5 hP rfl (A2m 1 0 [] _ hm h1) (by simp[J1]) (by simp[J1]<;>rfl) (fun pv hpv=>⟨by simp[J1],by injection hpv with hpv; subst hpv; exact hPn _ _ (K0 h1) rfl (by simp[J1])⟩) (fun v wr h=>by cases h)
 (refine D8 hP rfl (A0A 1 0 [] _ h1) (by simp[J1]) (by simp[J1]<;>rfl) ?_; refine A3 4000 ?_; simp[J1]);have hrn:H5 []:=by simp[bR,J1,A4 hid]
 refine hR _ _ _ (L2 h1) ?_;refine E8 (by simp[bR,J1,A4 hid]<;>rfl) [] hrn ⟨?_,?_,?_,?_,?_,?_⟩<;>(try simp[bR,J1,A4 hid])
theorem B7X{s:H0}{t:Tg}{x:F6}{J A B m w:Nat}{o:H6}(id:Nat)(d1:J≠A)(d2:J≠B)(d3:A≠B)
  (hF:∀id,Y5 Tryz.prog 256 [.ptr J 0 0,T4 t,E0 x] [(J,bR s m)] id (rnR s J m w (eO o))) :
  Y5 Tryz.prog 255 [E0 x,.ptr A 0 0,.ptr B 0 0] [(J,bR s m),(A,bP J),(B,bT t)] id (rnR s J m w (eO o)):=by
 obtain⟨ok,on,ot,oks,ols,hoe⟩:∃(a b:Int) (c:List UInt8) (d:List (List UInt8)) (e:List H6),eO o = .agg [.int .i64 a,.int .i64 b,.str c,.sl (d.map .str),.sl (e.map eO)]:=by
  cases o with|mk a b c d e=>exact⟨a,b,c,d,e,A1g a b c d e⟩
 have hTg:T4 t = .agg [.int .i64 t.type,.int .i64 t.id,.sl (t.cells.map eCl)]:=rfl;unfold bP bT;simp only[hoe,H8 x,hTg] at *;refine w255.x.1 fun E hP hR hPn hl hid hB hu=>?_;simp[w255];have hJ:=hl (J,_) (za ..);simp only at hJ;have J1:=lf hJ;have hA:=hl (A,_) (zb _ (za ..));simp only at hA;have A1:=lf hA;have hB:=hl (B,_) (zb _ (zb _ (za ..)));simp only at hB;have B1:=lf hB;simp[J1,A1,B1,d1,d2,d3,zt d1,zt d2,zt d3];by_cases h1:m+w<=2000
 rotate_left
 ·simp only[K0 h1] at hF;refine D5 hP rfl (hF _) (by simp[J1,A1,B1,d1,d2,d3,zt d1,zt d2,zt d3]) (by simp[J1,A1,B1,d1,d2,d3,zt d1,zt d2,zt d3]<;>rfl) (fun pv hpv=>⟨by simp[J1,A1,B1,d1,d2,d3,zt d1,zt d2,zt d3],by injection hpv with hpv; subst hpv; exact hPn _ _ (K0 h1) rfl (by simp[J1,A1,B1,d1,d2,d3,zt d1,zt d2,zt d3])⟩) (fun v wr h=>by cases h)
 have hF1:∀id,A2 Tryz.prog 256 _ _ id _ _:=fun id=>by
  have:=hF id;rw[L2 h1] at this; exact this
 (refine yC rfl (hF1 _) ?_; simp[J1,A1,B1,d1,d2,d3,zt d1,zt d2,zt d3]);have hrn:H5 []:=by simp[bR,J1,A1,B1,d1,d2,d3,zt d1,zt d2,zt d3,A4 hid]
 refine hR _ _ _ (L2 h1) ?_;refine E8 (by simp[bR,J1,A1,B1,d1,d2,d3,zt d1,zt d2,zt d3,A4 hid]<;>rfl) [] hrn ⟨?_,?_,?_,?_,?_,?_⟩<;>(try simp[bR,J1,A1,B1,d1,d2,d3,zt d1,zt d2,zt d3,A4 hid])
theorem B3C{s:H0}{kids:List F6}{J m:Nat}{kd tid:Int}(id:Nat)(hm:m<=2000)(h12:s.things.length<=1000)(hk8:kids.length<=1000000)
  (hF:∀u,thA s kd tid=some u->∀x∈kids,∀m id,m<=2000->Y5 Tryz.prog 256 [.ptr J 0 0,T4 u,E0 x] [(J,bR s m)] id (rnR s J m (wS s x u) (eO (oS s x u)))) :
  Y5 Tryz.prog 188 [.ptr J 0 0,.int .i64 kd,.int .i64 tid,.sl (kids.map E0)] [(J,bR s m)] id (rnR s J m (thW s (wL s kids) kd tid) (eO (thO s (kids.map D4) (oL s kids) kd tid))):=by
 have hFi:=fun id=>o8 s kd tid id (by omega);unfold D7 at hFi;cases hb:E9 s.things kd tid with
 | false =>
  have ht:thA s kd tid=none:=by unfold thA; rw[hb]; rfl
  have e1:thW s (wL s kids) kd tid=1:=by unfold thW; rw[ht]
  have e2:thO s (kids.map D4) (oL s kids) kd tid=A1h:=by unfold thO; rw[ht]
  rw[hb] at hFi;rw[e1,e2];have hN:=fun id=>B3B s J m id hm;have hoe:eO A1h = .agg [.int .i64 1,.int .i64 0,.str [],.sl [],.sl []]:=rfl;rw[hoe] at hN ⊢;rw[v6] at *;refine w188.x.1 fun E hP hR hPn hl hid hB hu=>?_;simp[w188];have hJ:=hl (J,_) (za ..);simp only at hJ;have J1:=lf hJ;simp[J1];(refine yC rfl (hFi _) ?_; simp[J1]);by_cases h1:m+1<=2000
  rotate_left
  ·simp only[K0 h1] at hN;refine D5 hP rfl (hN _) (by simp[J1]) (by simp[J1]<;>rfl) (fun pv hpv=>⟨by simp[J1],by injection hpv with hpv; subst hpv; exact hPn _ _ (K0 h1) rfl (by simp[J1])⟩) (fun v wr h=>by cases h)
  have hN1:∀id,A2 Tryz.prog 254 _ _ id _ _:=fun id=>by
   have:=hN id;rw[L2 h1] at this; exact this
  (refine yC rfl (hN1 _) ?_; simp[J1]);have hrn:H5 []:=by simp[bR,J1,A4 hid]
  refine hR _ _ _ (L2 h1) ?_;refine E8 (by simp[bR,J1,A4 hid]<;>rfl) [] hrn ⟨?_,?_,?_,?_,?_,?_⟩<;>(try simp[bR,J1,A4 hid])
 | true =>
  obtain⟨u,hus⟩:∃u,s.things[B9 s.things kd tid]?=some u:=by
   unfold E9 at hb;simp at hb;exact⟨_,zc hb.1⟩
  have hlt:=(ze.1 hus).1;have ht:thA s kd tid=some u:=by unfold thA; rw[hb,zj rfl,hus]
  have e1:thW s (wL s kids) kd tid=1+wL s kids u:=by unfold thW; rw[ht]
  have e2:thO s (kids.map D4) (oL s kids) kd tid=A0a (kids.map D4) (oL s kids u):=by unfold thO; rw[ht]
  rw[hb] at hFi;rw[e1,e2];have hP2:=fun A B id (d1:J≠A) (d2:J≠B) (d3:A≠B)=>C0G s u kids J A B m id d1 d2 d3 hm hk8 fun x hx m id hm=>B7X id d1 d2 d3 fun id=>hF u ht x hx m id hm;unfold A0a at hP2 ⊢;rw[A1g] at hP2 ⊢;have hTu:T4 u = .agg [.int .i64 u.type,.int .i64 u.id,.sl (u.cells.map eCl)]:=rfl;unfold bP bT at hP2;rw[hTu] at hP2;rw[v6] at *;generalize hv:(AV.agg [.int .i64 5,.int .i64 0,.str [],.sl ((kids.map D4).map .str),.sl ((oL s kids u).map eO)])=V at hP2 ⊢;refine w188.x.1 fun E hP hR hPn hl hid hB hu=>?_;simp[w188];have hJ:=hl (J,_) (za ..);simp only at hJ;have J1:=lf hJ;simp[J1];(refine yC rfl (hFi _) ?_; simp[hus,hTu,J1]);refine⟨hlt,?_⟩;have hP3:=fun id=>hP2 E.n0 (E.n0+24576) id (by simp[J1]) (by simp[J1]) (by omega);by_cases h1:m+(1+wL s kids u)<=2000
  rotate_left
  ·simp only[K0 h1] at hP3;refine D5 hP rfl (hP3 _) (by simp[J1]) (by simp[J1]<;>rfl) (fun pv hpv=>⟨by simp[J1],by injection hpv with hpv; subst hpv; exact hPn _ _ (K0 h1) rfl (by simp[J1])⟩) (fun v wr h=>by cases h)
  have hP4:∀id,A2 Tryz.prog 121 _ _ id _ _:=fun id=>by
   have:=hP3 id;rw[L2 h1] at this; exact this
  rw[←hv] at hP4;(refine yC rfl (hP4 _) ?_; simp[J1]);rw[←hv] at hR;have hrn:H5 []:=by simp[bR,J1,A4 hid]
  refine hR _ _ _ (L2 h1) ?_;refine E8 (by simp[bR,J1,A4 hid]<;>rfl) [] hrn ⟨?_,?_,?_,?_,?_,?_⟩<;>(try simp[bR,J1,A4 hid])
mutual
theorem C0H:∀o:H6,(eO o).nrm=eO o
 | .mk k n t ks l=>by
  have h1:A4J (ks.map AV.str)=ks.map AV.str:=by
   induction ks with
   | nil=>rfl
   | cons a r ih=>simp[A4J,AV.nrm,ih]
  simp[eO,AV.nrm,A4J,h1,B1N l]
theorem B1N:∀l:List H6,A4J (eOs l)=eOs l
 | []=>rfl
 | o::r=>by simp[eOs,A4J,C0H o,B1N r]
end
theorem B63{s:H0}{kids:List F6}{ids:List Int}{J m:Nat}{kd:Int}{W:Int->Nat}{O:Int->H6}(id:Nat)(hm:m<=2000)(hi8:ids.length<=1000000)
  (hT:∀x∈ids,∀m id,m<=2000->Y5 Tryz.prog 188 [.ptr J 0 0,.int .i64 kd,.int .i64 x,.sl (kids.map E0)] [(J,bR s m)] id (rnR s J m (W x) (eO (O x)))) :
  Y5 Tryz.prog 189 [.ptr J 0 0,.int .i64 kd,.sl (ids.map eI),.sl (kids.map E0)] [(J,bR s m)] id (rnR s J m (1+(ids.map W).sum) (eO (V3 (ids.map O)))):=by
 have hres:(AV.agg [.int .i64 4,.int .i64 0,.str [],.nils,.sl ((ids.map O).map eO)]).nrm=eO (V3 (ids.map O)):=by
  have:=B1N (ids.map O);rw[B62] at this;unfold V3;rw[A1g];simp[AV.nrm,A4J] at this ⊢;exact this
 rw[←hres];refine Y5.nrm ?_;refine w189.x.1 fun E hP hR hPn hl hid hB hu=>?_;simp[w189];have hJ:=hl (J,_) (za ..);simp only at hJ;have J1:=lf hJ;by_cases h1:m+1<=2000
 rotate_left
 ·refine D5 hP rfl (A2m 4 0 [] _ hm h1) (by simp[J1]) (by simp[J1]<;>rfl) (fun pv hpv=>⟨by simp[J1],by injection hpv with hpv; subst hpv; exact hPn _ _ (K0 (by omega)) rfl (by simp[J1])⟩) (fun v wr h=>by cases h)
 (refine D8 hP rfl (A0A 4 0 [] _ h1) (by simp[J1]) (by simp[J1]<;>rfl) ?_; refine A3 4000 ?_; simp[J1]);refine D0 (X:=Nat) (fun i=>⟨[(0,true,.ptr J 0 0),(1,true,.int .i64 kd),(3,true,.sl (kids.map E0)),(8,true,.ptr E.n0 0 0),(9,true,.ptr (E.n0+1) 0 0),(15,true,.sl (ids.map eI)),(16,true,.int .i64 ids.length),(17,true,.int .i64 i)],
   [(J,some (bR s (m+1+((ids.take i).map W).sum))),(E.n0,some ⟨[.agg [.int .i64 0,.int .i64 0,.str [],.nils,.nils]],.agg [.int .i64 0,.int .i64 0,.str [],.nils,.nils],false,false⟩),(E.n0+1,some ⟨[.agg [.int .i64 4,.int .i64 0,.str [],.nils,.bsl (E.n0+2) 0 i]],.agg [.int .i64 0,.int .i64 0,.str [],.nils,.nils],false,false⟩),(E.n0+2,some ⟨((ids.map O).map eO).take i,.agg [.int .i64 0,.int .i64 0,.str [],.nils,.nils],false,false⟩)],3⟩)
  (fun i=>i<=ids.length/\m+1+((ids.take i).map W).sum<=2000) (fun i=>ids.length - i) 0 ?_ ⟨by omega,by simp; omega⟩ ?_
 ·refine E4.trans (E4.voidBox (E.n0+4096) (by simp; rfl) rfl (.agg [.int .i64 4,.int .i64 0,.str [],.nils,.nils] [.int .i64 4,.int .i64 0,.str [],.nils,.bsl (E.n0+9216) 0 0] rfl (fun m x y h1 h2=>?_)) (.agg [.int .i64 0,.int .i64 0,.str [],.nils,.nils])) ?_
  ·match m,h1,h2 with
   | 0,h1,h2|1,h1,h2|2,h1,h2|3,h1,h2=>simp at h1 h2; exact .inl (h1.symm.trans h2)
   | 4,h1,h2=>simp at h1 h2; exact .inr ⟨h1.symm,h2.symm⟩
   | m+5,h1,h2=>simp at h1
  ·refine yV [(E.n0,E.n0),(E.n0+1,E.n0+4096),(E.n0+2,E.n0+9216)] (by simp[bR,J1]) fun hrn=>⟨?_,?_,?_,?_,?_⟩<;>(try simp[bR,J1])
 ·rintro i ⟨hi,hm2⟩ p hp;refine A3 4000 ?_;simp;refine E5 (fun h=>?_) (fun h=>?_)
  ·have h:=zr h;obtain⟨x,hx,hd⟩:=B2 h;have hi1:IntKind.i64.wrap ((i:Int)+1)=((i+1:Nat):Int):=A5 (by omega);have hxm:=zg hx;have hst:=A1v W hx;have hdx:=hT x hxm;have ho1:((ids.map O).map eO).take (i+1)=((ids.map O).map eO).take i++[eO (O x)]:=O2 (by simp[hx]);obtain⟨ok,on,ot,oks,ols,hoe⟩:∃(a b:Int) (c:List UInt8) (d:List (List UInt8)) (e:List H6),eO (O x) = .agg [.int .i64 a,.int .i64 b,.str c,.sl (d.map .str),.sl (e.map eO)]:=by
    cases O x with|mk a b c d e=>exact⟨a,b,c,d,e,A1g a b c d e⟩
   rw[hoe] at ho1;simp only[hoe] at hdx;have hsl:=A63 (l:=ids) (i:=i+1) W;have heI:eI x = .int .i64 x:=rfl;simp[hx,heI,J1];refine⟨h,?_⟩;by_cases h2:m+1+((ids.take i).map W).sum+W x<=2000
   ·have hd2:∀id,A2 Tryz.prog 188 _ _ id _ _:=fun id=>by
     have:=hdx (m+1+((ids.take i).map W).sum) id hm2;rw[L2 h2] at this; exact this
    have hst2:(List.take (i+1) (List.map W ids)).sum=(List.take i (List.map W ids)).sum+W x:=(by simpa only[yu] using hst);simp only[yu,va] at *;(refine yC rfl (hd2 _) ?_; simp[J1]);refine⟨⟨by omega,by omega,by omega⟩,?_⟩;refine hp _ (i+1) ⟨h,by omega⟩ (by omega) ?_;refine yV [(E.n0,E.n0),(E.n0+1,E.n0+1),(E.n0+2,E.n0+12291)] (by simp[hi1,bR,hst2,ho1,J1]) fun hrn=>⟨?_,?_,?_,?_,?_⟩<;>(try simp[hi1,bR,hst2,ho1,J1]);exact⟨by omega,C2 rfl (C4 (by rw[←yu]; exact E7 (fun _=>A3z _) _) (by simp[Y1,A09]))⟩
   ·have hd2:∀id,Y5 Tryz.prog 188 _ _ id _:=fun id=>by
     have:=hdx (m+1+((ids.take i).map W).sum) id hm2;rw[K0 h2] at this; exact this
    simp only[yu,va] at *;refine D5 hP rfl (hd2 _) (by simp[J1]) (by simp[J1]<;>rfl) (fun pv hpv=>⟨by simp[J1],by injection hpv with hpv; subst hpv; exact hPn _ _ (K0 (by omega)) rfl (by simp[J1])⟩) (fun v wr h=>by cases h)
  ·have h:¬i<ids.length:=zp h;have hil:i=ids.length:=(by omega);subst hil;simp[J1];have hsa:(List.take ids.length (List.map W ids)).sum=(List.map W ids).sum:=(by rw[zq (by simp)]);have hoa:List.take ids.length (List.map (eO∘O) ids)=List.map (eO∘O) ids:=zq (by simp);simp only[yu,va] at *;rw[hsa] at hm2;have hrn:H5 []:=(by simp[bR,hsa,hoa,J1,A4 hid]);refine hR _ _ _ (L2 (by omega)) ?_;refine L6 (by simp[bR,hsa,hoa,J1,A4 hid]<;>rfl) (by simp[bR,hsa,hoa,J1,A4 hid]<;>exact⟨rfl,rfl⟩) [] hrn ⟨?_,?_,?_,?_,?_,?_⟩<;>(try simp[bR,hsa,hoa,J1,A4 hid])
   ·exact B3 _ (E7 (fun _=>A3z _) _)
   ·omega
end Go.Am
