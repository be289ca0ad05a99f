/- Parts of the proof: an abstract machine for Go functions, and what functions of the program give back (In5, Do3, Do4, Do5, Do6, Do7, Do8, Do9). No condition. -/
import Derived.Test.YtphjabjjnncebaaGreatDoorXK
import Derived.Test.YtphjabjjnncebaaGreatDoorXG
set_option maxRecDepth 100000
set_option linter.all false
set_option maxHeartbeats 1000000
namespace Go.Am
open Go Go.Proofs Go.RowKit
theorem RS.rowed{P:Program}{C:Cx P}{G:Gh}{bx:Nat->Option Bx}{w w':World}(hs:RS C G bx w){T id:Nat}{x:Bx}(hx:bx T=some x)(hro:x.ro=false)(hfr:x.frz=false)(hn:¬G.nl T){b s:Nat}{cur:Array Value}{el:TypeId}(hb:G.bm T=some (b,s))(hg:w.heap[b]?=some (.cells cur el (0,0)))
  (hu:¬G.used id) (R:Array Value) (xs':List AV) (hlen:xs'.length*s<=R.size) (hh:w'.heap[b]?=some (.cells R el (0,0))) (ho:∀k,k≠b->w'.heap[k]?=w.heap[k]?) (h1:w'.os=w.os) (h2:w'.tape=w.tape) (h3:w'.output=w.output) (h4:w.heap.size<=w'.heap.size) (hc:x1 G w s xs' R) :
  RS C (G.rename T id b s) (U8 (U8 bx T none) id (some ⟨xs',x.d,false,false⟩)) w'/\M0 G w (G.rename T id b s) w':=by
 obtain⟨b1,s1,cur1,e1,k1,k2,k3,k4,k5,k6,k7⟩:=hs.box T x hx hn;rw[hb] at k1;injection k1 with k1
 injection k1 with kb ks
 subst kb ks;have hfz:∀b2 o,G.fz b2 o->b2≠b:=fun b2 o hf e=>k6 hfr o (e▸hf);exact hs.moved (id0:=T) (id:=id) (b':=b) (s:=s) (x':=⟨xs',x.d,false,false⟩) (cur':=R) (e':=el) hu ⟨h1,h2,h3,h4,fun k hk=>ho k (by have:=k3 hro; omega)⟩
  (fun j b2 s2 hj hji=>ho b2 fun hbb=>hji (hs.inj j T b2 s2 s hj (hbb▸hb))) (fun b2 o hf=>World.cell?_of_block (w:=w) (ho b2 (hfz b2 o hf))) hh (k3 hro) (fun j s2 hj hjb=>hj (hs.inj j T b s2 s hjb hb)) hlen k4.1 hc (fun _ o hf=>hfz b o hf rfl) (fun o hf=>(hfz b o hf rfl).elim)
theorem RS.rehomed{P:Program}{C:Cx P}{G:Gh}{bx:Nat->Option Bx}{w w':World}(hs:RS C G bx w){T id:Nat}{x:Bx}(hx:bx T=some x)(hn:¬G.nl T){b s:Nat}(hb:G.bm T=some (b,s))
  (hu:¬G.used id) (R:Array Value) (el:TypeId) (xs':List AV) (hlen:xs'.length*s<=R.size) (hh:w'.heap[w.heap.size]?=some (.cells R el (0,0))) (ho:∀k,k<w.heap.size->w'.heap[k]?=w.heap[k]?) (h1:w'.os=w.os) (h2:w'.tape=w.tape) (h3:w'.output=w.output) (h4:w.heap.size<=w'.heap.size) (hc:x1 G w s xs' R) :
  RS C (G.rename T id w.heap.size s) (U8 (U8 bx T none) id (some ⟨xs',x.d,false,false⟩)) w'/\M0 G w (G.rename T id w.heap.size s) w':=by
 obtain⟨b1,s1,cur1,e1,k1,k2,k3,k4,k5,k6,k7⟩:=hs.box T x hx hn;rw[hb] at k1;injection k1 with k1
 injection k1 with kb ks
 subst kb ks;have hfl:∀b2 o,G.fz b2 o->b2<w.heap.size:=fun b2 o hf=>let ⟨u,hu⟩:=hs.fzok b2 o hf; Y4 hu;exact hs.moved (id0:=T) (id:=id) (b':=w.heap.size) (s:=s) (x':=⟨xs',x.d,false,false⟩) (cur':=R) (e':=el) hu ⟨h1,h2,h3,h4,fun k hk=>ho k (by have:=hs.size; omega)⟩
  (fun j b2 s2 hj hji=>ho b2 (hs.rows j b2 s2 hj)) (fun b2 o hf=>World.cell?_of_block (w:=w) (ho b2 (hfl b2 o hf))) hh hs.size (fun j s2 hj hjb=>by have:=hs.rows j _ s2 hjb; omega) hlen k4.1 hc (fun _ o hf=>by have:=hfl _ o hf; omega) (fun o hf=>by have:=hfl _ o hf; omega)
theorem A5p{G:Gh}{w:World}{k:IntKind}{n:Int}{v:Value}(h:RV G w (.int k n) v):v = .int k n:=by cases h; rfl
theorem A86(xs:List AV)(y:AV)(T Y i:Nat)(id:Nat)(hi:i<=xs.length)(hTY:T≠Y)(hTid:T<id\/id+1024<=T)(hbig:xs.length<=1000000)(h1:∀x∈xs,x.cells.all AV.one=true)(hy:y.cells.length=1)(hy1:y.cells.all AV.one=true):
  A2 Tryz.prog 315 [.bsl T 0 xs.length,.int .i64 i,.bsl Y 0 1] [(T,⟨xs,.int .i64 0,false,false⟩),(Y,⟨[y],.int .i64 0,false,false⟩)] id (.bsl id 0 (xs.length+1)) [(T,none),(id,some ⟨xs.take i++y::xs.drop i,.int .i64 0,false,false⟩)]:=by
 refine⟨⟨_,Tryz.func315,by kernel_rfl,by kernel_rfl⟩,fun C G bx w vs nb hs hv hh hnb hid=>?_⟩;have hxT:=hh (T,⟨xs,.int .i64 0,false,false⟩) (by simp);have hxY:=hh (Y,⟨[y],.int .i64 0,false,false⟩) (by simp);simp only at hxT hxY;have hu:¬G.used id:=hid id (ya _) (by omega);obtain⟨hl,hvv⟩:=hv;obtain⟨v0,v1,v2,rfl⟩:∃v0 v1 v2,vs = #[v0,v1,v2]:=by
  match vs,hl with
  | ⟨[a,b,c]⟩,_=>exact⟨a,b,c,rfl⟩
 have hv0:RV G w (.bsl T 0 xs.length) v0:=hvv 0 _ rfl;have hv1:RV G w (.int .i64 i) v1:=hvv 1 _ rfl;have hv2:RV G w (.bsl Y 0 1) v2:=hvv 2 _ rfl;obtain rfl:=A5p hv1;have hnY:¬G.nl Y:=hs.lies hxY (i:=0) (y:=y) rfl;obtain⟨vb,sY,curY,eY,y1,y2,y3,⟨y4,y5⟩,y6,y7,y8⟩:=hs.box Y _ hxY hnY;have hsY:sY=1:=by
  have:=(y6 0 y rfl).1;omega
 subst hsY;obtain⟨vc,curY',eY',hv2',hvc1,hvc2,hvc3,hvc4⟩:∃c cur e,v2 = .slice (some ⟨vb,0,none⟩) 1 c/\1<=c/\c<=maxLen/\w.heap[vb]?=some (.cells cur e (0,0))/\cur.size=(0+c)*1:=by
  cases hv2 with|bsl _ _ _ _ _ _ hb _ =>
  obtain⟨c,cur,e,q1,q2,q3,q4,q5⟩:=hb vb 1 y1;exact⟨c,cur,e,by simpa using q1,q2,q3,q4,q5⟩
 have hv2o:=hv2;subst hv2';obtain⟨vl,hvl⟩:∃vl,vl=curY.toList.take 1:=⟨_,rfl⟩;have hszY:1<=curY.size:=by simpa using y5
 have hvll:vl.length=1:=by rw[hvl,zw,yz]; omega
 have hvs:∀j v,vl[j]?=some v->w.cell? ⟨vb,j,none⟩=some v:=fun j v hj=>by
  rw[hvl,zy] at hj;split at hj
  ·exact (E6 y2).trans (by simpa using hj)
  ·cases hj
 have h1v:∀v∈vl,v.oneCell'=true:=by
  have:=p5 y6 (h1:=fun x hx=>by simp at hx; subst hx; exact hy1);rw[hvl];simpa using this
 have hyv:∀(j:Nat) z,y.cells[j]?=some z->∃u,vl[j]?=some u/\RV G w z u:=fun j z hz=>by
  obtain⟨u,q1,q2⟩:=(y6 0 y rfl).2 j z hz;refine⟨u,?_,q2⟩;have hj:j<1:=by rw[←hy]; exact (ze.1 hz).1
  rw[hvl,zy,zj hj];simpa using q1
 by_cases hin:i=xs.length
 ·-- at the end: an append
  subst hin;obtain⟨i0,hi0,hz0,hzs,hzb⟩:=info_parts (P:=Tryz.prog) (e:=3) (z:=.int .i64 0) (size:=1) (bytes:=8) (by kernel_rfl);have hap:=A5R (P:=Tryz.prog) hs hu hv0 hv2o (ys:=[y]) (by simp[elems,hxY]) (d:=.int .i64 0) (s:=1) (bytes:=8) (by simpa using hy) (fun z hz c hc=>by simp at hz; subst hz; exact xd.1 hy1 c hc) (r:=.bsl id 0 (xs.length+1)) (rd:=[(T,⟨xs,.int .i64 0,false,false⟩)]) (wr:=[(T,none),(id,some ⟨xs++[y],.int .i64 0,false,false⟩)])
   (by simp[A69,hxT,Bx.sz]) (by simp[zT]) (t:=106) (tx:=106) (ty:=106) (e:=3) (i:=i0) (z:=.int .i64 0) (.inr ⟨fun t h=>(by cases h),3,Tryz.underlying106⟩) Tryz.underlying106 hi0 hz0 (by rfl) hzs hzb
   (fun n hn=>by simp[A1A,hxT] at hn; subst hn; constructor<;>(simp; omega))
  obtain⟨v,w1,G',hrun,r1,r2,r3,r4⟩:=hap;have hform:∃A c,v0 = .slice A xs.length c/\xs.length<=c/\c<=maxLen/\(A=none->c=0):=by
   by_cases hn:G.nl T
   ·have hx0:=(hs.nil T _ hxT hn).1;simp only at hx0;cases hv0 with|bsl _ _ _ _ _ _ _ hnl =>
    obtain⟨q1,_,q3⟩:=hnl hn;exact⟨none,0,by rw[q1,q3],by omega,by simp[maxLen],fun _=>rfl⟩
   ·obtain⟨b,s,cur,e,k1,_⟩:=hs.box T _ hxT hn;cases hv0 with|bsl _ _ _ _ _ _ hb _ =>
    obtain⟨c,_,_,q1,q2,q3,_⟩:=hb b s k1;exact⟨_,c,q1,q2,q3,fun h=>by cases h⟩
  obtain⟨A,c,rfl,q2,q3,q4⟩:=hform;refine (B4P A xs.length c vb vc w w1 v q2 (by unfold maxLen at q3; omega) q4 (fun ty=>hrun)).mono fun e w' ⟨he,hw⟩=>?_;subst he hw;refine⟨v,G',rfl,?_,r2,r3,fun x hx=>(r4 x hx).imp _root_.id fun h=>by omega⟩;simpa using r1
 ·have hin':i<xs.length:=by omega
  have hnT:¬G.nl T:=fun hn=>by have:=(hs.nil T _ hxT hn).1; simp only at this; rw[this] at hin'; simp at hin'
  obtain⟨b,sT,cur,e,k1,k2,k3,⟨k4,k5⟩,k6,k7,k8⟩:=hs.box T _ hxT hnT;have hsT:sT=1:=by rw[←k4]; rfl
  subst hsT;obtain⟨c,hv0',hc1,hc2,hc3⟩:∃c,v0 = .slice (some ⟨b,0,none⟩) xs.length c/\xs.length<=c/\c<=maxLen/\cur.size=c*1:=by
   cases hv0 with|bsl _ _ _ _ _ _ hb _ =>
   obtain⟨c,cur',e',q1,q2,q3,q4,q5⟩:=hb b 1 k1;rw[k2] at q4;injection q4 with q4
   injection q4 with q4 _
   subst q4;exact⟨c,by simpa using q1,q2,q3,by simpa using q5⟩
  subst hv0';simp only at k5 k6;unfold maxLen at hc2;have h1c:=p5 k6 h1;have hct:cur.toList.length=cur.size:=by simp
  have hvb:vb≠b:=fun e=>hTY (hs.inj T Y b 1 1 k1 (e▸y1));have hfin:∀(W:World) (b':Nat) (cc:Nat) (R:List Value) (el':TypeId),(∀k,k<i*1->R[k]?=cur[k]?)->(∀j,j<1->R[i*1+j]?=vl[j]?)->(∀k,i*1<=k->k<xs.length*1->R[k+1]?=cur[k]?)->x1 G w 1 (xs.take i++y::xs.drop i) R.toArray:=fun W b' cc R el' q1 q2 q3=>A6Q k6 hi hy hyv q1 q2 q3;have hlen':(xs.take i++y::xs.drop i).length=xs.length+1:=by simp; omega
  by_cases hroom:xs.length+1<=c
  ·-- there is room
   have hsa:w.shape? vb=some (eY,curY.size):=(by simp[World.shape?,y2]);have hsb:w.shape? b=some (e,cur.size):=(by simp[World.shape?,k2]);refine (B0x b xs.length c i vb vc cur e vl w hin' hroom (by omega) hvb hvll k2 (by omega) (by simpa using h1c) hvs h1v eY e curY.size cur.size hsa hsb (by omega) (by simp[World.frozen?,y2]) (by simp[World.frozen?,y2])).mono fun ex w' ⟨he,q,hw⟩=>?_;subst he;obtain⟨L1,hL1⟩:∃L1,L1=I7 cur.toList (i+1) ((cur.toList.take (xs.length)).drop (i)):=⟨_,rfl⟩;rw[←hL1] at hw;have hcl:((cur.toList.take (xs.length)).drop (i)).length=(xs.length - i):=(by rw[zx,zw,hct]; omega);have hL1l:L1.length=cur.size:=(by rw[hL1,M6 (by rw[hcl,hct]; omega),hct]);have hRl:(I7 L1 (i) vl).length=cur.size:=(by rw[M6 (by omega),hL1l]);have hcont:x1 G w 1 (xs.take i++y::xs.drop i) (I7 L1 (i) vl).toArray:=by
    refine hfin w b c _ e (fun k hk=>?_) (fun j hj=>?_) (fun k hk1 hk2=>?_)
    ·rw[H9 (by omega),zj (by omega),hL1,H9 (by rw[hcl,hct]; omega),zj (by omega),yw]
    ·rw[H9 (by omega),zf (by omega),zj (by omega)];congr 1
     omega
    ·rw[H9 (by omega),zf (by omega),zf (by omega),hL1,H9 (by rw[hcl,hct]; omega),zf (by omega),zj (by rw[hcl]; omega),yc,zy,zj (by omega),yw];congr 1
     omega
   have hg1:((w.drewN q).setRow b L1.toArray).heap[b]?=some (.cells L1.toArray e (0,0)):=setRow_heap (w.drewN q) b cur _ e (0,0) k2;have hg2:w'.heap[b]?=some (.cells (I7 L1 (i) vl).toArray e (0,0)):=(by rw[hw]; exact setRow_heap _ b _ _ e (0,0) hg1);have hother:∀k,k≠b->w'.heap[k]?=w.heap[k]?:=fun k hk=>by
    rw[hw];exact (setRow_other _ b k _ hk).trans (setRow_other (w.drewN q) b k _ hk)
   obtain⟨r1,r2⟩:=hs.rowed (id:=id) hxT rfl rfl hnT k1 k2 hu (I7 L1 (i) vl).toArray (xs.take i++y::xs.drop i) (by rw[hlen',yo,hRl]; omega) hg2 hother (by rw[hw]; rfl) (by rw[hw]; rfl) (by rw[hw]; rfl) (by rw[hw]; simp[World.drewN]) hcont;refine⟨_,_,rfl,r1,r2,?_,fun x hx=>hx.elim (fun h=>.inr (by omega)) .inl⟩;refine .bsl id 0 _ _ rfl (.inl rfl) (fun b' s' hbm=>?_) fun hn'=>(hu (hs.nlu id hn').1).elim;simp only[Gh.rename,C7,zd,zi] at hbm;obtain⟨rfl,rfl⟩:=hbm;exact⟨c,_,e,by simp,hroom,by unfold maxLen; omega,hg2,by rw[yo,hRl]; omega⟩
  ·-- a new row
   refine (B2u b xs.length c i vb vc cur e vl w hin' hc1 (by omega) (by omega) hvll k2 (by omega) (by simpa using h1c) hvs h1v).mono fun ex w' ⟨he,q,ROW,hRl,hRt,hw⟩=>?_;subst he;have hG1:=grownCap_ge w (xs.length+1) c 3;have hG2:=grownCap_le_maxLen w (xs.length+1) c 3 (by unfold maxLen; omega);generalize grownCap w (xs.length+1) c 3=g at hRl hG1 hG2 hw;obtain⟨R1,hR1⟩:∃R1,R1=I7 ROW (i) vl:=⟨_,rfl⟩;rw[←hR1] at hw;have hcl:((cur.toList.take (xs.length)).drop (i)).length=(xs.length - i):=(by rw[zx,zw,hct]; omega);have hR1l:R1.length=g*1:=(by rw[hR1,M6 (by omega),hRl]);obtain⟨R2,hR2⟩:∃R2,R2=I7 R1 (i+1) ((cur.toList.take (xs.length)).drop (i)):=⟨_,rfl⟩;rw[←hR2] at hw;have hR2l:R2.length=g*1:=(by rw[hR2,M6 (by rw[hcl]; omega),hR1l]);have hcont:x1 G w 1 (xs.take i++y::xs.drop i) R2.toArray:=by
    refine hfin w b c _ e (fun k hk=>?_) (fun j hj=>?_) (fun k hk1 hk2=>?_)
    ·rw[hR2,H9 (by rw[hcl]; omega),zj (by omega),hR1,H9 (by omega),zj (by omega)];have:=congrArg (fun l=>l[k]?) hRt;simp only[zy] at this;rw[zj (by omega),zj (by omega)] at this;rw[this,yw]
    ·rw[hR2,H9 (by rw[hcl]; omega),zj (by omega),hR1,H9 (by omega),zf (by omega),zj (by omega)];congr 1
     omega
    ·rw[hR2,H9 (by rw[hcl]; omega),zf (by omega),zj (by rw[hcl]; omega),yc,zy,zj (by omega),yw];congr 1
     omega
   have hN0:((w.drewN q).alloc (.cells ROW.toArray 3)).heap[w.heap.size]?=some (.cells ROW.toArray 3 (0,0)):=heap_alloc_new (w.drewN q) _;have hN1:(((w.drewN q).alloc (.cells ROW.toArray 3)).setRow w.heap.size R1.toArray).heap[w.heap.size]?=some (.cells R1.toArray 3 (0,0)):=setRow_heap _ _ _ _ _ (0,0) hN0;have hN2:w'.heap[w.heap.size]?=some (.cells R2.toArray 3 (0,0)):=(by rw[hw]; exact setRow_heap _ _ _ _ _ (0,0) hN1);have hother:∀k,k<w.heap.size->w'.heap[k]?=w.heap[k]?:=fun k hk=>by
    rw[hw];exact ((setRow_other _ _ k _ (by omega)).trans (setRow_other _ _ k _ (by omega))).trans (Below.heap_alloc (w.drewN q) _ k hk)
   obtain⟨r1,r2⟩:=hs.rehomed (id:=id) hxT hnT k1 hu R2.toArray 3 (xs.take i++y::xs.drop i) (by rw[hlen',yo,hR2l]; omega) hN2 hother (by rw[hw]; rfl) (by rw[hw]; rfl) (by rw[hw]; rfl) (by rw[hw]; simp[World.drewN]) hcont;refine⟨_,_,rfl,r1,r2,?_,fun x hx=>hx.elim (fun h=>.inr (by omega)) .inl⟩;refine .bsl id 0 _ _ rfl (.inl rfl) (fun b' s' hbm=>?_) fun hn'=>(hu (hs.nlu id hn').1).elim;simp only[Gh.rename,C7,zd,zi] at hbm;obtain⟨rfl,rfl⟩:=hbm;exact⟨g,_,3,by simp,hG1,hG2,hN2,by rw[yo,hR2l]; omega⟩
theorem B0z(xs:List AV)(y:AV)(T Y i:Nat)(id:Nat)(hi:i<=xs.length)(hTY:T≠Y)(hTid:T<id\/id+1024<=T)(hbig:xs.length<=1000000)(h1:∀x∈xs,x.cells.all AV.one=true)(hy:y.cells.length=3)(hy1:y.cells.all AV.one=true):
  A2 Tryz.prog 260 [.bsl T 0 xs.length,.int .i64 i,.bsl Y 0 1] [(T,⟨xs,zT,false,false⟩),(Y,⟨[y],zT,false,false⟩)] id (.bsl id 0 (xs.length+1)) [(T,none),(id,some ⟨xs.take i++y::xs.drop i,zT,false,false⟩)]:=by
 refine⟨⟨_,Tryz.func260,by kernel_rfl,by kernel_rfl⟩,fun C G bx w vs nb hs hv hh hnb hid=>?_⟩;have hxT:=hh (T,⟨xs,zT,false,false⟩) (by simp);have hxY:=hh (Y,⟨[y],zT,false,false⟩) (by simp);simp only at hxT hxY;have hu:¬G.used id:=hid id (ya _) (by omega);obtain⟨hl,hvv⟩:=hv;obtain⟨v0,v1,v2,rfl⟩:∃v0 v1 v2,vs = #[v0,v1,v2]:=by
  match vs,hl with
  | ⟨[a,b,c]⟩,_=>exact⟨a,b,c,rfl⟩
 have hv0:RV G w (.bsl T 0 xs.length) v0:=hvv 0 _ rfl;have hv1:RV G w (.int .i64 i) v1:=hvv 1 _ rfl;have hv2:RV G w (.bsl Y 0 1) v2:=hvv 2 _ rfl;obtain rfl:=A5p hv1;have hnY:¬G.nl Y:=hs.lies hxY (i:=0) (y:=y) rfl;obtain⟨vb,sY,curY,eY,y1,y2,y3,⟨y4,y5⟩,y6,y7,y8⟩:=hs.box Y _ hxY hnY;have hsY:sY=3:=by
  have:=(y6 0 y rfl).1;omega
 subst hsY;obtain⟨vc,curY',eY',hv2',hvc1,hvc2,hvc3,hvc4⟩:∃c cur e,v2 = .slice (some ⟨vb,0,none⟩) 1 c/\1<=c/\c<=maxLen/\w.heap[vb]?=some (.cells cur e (0,0))/\cur.size=(0+c)*3:=by
  cases hv2 with|bsl _ _ _ _ _ _ hb _ =>
  obtain⟨c,cur,e,q1,q2,q3,q4,q5⟩:=hb vb 3 y1;exact⟨c,cur,e,by simpa using q1,q2,q3,q4,q5⟩
 have hv2o:=hv2;subst hv2';obtain⟨vl,hvl⟩:∃vl,vl=curY.toList.take 3:=⟨_,rfl⟩;have hszY:3<=curY.size:=by simpa using y5
 have hvll:vl.length=3:=by rw[hvl,zw,yz]; omega
 have hvs:∀j v,vl[j]?=some v->w.cell? ⟨vb,j,none⟩=some v:=fun j v hj=>by
  rw[hvl,zy] at hj;split at hj
  ·exact (E6 y2).trans (by simpa using hj)
  ·cases hj
 have h1v:∀v∈vl,v.oneCell'=true:=by
  have:=p5 y6 (h1:=fun x hx=>by simp at hx; subst hx; exact hy1);rw[hvl];simpa using this
 have hyv:∀(j:Nat) z,y.cells[j]?=some z->∃u,vl[j]?=some u/\RV G w z u:=fun j z hz=>by
  obtain⟨u,q1,q2⟩:=(y6 0 y rfl).2 j z hz;refine⟨u,?_,q2⟩;have hj:j<3:=by rw[←hy]; exact (ze.1 hz).1
  rw[hvl,zy,zj hj];simpa using q1
 by_cases hin:i=xs.length
 ·-- at the end: an append
  subst hin;obtain⟨i0,hi0,hz0,hzs,hzb⟩:=info_parts (P:=Tryz.prog) (e:=66) (z:=.agg #[.int .i64 0,.int .i64 0,.slice none 0 0]) (size:=3) (bytes:=40) (by kernel_rfl);have hap:=A5R (P:=Tryz.prog) hs hu hv0 hv2o (ys:=[y]) (by simp[elems,hxY]) (d:=zT) (s:=3) (bytes:=40) (by simpa using hy) (fun z hz c hc=>by simp at hz; subst hz; exact xd.1 hy1 c hc) (r:=.bsl id 0 (xs.length+1)) (rd:=[(T,⟨xs,zT,false,false⟩)]) (wr:=[(T,none),(id,some ⟨xs++[y],zT,false,false⟩)])
   (by simp[A69,hxT,Bx.sz]) (by simp[zT]) (t:=27) (tx:=27) (ty:=27) (e:=66) (i:=i0) (z:=.agg #[.int .i64 0,.int .i64 0,.slice none 0 0]) (.inr ⟨fun t h=>(by cases h),66,Tryz.underlying27⟩) Tryz.underlying27 hi0 hz0 (by rfl) hzs hzb
   (fun n hn=>by simp[A1A,hxT] at hn; subst hn; constructor<;>(simp; omega))
  obtain⟨v,w1,G',hrun,r1,r2,r3,r4⟩:=hap;have hform:∃A c,v0 = .slice A xs.length c/\xs.length<=c/\c<=maxLen/\(A=none->c=0):=by
   by_cases hn:G.nl T
   ·have hx0:=(hs.nil T _ hxT hn).1;simp only at hx0;cases hv0 with|bsl _ _ _ _ _ _ _ hnl =>
    obtain⟨q1,_,q3⟩:=hnl hn;exact⟨none,0,by rw[q1,q3],by omega,by simp[maxLen],fun _=>rfl⟩
   ·obtain⟨b,s,cur,e,k1,_⟩:=hs.box T _ hxT hn;cases hv0 with|bsl _ _ _ _ _ _ hb _ =>
    obtain⟨c,_,_,q1,q2,q3,_⟩:=hb b s k1;exact⟨_,c,q1,q2,q3,fun h=>by cases h⟩
  obtain⟨A,c,rfl,q2,q3,q4⟩:=hform;refine (B0y A xs.length c vb vc w w1 v q2 (by unfold maxLen at q3; omega) q4 (fun ty=>hrun)).mono fun e w' ⟨he,hw⟩=>?_;subst he hw;refine⟨v,G',rfl,?_,r2,r3,fun x hx=>(r4 x hx).imp _root_.id fun h=>by omega⟩;simpa using r1
 ·have hin':i<xs.length:=by omega
  have hnT:¬G.nl T:=fun hn=>by have:=(hs.nil T _ hxT hn).1; simp only at this; rw[this] at hin'; simp at hin'
  obtain⟨b,sT,cur,e,k1,k2,k3,⟨k4,k5⟩,k6,k7,k8⟩:=hs.box T _ hxT hnT;have hsT:sT=3:=by rw[←k4]; rfl
  subst hsT;obtain⟨c,hv0',hc1,hc2,hc3⟩:∃c,v0 = .slice (some ⟨b,0,none⟩) xs.length c/\xs.length<=c/\c<=maxLen/\cur.size=c*3:=by
   cases hv0 with|bsl _ _ _ _ _ _ hb _ =>
   obtain⟨c,cur',e',q1,q2,q3,q4,q5⟩:=hb b 3 k1;rw[k2] at q4;injection q4 with q4
   injection q4 with q4 _
   subst q4;exact⟨c,by simpa using q1,q2,q3,by simpa using q5⟩
  subst hv0';simp only at k5 k6;unfold maxLen at hc2;have h1c:=p5 k6 h1;have hct:cur.toList.length=cur.size:=by simp
  have hvb:vb≠b:=fun e=>hTY (hs.inj T Y b 3 3 k1 (e▸y1));have hfin:∀(W:World) (b':Nat) (cc:Nat) (R:List Value) (el':TypeId),(∀k,k<i*3->R[k]?=cur[k]?)->(∀j,j<3->R[i*3+j]?=vl[j]?)->(∀k,i*3<=k->k<xs.length*3->R[k+3]?=cur[k]?)->x1 G w 3 (xs.take i++y::xs.drop i) R.toArray:=fun W b' cc R el' q1 q2 q3=>A6Q k6 hi hy hyv q1 q2 q3;have hlen':(xs.take i++y::xs.drop i).length=xs.length+1:=by simp; omega
  by_cases hroom:xs.length+1<=c
  ·-- there is room
   have hsa:w.shape? vb=some (eY,curY.size):=(by simp[World.shape?,y2]);have hsb:w.shape? b=some (e,cur.size):=(by simp[World.shape?,k2]);refine (A84 b xs.length c i vb vc cur e vl w hin' hroom (by omega) hvb hvll k2 (by omega) (by simpa using h1c) hvs h1v eY e curY.size cur.size hsa hsb (by omega) (by simp[World.frozen?,y2]) (by simp[World.frozen?,y2])).mono fun ex w' ⟨he,q,hw⟩=>?_;subst he;obtain⟨L1,hL1⟩:∃L1,L1=I7 cur.toList ((i+1)*3) ((cur.toList.take (xs.length*3)).drop (i*3)):=⟨_,rfl⟩;rw[←hL1] at hw;have hcl:((cur.toList.take (xs.length*3)).drop (i*3)).length=(xs.length - i)*3:=(by rw[zx,zw,hct]; omega);have hL1l:L1.length=cur.size:=(by rw[hL1,M6 (by rw[hcl,hct]; omega),hct]);have hRl:(I7 L1 (i*3) vl).length=cur.size:=(by rw[M6 (by omega),hL1l]);have hcont:x1 G w 3 (xs.take i++y::xs.drop i) (I7 L1 (i*3) vl).toArray:=by
    refine hfin w b c _ e (fun k hk=>?_) (fun j hj=>?_) (fun k hk1 hk2=>?_)
    ·rw[H9 (by omega),zj (by omega),hL1,H9 (by rw[hcl,hct]; omega),zj (by omega),yw]
    ·rw[H9 (by omega),zf (by omega),zj (by omega)];congr 1
     omega
    ·rw[H9 (by omega),zf (by omega),zf (by omega),hL1,H9 (by rw[hcl,hct]; omega),zf (by omega),zj (by rw[hcl]; omega),yc,zy,zj (by omega),yw];congr 1
     omega
   have hg1:((w.drewN q).setRow b L1.toArray).heap[b]?=some (.cells L1.toArray e (0,0)):=setRow_heap (w.drewN q) b cur _ e (0,0) k2;have hg2:w'.heap[b]?=some (.cells (I7 L1 (i*3) vl).toArray e (0,0)):=(by rw[hw]; exact setRow_heap _ b _ _ e (0,0) hg1);have hother:∀k,k≠b->w'.heap[k]?=w.heap[k]?:=fun k hk=>by
    rw[hw];exact (setRow_other _ b k _ hk).trans (setRow_other (w.drewN q) b k _ hk)
   obtain⟨r1,r2⟩:=hs.rowed (id:=id) hxT rfl rfl hnT k1 k2 hu (I7 L1 (i*3) vl).toArray (xs.take i++y::xs.drop i) (by rw[hlen',yo,hRl]; omega) hg2 hother (by rw[hw]; rfl) (by rw[hw]; rfl) (by rw[hw]; rfl) (by rw[hw]; simp[World.drewN]) hcont;refine⟨_,_,rfl,r1,r2,?_,fun x hx=>hx.elim (fun h=>.inr (by omega)) .inl⟩;refine .bsl id 0 _ _ rfl (.inl rfl) (fun b' s' hbm=>?_) fun hn'=>(hu (hs.nlu id hn').1).elim;simp only[Gh.rename,C7,zd,zi] at hbm;obtain⟨rfl,rfl⟩:=hbm;exact⟨c,_,e,by simp,hroom,by unfold maxLen; omega,hg2,by rw[yo,hRl]; omega⟩
  ·-- a new row
   refine (A8w b xs.length c i vb vc cur e vl w hin' hc1 (by omega) (by omega) hvll k2 (by omega) (by simpa using h1c) hvs h1v).mono fun ex w' ⟨he,q,ROW,hRl,hRt,hw⟩=>?_;subst he;have hG1:=grownCap_ge w (xs.length+1) c 66;have hG2:=grownCap_le_maxLen w (xs.length+1) c 66 (by unfold maxLen; omega);generalize grownCap w (xs.length+1) c 66=g at hRl hG1 hG2 hw;obtain⟨R1,hR1⟩:∃R1,R1=I7 ROW (i*3) vl:=⟨_,rfl⟩;rw[←hR1] at hw;have hcl:((cur.toList.take (xs.length*3)).drop (i*3)).length=(xs.length - i)*3:=(by rw[zx,zw,hct]; omega);have hR1l:R1.length=g*3:=(by rw[hR1,M6 (by omega),hRl]);obtain⟨R2,hR2⟩:∃R2,R2=I7 R1 ((i+1)*3) ((cur.toList.take (xs.length*3)).drop (i*3)):=⟨_,rfl⟩;rw[←hR2] at hw;have hR2l:R2.length=g*3:=(by rw[hR2,M6 (by rw[hcl]; omega),hR1l]);have hcont:x1 G w 3 (xs.take i++y::xs.drop i) R2.toArray:=by
    refine hfin w b c _ e (fun k hk=>?_) (fun j hj=>?_) (fun k hk1 hk2=>?_)
    ·rw[hR2,H9 (by rw[hcl]; omega),zj (by omega),hR1,H9 (by omega),zj (by omega)];have:=congrArg (fun l=>l[k]?) hRt;simp only[zy] at this;rw[zj (by omega),zj (by omega)] at this;rw[this,yw]
    ·rw[hR2,H9 (by rw[hcl]; omega),zj (by omega),hR1,H9 (by omega),zf (by omega),zj (by omega)];congr 1
     omega
    ·rw[hR2,H9 (by rw[hcl]; omega),zf (by omega),zj (by rw[hcl]; omega),yc,zy,zj (by omega),yw];congr 1
     omega
   have hN0:((w.drewN q).alloc (.cells ROW.toArray 66)).heap[w.heap.size]?=some (.cells ROW.toArray 66 (0,0)):=heap_alloc_new (w.drewN q) _;have hN1:(((w.drewN q).alloc (.cells ROW.toArray 66)).setRow w.heap.size R1.toArray).heap[w.heap.size]?=some (.cells R1.toArray 66 (0,0)):=setRow_heap _ _ _ _ _ (0,0) hN0;have hN2:w'.heap[w.heap.size]?=some (.cells R2.toArray 66 (0,0)):=(by rw[hw]; exact setRow_heap _ _ _ _ _ (0,0) hN1);have hother:∀k,k<w.heap.size->w'.heap[k]?=w.heap[k]?:=fun k hk=>by
    rw[hw];exact ((setRow_other _ _ k _ (by omega)).trans (setRow_other _ _ k _ (by omega))).trans (Below.heap_alloc (w.drewN q) _ k hk)
   obtain⟨r1,r2⟩:=hs.rehomed (id:=id) hxT hnT k1 hu R2.toArray 66 (xs.take i++y::xs.drop i) (by rw[hlen',yo,hR2l]; omega) hN2 hother (by rw[hw]; rfl) (by rw[hw]; rfl) (by rw[hw]; rfl) (by rw[hw]; simp[World.drewN]) hcont;refine⟨_,_,rfl,r1,r2,?_,fun x hx=>hx.elim (fun h=>.inr (by omega)) .inl⟩;refine .bsl id 0 _ _ rfl (.inl rfl) (fun b' s' hbm=>?_) fun hn'=>(hu (hs.nlu id hn').1).elim;simp only[Gh.rename,C7,zd,zi] at hbm;obtain⟨rfl,rfl⟩:=hbm;exact⟨g,_,66,by simp,hG1,hG2,hN2,by rw[yo,hR2l]; omega⟩
theorem B4Q(xs:List AV)(T i:Nat)(id:Nat)(hi:i<xs.length)(hbig:xs.length<=1000000)(h1:∀x∈xs,x.cells.all AV.one=true):
  A2 Tryz.prog 300 [.bsl T 0 xs.length,.int .i64 i,.int .i64 ((i:Int)+1)] [(T,⟨xs,.int .i64 0,false,false⟩)] id (.bsl id 0 (xs.length - 1)) [(T,none),(id,some ⟨xs.take i++xs.drop (i+1),.int .i64 0,false,false⟩)]:=by
 refine⟨⟨_,Tryz.func300,by kernel_rfl,by kernel_rfl⟩,fun C G bx w vs nb hs hv hh hnb hid=>?_⟩;have hxT:=hh (T,⟨xs,.int .i64 0,false,false⟩) (by simp);simp only at hxT;have hu:¬G.used id:=hid id (ya _) (by omega);obtain⟨hl,hvv⟩:=hv;obtain⟨v0,v1,v2,rfl⟩:∃v0 v1 v2,vs = #[v0,v1,v2]:=by
  match vs,hl with
  | ⟨[a,b,c]⟩,_=>exact⟨a,b,c,rfl⟩
 have hv0:RV G w (.bsl T 0 xs.length) v0:=hvv 0 _ rfl;have hv1:RV G w (.int .i64 i) v1:=hvv 1 _ rfl;have hv2:RV G w (.int .i64 ((i:Int)+1)) v2:=hvv 2 _ rfl;obtain rfl:=A5p hv1;obtain rfl:=A5p hv2;have hnT:¬G.nl T:=fun hn=>by have:=(hs.nil T _ hxT hn).1; simp only at this; rw[this] at hi; simp at hi
 obtain⟨b,sT,cur,e,k1,k2,k3,⟨k4,k5⟩,k6,k7,k8⟩:=hs.box T _ hxT hnT;have hsT:sT=1:=by rw[←k4]; rfl
 subst hsT;obtain⟨c,hv0',hc1,hc2,hc3⟩:∃c,v0 = .slice (some ⟨b,0,none⟩) xs.length c/\xs.length<=c/\c<=maxLen/\cur.size=c*1:=by
  cases hv0 with|bsl _ _ _ _ _ _ hb _ =>
  obtain⟨c,cur',e',q1,q2,q3,q4,q5⟩:=hb b 1 k1;rw[k2] at q4;injection q4 with q4
  injection q4 with q4 _
  subst q4;exact⟨c,by simpa using q1,q2,q3,by simpa using q5⟩
 subst hv0';simp only at k5 k6;unfold maxLen at hc2;have h1c:=p5 k6 h1;have hct:cur.toList.length=cur.size:=by simp
 refine (C1x b xs.length c i cur e w hi hc1 (by omega) k2 (by omega) (by simpa using h1c)).mono fun ex w' ⟨he,q,hw⟩=>?_;subst he;obtain⟨L1,hL1⟩:∃L1,L1=I7 cur.toList (i) ((cur.toList.take (xs.length)).drop (i+1)):=⟨_,rfl⟩;rw[←hL1] at hw;obtain⟨zs,hzs⟩:∃zs,zs=(Builtin.zeroCells (Value.cells (.int .i64 0)) 1).toList:=⟨_,rfl⟩;rw[←hzs] at hw;have hzl:zs.length=1:=by rw[hzs,yz,size_zeroCells]<;>rfl
 have hcl:((cur.toList.take (xs.length)).drop (i+1)).length=(xs.length - (i+1)):=by rw[zx,zw,hct]; omega
 have hL1l:L1.length=cur.size:=by rw[hL1,M6 (by rw[hcl,hct]; omega),hct]
 have hRl:(I7 L1 (i+(xs.length - (i+1))) zs).length=cur.size:=by rw[M6 (by omega),hL1l]
 have hlen':(xs.take i++xs.drop (i+1)).length=xs.length - 1:=by simp; omega
 have hcont:x1 G w 1 (xs.take i++xs.drop (i+1)) (I7 L1 (i+(xs.length - (i+1))) zs).toArray:=by
  refine A85 k6 hi (fun k hk=>?_) (fun k hk1 hk2=>?_)
  ·rw[H9 (by omega),zj (by omega),hL1,H9 (by rw[hcl,hct]; omega),zj (by omega),yw]
  ·rw[H9 (by omega),zj (by omega),hL1,H9 (by rw[hcl,hct]; omega),zf (by omega),zj (by rw[hcl]; omega),yc,zy,zj (by omega),yw];congr 1
   omega
 have hg1:((w.drewN q).setRow b L1.toArray).heap[b]?=some (.cells L1.toArray e (0,0)):=setRow_heap (w.drewN q) b cur _ e (0,0) k2;have hg2:w'.heap[b]?=some (.cells (I7 L1 (i+(xs.length - (i+1))) zs).toArray e (0,0)):=by rw[hw]; exact setRow_heap _ b _ _ e (0,0) hg1
 have hother:∀k,k≠b->w'.heap[k]?=w.heap[k]?:=fun k hk=>by
  rw[hw];exact (setRow_other _ b k _ hk).trans (setRow_other (w.drewN q) b k _ hk)
 obtain⟨r1,r2⟩:=hs.rowed (id:=id) hxT rfl rfl hnT k1 k2 hu (I7 L1 (i+(xs.length - (i+1))) zs).toArray (xs.take i++xs.drop (i+1)) (by rw[hlen',yo,hRl]; omega) hg2 hother (by rw[hw]; rfl) (by rw[hw]; rfl) (by rw[hw]; rfl) (by rw[hw]; simp[World.drewN]) hcont;have hM:i+(xs.length - (i+1))=xs.length - 1:=by omega
 rw[hM];refine⟨_,_,rfl,r1,r2,?_,fun x hx=>hx.elim (fun h=>.inr (by omega)) .inl⟩;refine .bsl id 0 _ _ rfl (.inl rfl) (fun b' s' hbm=>?_) fun hn'=>(hu (hs.nlu id hn').1).elim;simp only[Gh.rename,C7,zd,zi] at hbm;obtain⟨rfl,rfl⟩:=hbm;exact⟨c,_,e,by simp,by omega,by unfold maxLen; omega,hg2,by rw[yo,hRl]; omega⟩
theorem B10(xs:List AV)(T i:Nat)(id:Nat)(hi:i<xs.length)(hbig:xs.length<=1000000)(h1:∀x∈xs,x.cells.all AV.one=true):
  A2 Tryz.prog 262 [.bsl T 0 xs.length,.int .i64 i,.int .i64 ((i:Int)+1)] [(T,⟨xs,zT,false,false⟩)] id (.bsl id 0 (xs.length - 1)) [(T,none),(id,some ⟨xs.take i++xs.drop (i+1),zT,false,false⟩)]:=by
 refine⟨⟨_,Tryz.func262,by kernel_rfl,by kernel_rfl⟩,fun C G bx w vs nb hs hv hh hnb hid=>?_⟩;have hxT:=hh (T,⟨xs,zT,false,false⟩) (by simp);simp only at hxT;have hu:¬G.used id:=hid id (ya _) (by omega);obtain⟨hl,hvv⟩:=hv;obtain⟨v0,v1,v2,rfl⟩:∃v0 v1 v2,vs = #[v0,v1,v2]:=by
  match vs,hl with
  | ⟨[a,b,c]⟩,_=>exact⟨a,b,c,rfl⟩
 have hv0:RV G w (.bsl T 0 xs.length) v0:=hvv 0 _ rfl;have hv1:RV G w (.int .i64 i) v1:=hvv 1 _ rfl;have hv2:RV G w (.int .i64 ((i:Int)+1)) v2:=hvv 2 _ rfl;obtain rfl:=A5p hv1;obtain rfl:=A5p hv2;have hnT:¬G.nl T:=fun hn=>by have:=(hs.nil T _ hxT hn).1; simp only at this; rw[this] at hi; simp at hi
 obtain⟨b,sT,cur,e,k1,k2,k3,⟨k4,k5⟩,k6,k7,k8⟩:=hs.box T _ hxT hnT;have hsT:sT=3:=by rw[←k4]; rfl
 subst hsT;obtain⟨c,hv0',hc1,hc2,hc3⟩:∃c,v0 = .slice (some ⟨b,0,none⟩) xs.length c/\xs.length<=c/\c<=maxLen/\cur.size=c*3:=by
  cases hv0 with|bsl _ _ _ _ _ _ hb _ =>
  obtain⟨c,cur',e',q1,q2,q3,q4,q5⟩:=hb b 3 k1;rw[k2] at q4;injection q4 with q4
  injection q4 with q4 _
  subst q4;exact⟨c,by simpa using q1,q2,q3,by simpa using q5⟩
 subst hv0';simp only at k5 k6;unfold maxLen at hc2;have h1c:=p5 k6 h1;have hct:cur.toList.length=cur.size:=by simp
 refine (B76 b xs.length c i cur e w hi hc1 (by omega) k2 (by omega) (by simpa using h1c)).mono fun ex w' ⟨he,q,hw⟩=>?_;subst he;obtain⟨L1,hL1⟩:∃L1,L1=I7 cur.toList (i*3) ((cur.toList.take (xs.length*3)).drop ((i+1)*3)):=⟨_,rfl⟩;rw[←hL1] at hw;obtain⟨zs,hzs⟩:∃zs,zs=(Builtin.zeroCells (Value.cells (.agg #[.int .i64 0,.int .i64 0,.slice none 0 0])) 1).toList:=⟨_,rfl⟩;rw[←hzs] at hw;have hzl:zs.length=3:=by rw[hzs,yz,size_zeroCells]<;>rfl
 have hcl:((cur.toList.take (xs.length*3)).drop ((i+1)*3)).length=(xs.length - (i+1))*3:=by rw[zx,zw,hct]; omega
 have hL1l:L1.length=cur.size:=by rw[hL1,M6 (by rw[hcl,hct]; omega),hct]
 have hRl:(I7 L1 ((i+(xs.length - (i+1)))*3) zs).length=cur.size:=by rw[M6 (by omega),hL1l]
 have hlen':(xs.take i++xs.drop (i+1)).length=xs.length - 1:=by simp; omega
 have hcont:x1 G w 3 (xs.take i++xs.drop (i+1)) (I7 L1 ((i+(xs.length - (i+1)))*3) zs).toArray:=by
  refine A85 k6 hi (fun k hk=>?_) (fun k hk1 hk2=>?_)
  ·rw[H9 (by omega),zj (by omega),hL1,H9 (by rw[hcl,hct]; omega),zj (by omega),yw]
  ·rw[H9 (by omega),zj (by omega),hL1,H9 (by rw[hcl,hct]; omega),zf (by omega),zj (by rw[hcl]; omega),yc,zy,zj (by omega),yw];congr 1
   omega
 have hg1:((w.drewN q).setRow b L1.toArray).heap[b]?=some (.cells L1.toArray e (0,0)):=setRow_heap (w.drewN q) b cur _ e (0,0) k2;have hg2:w'.heap[b]?=some (.cells (I7 L1 ((i+(xs.length - (i+1)))*3) zs).toArray e (0,0)):=by rw[hw]; exact setRow_heap _ b _ _ e (0,0) hg1
 have hother:∀k,k≠b->w'.heap[k]?=w.heap[k]?:=fun k hk=>by
  rw[hw];exact (setRow_other _ b k _ hk).trans (setRow_other (w.drewN q) b k _ hk)
 obtain⟨r1,r2⟩:=hs.rowed (id:=id) hxT rfl rfl hnT k1 k2 hu (I7 L1 ((i+(xs.length - (i+1)))*3) zs).toArray (xs.take i++xs.drop (i+1)) (by rw[hlen',yo,hRl]; omega) hg2 hother (by rw[hw]; rfl) (by rw[hw]; rfl) (by rw[hw]; rfl) (by rw[hw]; simp[World.drewN]) hcont;have hM:i+(xs.length - (i+1))=xs.length - 1:=by omega
 rw[hM];refine⟨_,_,rfl,r1,r2,?_,fun x hx=>hx.elim (fun h=>.inr (by omega)) .inl⟩;refine .bsl id 0 _ _ rfl (.inl rfl) (fun b' s' hbm=>?_) fun hn'=>(hu (hs.nlu id hn').1).elim;simp only[Gh.rename,C7,zd,zi] at hbm;obtain⟨rfl,rfl⟩:=hbm;exact⟨c,_,e,by simp,by omega,by unfold maxLen; omega,hg2,by rw[yo,hRl]; omega⟩
def L0(k:Int)(f:Fd):Bool:=if k=3 then decide (f.kind=1) else if k=4 then decide (f.kind=2) else R8 f.kind
def u5(ty:Ty)(e:Ev)(c:Nat):AV:=if e.field<0 then .tup [.agg [.str [],.int .i64 0,.str []],.nilp,.int .i64 5] else match ty.fields[e.field.toNat]? with
 | none=>.tup [.agg [.str [],.int .i64 0,.str []],.nilp,.int .i64 5]
 | some f=>if L0 e.kind f=true then .tup [T2 f,.ptr c e.field.toNat 0,.int .i64 0] else .tup [T2 f,.nilp,.int .i64 7]
def S2(l:List Ty)(th:AV)(e:Ev)(i:Int):Bx:=⟨[eD l th e i],eD [] .nils ⟨0,0,0,0,0,[]⟩ 0,false,false⟩
theorem A5q(l:List Ty)(S:List H1)(e:Ev)(i:Nat)(o:H1)(ty:Ty)(D T:Nat)(id:Nat)(hty:l[e.type.toNat]?=some ty)(h0:0<=e.type)(ho:S[i]?=some o)(hlen:o.t.cells.length=ty.fields.length)(his:o.is.length=o.t.cells.length)(hl8:ty.fields.length<=1000)(d1:D≠T)(d2:D≠o.c)(d3:T≠o.c):
  A2 Tryz.prog 297 [.ptr D 0 0] [(D,S2 l (.bsl T 0 S.length) e i),(T,P2 S),(o.c,cBn o)] id (u5 ty e o.c) []:=by
 unfold P2 S2 cBn eD;generalize hoc:o.c=c at *;refine w297.b.1 fun E hP hR hl hid hB hu=>?_;simp[w297];have hD:=hl (D,_) (za ..);simp only at hD;have D1:=lf hD;have hT:=hl (T,_) (zb _ (za ..));simp only at hT;have T1:=lf hT;have hc:=hl (c,_) (zb _ (zb _ (za ..)));simp only at hc;have c1:=lf hc;have hTn:∀x∈S.map W6,B4 E.G0.used x:=C1 hB (zb _ (za ..));have hCn:∀x∈List.zipWith M2 o.t.cells o.is,B4 E.G0.used x:=C1 hB (zb _ (zb _ (za ..)));try simp[D1,T1,c1,d1,d1.symm,d2,d2.symm,d3,d3.symm,hty,h0,I8]
 have hiS:i<S.length:=(ze.1 ho).1;have htl:e.type<l.length:=by have:=(ze.1 hty).1; omega
 refine⟨htl,?_⟩;have hw:IntKind.i64.wrap ((ty.fields.length:Int) - 1)=(ty.fields.length:Int) - 1:=A5 (by omega);rw[hw];(refine D8 hP rfl (F5 _ _ _ _) (by simp[D1,T1,c1,d1,d1.symm,d2,d2.symm,d3,d3.symm]) (by simp[D1,T1,c1,d1,d1.symm,d2,d2.symm,d3,d3.symm]<;>rfl) ?_; refine A3 4000 ?_; simp[D1,T1,c1,d1,d1.symm,d2,d2.symm,d3,d3.symm]);refine E5 (fun h=>?_) (fun h=>?_)<;>simp[D1,T1,c1,d1,d1.symm,d2,d2.symm,d3,d3.symm]
 ·have hr:u5 ty e c = .tup [.agg [.str [],.int .i64 0,.str []],.nilp,.int .i64 5]:=by
   unfold u5;split
   ·rfl
   ·rename_i h5;rw[wl (by simp at h; omega)]
  rw[hr] at hR;refine yE hR [] (by simp[D1,T1,c1,d1,d1.symm,d2,d2.symm,d3,d3.symm,A4 hid]) fun hrn=>⟨?_,?_,?_,?_,?_,?_⟩<;>(try simp[D1,T1,c1,d1,d1.symm,d2,d2.symm,d3,d3.symm,A4 hid])
  ·exact⟨by exact yO hu hTn,by exact yO hu hCn⟩
 have h:0<=e.field/\e.field<=ty.fields.length - 1:=by simpa using h
 obtain⟨f,hf⟩:∃f,ty.fields[e.field.toNat]?=some f:=⟨_,zc (by omega)⟩;have hr:u5 ty e c=if L0 e.kind f=true then .tup [T2 f,.ptr c e.field.toNat 0,.int .i64 0] else .tup [T2 f,.nilp,.int .i64 7]:=by
  unfold u5;rw[zf (by omega),hf]
 simp[hf,T2,D1,T1,c1,d1,d1.symm,d2,d2.symm,d3,d3.symm];refine⟨⟨h.1,by omega⟩,?_⟩;(refine D8 hP rfl (A7t _ _) (by simp[D1,T1,c1,d1,d1.symm,d2,d2.symm,d3,d3.symm]) (by simp[D1,T1,c1,d1,d1.symm,d2,d2.symm,d3,d3.symm]<;>rfl) ?_; refine A3 4000 ?_; simp[D1,T1,c1,d1,d1.symm,d2,d2.symm,d3,d3.symm]);refine E5 (fun h3=>?_) (fun h3=>?_)<;>simp[D1,T1,c1,d1,d1.symm,d2,d2.symm,d3,d3.symm]
 ·have k3:e.kind=3:=by simpa using h3
  have kf:L0 e.kind f=decide (f.kind=1):=by unfold L0; rw[zj k3]
  refine E5 (fun h5=>?_) (fun h5=>?_)<;>simp[D1,T1,c1,d1,d1.symm,d2,d2.symm,d3,d3.symm]
  ·rw[hr,zf (by rw[kf]; simpa using h5)] at hR;refine yE hR [] (by simp[T2,D1,T1,c1,d1,d1.symm,d2,d2.symm,d3,d3.symm,A4 hid]) fun hrn=>⟨?_,?_,?_,?_,?_,?_⟩<;>(try simp[T2,D1,T1,c1,d1,d1.symm,d2,d2.symm,d3,d3.symm,A4 hid])
   ·exact⟨by exact yO hu hTn,by exact yO hu hCn⟩
  ·rw[hr,zj (by rw[kf]; simpa using h5)] at hR;simp[ho,W6,D1,T1,c1,d1,d1.symm,d2,d2.symm,d3,d3.symm];refine⟨⟨hiS,rfl⟩,hiS,?_⟩;simp[hoc,hlen,D1,T1,c1,d1,d1.symm,d2,d2.symm,d3,d3.symm];refine⟨⟨h.1,by omega,rfl⟩,?_⟩;refine yE hR [] (by simp[T2,D1,T1,c1,d1,d1.symm,d2,d2.symm,d3,d3.symm,A4 hid]) fun hrn=>⟨?_,?_,?_,?_,?_,?_⟩<;>(try simp[T2,D1,T1,c1,d1,d1.symm,d2,d2.symm,d3,d3.symm,A4 hid]);exact⟨by exact yO hu hTn,by exact yO hu hCn⟩
 have k3:e.kind≠3:=by simpa using h3
 refine E5 (fun h4=>?_) (fun h4=>?_)<;>simp[D1,T1,c1,d1,d1.symm,d2,d2.symm,d3,d3.symm]
 ·have k4:e.kind=4:=by simpa using h4
  have kf:L0 e.kind f=decide (f.kind=2):=by unfold L0; rw[zf k3,zj k4]
  refine E5 (fun h5=>?_) (fun h5=>?_)<;>simp[D1,T1,c1,d1,d1.symm,d2,d2.symm,d3,d3.symm]
  ·rw[hr,zf (by rw[kf]; simpa using h5)] at hR;refine yE hR [] (by simp[T2,D1,T1,c1,d1,d1.symm,d2,d2.symm,d3,d3.symm,A4 hid]) fun hrn=>⟨?_,?_,?_,?_,?_,?_⟩<;>(try simp[T2,D1,T1,c1,d1,d1.symm,d2,d2.symm,d3,d3.symm,A4 hid])
   ·exact⟨by exact yO hu hTn,by exact yO hu hCn⟩
  ·rw[hr,zj (by rw[kf]; simpa using h5)] at hR;simp[ho,W6,D1,T1,c1,d1,d1.symm,d2,d2.symm,d3,d3.symm];refine⟨⟨hiS,rfl⟩,hiS,?_⟩;simp[hoc,hlen,D1,T1,c1,d1,d1.symm,d2,d2.symm,d3,d3.symm];refine⟨⟨h.1,by omega,rfl⟩,?_⟩;refine yE hR [] (by simp[T2,D1,T1,c1,d1,d1.symm,d2,d2.symm,d3,d3.symm,A4 hid]) fun hrn=>⟨?_,?_,?_,?_,?_,?_⟩<;>(try simp[T2,D1,T1,c1,d1,d1.symm,d2,d2.symm,d3,d3.symm,A4 hid]);exact⟨by exact yO hu hTn,by exact yO hu hCn⟩
 have k4:e.kind≠4:=by simpa using h4
 have kf:L0 e.kind f=R8 f.kind:=by unfold L0; rw[zf k3,zf k4]
 refine E5 (fun h5=>?_) (fun h5=>?_)<;>simp[D1,T1,c1,d1,d1.symm,d2,d2.symm,d3,d3.symm]
 ·rw[hr,zf (by rw[kf]; simpa using h5)] at hR;refine yE hR [] (by simp[T2,D1,T1,c1,d1,d1.symm,d2,d2.symm,d3,d3.symm,A4 hid]) fun hrn=>⟨?_,?_,?_,?_,?_,?_⟩<;>(try simp[T2,D1,T1,c1,d1,d1.symm,d2,d2.symm,d3,d3.symm,A4 hid])
  ·exact⟨by exact yO hu hTn,by exact yO hu hCn⟩
 ·rw[hr,zj (by rw[kf]; simpa using h5)] at hR;simp[ho,W6,D1,T1,c1,d1,d1.symm,d2,d2.symm,d3,d3.symm];refine⟨⟨hiS,rfl⟩,hiS,?_⟩;simp[hoc,hlen,D1,T1,c1,d1,d1.symm,d2,d2.symm,d3,d3.symm];refine⟨⟨h.1,by omega,rfl⟩,?_⟩;refine yE hR [] (by simp[T2,D1,T1,c1,d1,d1.symm,d2,d2.symm,d3,d3.symm,A4 hid]) fun hrn=>⟨?_,?_,?_,?_,?_,?_⟩<;>(try simp[T2,D1,T1,c1,d1,d1.symm,d2,d2.symm,d3,d3.symm,A4 hid]);exact⟨by exact yO hu hTn,by exact yO hu hCn⟩
theorem B5Y(c:Cl)(i:Option Nat)(L:List (Nat×Bx))(hL:∀q∈idB c i,q∈L)(hn:i=none->c.ids=[]):Rd L (N7 i c.ids.length) (.sl (c.ids.map eI)):=by
 cases i with
 | none=>rw[hn rfl]; exact .nils
 | some I =>
  refine .bsl I 0 _ (iBx c) _ (hL _ (za ..)) (by simp[iBx]) (by simp) (fun i x y h1 h2=>?_) fun i x y j a b h1 h2 h3 h4=>?_
  ·rw[yy] at h1;have:x=y:=by simpa using (show some x=some y from h1.symm.trans h2)
   rw[this]
  ·rw[yy] at h1;have:x=y:=by simpa using (show some x=some y from h1.symm.trans h2)
   subst this;rw[h3] at h4;injection h4 with h4
   subst h4;exact .same _
theorem A2f(c:Cl)(i:Option Nat)(x:Int)(id:Nat)(hl:c.ids.length<1000000)(hn:i=none->c.ids=[]):A2 Tryz.prog 299 [N7 i c.ids.length,.int .i64 x] (idB c i) id (.tup [.int .i64 (J9 c.ids x),.bool (T5 c.ids x)]) []:=by
 refine (B72 c.ids x id hl).read rfl rfl fun k a b h1 h2=>?_;match k,h1,h2 with
 | 0,h1,h2 =>
  simp only[yr,zd] at h1 h2;subst h1 h2;exact B5Y c i _ (fun q hq=>hq) hn
 | 1,h1,h2 =>
  simp only[xn,yr,zd] at h1 h2;subst h1 h2;exact .same _
 | k+2,h1,h2=>simp at h1
def A2u:Option Nat->List (Nat×Option Bx)
 | none=>[]
 | some I=>[(I,none)]
theorem A87(c:Cl)(i:Option Nat)(y:Int)(Y k:Nat)(id:Nat)(hk:k<=c.ids.length)(hbig:c.ids.length<=1000000)(hn:i=none->c.ids=[])(hY:∀I,i=some I->I≠Y/\(I<id\/id+1024<=I)):
  A2 Tryz.prog 315 [N7 i c.ids.length,.int .i64 k,.bsl Y 0 1] (idB c i++[(Y,⟨[eI y],.int .i64 0,false,false⟩)]) id (.bsl id 0 (c.ids.length+1)) (A2u i++[(id,some ⟨(c.ids.take k++y::c.ids.drop k).map eI,.int .i64 0,false,false⟩)]):=by
 have hm:(c.ids.take k++y::c.ids.drop k).map eI=(c.ids.map eI).take k++eI y::(c.ids.map eI).drop k:=by simp
 have h1:∀x∈c.ids.map eI,x.cells.all AV.one=true:=fun x hx=>by obtain⟨n,_,rfl⟩:=zu.1 hx; rfl
 rw[hm];cases i with
 | some I =>
  obtain⟨q1,q2⟩:=hY I rfl;have:=A86 (c.ids.map eI) (eI y) I Y k id (by simpa using hk) q1 q2 (by simpa using hbig) h1 rfl rfl;rw[xg] at this;exact this
 | none =>
  have h0:=hn rfl;rw[h0] at hk ⊢;have hk0:k=0:=by simpa using hk
  subst hk0;refine A2.nil (z:=.int .i64 0) (rd:=[(Y,⟨[eI y],.int .i64 0,false,false⟩)]) (wr:=[(id,some ⟨[eI y],.int .i64 0,false,false⟩)]) (fun T hT hid=>?_) (fun q hq=>?_) ?_
  ·exact A86 [] (eI y) T Y 0 id (ya _) (hT (Y,_) (za ..)).symm hid (by simp) (fun x hx=>(by cases hx)) rfl rfl
  ·simp only[xq] at hq;subst hq;exact⟨⟨ya _,by omega⟩,fun b hb x hx=>by injection hb with hb; subst hb; simp only[xq] at hx; subst hx; rfl⟩
  ·exact⟨ya _,by omega⟩
theorem J6{R:Rn}{S:Nat->Prop}{x y:AV}(h:P0 R S x y):∀{l l':List AV} (k:Nat),N8 R S l l'->N8 R S (l.set k x) (l'.set k y)
 | _,_,_,.nil=>.nil
 | _,_,0,.cons _ _ _ _ _ hl=>.cons _ _ _ _ h hl
 | _,_,k+1,.cons _ _ _ _ h0 hl=>.cons _ _ _ _ h0 (J6 h k hl)
def T7(s:H0)(f:Fd)(c:Cl)(n:Int):Int:=if K8 s f n=false then 5 else if T5 c.ids n=true then 6 else if f.kind=3 then 0 else if c.ids.length=6 then 2 else 0
def U2(f:Fd)(c:Cl)(n:Int):List Int:=if f.kind=3 then [n] else c.ids.take (J9 c.ids n)++n::c.ids.drop (J9 c.ids n)
def O9(s:H0)(f:Fd)(c:Cl)(n:Int)(cb k id:Nat)(xs:List AV)(i:Option Nat):List (Nat×Option Bx) :=
 if T7 s f c n≠0 then [] else (if f.kind=3 then [] else A2u i)++[(cb,some ⟨xs.set k (M2 ⟨c.n,c.text,U2 f c n⟩ (some id)),zC,false,false⟩),(id,some ⟨(U2 f c n).map eI,.int .i64 0,false,false⟩)]
theorem B77(l:List Ty)(S:List H1)(e:Ev)(i:Int)(f:Fd)(cl:Cl)(I:Nat)(xs:List AV)(k D T c:Nat)(id:Nat)(hx:xs[k]?=some (M2 cl (some I)))(hl5:l.length<=1000)(hS8:S.length<=1000)(hc8:cl.ids.length<=1000)(d1:D≠T)(d2:D≠c)(d3:T≠c)(d4:D≠I)(d5:T≠I)(d6:c≠I):
  A2 Tryz.prog 298 [.ptr D 0 0,T2 f,.ptr c k 0] [(D,S2 l (.bsl T 0 S.length) e i),(T,P2 S),(c,⟨xs,zC,false,false⟩),(I,iBx cl)] id (.int .i64 (T7 (A6 l S) f cl e.n)) (O9 (A6 l S) f cl e.n c k id xs (some I)):=by
 have hB2:=fun id=>A2f cl (some I) e.n id (by omega) (by simp);have hF:=fun id=>T6 l S T (C3 l f.of) e.n id (by omega);have hIns:=fun Y k id=>A87 cl (some I) e.n Y k id;have hth:E9 (S.map H1.t) (C3 l f.of) e.n=K8 (A6 l S) f e.n:=rfl;rw[hth] at hF;have hLk:xs=xs.take k++M2 cl (some I)::xs.drop (k+1):=by
  rw[ze] at hx;obtain⟨h1,h2⟩:=hx;rw[←h2,←xe h1,yx]
 unfold P2 S2 eD idB iBx N7 T2 at *;dsimp only[yv,xm] at hIns hB2;refine w298.b.1 fun E hP hR hl hid hB hu=>?_;simp[w298];have hD:=hl (D,_) (za ..);simp only at hD;have D1:=lf hD;have hT:=hl (T,_) (zb _ (za ..));simp only at hT;have T1:=lf hT;have hc:=hl (c,_) (zb _ (zb _ (za ..)));simp only at hc;have c1:=lf hc;have hI:=hl (I,_) (zb _ (zb _ (zb _ (za ..))));simp only at hI;have I1:=lf hI;have hTn:∀x∈S.map W6,B4 E.G0.used x:=C1 hB (zb _ (za ..));have hXn:∀x∈xs,B4 E.G0.used x:=C1 hB (zb _ (zb _ (za ..)));try simp[D1,T1,c1,I1,d1,d1.symm,d2,d2.symm,d3,d3.symm,d4,d4.symm,d5,d5.symm,d6,d6.symm,hx,M2,N7]
 have hkx:k<xs.length:=(ze.1 hx).1;refine⟨hkx,?_⟩;(refine yC rfl (hB2 _) ?_; simp[D1,T1,c1,I1,d1,d1.symm,d2,d2.symm,d3,d3.symm,d4,d4.symm,d5,d5.symm,d6,d6.symm]);(refine yC rfl (j8 l f.of _ (by omega)) ?_; simp[D1,T1,c1,I1,d1,d1.symm,d2,d2.symm,d3,d3.symm,d4,d4.symm,d5,d5.symm,d6,d6.symm,A03]);(refine yC rfl (hF _) ?_; simp[D1,T1,c1,I1,d1,d1.symm,d2,d2.symm,d3,d3.symm,d4,d4.symm,d5,d5.symm,d6,d6.symm]);have hL:∀R S,P0 R S (T2 f) (T2 f):=fun R S=>B96 R S f;refine E5 (fun h1=>?_) (fun h1=>?_)<;>simp[D1,T1,c1,I1,d1,d1.symm,d2,d2.symm,d3,d3.symm,d4,d4.symm,d5,d5.symm,d6,d6.symm]
 ·have hE:T7 (A6 l S) f cl e.n=5:=by unfold T7; rw[zj (by simpa using h1)]
  have hW:O9 (A6 l S) f cl e.n c k id xs (some I)=[]:=by unfold O9; rw[zj (by omega)]
  rw[hE,hW] at hR;refine yE hR [] (by simp[D1,T1,c1,I1,d1,d1.symm,d2,d2.symm,d3,d3.symm,d4,d4.symm,d5,d5.symm,d6,d6.symm,A4 hid]) fun hrn=>⟨?_,?_,?_,?_,?_,?_⟩<;>(try simp[D1,T1,c1,I1,d1,d1.symm,d2,d2.symm,d3,d3.symm,d4,d4.symm,d5,d5.symm,d6,d6.symm,A4 hid]);exact⟨by exact yO hu hTn,by exact yO hu hXn⟩
 have h1:K8 (A6 l S) f e.n=true:=by simpa using h1
 refine E5 (fun h2=>?_) (fun h2=>?_)<;>simp[D1,T1,c1,I1,d1,d1.symm,d2,d2.symm,d3,d3.symm,d4,d4.symm,d5,d5.symm,d6,d6.symm]
 ·have hE:T7 (A6 l S) f cl e.n=6:=by unfold T7; rw[zf (by simp[h1]),zj (by simpa using h2)]
  have hW:O9 (A6 l S) f cl e.n c k id xs (some I)=[]:=by unfold O9; rw[zj (by omega)]
  rw[hE,hW] at hR;refine yE hR [] (by simp[D1,T1,c1,I1,d1,d1.symm,d2,d2.symm,d3,d3.symm,d4,d4.symm,d5,d5.symm,d6,d6.symm,A4 hid]) fun hrn=>⟨?_,?_,?_,?_,?_,?_⟩<;>(try simp[D1,T1,c1,I1,d1,d1.symm,d2,d2.symm,d3,d3.symm,d4,d4.symm,d5,d5.symm,d6,d6.symm,A4 hid]);exact⟨by exact yO hu hTn,by exact yO hu hXn⟩
 have h2:T5 cl.ids e.n=false:=by simpa using h2
 refine E5 (fun h3=>?_) (fun h3=>?_)<;>simp[D1,T1,c1,I1,d1,d1.symm,d2,d2.symm,d3,d3.symm,d4,d4.symm,d5,d5.symm,d6,d6.symm]
 ·have h3:f.kind=3:=by simpa using h3
  have hE:T7 (A6 l S) f cl e.n=0:=by unfold T7; rw[zf (by simp[h1]),zf (by simp[h2]),zj h3]
  have hW:O9 (A6 l S) f cl e.n c k id xs (some I)=[(c,some ⟨xs.set k (M2 ⟨cl.n,cl.text,[e.n]⟩ (some id)),zC,false,false⟩),(id,some ⟨[eI e.n],.int .i64 0,false,false⟩)]:=by unfold O9 U2; rw[zf (by omega),zj h3]; simp[h3]
  rw[hE,hW] at hR;refine⟨hkx,⟨hkx,by simp[hx,M2]⟩,?_⟩;simp[hx,M2,N7,eI];refine yE hR [(id,E.n0+56320)] (by simp[hx,M2,N7,eI,D1,T1,c1,I1,d1,d1.symm,d2,d2.symm,d3,d3.symm,d4,d4.symm,d5,d5.symm,d6,d6.symm,A4 hid]) fun hrn=>⟨?_,?_,?_,?_,?_,?_⟩<;>(try simp[hx,M2,N7,eI,D1,T1,c1,I1,d1,d1.symm,d2,d2.symm,d3,d3.symm,d4,d4.symm,d5,d5.symm,d6,d6.symm,A4 hid]);exact⟨by exact yO hu hTn,J6 (by simp[A4 hid]) k (by exact yO hu hXn)⟩
 have h3:f.kind≠3:=by simpa using h3
 have hxk:xs[k]'hkx=M2 cl (some I):=by rw[zc hkx] at hx; injection hx
 simp[hxk,hx,hkx,M2,N7,D1,T1,c1,I1,d1,d1.symm,d2,d2.symm,d3,d3.symm,d4,d4.symm,d5,d5.symm,d6,d6.symm];refine E5 (fun h4=>?_) (fun h4=>?_)<;>simp[D1,T1,c1,I1,d1,d1.symm,d2,d2.symm,d3,d3.symm,d4,d4.symm,d5,d5.symm,d6,d6.symm]
 ·have h4:cl.ids.length=6:=by simp at h4; omega
  have hE:T7 (A6 l S) f cl e.n=2:=by unfold T7; rw[zf (by simp[h1]),zf (by simp[h2]),zf h3,zj h4]
  have hW:O9 (A6 l S) f cl e.n c k id xs (some I)=[]:=by unfold O9; rw[zj (by omega)]
  rw[hE,hW] at hR;refine yE hR [] (by simp[D1,T1,c1,I1,d1,d1.symm,d2,d2.symm,d3,d3.symm,d4,d4.symm,d5,d5.symm,d6,d6.symm,A4 hid]) fun hrn=>⟨?_,?_,?_,?_,?_,?_⟩<;>(try simp[D1,T1,c1,I1,d1,d1.symm,d2,d2.symm,d3,d3.symm,d4,d4.symm,d5,d5.symm,d6,d6.symm,A4 hid]);exact⟨by exact yO hu hTn,by exact yO hu hXn⟩
 have h4:cl.ids.length≠6:=by simp at h4; omega
 simp[hxk,hx,hkx,M2,N7,D1,T1,c1,I1,d1,d1.symm,d2,d2.symm,d3,d3.symm,d4,d4.symm,d5,d5.symm,d6,d6.symm];have hle:J9 cl.ids e.n<=cl.ids.length:=(B5T _ _ _ (qc _)).2;have hE:T7 (A6 l S) f cl e.n=0:=by unfold T7; rw[zf (by simp[h1]),zf (by simp[h2]),zf h3,zf h4]
 have hW:O9 (A6 l S) f cl e.n c k id xs (some I)=[(I,none),(c,some ⟨xs.set k (.agg [.int .i64 cl.n,.str cl.text,.bsl id 0 (cl.ids.length+1)]),zC,false,false⟩),(id,some ⟨(cl.ids.take (J9 cl.ids e.n)++e.n::cl.ids.drop (J9 cl.ids e.n)).map eI,.int .i64 0,false,false⟩)]:=by
  have hll:(cl.ids.take (J9 cl.ids e.n)++e.n::cl.ids.drop (J9 cl.ids e.n)).length=cl.ids.length+1:=by simp; omega
  unfold O9 U2; rw[zf (by omega),zf h3]; simp only[h3,if_false,A2u,M2,N7,hll]; rfl
 rw[hE,hW] at hR;have hIc:=fun (id:Nat) (hid:I<id\/id+1024<=I)=>hIns (E.n0+68608) (J9 cl.ids e.n) id hle (by omega) (by simp) (by intro I' h; cases h; exact⟨by omega,hid⟩);have hyp:F9 ((cl.ids.take (J9 cl.ids e.n)++e.n::cl.ids.drop (J9 cl.ids e.n)).map eI)=true:=A17 _;generalize (cl.ids.take (J9 cl.ids e.n)++e.n::cl.ids.drop (J9 cl.ids e.n)).map eI=ys at *;dsimp only[A2u,yv,xm] at hIc;simp only[eI] at hIc;(refine yC rfl (hIc _ (by omega)) ?_; simp[D1,T1,c1,I1,d1,d1.symm,d2,d2.symm,d3,d3.symm,d4,d4.symm,d5,d5.symm,d6,d6.symm]);refine⟨hkx,?_⟩;simp[hxk,hx,hkx,M2,D1,T1,c1,I1,d1,d1.symm,d2,d2.symm,d3,d3.symm,d4,d4.symm,d5,d5.symm,d6,d6.symm];refine yE hR [(id,E.n0+69632)] (by simp[hx,M2,eI,D1,T1,c1,I1,d1,d1.symm,d2,d2.symm,d3,d3.symm,d4,d4.symm,d5,d5.symm,d6,d6.symm,A4 hid]) fun hrn=>⟨?_,?_,?_,?_,?_,?_⟩<;>(try simp[hx,M2,eI,D1,T1,c1,I1,d1,d1.symm,d2,d2.symm,d3,d3.symm,d4,d4.symm,d5,d5.symm,d6,d6.symm,A4 hid]);exact⟨by exact yO hu hTn,J6 (by simp[A4 hid]) k (by exact yO hu hXn),C2 rfl hyp⟩
theorem B78(l:List Ty)(S:List H1)(e:Ev)(i:Int)(f:Fd)(cl:Cl)(xs:List AV)(k D T c:Nat)(id:Nat)(hx:xs[k]?=some (M2 cl none))(hn:cl.ids=[])(hl5:l.length<=1000)(hS8:S.length<=1000)(hc8:cl.ids.length<=1000)(d1:D≠T)(d2:D≠c)(d3:T≠c):
  A2 Tryz.prog 298 [.ptr D 0 0,T2 f,.ptr c k 0] [(D,S2 l (.bsl T 0 S.length) e i),(T,P2 S),(c,⟨xs,zC,false,false⟩)] id (.int .i64 (T7 (A6 l S) f cl e.n)) (O9 (A6 l S) f cl e.n c k id xs none):=by
 have hB2:=fun id=>A2f cl none e.n id (by omega) (fun _=>hn);have hF:=fun id=>T6 l S T (C3 l f.of) e.n id (by omega);have hIns:=fun Y k id=>A87 cl none e.n Y k id;have hth:E9 (S.map H1.t) (C3 l f.of) e.n=K8 (A6 l S) f e.n:=rfl;rw[hth] at hF;have hLk:xs=xs.take k++M2 cl none::xs.drop (k+1):=by
  rw[ze] at hx;obtain⟨h1,h2⟩:=hx;rw[←h2,←xe h1,yx]
 unfold P2 S2 eD idB iBx N7 T2 at *;dsimp only[yv,xm] at hIns hB2;refine w298.b.1 fun E hP hR hl hid hB hu=>?_;simp[w298];have hD:=hl (D,_) (za ..);simp only at hD;have D1:=lf hD;have hT:=hl (T,_) (zb _ (za ..));simp only at hT;have T1:=lf hT;have hc:=hl (c,_) (zb _ (zb _ (za ..)));simp only at hc;have c1:=lf hc;have hTn:∀x∈S.map W6,B4 E.G0.used x:=C1 hB (zb _ (za ..));have hXn:∀x∈xs,B4 E.G0.used x:=C1 hB (zb _ (zb _ (za ..)));try simp[D1,T1,c1,d1,d1.symm,d2,d2.symm,d3,d3.symm,hx,M2,N7]
 have hkx:k<xs.length:=(ze.1 hx).1;refine⟨hkx,?_⟩;(refine yC rfl (hB2 _) ?_; simp[D1,T1,c1,d1,d1.symm,d2,d2.symm,d3,d3.symm]);(refine yC rfl (j8 l f.of _ (by omega)) ?_; simp[D1,T1,c1,d1,d1.symm,d2,d2.symm,d3,d3.symm,A03]);(refine yC rfl (hF _) ?_; simp[D1,T1,c1,d1,d1.symm,d2,d2.symm,d3,d3.symm]);have hL:∀R S,P0 R S (T2 f) (T2 f):=fun R S=>B96 R S f;refine E5 (fun h1=>?_) (fun h1=>?_)<;>simp[D1,T1,c1,d1,d1.symm,d2,d2.symm,d3,d3.symm]
 ·have hE:T7 (A6 l S) f cl e.n=5:=by unfold T7; rw[zj (by simpa using h1)]
  have hW:O9 (A6 l S) f cl e.n c k id xs none=[]:=by unfold O9; rw[zj (by omega)]
  rw[hE,hW] at hR;refine yE hR [] (by simp[D1,T1,c1,d1,d1.symm,d2,d2.symm,d3,d3.symm,A4 hid]) fun hrn=>⟨?_,?_,?_,?_,?_,?_⟩<;>(try simp[D1,T1,c1,d1,d1.symm,d2,d2.symm,d3,d3.symm,A4 hid]);exact⟨by exact yO hu hTn,by exact yO hu hXn⟩
 have h1:K8 (A6 l S) f e.n=true:=by simpa using h1
 refine E5 (fun h2=>?_) (fun h2=>?_)<;>simp[D1,T1,c1,d1,d1.symm,d2,d2.symm,d3,d3.symm]
 ·have hE:T7 (A6 l S) f cl e.n=6:=by unfold T7; rw[zf (by simp[h1]),zj (by simpa using h2)]
  have hW:O9 (A6 l S) f cl e.n c k id xs none=[]:=by unfold O9; rw[zj (by omega)]
  rw[hE,hW] at hR;refine yE hR [] (by simp[D1,T1,c1,d1,d1.symm,d2,d2.symm,d3,d3.symm,A4 hid]) fun hrn=>⟨?_,?_,?_,?_,?_,?_⟩<;>(try simp[D1,T1,c1,d1,d1.symm,d2,d2.symm,d3,d3.symm,A4 hid]);exact⟨by exact yO hu hTn,by exact yO hu hXn⟩
 have h2:T5 cl.ids e.n=false:=by simpa using h2
 refine E5 (fun h3=>?_) (fun h3=>?_)<;>simp[D1,T1,c1,d1,d1.symm,d2,d2.symm,d3,d3.symm]
 ·have h3:f.kind=3:=by simpa using h3
  have hE:T7 (A6 l S) f cl e.n=0:=by unfold T7; rw[zf (by simp[h1]),zf (by simp[h2]),zj h3]
  have hW:O9 (A6 l S) f cl e.n c k id xs none=[(c,some ⟨xs.set k (M2 ⟨cl.n,cl.text,[e.n]⟩ (some id)),zC,false,false⟩),(id,some ⟨[eI e.n],.int .i64 0,false,false⟩)]:=by unfold O9 U2; rw[zf (by omega),zj h3]; simp[h3]
  rw[hE,hW] at hR;refine⟨hkx,⟨hkx,by simp[hx,M2]⟩,?_⟩;simp[hx,M2,N7,eI];refine yE hR [(id,E.n0+56320)] (by simp[hx,M2,N7,eI,D1,T1,c1,d1,d1.symm,d2,d2.symm,d3,d3.symm,A4 hid]) fun hrn=>⟨?_,?_,?_,?_,?_,?_⟩<;>(try simp[hx,M2,N7,eI,D1,T1,c1,d1,d1.symm,d2,d2.symm,d3,d3.symm,A4 hid]);exact⟨by exact yO hu hTn,J6 (by simp[A4 hid]) k (by exact yO hu hXn)⟩
 have h3:f.kind≠3:=by simpa using h3
 have hxk:xs[k]'hkx=M2 cl none:=by rw[zc hkx] at hx; injection hx
 simp[hxk,hx,hkx,M2,N7,D1,T1,c1,d1,d1.symm,d2,d2.symm,d3,d3.symm];have h4:cl.ids.length≠6:=by rw[hn]; simp
 have hle:J9 cl.ids e.n<=cl.ids.length:=(B5T _ _ _ (qc _)).2;have hE:T7 (A6 l S) f cl e.n=0:=by unfold T7; rw[zf (by simp[h1]),zf (by simp[h2]),zf h3,zf h4]
 have hW:O9 (A6 l S) f cl e.n c k id xs none=[(c,some ⟨xs.set k (.agg [.int .i64 cl.n,.str cl.text,.bsl id 0 (cl.ids.length+1)]),zC,false,false⟩),(id,some ⟨(cl.ids.take (J9 cl.ids e.n)++e.n::cl.ids.drop (J9 cl.ids e.n)).map eI,.int .i64 0,false,false⟩)]:=by
  have hll:(cl.ids.take (J9 cl.ids e.n)++e.n::cl.ids.drop (J9 cl.ids e.n)).length=cl.ids.length+1:=by simp; omega
  unfold O9 U2; rw[zf (by omega),zf h3]; simp only[h3,if_false,A2u,M2,N7,hll]; rfl
 rw[hE,hW] at hR;have hIc:=fun (id:Nat)=>hIns (E.n0+68608) (J9 cl.ids e.n) id hle (by omega) (fun _=>hn) (by intro I' h; cases h);have hyp:F9 ((cl.ids.take (J9 cl.ids e.n)++e.n::cl.ids.drop (J9 cl.ids e.n)).map eI)=true:=A17 _;generalize (cl.ids.take (J9 cl.ids e.n)++e.n::cl.ids.drop (J9 cl.ids e.n)).map eI=ys at *;dsimp only[A2u,yv,xm] at hIc;simp only[eI] at hIc;(refine yC rfl (hIc _) ?_; simp[D1,T1,c1,d1,d1.symm,d2,d2.symm,d3,d3.symm]);refine⟨hkx,?_⟩;simp[hxk,hx,hkx,M2,D1,T1,c1,d1,d1.symm,d2,d2.symm,d3,d3.symm];refine yE hR [(id,E.n0+69632)] (by simp[hx,M2,eI,D1,T1,c1,d1,d1.symm,d2,d2.symm,d3,d3.symm,A4 hid]) fun hrn=>⟨?_,?_,?_,?_,?_,?_⟩<;>(try simp[hx,M2,eI,D1,T1,c1,d1,d1.symm,d2,d2.symm,d3,d3.symm,A4 hid]);exact⟨by exact yO hu hTn,J6 (by simp[A4 hid]) k (by exact yO hu hXn),C2 rfl hyp⟩
def W3(s:H0)(f:Fd)(c:Cl)(e:Ev):Int :=
 if e.kind=3 then (if -999999999<=e.n/\e.n<=999999999 then 0 else 3)
 else if e.kind=4 then (if 40<e.text.length then 2 else 0)
 else if e.kind=5 then T7 s f c e.n
 else if T5 c.ids e.n=true then 0 else 5
def B11(c:Cl)(n:Int):List Int:=c.ids.take (J9 c.ids n)++c.ids.drop (J9 c.ids n+1)
def u6(f:Fd)(c:Cl)(e:Ev):Cl :=
 if e.kind=3 then ⟨e.n,c.text,c.ids⟩ else if e.kind=4 then ⟨c.n,e.text,c.ids⟩ else if e.kind=5 then ⟨c.n,c.text,U2 f c e.n⟩ else ⟨c.n,c.text,B11 c e.n⟩
def R3(s:H0)(f:Fd)(c:Cl)(e:Ev)(cb k id:Nat)(xs:List AV)(i:Option Nat):List (Nat×Option Bx) :=
 if W3 s f c e≠0 then [] else if e.kind=3\/e.kind=4 then [(cb,some ⟨xs.set k (M2 (u6 f c e) i),zC,false,false⟩)]
 else (if e.kind=5/\f.kind=3 then [] else A2u i)++[(cb,some ⟨xs.set k (M2 (u6 f c e) (some id)),zC,false,false⟩),(id,some ⟨(u6 f c e).ids.map eI,.int .i64 0,false,false⟩)]
theorem A88(l:List Ty)(S:List H1)(e:Ev)(i:Nat)(o:H1)(ty:Ty)(D T:Nat)(id:Nat)(f:AV)(w:Int)(hw:w≠0)(hf:∃a b c,f = .agg [.str a,.int .i64 b,.str c])(hr:u5 ty e o.c = .tup [f,.nilp,.int .i64 w])(hty:l[e.type.toNat]?=some ty)(h0:0<=e.type)(ho:S[i]?=some o)(hlen:o.t.cells.length=ty.fields.length)(his:o.is.length=o.t.cells.length)(hl8:ty.fields.length<=1000)(d1:D≠T)(d2:D≠o.c)(d3:T≠o.c):
  A2 Tryz.prog 263 [.ptr D 0 0] [(D,S2 l (.bsl T 0 S.length) e i),(T,P2 S),(o.c,cBn o)] id (.int .i64 w) []:=by
 have hX:=fun id=>A5q l S e i o ty D T id hty h0 ho hlen his hl8 d1 d2 d3;rw[hr] at hX;obtain⟨fa,fb,fc,rfl⟩:=hf;unfold P2 S2 cBn eD at *;generalize hoc:o.c=c at *;refine w263.b.1 fun E hP hR hl hid hB hu=>?_;simp[w263];have hD:=hl (D,_) (za ..);simp only at hD;have D1:=lf hD;have hT:=hl (T,_) (zb _ (za ..));simp only at hT;have T1:=lf hT;have hc:=hl (c,_) (zb _ (zb _ (za ..)));simp only at hc;have c1:=lf hc;have hTn:∀x∈S.map W6,B4 E.G0.used x:=C1 hB (zb _ (za ..));have hCn:∀x∈List.zipWith M2 o.t.cells o.is,B4 E.G0.used x:=C1 hB (zb _ (zb _ (za ..)));(refine yC rfl (hX _) ?_; simp[D1,T1,c1,d1,d1.symm,d2,d2.symm,d3,d3.symm]);refine E5 (fun h=>?_) (fun h=>?_)
 ·simp[D1,T1,c1,d1,d1.symm,d2,d2.symm,d3,d3.symm];refine yE hR [] (by simp[D1,T1,c1,d1,d1.symm,d2,d2.symm,d3,d3.symm,A4 hid]) fun hrn=>⟨?_,?_,?_,?_,?_,?_⟩<;>(try simp[D1,T1,c1,d1,d1.symm,d2,d2.symm,d3,d3.symm,A4 hid]);exact⟨by exact yO hu hTn,by exact yO hu hCn⟩
 ·exact (hw (by simpa using h)).elim
theorem A6x{cs:List Cl}{is:List (Option Nat)}{k:Nat}{c:Cl}{i:Option Nat}(h1:cs[k]?=some c)(h2:is[k]?=some i):(List.zipWith M2 cs is)[k]?=some (M2 c i):=by
 rw[rp,h1,h2]
theorem B4R(c:Cl)(I k:Nat)(id:Nat)(hk:k<c.ids.length)(hbig:c.ids.length<=1000000):
  A2 Tryz.prog 300 [.bsl I 0 c.ids.length,.int .i64 k,.int .i64 ((k:Int)+1)] [(I,iBx c)] id (.bsl id 0 (c.ids.length - 1)) [(I,none),(id,some ⟨(c.ids.take k++c.ids.drop (k+1)).map eI,.int .i64 0,false,false⟩)]:=by
 have h1:∀x∈c.ids.map eI,x.cells.all AV.one=true:=fun x hx=>by obtain⟨n,_,rfl⟩:=zu.1 hx; rfl
 have:=B4Q (c.ids.map eI) I k id (by simpa using hk) (by simpa using hbig) h1;rw[xg] at this;have hm:(c.ids.take k++c.ids.drop (k+1)).map eI=(c.ids.map eI).take k++(c.ids.map eI).drop (k+1):=by simp
 rw[hm];exact this
theorem A1b(l:List Ty)(S:List H1)(e:Ev)(i:Nat)(o:H1)(ty:Ty)(f:Fd)(cl:Cl)(I D T:Nat)(id:Nat)(hk1:3<=e.kind)(hk2:e.kind<=6)(hf0:0<=e.field)(hf:ty.fields[e.field.toNat]?=some f)(hkf:L0 e.kind f=true)(hcl:o.t.cells[e.field.toNat]?=some cl)(hio:o.is[e.field.toNat]?=some (some I))
  (hty:l[e.type.toNat]?=some ty) (h0:0<=e.type) (ho:S[i]?=some o) (hlen:o.t.cells.length=ty.fields.length) (his:o.is.length=o.t.cells.length) (hl5:l.length<=1000) (hl8:ty.fields.length<=1000) (hS8:S.length<=1000) (hc8:cl.ids.length<=1000) (d1:D≠T) (d2:D≠o.c) (d3:T≠o.c) (d4:D≠I) (d5:T≠I) (d6:o.c≠I) :
  A2 Tryz.prog 263 [.ptr D 0 0] [(D,S2 l (.bsl T 0 S.length) e i),(T,P2 S),(o.c,cBn o),(I,iBx cl)] id (.int .i64 (W3 (A6 l S) f cl e)) (R3 (A6 l S) f cl e o.c e.field.toNat id (List.zipWith M2 o.t.cells o.is) (some I)):=by
 have hX:=fun id=>A5q l S e i o ty D T id hty h0 ho hlen his hl8 d1 d2 d3;have hr:u5 ty e o.c = .tup [T2 f,.ptr o.c e.field.toNat 0,.int .i64 0]:=by unfold u5; rw[zf (by omega),hf]; simp only; rw[zj hkf]
 rw[hr] at hX;have hx:=A6x hcl hio;have hLk:=fun id=>B77 l S e i f cl I (List.zipWith M2 o.t.cells o.is) e.field.toNat D T o.c id hx hl5 hS8 hc8 d1 d2 d3 d4 d5 d6;have hB2:=fun id=>A2f cl (some I) e.n id (by omega) (by simp);have hDl:=fun id hk=>B4R cl I (J9 cl.ids e.n) id hk (by omega);have hkx:=(ze.1 hx).1;have hxk:(List.zipWith M2 o.t.cells o.is)[e.field.toNat]'hkx=M2 cl (some I):=by rw[zc hkx] at hx; injection hx
 unfold P2 S2 cBn eD idB iBx N7 T2 at *;dsimp only at hB2;generalize hoc:o.c=c at *;generalize hzz:List.zipWith M2 o.t.cells o.is=xs at *;generalize hkk:e.field.toNat=k at *;refine w263.b.1 fun E hP hR hl hid hB hu=>?_;simp[w263];have hD:=hl (D,_) (za ..);simp only at hD;have D1:=lf hD;have hT:=hl (T,_) (zb _ (za ..));simp only at hT;have T1:=lf hT;have hc:=hl (c,_) (zb _ (zb _ (za ..)));simp only at hc;have c1:=lf hc;have hI:=hl (I,_) (zb _ (zb _ (zb _ (za ..))));simp only at hI;have I1:=lf hI;have hTn:∀x∈S.map W6,B4 E.G0.used x:=C1 hB (zb _ (za ..));have hXn:∀x∈xs,B4 E.G0.used x:=C1 hB (zb _ (zb _ (za ..)));(refine yC rfl (hX _) ?_; simp[D1,T1,c1,I1,d1,d1.symm,d2,d2.symm,d3,d3.symm,d4,d4.symm,d5,d5.symm,d6,d6.symm]);refine E5 (fun h3=>?_) (fun h3=>?_)<;>simp[D1,T1,c1,I1,d1,d1.symm,d2,d2.symm,d3,d3.symm,d4,d4.symm,d5,d5.symm,d6,d6.symm]
 ·have k3:e.kind=3:=by simpa using h3
  (refine D8 hP rfl (S9 _ _) (by simp[D1,T1,c1,I1,d1,d1.symm,d2,d2.symm,d3,d3.symm,d4,d4.symm,d5,d5.symm,d6,d6.symm]) (by simp[D1,T1,c1,I1,d1,d1.symm,d2,d2.symm,d3,d3.symm,d4,d4.symm,d5,d5.symm,d6,d6.symm]<;>rfl) ?_; refine A3 4000 ?_; simp[D1,T1,c1,I1,d1,d1.symm,d2,d2.symm,d3,d3.symm,d4,d4.symm,d5,d5.symm,d6,d6.symm]);refine E5 (fun h4=>?_) (fun h4=>?_)<;>simp[D1,T1,c1,I1,d1,d1.symm,d2,d2.symm,d3,d3.symm,d4,d4.symm,d5,d5.symm,d6,d6.symm]
  ·have hE:W3 (A6 l S) f cl e=3:=(by unfold W3; rw[zj k3,zf (by simp at h4; omega)]);have hW:R3 (A6 l S) f cl e c k id xs (some I)=[]:=(by unfold R3; rw[zj (by omega)]);rw[hE,hW] at hR;refine yE hR [] (by simp[D1,T1,c1,I1,d1,d1.symm,d2,d2.symm,d3,d3.symm,d4,d4.symm,d5,d5.symm,d6,d6.symm,A4 hid]) fun hrn=>⟨?_,?_,?_,?_,?_,?_⟩<;>(try simp[D1,T1,c1,I1,d1,d1.symm,d2,d2.symm,d3,d3.symm,d4,d4.symm,d5,d5.symm,d6,d6.symm,A4 hid]);exact⟨by exact yO hu hTn,by exact yO hu hXn⟩
  ·have hE:W3 (A6 l S) f cl e=0:=(by unfold W3; rw[zj k3,zj (by simp at h4; omega)]);have hW:R3 (A6 l S) f cl e c k id xs (some I)=[(c,some ⟨xs.set k (.agg [.int .i64 e.n,.str cl.text,.bsl I 0 cl.ids.length]),zC,false,false⟩)]:=(by unfold R3; rw[zf (by omega),zj (.inl k3)]; simp[u6,k3,M2,N7]);rw[hE,hW] at hR;refine⟨hkx,⟨hkx,by simp[hx,M2]⟩,?_⟩;simp[hx,M2,N7];refine yE hR [] (by simp[hx,M2,N7,D1,T1,c1,I1,d1,d1.symm,d2,d2.symm,d3,d3.symm,d4,d4.symm,d5,d5.symm,d6,d6.symm,A4 hid]) fun hrn=>⟨?_,?_,?_,?_,?_,?_⟩<;>(try simp[hx,M2,N7,D1,T1,c1,I1,d1,d1.symm,d2,d2.symm,d3,d3.symm,d4,d4.symm,d5,d5.symm,d6,d6.symm,A4 hid]);exact⟨by exact yO hu hTn,J6 (by simp[I1]) k (by exact yO hu hXn)⟩
 have k3:e.kind≠3:=by simpa using h3
 refine E5 (fun h4=>?_) (fun h4=>?_)<;>simp[D1,T1,c1,I1,d1,d1.symm,d2,d2.symm,d3,d3.symm,d4,d4.symm,d5,d5.symm,d6,d6.symm]
 ·have k4:e.kind=4:=by simpa using h4
  refine E5 (fun h5=>?_) (fun h5=>?_)<;>simp[D1,T1,c1,I1,d1,d1.symm,d2,d2.symm,d3,d3.symm,d4,d4.symm,d5,d5.symm,d6,d6.symm]
  ·have hE:W3 (A6 l S) f cl e=2:=(by unfold W3; rw[zf k3,zj k4,zj (by simp at h5; omega)]);have hW:R3 (A6 l S) f cl e c k id xs (some I)=[]:=(by unfold R3; rw[zj (by omega)]);rw[hE,hW] at hR;refine yE hR [] (by simp[D1,T1,c1,I1,d1,d1.symm,d2,d2.symm,d3,d3.symm,d4,d4.symm,d5,d5.symm,d6,d6.symm,A4 hid]) fun hrn=>⟨?_,?_,?_,?_,?_,?_⟩<;>(try simp[D1,T1,c1,I1,d1,d1.symm,d2,d2.symm,d3,d3.symm,d4,d4.symm,d5,d5.symm,d6,d6.symm,A4 hid]);exact⟨by exact yO hu hTn,by exact yO hu hXn⟩
  ·have hE:W3 (A6 l S) f cl e=0:=(by unfold W3; rw[zf k3,zj k4,zf (by simp at h5; omega)]);have hW:R3 (A6 l S) f cl e c k id xs (some I)=[(c,some ⟨xs.set k (.agg [.int .i64 cl.n,.str e.text,.bsl I 0 cl.ids.length]),zC,false,false⟩)]:=(by unfold R3; rw[zf (by omega),zj (.inr k4)]; simp[u6,k4,M2,N7]);rw[hE,hW] at hR;refine⟨hkx,⟨hkx,by simp[hx,M2]⟩,?_⟩;simp[hx,M2,N7];refine yE hR [] (by simp[hx,M2,N7,D1,T1,c1,I1,d1,d1.symm,d2,d2.symm,d3,d3.symm,d4,d4.symm,d5,d5.symm,d6,d6.symm,A4 hid]) fun hrn=>⟨?_,?_,?_,?_,?_,?_⟩<;>(try simp[hx,M2,N7,D1,T1,c1,I1,d1,d1.symm,d2,d2.symm,d3,d3.symm,d4,d4.symm,d5,d5.symm,d6,d6.symm,A4 hid]);exact⟨by exact yO hu hTn,J6 (by simp[I1]) k (by exact yO hu hXn)⟩
 have k4:e.kind≠4:=by simpa using h4
 refine E5 (fun h5=>?_) (fun h5=>?_)<;>simp[D1,T1,c1,I1,d1,d1.symm,d2,d2.symm,d3,d3.symm,d4,d4.symm,d5,d5.symm,d6,d6.symm]
 ·have k5:e.kind=5:=by simpa using h5
  have hE:W3 (A6 l S) f cl e=T7 (A6 l S) f cl e.n:=by unfold W3; rw[zf k3,zf k4,zj k5]
  have hC:u6 f cl e=⟨cl.n,cl.text,U2 f cl e.n⟩:=by unfold u6; rw[zf k3,zf k4,zj k5]
  have k34:¬(e.kind=3\/e.kind=4):=by omega
  rw[hE] at hR;by_cases q1:T7 (A6 l S) f cl e.n=0
  ·by_cases q2:f.kind=3
   ·have hLw:∀id,O9 (A6 l S) f cl e.n c k id xs (some I)=[(c,some ⟨xs.set k (.agg [.int .i64 cl.n,.str cl.text,.bsl id 0 (U2 f cl e.n).length]),zC,false,false⟩),(id,some ⟨(U2 f cl e.n).map eI,.int .i64 0,false,false⟩)]:=fun id=>by unfold O9; rw[zf (by omega),zj q2]; rfl
    have hW:R3 (A6 l S) f cl e c k id xs (some I)=[(c,some ⟨xs.set k (.agg [.int .i64 cl.n,.str cl.text,.bsl id 0 (U2 f cl e.n).length]),zC,false,false⟩),(id,some ⟨(U2 f cl e.n).map eI,.int .i64 0,false,false⟩)]:=(by unfold R3; rw[zf (by omega),zf k34,zj ⟨k5,q2⟩,hC]; rfl);simp only[hLw] at hLk;rw[hW] at hR;(refine yC rfl (hLk _) ?_; simp[D1,T1,c1,I1,d1,d1.symm,d2,d2.symm,d3,d3.symm,d4,d4.symm,d5,d5.symm,d6,d6.symm]);refine yE hR [(id,E.n0+27648)] (by simp[hx,M2,N7,D1,T1,c1,I1,d1,d1.symm,d2,d2.symm,d3,d3.symm,d4,d4.symm,d5,d5.symm,d6,d6.symm,A4 hid]) fun hrn=>⟨?_,?_,?_,?_,?_,?_⟩<;>(try simp[hx,M2,N7,D1,T1,c1,I1,d1,d1.symm,d2,d2.symm,d3,d3.symm,d4,d4.symm,d5,d5.symm,d6,d6.symm,A4 hid]);exact⟨by exact yO hu hTn,J6 (by simp[A4 hid]) k (by exact yO hu hXn)⟩
   ·have hLw:∀id,O9 (A6 l S) f cl e.n c k id xs (some I)=[(I,none),(c,some ⟨xs.set k (.agg [.int .i64 cl.n,.str cl.text,.bsl id 0 (U2 f cl e.n).length]),zC,false,false⟩),(id,some ⟨(U2 f cl e.n).map eI,.int .i64 0,false,false⟩)]:=fun id=>by unfold O9; rw[zf (by omega),zf q2]; rfl
    have hW:R3 (A6 l S) f cl e c k id xs (some I)=[(I,none),(c,some ⟨xs.set k (.agg [.int .i64 cl.n,.str cl.text,.bsl id 0 (U2 f cl e.n).length]),zC,false,false⟩),(id,some ⟨(U2 f cl e.n).map eI,.int .i64 0,false,false⟩)]:=(by unfold R3; rw[zf (by omega),zf k34,zf (fun h=>q2 h.2),hC]; rfl);simp only[hLw] at hLk;rw[hW] at hR;(refine yC rfl (hLk _) ?_; simp[D1,T1,c1,I1,d1,d1.symm,d2,d2.symm,d3,d3.symm,d4,d4.symm,d5,d5.symm,d6,d6.symm]);refine yE hR [(id,E.n0+27648)] (by simp[hx,M2,N7,D1,T1,c1,I1,d1,d1.symm,d2,d2.symm,d3,d3.symm,d4,d4.symm,d5,d5.symm,d6,d6.symm,A4 hid]) fun hrn=>⟨?_,?_,?_,?_,?_,?_⟩<;>(try simp[hx,M2,N7,D1,T1,c1,I1,d1,d1.symm,d2,d2.symm,d3,d3.symm,d4,d4.symm,d5,d5.symm,d6,d6.symm,A4 hid]);exact⟨by exact yO hu hTn,J6 (by simp[A4 hid]) k (by exact yO hu hXn)⟩
  ·have hLw:∀id,O9 (A6 l S) f cl e.n c k id xs (some I)=[]:=fun id=>by unfold O9; rw[zj q1]
   have hW:R3 (A6 l S) f cl e c k id xs (some I)=[]:=(by unfold R3; rw[zj (by omega)]);simp only[hLw] at hLk;rw[hW] at hR;(refine yC rfl (hLk _) ?_; simp[D1,T1,c1,I1,d1,d1.symm,d2,d2.symm,d3,d3.symm,d4,d4.symm,d5,d5.symm,d6,d6.symm]);refine yE hR [] (by simp[D1,T1,c1,I1,d1,d1.symm,d2,d2.symm,d3,d3.symm,d4,d4.symm,d5,d5.symm,d6,d6.symm,A4 hid]) fun hrn=>⟨?_,?_,?_,?_,?_,?_⟩<;>(try simp[D1,T1,c1,I1,d1,d1.symm,d2,d2.symm,d3,d3.symm,d4,d4.symm,d5,d5.symm,d6,d6.symm,A4 hid]);exact⟨by exact yO hu hTn,by exact yO hu hXn⟩
 have k5:e.kind≠5:=by simpa using h5
 have k6:e.kind=6:=by omega
 refine A9 (by simp[k6]) ?_;simp[hxk,hx,hkx,M2,N7,D1,T1,c1,I1,d1,d1.symm,d2,d2.symm,d3,d3.symm,d4,d4.symm,d5,d5.symm,d6,d6.symm];(refine yC rfl (hB2 _) ?_; simp[D1,T1,c1,I1,d1,d1.symm,d2,d2.symm,d3,d3.symm,d4,d4.symm,d5,d5.symm,d6,d6.symm]);refine E5 (fun h7=>?_) (fun h7=>?_)<;>simp[hxk,hx,hkx,M2,N7,D1,T1,c1,I1,d1,d1.symm,d2,d2.symm,d3,d3.symm,d4,d4.symm,d5,d5.symm,d6,d6.symm]
 ·have hE:W3 (A6 l S) f cl e=5:=by unfold W3; rw[zf k3,zf k4,zf k5,zf (by simpa using h7)]
  have hW:R3 (A6 l S) f cl e c k id xs (some I)=[]:=by unfold R3; rw[zj (by omega)]
  rw[hE,hW] at hR;refine yE hR [] (by simp[D1,T1,c1,I1,d1,d1.symm,d2,d2.symm,d3,d3.symm,d4,d4.symm,d5,d5.symm,d6,d6.symm,A4 hid]) fun hrn=>⟨?_,?_,?_,?_,?_,?_⟩<;>(try simp[D1,T1,c1,I1,d1,d1.symm,d2,d2.symm,d3,d3.symm,d4,d4.symm,d5,d5.symm,d6,d6.symm,A4 hid]);exact⟨by exact yO hu hTn,by exact yO hu hXn⟩
 have h7:T5 cl.ids e.n=true:=by simpa using h7
 have h8:J9 cl.ids e.n<cl.ids.length:=by unfold T5 at h7; simp at h7; exact h7.1
 have hE:W3 (A6 l S) f cl e=0:=by unfold W3; rw[zf k3,zf k4,zf k5,zj h7]
 have hC:u6 f cl e=⟨cl.n,cl.text,B11 cl e.n⟩:=by unfold u6; rw[zf k3,zf k4,zf k5]
 have hlc:(B11 cl e.n).length=cl.ids.length - 1:=by simp[B11]; omega
 have hW:R3 (A6 l S) f cl e c k id xs (some I)=[(I,none),(c,some ⟨xs.set k (.agg [.int .i64 cl.n,.str cl.text,.bsl id 0 (cl.ids.length - 1)]),zC,false,false⟩),(id,some ⟨(B11 cl e.n).map eI,.int .i64 0,false,false⟩)]:=by unfold R3; rw[zf (by omega),zf (by omega),zf (by omega),hC]; simp only[A2u,M2,N7,hlc]; rfl
 rw[hE,hW] at hR;have hw1:IntKind.i64.wrap ((J9 cl.ids e.n:Int)+1)=(J9 cl.ids e.n:Int)+1:=A5 (by omega);rw[hw1];(refine yC rfl (hDl _ h8) ?_; simp[D1,T1,c1,I1,d1,d1.symm,d2,d2.symm,d3,d3.symm,d4,d4.symm,d5,d5.symm,d6,d6.symm]);refine⟨hkx,⟨hkx,by simp[hx,M2]⟩,?_⟩;simp[hx,M2,N7];refine yE hR [(id,E.n0+52224)] (by simp[hx,M2,N7,D1,T1,c1,I1,d1,d1.symm,d2,d2.symm,d3,d3.symm,d4,d4.symm,d5,d5.symm,d6,d6.symm,A4 hid]) fun hrn=>⟨?_,?_,?_,?_,?_,?_⟩<;>(try simp[hx,M2,N7,D1,T1,c1,I1,d1,d1.symm,d2,d2.symm,d3,d3.symm,d4,d4.symm,d5,d5.symm,d6,d6.symm,A4 hid]);refine⟨by exact yO hu hTn,J6 (by simp[A4 hid]) k (by exact yO hu hXn),?_⟩;have hcm:List.take (J9 cl.ids e.n) (List.map eI cl.ids)++List.drop (J9 cl.ids e.n+1) (List.map eI cl.ids)=(B11 cl e.n).map eI:=by simp[B11]
 rw[hcm];exact B8z _ _ _
theorem A3L(l:List Ty)(S:List H1)(e:Ev)(i:Nat)(o:H1)(ty:Ty)(f:Fd)(cl:Cl)(D T:Nat)(id:Nat)(hk1:3<=e.kind)(hk2:e.kind<=6)(hf0:0<=e.field)(hf:ty.fields[e.field.toNat]?=some f)(hkf:L0 e.kind f=true)(hcl:o.t.cells[e.field.toNat]?=some cl)(hio:o.is[e.field.toNat]?=some none)
  (hty:l[e.type.toNat]?=some ty) (h0:0<=e.type) (ho:S[i]?=some o) (hlen:o.t.cells.length=ty.fields.length) (his:o.is.length=o.t.cells.length) (hn:cl.ids=[]) (hl5:l.length<=1000) (hl8:ty.fields.length<=1000) (hS8:S.length<=1000) (hc8:cl.ids.length<=1000) (d1:D≠T) (d2:D≠o.c) (d3:T≠o.c) :
  A2 Tryz.prog 263 [.ptr D 0 0] [(D,S2 l (.bsl T 0 S.length) e i),(T,P2 S),(o.c,cBn o)] id (.int .i64 (W3 (A6 l S) f cl e)) (R3 (A6 l S) f cl e o.c e.field.toNat id (List.zipWith M2 o.t.cells o.is) none):=by
 have hX:=fun id=>A5q l S e i o ty D T id hty h0 ho hlen his hl8 d1 d2 d3;have hr:u5 ty e o.c = .tup [T2 f,.ptr o.c e.field.toNat 0,.int .i64 0]:=by unfold u5; rw[zf (by omega),hf]; simp only; rw[zj hkf]
 rw[hr] at hX;have hx:=A6x hcl hio;have hLk:=fun id=>B78 l S e i f cl (List.zipWith M2 o.t.cells o.is) e.field.toNat D T o.c id hx hn hl5 hS8 hc8 d1 d2 d3;have hB2:=fun id=>A2f cl none e.n id (by omega) (fun _=>hn);have hkx:=(ze.1 hx).1;have hxk:(List.zipWith M2 o.t.cells o.is)[e.field.toNat]'hkx=M2 cl none:=by rw[zc hkx] at hx; injection hx
 unfold P2 S2 cBn eD idB iBx N7 T2 at *;dsimp only at hB2;generalize hoc:o.c=c at *;generalize hzz:List.zipWith M2 o.t.cells o.is=xs at *;generalize hkk:e.field.toNat=k at *;refine w263.b.1 fun E hP hR hl hid hB hu=>?_;simp[w263];have hD:=hl (D,_) (za ..);simp only at hD;have D1:=lf hD;have hT:=hl (T,_) (zb _ (za ..));simp only at hT;have T1:=lf hT;have hc:=hl (c,_) (zb _ (zb _ (za ..)));simp only at hc;have c1:=lf hc;have hTn:∀x∈S.map W6,B4 E.G0.used x:=C1 hB (zb _ (za ..));have hXn:∀x∈xs,B4 E.G0.used x:=C1 hB (zb _ (zb _ (za ..)));(refine yC rfl (hX _) ?_; simp[D1,T1,c1,d1,d1.symm,d2,d2.symm,d3,d3.symm]);refine E5 (fun h3=>?_) (fun h3=>?_)<;>simp[D1,T1,c1,d1,d1.symm,d2,d2.symm,d3,d3.symm]
 ·have k3:e.kind=3:=by simpa using h3
  (refine D8 hP rfl (S9 _ _) (by simp[D1,T1,c1,d1,d1.symm,d2,d2.symm,d3,d3.symm]) (by simp[D1,T1,c1,d1,d1.symm,d2,d2.symm,d3,d3.symm]<;>rfl) ?_; refine A3 4000 ?_; simp[D1,T1,c1,d1,d1.symm,d2,d2.symm,d3,d3.symm]);refine E5 (fun h4=>?_) (fun h4=>?_)<;>simp[D1,T1,c1,d1,d1.symm,d2,d2.symm,d3,d3.symm]
  ·have hE:W3 (A6 l S) f cl e=3:=(by unfold W3; rw[zj k3,zf (by simp at h4; omega)]);have hW:R3 (A6 l S) f cl e c k id xs none=[]:=(by unfold R3; rw[zj (by omega)]);rw[hE,hW] at hR;refine yE hR [] (by simp[D1,T1,c1,d1,d1.symm,d2,d2.symm,d3,d3.symm,A4 hid]) fun hrn=>⟨?_,?_,?_,?_,?_,?_⟩<;>(try simp[D1,T1,c1,d1,d1.symm,d2,d2.symm,d3,d3.symm,A4 hid]);exact⟨by exact yO hu hTn,by exact yO hu hXn⟩
  ·have hE:W3 (A6 l S) f cl e=0:=(by unfold W3; rw[zj k3,zj (by simp at h4; omega)]);have hW:R3 (A6 l S) f cl e c k id xs none=[(c,some ⟨xs.set k (.agg [.int .i64 e.n,.str cl.text,.nils]),zC,false,false⟩)]:=(by unfold R3; rw[zf (by omega),zj (.inl k3)]; simp[u6,k3,M2,N7]);rw[hE,hW] at hR;refine⟨hkx,⟨hkx,by simp[hx,M2]⟩,?_⟩;simp[hx,M2,N7];refine yE hR [] (by simp[hx,M2,N7,D1,T1,c1,d1,d1.symm,d2,d2.symm,d3,d3.symm,A4 hid]) fun hrn=>⟨?_,?_,?_,?_,?_,?_⟩<;>(try simp[hx,M2,N7,D1,T1,c1,d1,d1.symm,d2,d2.symm,d3,d3.symm,A4 hid]);exact⟨by exact yO hu hTn,J6 (by simp) k (by exact yO hu hXn)⟩
 have k3:e.kind≠3:=by simpa using h3
 refine E5 (fun h4=>?_) (fun h4=>?_)<;>simp[D1,T1,c1,d1,d1.symm,d2,d2.symm,d3,d3.symm]
 ·have k4:e.kind=4:=by simpa using h4
  refine E5 (fun h5=>?_) (fun h5=>?_)<;>simp[D1,T1,c1,d1,d1.symm,d2,d2.symm,d3,d3.symm]
  ·have hE:W3 (A6 l S) f cl e=2:=(by unfold W3; rw[zf k3,zj k4,zj (by simp at h5; omega)]);have hW:R3 (A6 l S) f cl e c k id xs none=[]:=(by unfold R3; rw[zj (by omega)]);rw[hE,hW] at hR;refine yE hR [] (by simp[D1,T1,c1,d1,d1.symm,d2,d2.symm,d3,d3.symm,A4 hid]) fun hrn=>⟨?_,?_,?_,?_,?_,?_⟩<;>(try simp[D1,T1,c1,d1,d1.symm,d2,d2.symm,d3,d3.symm,A4 hid]);exact⟨by exact yO hu hTn,by exact yO hu hXn⟩
  ·have hE:W3 (A6 l S) f cl e=0:=(by unfold W3; rw[zf k3,zj k4,zf (by simp at h5; omega)]);have hW:R3 (A6 l S) f cl e c k id xs none=[(c,some ⟨xs.set k (.agg [.int .i64 cl.n,.str e.text,.nils]),zC,false,false⟩)]:=(by unfold R3; rw[zf (by omega),zj (.inr k4)]; simp[u6,k4,M2,N7]);rw[hE,hW] at hR;refine⟨hkx,⟨hkx,by simp[hx,M2]⟩,?_⟩;simp[hx,M2,N7];refine yE hR [] (by simp[hx,M2,N7,D1,T1,c1,d1,d1.symm,d2,d2.symm,d3,d3.symm,A4 hid]) fun hrn=>⟨?_,?_,?_,?_,?_,?_⟩<;>(try simp[hx,M2,N7,D1,T1,c1,d1,d1.symm,d2,d2.symm,d3,d3.symm,A4 hid]);exact⟨by exact yO hu hTn,J6 (by simp) k (by exact yO hu hXn)⟩
 have k4:e.kind≠4:=by simpa using h4
 refine E5 (fun h5=>?_) (fun h5=>?_)<;>simp[D1,T1,c1,d1,d1.symm,d2,d2.symm,d3,d3.symm]
 ·have k5:e.kind=5:=by simpa using h5
  have hE:W3 (A6 l S) f cl e=T7 (A6 l S) f cl e.n:=by unfold W3; rw[zf k3,zf k4,zj k5]
  have hC:u6 f cl e=⟨cl.n,cl.text,U2 f cl e.n⟩:=by unfold u6; rw[zf k3,zf k4,zj k5]
  have k34:¬(e.kind=3\/e.kind=4):=by omega
  rw[hE] at hR;by_cases q1:T7 (A6 l S) f cl e.n=0
  ·by_cases q2:f.kind=3
   ·have hLw:∀id,O9 (A6 l S) f cl e.n c k id xs none=[(c,some ⟨xs.set k (.agg [.int .i64 cl.n,.str cl.text,.bsl id 0 (U2 f cl e.n).length]),zC,false,false⟩),(id,some ⟨(U2 f cl e.n).map eI,.int .i64 0,false,false⟩)]:=fun id=>by unfold O9; rw[zf (by omega),zj q2]; rfl
    have hW:R3 (A6 l S) f cl e c k id xs none=[(c,some ⟨xs.set k (.agg [.int .i64 cl.n,.str cl.text,.bsl id 0 (U2 f cl e.n).length]),zC,false,false⟩),(id,some ⟨(U2 f cl e.n).map eI,.int .i64 0,false,false⟩)]:=(by unfold R3; rw[zf (by omega),zf k34,zj ⟨k5,q2⟩,hC]; rfl);simp only[hLw] at hLk;rw[hW] at hR;(refine yC rfl (hLk _) ?_; simp[D1,T1,c1,d1,d1.symm,d2,d2.symm,d3,d3.symm]);refine yE hR [(id,E.n0+27648)] (by simp[hx,M2,N7,D1,T1,c1,d1,d1.symm,d2,d2.symm,d3,d3.symm,A4 hid]) fun hrn=>⟨?_,?_,?_,?_,?_,?_⟩<;>(try simp[hx,M2,N7,D1,T1,c1,d1,d1.symm,d2,d2.symm,d3,d3.symm,A4 hid]);exact⟨by exact yO hu hTn,J6 (by simp[A4 hid]) k (by exact yO hu hXn)⟩
   ·have hLw:∀id,O9 (A6 l S) f cl e.n c k id xs none=[(c,some ⟨xs.set k (.agg [.int .i64 cl.n,.str cl.text,.bsl id 0 (U2 f cl e.n).length]),zC,false,false⟩),(id,some ⟨(U2 f cl e.n).map eI,.int .i64 0,false,false⟩)]:=fun id=>by unfold O9; rw[zf (by omega),zf q2]; rfl
    have hW:R3 (A6 l S) f cl e c k id xs none=[(c,some ⟨xs.set k (.agg [.int .i64 cl.n,.str cl.text,.bsl id 0 (U2 f cl e.n).length]),zC,false,false⟩),(id,some ⟨(U2 f cl e.n).map eI,.int .i64 0,false,false⟩)]:=(by unfold R3; rw[zf (by omega),zf k34,zf (fun h=>q2 h.2),hC]; rfl);simp only[hLw] at hLk;rw[hW] at hR;(refine yC rfl (hLk _) ?_; simp[D1,T1,c1,d1,d1.symm,d2,d2.symm,d3,d3.symm]);refine yE hR [(id,E.n0+27648)] (by simp[hx,M2,N7,D1,T1,c1,d1,d1.symm,d2,d2.symm,d3,d3.symm,A4 hid]) fun hrn=>⟨?_,?_,?_,?_,?_,?_⟩<;>(try simp[hx,M2,N7,D1,T1,c1,d1,d1.symm,d2,d2.symm,d3,d3.symm,A4 hid]);exact⟨by exact yO hu hTn,J6 (by simp[A4 hid]) k (by exact yO hu hXn)⟩
  ·have hLw:∀id,O9 (A6 l S) f cl e.n c k id xs none=[]:=fun id=>by unfold O9; rw[zj q1]
   have hW:R3 (A6 l S) f cl e c k id xs none=[]:=(by unfold R3; rw[zj (by omega)]);simp only[hLw] at hLk;rw[hW] at hR;(refine yC rfl (hLk _) ?_; simp[D1,T1,c1,d1,d1.symm,d2,d2.symm,d3,d3.symm]);refine yE hR [] (by simp[D1,T1,c1,d1,d1.symm,d2,d2.symm,d3,d3.symm,A4 hid]) fun hrn=>⟨?_,?_,?_,?_,?_,?_⟩<;>(try simp[D1,T1,c1,d1,d1.symm,d2,d2.symm,d3,d3.symm,A4 hid]);exact⟨by exact yO hu hTn,by exact yO hu hXn⟩
 have k5:e.kind≠5:=by simpa using h5
 have k6:e.kind=6:=by omega
 refine A9 (by simp[k6]) ?_;simp[hxk,hx,hkx,M2,N7,D1,T1,c1,d1,d1.symm,d2,d2.symm,d3,d3.symm];(refine yC rfl (hB2 _) ?_; simp[D1,T1,c1,d1,d1.symm,d2,d2.symm,d3,d3.symm]);refine E5 (fun h7=>?_) (fun h7=>?_)<;>simp[hxk,hx,hkx,M2,N7,D1,T1,c1,d1,d1.symm,d2,d2.symm,d3,d3.symm]
 ·have hE:W3 (A6 l S) f cl e=5:=by unfold W3; rw[zf k3,zf k4,zf k5,zf (by simpa using h7)]
  have hW:R3 (A6 l S) f cl e c k id xs none=[]:=by unfold R3; rw[zj (by omega)]
  rw[hE,hW] at hR;refine yE hR [] (by simp[D1,T1,c1,d1,d1.symm,d2,d2.symm,d3,d3.symm,A4 hid]) fun hrn=>⟨?_,?_,?_,?_,?_,?_⟩<;>(try simp[D1,T1,c1,d1,d1.symm,d2,d2.symm,d3,d3.symm,A4 hid]);exact⟨by exact yO hu hTn,by exact yO hu hXn⟩
 have h7:T5 cl.ids e.n=true:=by simpa using h7
 rw[hn] at h7;simp[T5] at h7
theorem B9F(l:List Ty)(S:List H1)(e:Ev)(i0:Int)(D T:Nat)(id:Nat)(w:Int)(hw:(e.kind=1/\E9 (S.map H1.t) e.type e.id=true/\w=6)\/(e.kind=1/\E9 (S.map H1.t) e.type e.id=false/\S.length=12/\w=2)\/(e.kind≠1/\E9 (S.map H1.t) e.type e.id=false/\w=5))(hS8:S.length<=1000)(d1:D≠T):
  A2 Tryz.prog 195 [.ptr D 0 0] [(D,S2 l (.bsl T 0 S.length) e i0),(T,P2 S)] id (.int .i64 w) [(D,some (S2 l (.bsl T 0 S.length) e (B9 (S.map H1.t) e.type e.id)))]:=by
 have hF:=fun id=>T6 l S T e.type e.id id (by omega);unfold P2 S2 eD at *;refine w195.b.1 fun E hP hR hl hid hB hu=>?_;simp[w195];have hD:=hl (D,_) (za ..);simp only at hD;have D1:=lf hD;have hT:=hl (T,_) (zb _ (za ..));simp only at hT;have T1:=lf hT;have hTn:∀x∈S.map W6,B4 E.G0.used x:=C1 hB (zb _ (za ..));(refine yC rfl (hF _) ?_; simp[D1,T1,d1,d1.symm]);refine E5 (fun h=>?_) (fun h=>?_)<;>simp[D1,T1,d1,d1.symm]
 ·have h:e.kind=1/\E9 (S.map H1.t) e.type e.id=true:=by simpa using h
  have hw6:w=6:=by rcases hw with hw|hw|hw<;>simp_all
  subst hw6;refine yE hR [] (by simp[D1,T1,d1,d1.symm,A4 hid]) fun hrn=>⟨?_,?_,?_,?_,?_,?_⟩<;>(try simp[D1,T1,d1,d1.symm,A4 hid]);all_goals exact yO hu hTn
 refine E5 (fun h2=>?_) (fun h2=>?_)<;>simp[D1,T1,d1,d1.symm]
 ·have h2:e.kind=1/\S.length=12:=by simp at h2; omega
  have hw6:w=2:=by rcases hw with hw|hw|hw<;>simp_all
  subst hw6;refine yE hR [] (by simp[D1,T1,d1,d1.symm,A4 hid]) fun hrn=>⟨?_,?_,?_,?_,?_,?_⟩<;>(try simp[D1,T1,d1,d1.symm,A4 hid]);all_goals exact yO hu hTn
 have hk:e.kind≠1:=fun hk=>by
  rcases hw with hw|hw|hw
  ·simp[hk,hw.2.1] at h
  ·simp[hk] at h2; omega
  ·exact hw.1 hk
 refine A0 (by simpa using hk) ?_;simp[D1,T1,d1,d1.symm];have hw5:E9 (S.map H1.t) e.type e.id=false/\w=5:=by rcases hw with hw|hw|hw<;>simp_all
 refine A9 (by simp[hw5.1]) ?_;obtain⟨_,hw5⟩:=hw5;subst hw5;simp[D1,T1,d1,d1.symm];refine yE hR [] (by simp[D1,T1,d1,d1.symm,A4 hid]) fun hrn=>⟨?_,?_,?_,?_,?_,?_⟩<;>(try simp[D1,T1,d1,d1.symm,A4 hid]);all_goals exact yO hu hTn
theorem B4S(S:List H1)(x3:AV)(a b:Int)(T Y k:Nat)(id:Nat)(hk:k<=S.length)(hTY:T≠Y)(hTid:T<id\/id+1024<=T)(hbig:S.length<=1000000)(h3:AV.one x3=true):
  A2 Tryz.prog 260 [.bsl T 0 S.length,.int .i64 k,.bsl Y 0 1] [(T,⟨S.map W6,zT,false,false⟩),(Y,⟨[.agg [.int .i64 a,.int .i64 b,x3]],.agg [.int .i64 0,.int .i64 0,.nils],false,false⟩)] id (.bsl id 0 (S.length+1)) [(T,none),(id,some ⟨(S.map W6).take k++.agg [.int .i64 a,.int .i64 b,x3]::(S.map W6).drop k,zT,false,false⟩)]:=by
 have:=B0z (S.map W6) (.agg [.int .i64 a,.int .i64 b,x3]) T Y k id (by simpa using hk) hTY hTid (by simpa using hbig) (fun x hx=>by obtain⟨o,_,rfl⟩:=zu.1 hx; rfl) rfl (by simp[AV.cells,AV.one] at h3 ⊢; exact h3);rw[xg] at this;exact this
theorem B4T(S:List H1)(T k:Nat)(id:Nat)(hk:k<S.length)(hbig:S.length<=1000000):
  A2 Tryz.prog 262 [.bsl T 0 S.length,.int .i64 k,.int .i64 ((k:Int)+1)] [(T,⟨S.map W6,zT,false,false⟩)] id (.bsl id 0 (S.length - 1)) [(T,none),(id,some ⟨(S.map W6).take k++(S.map W6).drop (k+1),zT,false,false⟩)]:=by
 have:=B10 (S.map W6) T k id (by simpa using hk) (by simpa using hbig) (fun x hx=>by obtain⟨o,_,rfl⟩:=zu.1 hx; rfl);rw[xg] at this;exact this
theorem C1y(l:List Ty)(S:List H1)(e:Ev)(i0:Int)(ty:Ty)(D T:Nat)(id:Nat)(hk:e.kind=1)(hfB:E9 (S.map H1.t) e.type e.id=false)(h12:S.length≠12)(hty:l[e.type.toNat]?=some ty)(h0:0<=e.type)(hf8:ty.fields.length<=1000)(hS8:S.length<=1000)(d1:D≠T):
  A2 Tryz.prog 195 [.ptr D 0 0] [(D,S2 l (.bsl T 0 S.length) e i0),(T,P2 S)] id (.int .i64 0) [(D,some (S2 l (.bsl id 0 (S.length+1)) e (B9 (S.map H1.t) e.type e.id))),(T,none),
   (id,some ⟨(S.map W6).take (B9 (S.map H1.t) e.type e.id)++.agg [.int .i64 e.type,.int .i64 e.id,.bsl (id+1) 0 ty.fields.length]::(S.map W6).drop (B9 (S.map H1.t) e.type e.id),zT,false,false⟩),(id+1,some ⟨List.replicate ty.fields.length zC,zC,false,false⟩)]:=by
 have hF:=fun id=>T6 l S T e.type e.id id (by omega);unfold P2 S2 eD at *;refine w195.b.1 fun E hP hR hl hid hB hu=>?_;simp[w195];have hD:=hl (D,_) (za ..);simp only at hD;have D1:=lf hD;have hT:=hl (T,_) (zb _ (za ..));simp only at hT;have T1:=lf hT;have hTn:∀x∈S.map W6,B4 E.G0.used x:=C1 hB (zb _ (za ..));(refine D8 hP rfl (hF _) (by simp[D1,T1,d1,d1.symm]) (by simp[D1,T1,d1,d1.symm]<;>rfl) ?_; refine A3 330 ?_; simp[D1,T1,d1,d1.symm]);refine A0 (by simp[hfB]) ?_;simp[D1,T1,d1,d1.symm];refine A0 (by simp[hk]; omega) ?_;simp[D1,T1,d1,d1.symm];refine A9 (by simp[hk]) ?_;simp[hty,I8,h0,D1,T1,d1,d1.symm];have htl:e.type<l.length:=by have:=(ze.1 hty).1; omega
 refine⟨htl,⟨by omega,by omega⟩,?_⟩;refine B40 (by simp<;>rfl) (by simp) (by simp) (by simp<;>rfl) ?_;refine A3 4000 ?_;simp[D1,T1,d1,d1.symm];have hle:B9 (S.map H1.t) e.type e.id<=S.length:=by have:=(B5T (I5 (S.map H1.t) e.type e.id) 0 (S.map H1.t).length (qc _)).2; rw[xg] at this; unfold B9; rw[xg]; exact this
 have hIns:=fun (id:Nat) (hid:T<id\/id+1024<=T)=>B4S S (.bsl (E.n0+92160) 0 ty.fields.length) e.type e.id T (E.n0+94208) (B9 (S.map H1.t) e.type e.id) id hle (by omega) hid (by omega) rfl;generalize B9 (S.map H1.t) e.type e.id=m at *;(refine yC rfl (hIns _ (by omega)) ?_; simp[D1,T1,d1,d1.symm]);have hp0:∀R S,N8 R S (List.replicate ty.fields.length (.agg [.int .i64 0,.str [],.nils])) (List.replicate ty.fields.length (.agg [.int .i64 0,.str [],.nils])):=fun R S=>C2 rfl (A7A fun i x hx=>by rw[wz] at hx; split at hx<;>simp at hx; subst hx; rfl);simp only[zC] at hR;have hrn:H5 [(id,E.n0+95232),(id+1,E.n0+92160)]:=by simp[hp0,A5a hD.2,A3m hD.2,A5a hT.2,A3m hT.2,D1,T1,d1,d1.symm,A4 hid,A39 hid,A1S hid,A0J hid,A0K hid,o6 hid]
 rw[hR];refine E8 (by simp<;>rfl) [(id,E.n0+95232),(id+1,E.n0+92160)] hrn ⟨?_,?_,?_,?_,?_,?_⟩<;>(try simp[hp0,A5a hD.2,A3m hD.2,A5a hT.2,A3m hT.2,D1,T1,d1,d1.symm,A4 hid,A39 hid,A1S hid,A0J hid,A0K hid,o6 hid]);have hlk:∀z,z<E.n0->(z<id\/id+1024<=z)->lkN [(id,E.n0+95232),(id+1,E.n0+92160)] z=none:=fun z h1 h2=>by
  have a1:z≠id:=by omega
  have a2:z≠id+1:=by omega
  simp[lkN,a1,a2]
 exact s7 (j0 hu hlk fun x hx=>hTn x (xh hx)) (.cons _ _ _ _ (by simp[A4 hid,A39 hid,A1S hid,A0J hid,A0K hid,o6 hid]) (j0 hu hlk fun x hx=>hTn x (xf hx)))
structure H1.Ok(o:H1):Prop where
 len:o.is.length=o.t.cells.length
 nil:∀(k:Nat) (c:Cl),o.t.cells[k]?=some c->o.is[k]?=some none->c.ids=[]
theorem A4z{cs:List Cl}:∀{is:List (Option Nat)} (k:Nat) {c:Cl} {i:Option Nat},cs[k]?=some c->is[k]?=some i->∀q∈idB c i,q∈A0N cs is:=by
 induction cs with
 | nil=>intro is k c i h1; simp at h1
 | cons c0 cs ih =>
  intro is k c i h1 h2 q hq;cases is with
  | nil=>simp at h2
  | cons i0 is =>
   cases k with
   | zero=>simp at h1 h2; subst h1 h2; exact yp _ hq
   | succ k=>exact yb _ (ih k (by simpa using h1) (by simpa using h2) q hq)
theorem B9G{o:H1}(h:o.Ok){L:List (Nat×Bx)}(hL:∀q∈o.bxs,q∈L):Rd L (.bsl o.c 0 o.t.cells.length) (.sl (o.t.cells.map eCl)):=by
 have hg:∀i x y,(List.zipWith M2 o.t.cells o.is)[0+i]?=some x->(o.t.cells.map eCl)[i]?=some y->∃c io,o.t.cells[i]?=some c/\o.is[i]?=some io/\x=M2 c io/\y=eCl c:=fun i x y h1 h2=>by
  rw[yy,rp] at h1;rw[yi] at h2;cases hc:o.t.cells[i]? with
  | none=>rw[hc] at h2; simp at h2
  | some c =>
   cases hi:o.is[i]? with
   | none=>rw[hc,hi] at h1; simp at h1
   | some io =>
    rw[hc,hi] at h1;rw[hc] at h2;simp at h1 h2;exact⟨c,io,rfl,rfl,h1.symm,h2.symm⟩
 refine .bsl o.c 0 _ (cBn o) _ (hL _ (za ..)) (by simp[cBn,h.len]) (by simp) (fun i x y h1 h2=>?_) fun i x y j a b h1 h2 h3 h4=>?_
 ·obtain⟨c,io,_,_,rfl,rfl⟩:=hg i x y h1 h2;rfl
 ·obtain⟨c,io,hc,hi,rfl,rfl⟩:=hg i x y h1 h2;match j,h3,h4 with
  | 0,h3,h4=>simp[M2,eCl,AV.cells] at h3 h4; subst h3 h4; exact .same _
  | 1,h3,h4=>simp[M2,eCl,AV.cells] at h3 h4; subst h3 h4; exact .same _
  | 2,h3,h4 =>
   simp[M2,eCl,AV.cells] at h3 h4;subst h3 h4;exact B5Y c io L (fun q hq=>hL _ (zb _ (A4z i hc hi q hq))) fun e=>h.nil i c hc (e▸hi)
  | j+3,h3,h4=>simp[M2,AV.cells] at h3
theorem A3v{S:List H1}(h:∀o∈S,o.Ok){T:Nat}{L:List (Nat×Bx)}(hT:(T,P2 S)∈L)(hL:∀q∈I6 S,q∈L):Rd L (.bsl T 0 S.length) (.sl ((S.map H1.t).map T4)):=by
 have hg:∀i x y,(S.map W6)[0+i]?=some x->((S.map H1.t).map T4)[i]?=some y->∃o,S[i]?=some o/\x=W6 o/\y=T4 o.t:=fun i x y h1 h2=>by
  rw[yy,yi] at h1;rw[yi,yi] at h2;cases ho:S[i]? with
  | none=>rw[ho] at h2; simp at h2
  | some o =>
   rw[ho] at h1 h2;simp at h1 h2;exact⟨o,rfl,h1.symm,h2.symm⟩
 refine .bsl T 0 _ (P2 S) _ hT (by simp[P2]) (by simp) (fun i x y h1 h2=>?_) fun i x y j a b h1 h2 h3 h4=>?_
 ·obtain⟨o,_,rfl,rfl⟩:=hg i x y h1 h2;rfl
 ·obtain⟨o,ho,rfl,rfl⟩:=hg i x y h1 h2;match j,h3,h4 with
  | 0,h3,h4=>simp[W6,T4,AV.cells] at h3 h4; subst h3 h4; exact .same _
  | 1,h3,h4=>simp[W6,T4,AV.cells] at h3 h4; subst h3 h4; exact .same _
  | 2,h3,h4 =>
   simp[W6,T4,AV.cells] at h3 h4;subst h3 h4;exact B9G (h o (zg ho)) fun q hq=>hL q (xy.2 ⟨o,zg ho,hq⟩)
  | j+3,h3,h4=>simp[W6,AV.cells] at h3
theorem A9t(l:List Ty)(S:List H1)(e:Ev)(i:Int)(D T:Nat)(id:Nat)(hS:∀o∈S,o.Ok)(h5:l.length<=1000)(h12:S.length<=1000000)
  (hok:∀t∈S.map H1.t,0<=t.type/\t.type.toNat<l.length/\t.cells.length=(C8 l t.type).length/\t.cells.length<=1000000/\∀c∈t.cells,c.ids.length<=6) :
  A2 Tryz.prog 261 [.ptr D 0 0] ((D,S2 l (.bsl T 0 S.length) e i)::(T,P2 S)::I6 S) id (.bool (!Q7 (S1 l e) l (S.map H1.t))) []:=by
 refine (B9E (A6 l S) e i id h5 (by simp[A6]; exact h12) hok).read rfl rfl fun k a b h1 h2=>?_;match k,h1,h2 with
 | 0,h1,h2 =>
  simp only[yr,zd] at h1 h2;subst h1 h2;refine .ptr D (S2 l (.bsl T 0 S.length) e i) _ _ (za ..) rfl rfl fun j c d h3 h4=>?_;match j,h3,h4 with
  | 0,h3,h4=>simp[eD,AV.cells,A6] at h3 h4; subst h3 h4; exact .same _
  | 1,h3,h4 =>
   simp only[eD,AV.cells,A6,xn,yr,zd] at h3 h4;subst h3 h4;exact A3v hS (zb _ (za ..)) fun q hq=>zb _ (zb _ hq)
  | 2,h3,h4|3,h3,h4|4,h3,h4|5,h3,h4|6,h3,h4|7,h3,h4|8,h3,h4=>simp[eD,AV.cells,A6] at h3 h4; subst h3 h4; exact .same _
  | j+9,h3,h4=>simp[eD,AV.cells] at h3
 | k+1,h1,h2=>simp at h1
end Go.Am
