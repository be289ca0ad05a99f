/- Parts of the proof: an abstract machine for Go functions, and what functions of the program give back (In5, Do3, Do4, Do5, Do6, Do7, Do8, Do9). No condition. -/
import Derived.Test.YtphjabjjnncebaaGreatDoorXK
import Derived.Test.YtphjabjjnncebaaGreatDoorXG
set_option maxRecDepth 100000
set_option linter.all false
set_option maxHeartbeats 1000000
namespace Go.Am
open Go Go.Proofs Go.RowKit Go.Proofs.Tryz
def RS.rowed{P:Program}{C:Cx P}{G:Gh}{bx:Nat->Option Bx}{w w':World}(hs:RS C G bx w){T id:Nat}{x:Bx}(hx:bx T=some x)(hro:x.ro=false)(hfr:x.frz=false)(hn:¬G.nl T){b s:Nat}{cur:Array Value}{el:TypeId}(hb:G.bm T=some (b,s))(hg:w.heap[b]?=some (.cells cur el (0,0)))
  (hu:¬G.used id) (R:Array Value) (xs':List AV) (hlen:xs'.length*s<=R.size) (hh:w'.heap[b]?=some (.cells R el (0,0))) (ho:∀k,k≠b->w'.heap[k]?=w.heap[k]?) (h1:w'.os=w.os) (h2:w'.tape=w.tape) (h3:w'.output=w.output) (h4:w.heap.size<=w'.heap.size) (hc:y9 G w s xs' R) :
  RS C (G.rename T id b s) (T4 (T4 bx T none) id (some ⟨xs',x.d,false,false⟩)) w'/\L0 G w (G.rename T id b s) w':=by
 obtain⟨b1,s1,cur1,e1,k1,k2,k3,k4,k5,k6,k7⟩:=hs.box T x hx hn;rw[hb] at k1;injection k1 with k1
 injection k1 with kb ks
 subst kb ks;have hfz:∀b2 o,G.fz b2 o->b2≠b:=λb2 o hf e=>k6 hfr o (e▸hf);exact hs.moved (id0:=T) (id:=id) (b':=b) (s:=s) (x':=⟨xs',x.d,false,false⟩) (cur':=R) (e':=el) hu ⟨h1,h2,h3,h4,λk hk=>ho k (by have:=k3 hro; omega)⟩
  (λj b2 s2 hj hji=>ho b2 λhbb=>hji (hs.inj j T b2 s2 s hj (hbb▸hb))) (λb2 o hf=>World.cell?_of_block (w:=w) (ho b2 (hfz b2 o hf))) hh (k3 hro) (λj s2 hj hjb=>hj (hs.inj j T b s2 s hjb hb)) hlen k4.1 hc (λ_ o hf=>hfz b o hf rfl) (λo hf=>(hfz b o hf rfl).elim)
def RS.rehomed{P:Program}{C:Cx P}{G:Gh}{bx:Nat->Option Bx}{w w':World}(hs:RS C G bx w){T id:Nat}{x:Bx}(hx:bx T=some x)(hn:¬G.nl T){b s:Nat}(hb:G.bm T=some (b,s))
  (hu:¬G.used id) (R:Array Value) (el:TypeId) (xs':List AV) (hlen:xs'.length*s<=R.size) (hh:w'.heap[w.heap.size]?=some (.cells R el (0,0))) (ho:∀k,k<w.heap.size->w'.heap[k]?=w.heap[k]?) (h1:w'.os=w.os) (h2:w'.tape=w.tape) (h3:w'.output=w.output) (h4:w.heap.size<=w'.heap.size) (hc:y9 G w s xs' R) :
  RS C (G.rename T id w.heap.size s) (T4 (T4 bx T none) id (some ⟨xs',x.d,false,false⟩)) w'/\L0 G w (G.rename T id w.heap.size s) w':=by
 obtain⟨b1,s1,cur1,e1,k1,k2,k3,k4,k5,k6,k7⟩:=hs.box T x hx hn;rw[hb] at k1;injection k1 with k1
 injection k1 with kb ks
 subst kb ks;have hfl:∀b2 o,G.fz b2 o->b2<w.heap.size:=λb2 o hf=>let ⟨u,hu⟩:=hs.fzok b2 o hf; Y3 hu;exact hs.moved (id0:=T) (id:=id) (b':=w.heap.size) (s:=s) (x':=⟨xs',x.d,false,false⟩) (cur':=R) (e':=el) hu ⟨h1,h2,h3,h4,λk hk=>ho k (by have:=hs.size; omega)⟩
  (λj b2 s2 hj hji=>ho b2 (hs.rows j b2 s2 hj)) (λb2 o hf=>World.cell?_of_block (w:=w) (ho b2 (hfl b2 o hf))) hh hs.size (λj s2 hj hjb=>by have:=hs.rows j _ s2 hjb; omega) hlen k4.1 hc (λ_ o hf=>by have:=hfl _ o hf; omega) (λo hf=>by have:=hfl _ o hf; omega)
def A6P{G:Gh}{w:World}{k:IntKind}{n:Int}{v:Value}(h:RV G w (.int k n) v):v = .int k n:=by cases h; rfl
def A8b(xs:List AV)(y:AV)(T Y i:Nat)(id:Nat)(hi:i<=xs.length)(hTY:T≠Y)(hTid:T<id\/id+1024<=T)(hbig:xs.length<=1000000)(h1:∀x∈xs,x.cells.all AV.one=true)(hy:y.cells.length=1)(hy1:y.cells.all AV.one=true):
  A2 prog 315 [.bsl T 0 xs.length,.int .i64 i,.bsl Y 0 1] [(T,⟨xs,.int .i64 0,false,false⟩),(Y,⟨[y],.int .i64 0,false,false⟩)] id (.bsl id 0 (xs.length+1)) [(T,none),(id,some ⟨xs.take i++y::xs.drop i,.int .i64 0,false,false⟩)]:=by
 refine⟨⟨_,func315,k_,k_⟩,λC G bx w vs nb hs hv hh hnb hid=>?_⟩;have hxT:=hh (T,⟨xs,.int .i64 0,false,false⟩) s_;have hxY:=hh (Y,⟨[y],.int .i64 0,false,false⟩) s_;simp only at hxT hxY;have hu:¬G.used id:=hid id (zy _) o_;obtain⟨hl,hvv⟩:=hv;obtain⟨v0,v1,v2,rfl⟩:∃v0 v1 v2,vs = #[v0,v1,v2]:=by
  match vs,hl with
  | ⟨[a,b,c]⟩,_=>exact⟨a,b,c,rfl⟩
 have hv0:RV G w (.bsl T 0 xs.length) v0:=hvv 0 _ rfl;have hv1:RV G w (.int .i64 i) v1:=hvv 1 _ rfl;have hv2:RV G w (.bsl Y 0 1) v2:=hvv 2 _ rfl;obtain rfl:=A6P hv1;have hnY:¬G.nl Y:=hs.lies hxY (i:=0) (y:=y) rfl;obtain⟨vb,sY,curY,eY,y1,y2,y3,⟨y4,y5⟩,y6,y7,y8⟩:=hs.box Y _ hxY hnY;have hsY:sY=1:=by
  have:=(y6 0 y rfl).1;omega
 subst hsY;obtain⟨vc,curY',eY',hv2',hvc1,hvc2,hvc3,hvc4⟩:∃c cur e,v2 = .slice (some ⟨vb,0,none⟩) 1 c/\1<=c/\c<=maxLen/\w.heap[vb]?=some (.cells cur e (0,0))/\cur.size=(0+c)*1:=by
  cases hv2 with|bsl _ _ _ _ _ _ hb _ =>
  obtain⟨c,cur,e,q1,q2,q3,q4,q5⟩:=hb vb 1 y1;exact⟨c,cur,e,v_ q1,q2,q3,q4,q5⟩
 have hv2o:=hv2;subst hv2';obtain⟨vl,hvl⟩:∃vl,vl=curY.toList.take 1:=⟨_,rfl⟩;have hszY:1<=curY.size:=by simpa using y5
 have hvll:vl.length=1:=by rw[hvl,zz,xg]; omega
 have hvs:∀j v,vl[j]?=some v->w.cell? ⟨vb,j,none⟩=some v:=λj v hj=>by
  rw[hvl,yd] at hj;split at hj
  ·exact (E0 y2).trans (v_ hj)
  ·cases hj
 have h1v:∀v∈vl,v.oneCell'=true:=by
  have:=r8 y6 (h1:=λx hx=>by simp at hx; subst hx; exact hy1);rw[hvl];simpa using this
 have hyv:∀(j:Nat) z,y.cells[j]?=some z->∃u,vl[j]?=some u/\RV G w z u:=λj z hz=>by
  obtain⟨u,q1,q2⟩:=(y6 0 y rfl).2 j z hz;refine⟨u,?_,q2⟩;have hj:j<1:=by rw[←hy]; exact (ze.1 hz).1
  rw[hvl,yd,zj hj];simpa using q1
 by_cases hin:i=xs.length
 ·-- at the end: an append
  subst hin;obtain⟨i0,hi0,hz0,hzs,hzb⟩:=info_parts (P:=prog) (e:=3) (z:=.int .i64 0) (size:=1) (bytes:=8) k_;have hap:=A61 (P:=prog) hs hu hv0 hv2o (ys:=[y]) (by simp[elems,hxY]) (d:=.int .i64 0) (s:=1) (bytes:=8) (v_ hy) (λz hz c hc=>by simp at hz; subst hz; exact xi.1 hy1 c hc) (r:=.bsl id 0 (xs.length+1)) (rd:=[(T,⟨xs,.int .i64 0,false,false⟩)]) (wr:=[(T,none),(id,some ⟨xs++[y],.int .i64 0,false,false⟩)])
   (by simp[A6o,hxT,Bx.sz]) (by simp[zT]) (t:=106) (tx:=106) (ty:=106) (e:=3) (i:=i0) (z:=.int .i64 0) (.inr ⟨λt h=>(by cases h),3,underlying106⟩) underlying106 hi0 hz0 (by rfl) hzs hzb
   (λn hn=>by simp[A1G,hxT] at hn; subst hn; constructor<;>(simp; omega))
  obtain⟨v,w1,G',hrun,r1,r2,r3,r4⟩:=hap;have hform:∃A c,v0 = .slice A xs.length c/\xs.length<=c/\c<=maxLen/\(A=none->c=0):=by
   by_cases hn:G.nl T
   ·have hx0:=(hs.nil T _ hxT hn).1;simp only at hx0;cases hv0 with|bsl _ _ _ _ _ _ _ hnl =>
    obtain⟨q1,_,q3⟩:=hnl hn;exact⟨none,0,by rw[q1,q3],o_,by simp[maxLen],λ_=>rfl⟩
   ·obtain⟨b,s,cur,e,k1,_⟩:=hs.box T _ hxT hn;cases hv0 with|bsl _ _ _ _ _ _ hb _ =>
    obtain⟨c,_,_,q1,q2,q3,_⟩:=hb b s k1;exact⟨_,c,q1,q2,q3,λh=>by cases h⟩
  obtain⟨A,c,rfl,q2,q3,q4⟩:=hform;refine (B4t A xs.length c vb vc w w1 v q2 (by unfold maxLen at q3; omega) q4 (λty=>hrun)).mono λe w' ⟨he,hw⟩=>?_;subst he hw;refine⟨v,G',rfl,?_,r2,r3,λx hx=>(r4 x hx).imp _root_.id λh=>o_⟩;simpa using r1
 ·have hin':i<xs.length:=by omega
  have hnT:¬G.nl T:=λhn=>by have:=(hs.nil T _ hxT hn).1; simp only at this; rw[this] at hin'; simp at hin'
  obtain⟨b,sT,cur,e,k1,k2,k3,⟨k4,k5⟩,k6,k7,k8⟩:=hs.box T _ hxT hnT;have hsT:sT=1:=by rw[←k4]; rfl
  subst hsT;obtain⟨c,hv0',hc1,hc2,hc3⟩:∃c,v0 = .slice (some ⟨b,0,none⟩) xs.length c/\xs.length<=c/\c<=maxLen/\cur.size=c*1:=by
   cases hv0 with|bsl _ _ _ _ _ _ hb _ =>
   obtain⟨c,cur',e',q1,q2,q3,q4,q5⟩:=hb b 1 k1;rw[k2] at q4;injection q4 with q4
   injection q4 with q4 _
   subst q4;exact⟨c,v_ q1,q2,q3,v_ q5⟩
  subst hv0';simp only at k5 k6;unfold maxLen at hc2;have h1c:=r8 k6 h1;have hct:cur.toList.length=cur.size:=by simp
  have hvb:vb≠b:=λe=>hTY (hs.inj T Y b 1 1 k1 (e▸y1));have hfin:∀(W:World) (b':Nat) (cc:Nat) (R:List Value) (el':TypeId),(∀k,k<i*1->R[k]?=cur[k]?)->(∀j,j<1->R[i*1+j]?=vl[j]?)->(∀k,i*1<=k->k<xs.length*1->R[k+1]?=cur[k]?)->y9 G w 1 (xs.take i++y::xs.drop i) R.toArray:=λW b' cc R el' q1 q2 q3=>A72 k6 hi hy hyv q1 q2 q3;have hlen':(xs.take i++y::xs.drop i).length=xs.length+1:=by simp; omega
  by_cases hroom:xs.length+1<=c
  ·-- there is room
   have hsa:w.shape? vb=some (eY,curY.size):=(by simp[World.shape?,y2]);have hsb:w.shape? b=some (e,cur.size):=(by simp[World.shape?,k2]);refine (B1J b xs.length c i vb vc cur e vl w hin' hroom o_ hvb hvll k2 o_ (v_ h1c) hvs h1v eY e curY.size cur.size hsa hsb o_ (by simp[World.frozen?,y2]) (by simp[World.frozen?,y2])).mono λex w' ⟨he,q,hw⟩=>?_;subst he;obtain⟨L1,hL1⟩:∃L1,L1=I5 cur.toList (i+1) ((cur.toList.take (xs.length)).drop (i)):=⟨_,rfl⟩;rw[←hL1] at hw;have hcl:((cur.toList.take (xs.length)).drop (i)).length=(xs.length - i):=(by rw[ye,zz,hct]; omega);have hL1l:L1.length=cur.size:=(by rw[hL1,M5 (by rw[hcl,hct]; omega),hct]);have hRl:(I5 L1 (i) vl).length=cur.size:=(by rw[M5 o_,hL1l]);have hcont:y9 G w 1 (xs.take i++y::xs.drop i) (I5 L1 (i) vl).toArray:=by
    refine hfin w b c _ e (λk hk=>?_) (λj hj=>?_) (λk hk1 hk2=>?_)
    ·rw[H6 o_,zj o_,hL1,H6 (by rw[hcl,hct]; omega),zj o_,xd]
    ·rw[H6 o_,zf o_,zj o_];congr 1
     omega
    ·rw[H6 o_,zf o_,zf o_,hL1,H6 (by rw[hcl,hct]; omega),zf o_,zj (by rw[hcl]; omega),yh,yd,zj o_,xd];congr 1
     omega
   have hg1:((w.drewN q).setRow b L1.toArray).heap[b]?=some (.cells L1.toArray e (0,0)):=setRow_heap (w.drewN q) b cur _ e (0,0) k2;have hg2:w'.heap[b]?=some (.cells (I5 L1 (i) vl).toArray e (0,0)):=(by rw[hw]; exact setRow_heap _ b _ _ e (0,0) hg1);have hother:∀k,k≠b->w'.heap[k]?=w.heap[k]?:=λk hk=>by
    rw[hw];exact (setRow_other _ b k _ hk).trans (setRow_other (w.drewN q) b k _ hk)
   obtain⟨r1,r2⟩:=hs.rowed (id:=id) hxT rfl rfl hnT k1 k2 hu (I5 L1 (i) vl).toArray (xs.take i++y::xs.drop i) (by rw[hlen',yu,hRl]; omega) hg2 hother (by rw[hw]; rfl) (by rw[hw]; rfl) (by rw[hw]; rfl) (by rw[hw]; simp[World.drewN]) hcont;refine⟨_,_,rfl,r1,r2,?_,λx hx=>hx.elim (λh=>.inr o_) .inl⟩;refine .bsl id 0 _ _ rfl (.inl rfl) (λb' s' hbm=>?_) λhn'=>(hu (hs.nlu id hn').1).elim;simp only[Gh.rename,C2,zd,zi] at hbm;obtain⟨rfl,rfl⟩:=hbm;exact⟨c,_,e,s_,hroom,by unfold maxLen; omega,hg2,by rw[yu,hRl]; omega⟩
  ·-- a new row
   refine (B3I b xs.length c i vb vc cur e vl w hin' hc1 o_ o_ hvll k2 o_ (v_ h1c) hvs h1v).mono λex w' ⟨he,q,ROW,hRl,hRt,hw⟩=>?_;subst he;have hG1:=grownCap_ge w (xs.length+1) c 3;have hG2:=grownCap_le_maxLen w (xs.length+1) c 3 (by unfold maxLen; omega);generalize grownCap w (xs.length+1) c 3=g at hRl hG1 hG2 hw;obtain⟨R1,hR1⟩:∃R1,R1=I5 ROW (i) vl:=⟨_,rfl⟩;rw[←hR1] at hw;have hcl:((cur.toList.take (xs.length)).drop (i)).length=(xs.length - i):=(by rw[ye,zz,hct]; omega);have hR1l:R1.length=g*1:=(by rw[hR1,M5 o_,hRl]);obtain⟨R2,hR2⟩:∃R2,R2=I5 R1 (i+1) ((cur.toList.take (xs.length)).drop (i)):=⟨_,rfl⟩;rw[←hR2] at hw;have hR2l:R2.length=g*1:=(by rw[hR2,M5 (by rw[hcl]; omega),hR1l]);have hcont:y9 G w 1 (xs.take i++y::xs.drop i) R2.toArray:=by
    refine hfin w b c _ e (λk hk=>?_) (λj hj=>?_) (λk hk1 hk2=>?_)
    ·rw[hR2,H6 (by rw[hcl]; omega),zj o_,hR1,H6 o_,zj o_];have:=congrArg (λl=>l[k]?) hRt;simp only[yd] at this;rw[zj o_,zj o_] at this;rw[this,xd]
    ·rw[hR2,H6 (by rw[hcl]; omega),zj o_,hR1,H6 o_,zf o_,zj o_];congr 1
     omega
    ·rw[hR2,H6 (by rw[hcl]; omega),zf o_,zj (by rw[hcl]; omega),yh,yd,zj o_,xd];congr 1
     omega
   have hN0:((w.drewN q).alloc (.cells ROW.toArray 3)).heap[w.heap.size]?=some (.cells ROW.toArray 3 (0,0)):=heap_alloc_new (w.drewN q) _;have hN1:(((w.drewN q).alloc (.cells ROW.toArray 3)).setRow w.heap.size R1.toArray).heap[w.heap.size]?=some (.cells R1.toArray 3 (0,0)):=setRow_heap _ _ _ _ _ (0,0) hN0;have hN2:w'.heap[w.heap.size]?=some (.cells R2.toArray 3 (0,0)):=(by rw[hw]; exact setRow_heap _ _ _ _ _ (0,0) hN1);have hother:∀k,k<w.heap.size->w'.heap[k]?=w.heap[k]?:=λk hk=>by
    rw[hw];exact ((setRow_other _ _ k _ o_).trans (setRow_other _ _ k _ o_)).trans (Below.heap_alloc (w.drewN q) _ k hk)
   obtain⟨r1,r2⟩:=hs.rehomed (id:=id) hxT hnT k1 hu R2.toArray 3 (xs.take i++y::xs.drop i) (by rw[hlen',yu,hR2l]; omega) hN2 hother (by rw[hw]; rfl) (by rw[hw]; rfl) (by rw[hw]; rfl) (by rw[hw]; simp[World.drewN]) hcont;refine⟨_,_,rfl,r1,r2,?_,λx hx=>hx.elim (λh=>.inr o_) .inl⟩;refine .bsl id 0 _ _ rfl (.inl rfl) (λb' s' hbm=>?_) λhn'=>(hu (hs.nlu id hn').1).elim;simp only[Gh.rename,C2,zd,zi] at hbm;obtain⟨rfl,rfl⟩:=hbm;exact⟨g,_,3,s_,hG1,hG2,hN2,by rw[yu,hR2l]; omega⟩
def B1L(xs:List AV)(y:AV)(T Y i:Nat)(id:Nat)(hi:i<=xs.length)(hTY:T≠Y)(hTid:T<id\/id+1024<=T)(hbig:xs.length<=1000000)(h1:∀x∈xs,x.cells.all AV.one=true)(hy:y.cells.length=3)(hy1:y.cells.all AV.one=true):
  A2 prog 260 [.bsl T 0 xs.length,.int .i64 i,.bsl Y 0 1] [(T,⟨xs,zT,false,false⟩),(Y,⟨[y],zT,false,false⟩)] id (.bsl id 0 (xs.length+1)) [(T,none),(id,some ⟨xs.take i++y::xs.drop i,zT,false,false⟩)]:=by
 refine⟨⟨_,func260,k_,k_⟩,λC G bx w vs nb hs hv hh hnb hid=>?_⟩;have hxT:=hh (T,⟨xs,zT,false,false⟩) s_;have hxY:=hh (Y,⟨[y],zT,false,false⟩) s_;simp only at hxT hxY;have hu:¬G.used id:=hid id (zy _) o_;obtain⟨hl,hvv⟩:=hv;obtain⟨v0,v1,v2,rfl⟩:∃v0 v1 v2,vs = #[v0,v1,v2]:=by
  match vs,hl with
  | ⟨[a,b,c]⟩,_=>exact⟨a,b,c,rfl⟩
 have hv0:RV G w (.bsl T 0 xs.length) v0:=hvv 0 _ rfl;have hv1:RV G w (.int .i64 i) v1:=hvv 1 _ rfl;have hv2:RV G w (.bsl Y 0 1) v2:=hvv 2 _ rfl;obtain rfl:=A6P hv1;have hnY:¬G.nl Y:=hs.lies hxY (i:=0) (y:=y) rfl;obtain⟨vb,sY,curY,eY,y1,y2,y3,⟨y4,y5⟩,y6,y7,y8⟩:=hs.box Y _ hxY hnY;have hsY:sY=3:=by
  have:=(y6 0 y rfl).1;omega
 subst hsY;obtain⟨vc,curY',eY',hv2',hvc1,hvc2,hvc3,hvc4⟩:∃c cur e,v2 = .slice (some ⟨vb,0,none⟩) 1 c/\1<=c/\c<=maxLen/\w.heap[vb]?=some (.cells cur e (0,0))/\cur.size=(0+c)*3:=by
  cases hv2 with|bsl _ _ _ _ _ _ hb _ =>
  obtain⟨c,cur,e,q1,q2,q3,q4,q5⟩:=hb vb 3 y1;exact⟨c,cur,e,v_ q1,q2,q3,q4,q5⟩
 have hv2o:=hv2;subst hv2';obtain⟨vl,hvl⟩:∃vl,vl=curY.toList.take 3:=⟨_,rfl⟩;have hszY:3<=curY.size:=by simpa using y5
 have hvll:vl.length=3:=by rw[hvl,zz,xg]; omega
 have hvs:∀j v,vl[j]?=some v->w.cell? ⟨vb,j,none⟩=some v:=λj v hj=>by
  rw[hvl,yd] at hj;split at hj
  ·exact (E0 y2).trans (v_ hj)
  ·cases hj
 have h1v:∀v∈vl,v.oneCell'=true:=by
  have:=r8 y6 (h1:=λx hx=>by simp at hx; subst hx; exact hy1);rw[hvl];simpa using this
 have hyv:∀(j:Nat) z,y.cells[j]?=some z->∃u,vl[j]?=some u/\RV G w z u:=λj z hz=>by
  obtain⟨u,q1,q2⟩:=(y6 0 y rfl).2 j z hz;refine⟨u,?_,q2⟩;have hj:j<3:=by rw[←hy]; exact (ze.1 hz).1
  rw[hvl,yd,zj hj];simpa using q1
 by_cases hin:i=xs.length
 ·-- at the end: an append
  subst hin;obtain⟨i0,hi0,hz0,hzs,hzb⟩:=info_parts (P:=prog) (e:=66) (z:=.agg #[.int .i64 0,.int .i64 0,.slice none 0 0]) (size:=3) (bytes:=40) k_;have hap:=A61 (P:=prog) hs hu hv0 hv2o (ys:=[y]) (by simp[elems,hxY]) (d:=zT) (s:=3) (bytes:=40) (v_ hy) (λz hz c hc=>by simp at hz; subst hz; exact xi.1 hy1 c hc) (r:=.bsl id 0 (xs.length+1)) (rd:=[(T,⟨xs,zT,false,false⟩)]) (wr:=[(T,none),(id,some ⟨xs++[y],zT,false,false⟩)])
   (by simp[A6o,hxT,Bx.sz]) (by simp[zT]) (t:=27) (tx:=27) (ty:=27) (e:=66) (i:=i0) (z:=.agg #[.int .i64 0,.int .i64 0,.slice none 0 0]) (.inr ⟨λt h=>(by cases h),66,underlying27⟩) underlying27 hi0 hz0 (by rfl) hzs hzb
   (λn hn=>by simp[A1G,hxT] at hn; subst hn; constructor<;>(simp; omega))
  obtain⟨v,w1,G',hrun,r1,r2,r3,r4⟩:=hap;have hform:∃A c,v0 = .slice A xs.length c/\xs.length<=c/\c<=maxLen/\(A=none->c=0):=by
   by_cases hn:G.nl T
   ·have hx0:=(hs.nil T _ hxT hn).1;simp only at hx0;cases hv0 with|bsl _ _ _ _ _ _ _ hnl =>
    obtain⟨q1,_,q3⟩:=hnl hn;exact⟨none,0,by rw[q1,q3],o_,by simp[maxLen],λ_=>rfl⟩
   ·obtain⟨b,s,cur,e,k1,_⟩:=hs.box T _ hxT hn;cases hv0 with|bsl _ _ _ _ _ _ hb _ =>
    obtain⟨c,_,_,q1,q2,q3,_⟩:=hb b s k1;exact⟨_,c,q1,q2,q3,λh=>by cases h⟩
  obtain⟨A,c,rfl,q2,q3,q4⟩:=hform;refine (B1K A xs.length c vb vc w w1 v q2 (by unfold maxLen at q3; omega) q4 (λty=>hrun)).mono λe w' ⟨he,hw⟩=>?_;subst he hw;refine⟨v,G',rfl,?_,r2,r3,λx hx=>(r4 x hx).imp _root_.id λh=>o_⟩;simpa using r1
 ·have hin':i<xs.length:=by omega
  have hnT:¬G.nl T:=λhn=>by have:=(hs.nil T _ hxT hn).1; simp only at this; rw[this] at hin'; simp at hin'
  obtain⟨b,sT,cur,e,k1,k2,k3,⟨k4,k5⟩,k6,k7,k8⟩:=hs.box T _ hxT hnT;have hsT:sT=3:=by rw[←k4]; rfl
  subst hsT;obtain⟨c,hv0',hc1,hc2,hc3⟩:∃c,v0 = .slice (some ⟨b,0,none⟩) xs.length c/\xs.length<=c/\c<=maxLen/\cur.size=c*3:=by
   cases hv0 with|bsl _ _ _ _ _ _ hb _ =>
   obtain⟨c,cur',e',q1,q2,q3,q4,q5⟩:=hb b 3 k1;rw[k2] at q4;injection q4 with q4
   injection q4 with q4 _
   subst q4;exact⟨c,v_ q1,q2,q3,v_ q5⟩
  subst hv0';simp only at k5 k6;unfold maxLen at hc2;have h1c:=r8 k6 h1;have hct:cur.toList.length=cur.size:=by simp
  have hvb:vb≠b:=λe=>hTY (hs.inj T Y b 3 3 k1 (e▸y1));have hfin:∀(W:World) (b':Nat) (cc:Nat) (R:List Value) (el':TypeId),(∀k,k<i*3->R[k]?=cur[k]?)->(∀j,j<3->R[i*3+j]?=vl[j]?)->(∀k,i*3<=k->k<xs.length*3->R[k+3]?=cur[k]?)->y9 G w 3 (xs.take i++y::xs.drop i) R.toArray:=λW b' cc R el' q1 q2 q3=>A72 k6 hi hy hyv q1 q2 q3;have hlen':(xs.take i++y::xs.drop i).length=xs.length+1:=by simp; omega
  by_cases hroom:xs.length+1<=c
  ·-- there is room
   have hsa:w.shape? vb=some (eY,curY.size):=(by simp[World.shape?,y2]);have hsb:w.shape? b=some (e,cur.size):=(by simp[World.shape?,k2]);refine (A8Z b xs.length c i vb vc cur e vl w hin' hroom o_ hvb hvll k2 o_ (v_ h1c) hvs h1v eY e curY.size cur.size hsa hsb o_ (by simp[World.frozen?,y2]) (by simp[World.frozen?,y2])).mono λex w' ⟨he,q,hw⟩=>?_;subst he;obtain⟨L1,hL1⟩:∃L1,L1=I5 cur.toList ((i+1)*3) ((cur.toList.take (xs.length*3)).drop (i*3)):=⟨_,rfl⟩;rw[←hL1] at hw;have hcl:((cur.toList.take (xs.length*3)).drop (i*3)).length=(xs.length - i)*3:=(by rw[ye,zz,hct]; omega);have hL1l:L1.length=cur.size:=(by rw[hL1,M5 (by rw[hcl,hct]; omega),hct]);have hRl:(I5 L1 (i*3) vl).length=cur.size:=(by rw[M5 o_,hL1l]);have hcont:y9 G w 3 (xs.take i++y::xs.drop i) (I5 L1 (i*3) vl).toArray:=by
    refine hfin w b c _ e (λk hk=>?_) (λj hj=>?_) (λk hk1 hk2=>?_)
    ·rw[H6 o_,zj o_,hL1,H6 (by rw[hcl,hct]; omega),zj o_,xd]
    ·rw[H6 o_,zf o_,zj o_];congr 1
     omega
    ·rw[H6 o_,zf o_,zf o_,hL1,H6 (by rw[hcl,hct]; omega),zf o_,zj (by rw[hcl]; omega),yh,yd,zj o_,xd];congr 1
     omega
   have hg1:((w.drewN q).setRow b L1.toArray).heap[b]?=some (.cells L1.toArray e (0,0)):=setRow_heap (w.drewN q) b cur _ e (0,0) k2;have hg2:w'.heap[b]?=some (.cells (I5 L1 (i*3) vl).toArray e (0,0)):=(by rw[hw]; exact setRow_heap _ b _ _ e (0,0) hg1);have hother:∀k,k≠b->w'.heap[k]?=w.heap[k]?:=λk hk=>by
    rw[hw];exact (setRow_other _ b k _ hk).trans (setRow_other (w.drewN q) b k _ hk)
   obtain⟨r1,r2⟩:=hs.rowed (id:=id) hxT rfl rfl hnT k1 k2 hu (I5 L1 (i*3) vl).toArray (xs.take i++y::xs.drop i) (by rw[hlen',yu,hRl]; omega) hg2 hother (by rw[hw]; rfl) (by rw[hw]; rfl) (by rw[hw]; rfl) (by rw[hw]; simp[World.drewN]) hcont;refine⟨_,_,rfl,r1,r2,?_,λx hx=>hx.elim (λh=>.inr o_) .inl⟩;refine .bsl id 0 _ _ rfl (.inl rfl) (λb' s' hbm=>?_) λhn'=>(hu (hs.nlu id hn').1).elim;simp only[Gh.rename,C2,zd,zi] at hbm;obtain⟨rfl,rfl⟩:=hbm;exact⟨c,_,e,s_,hroom,by unfold maxLen; omega,hg2,by rw[yu,hRl]; omega⟩
  ·-- a new row
   refine (A9Q b xs.length c i vb vc cur e vl w hin' hc1 o_ o_ hvll k2 o_ (v_ h1c) hvs h1v).mono λex w' ⟨he,q,ROW,hRl,hRt,hw⟩=>?_;subst he;have hG1:=grownCap_ge w (xs.length+1) c 66;have hG2:=grownCap_le_maxLen w (xs.length+1) c 66 (by unfold maxLen; omega);generalize grownCap w (xs.length+1) c 66=g at hRl hG1 hG2 hw;obtain⟨R1,hR1⟩:∃R1,R1=I5 ROW (i*3) vl:=⟨_,rfl⟩;rw[←hR1] at hw;have hcl:((cur.toList.take (xs.length*3)).drop (i*3)).length=(xs.length - i)*3:=(by rw[ye,zz,hct]; omega);have hR1l:R1.length=g*3:=(by rw[hR1,M5 o_,hRl]);obtain⟨R2,hR2⟩:∃R2,R2=I5 R1 ((i+1)*3) ((cur.toList.take (xs.length*3)).drop (i*3)):=⟨_,rfl⟩;rw[←hR2] at hw;have hR2l:R2.length=g*3:=(by rw[hR2,M5 (by rw[hcl]; omega),hR1l]);have hcont:y9 G w 3 (xs.take i++y::xs.drop i) R2.toArray:=by
    refine hfin w b c _ e (λk hk=>?_) (λj hj=>?_) (λk hk1 hk2=>?_)
    ·rw[hR2,H6 (by rw[hcl]; omega),zj o_,hR1,H6 o_,zj o_];have:=congrArg (λl=>l[k]?) hRt;simp only[yd] at this;rw[zj o_,zj o_] at this;rw[this,xd]
    ·rw[hR2,H6 (by rw[hcl]; omega),zj o_,hR1,H6 o_,zf o_,zj o_];congr 1
     omega
    ·rw[hR2,H6 (by rw[hcl]; omega),zf o_,zj (by rw[hcl]; omega),yh,yd,zj o_,xd];congr 1
     omega
   have hN0:((w.drewN q).alloc (.cells ROW.toArray 66)).heap[w.heap.size]?=some (.cells ROW.toArray 66 (0,0)):=heap_alloc_new (w.drewN q) _;have hN1:(((w.drewN q).alloc (.cells ROW.toArray 66)).setRow w.heap.size R1.toArray).heap[w.heap.size]?=some (.cells R1.toArray 66 (0,0)):=setRow_heap _ _ _ _ _ (0,0) hN0;have hN2:w'.heap[w.heap.size]?=some (.cells R2.toArray 66 (0,0)):=(by rw[hw]; exact setRow_heap _ _ _ _ _ (0,0) hN1);have hother:∀k,k<w.heap.size->w'.heap[k]?=w.heap[k]?:=λk hk=>by
    rw[hw];exact ((setRow_other _ _ k _ o_).trans (setRow_other _ _ k _ o_)).trans (Below.heap_alloc (w.drewN q) _ k hk)
   obtain⟨r1,r2⟩:=hs.rehomed (id:=id) hxT hnT k1 hu R2.toArray 66 (xs.take i++y::xs.drop i) (by rw[hlen',yu,hR2l]; omega) hN2 hother (by rw[hw]; rfl) (by rw[hw]; rfl) (by rw[hw]; rfl) (by rw[hw]; simp[World.drewN]) hcont;refine⟨_,_,rfl,r1,r2,?_,λx hx=>hx.elim (λh=>.inr o_) .inl⟩;refine .bsl id 0 _ _ rfl (.inl rfl) (λb' s' hbm=>?_) λhn'=>(hu (hs.nlu id hn').1).elim;simp only[Gh.rename,C2,zd,zi] at hbm;obtain⟨rfl,rfl⟩:=hbm;exact⟨g,_,66,s_,hG1,hG2,hN2,by rw[yu,hR2l]; omega⟩
def B4u(xs:List AV)(T i:Nat)(id:Nat)(hi:i<xs.length)(hbig:xs.length<=1000000)(h1:∀x∈xs,x.cells.all AV.one=true):
  A2 prog 300 [.bsl T 0 xs.length,.int .i64 i,.int .i64 ((i:Int)+1)] [(T,⟨xs,.int .i64 0,false,false⟩)] id (.bsl id 0 (xs.length - 1)) [(T,none),(id,some ⟨xs.take i++xs.drop (i+1),.int .i64 0,false,false⟩)]:=by
 refine⟨⟨_,func300,k_,k_⟩,λC G bx w vs nb hs hv hh hnb hid=>?_⟩;have hxT:=hh (T,⟨xs,.int .i64 0,false,false⟩) s_;simp only at hxT;have hu:¬G.used id:=hid id (zy _) o_;obtain⟨hl,hvv⟩:=hv;obtain⟨v0,v1,v2,rfl⟩:∃v0 v1 v2,vs = #[v0,v1,v2]:=by
  match vs,hl with
  | ⟨[a,b,c]⟩,_=>exact⟨a,b,c,rfl⟩
 have hv0:RV G w (.bsl T 0 xs.length) v0:=hvv 0 _ rfl;have hv1:RV G w (.int .i64 i) v1:=hvv 1 _ rfl;have hv2:RV G w (.int .i64 ((i:Int)+1)) v2:=hvv 2 _ rfl;obtain rfl:=A6P hv1;obtain rfl:=A6P hv2;have hnT:¬G.nl T:=λhn=>by have:=(hs.nil T _ hxT hn).1; simp only at this; rw[this] at hi; simp at hi
 obtain⟨b,sT,cur,e,k1,k2,k3,⟨k4,k5⟩,k6,k7,k8⟩:=hs.box T _ hxT hnT;have hsT:sT=1:=by rw[←k4]; rfl
 subst hsT;obtain⟨c,hv0',hc1,hc2,hc3⟩:∃c,v0 = .slice (some ⟨b,0,none⟩) xs.length c/\xs.length<=c/\c<=maxLen/\cur.size=c*1:=by
  cases hv0 with|bsl _ _ _ _ _ _ hb _ =>
  obtain⟨c,cur',e',q1,q2,q3,q4,q5⟩:=hb b 1 k1;rw[k2] at q4;injection q4 with q4
  injection q4 with q4 _
  subst q4;exact⟨c,v_ q1,q2,q3,v_ q5⟩
 subst hv0';simp only at k5 k6;unfold maxLen at hc2;have h1c:=r8 k6 h1;have hct:cur.toList.length=cur.size:=by simp
 refine (C3H b xs.length c i cur e w hi hc1 o_ k2 o_ (v_ h1c)).mono λex w' ⟨he,q,hw⟩=>?_;subst he;obtain⟨L1,hL1⟩:∃L1,L1=I5 cur.toList (i) ((cur.toList.take (xs.length)).drop (i+1)):=⟨_,rfl⟩;rw[←hL1] at hw;obtain⟨zs,hzs⟩:∃zs,zs=(Builtin.zeroCells (Value.cells (.int .i64 0)) 1).toList:=⟨_,rfl⟩;rw[←hzs] at hw;have hzl:zs.length=1:=by rw[hzs,xg,size_zeroCells]<;>rfl
 have hcl:((cur.toList.take (xs.length)).drop (i+1)).length=(xs.length - (i+1)):=by rw[ye,zz,hct]; omega
 have hL1l:L1.length=cur.size:=by rw[hL1,M5 (by rw[hcl,hct]; omega),hct]
 have hRl:(I5 L1 (i+(xs.length - (i+1))) zs).length=cur.size:=by rw[M5 o_,hL1l]
 have hlen':(xs.take i++xs.drop (i+1)).length=xs.length - 1:=by simp; omega
 have hcont:y9 G w 1 (xs.take i++xs.drop (i+1)) (I5 L1 (i+(xs.length - (i+1))) zs).toArray:=by
  refine A8a k6 hi (λk hk=>?_) (λk hk1 hk2=>?_)
  ·rw[H6 o_,zj o_,hL1,H6 (by rw[hcl,hct]; omega),zj o_,xd]
  ·rw[H6 o_,zj o_,hL1,H6 (by rw[hcl,hct]; omega),zf o_,zj (by rw[hcl]; omega),yh,yd,zj o_,xd];congr 1
   omega
 have hg1:((w.drewN q).setRow b L1.toArray).heap[b]?=some (.cells L1.toArray e (0,0)):=setRow_heap (w.drewN q) b cur _ e (0,0) k2;have hg2:w'.heap[b]?=some (.cells (I5 L1 (i+(xs.length - (i+1))) zs).toArray e (0,0)):=by rw[hw]; exact setRow_heap _ b _ _ e (0,0) hg1
 have hother:∀k,k≠b->w'.heap[k]?=w.heap[k]?:=λk hk=>by
  rw[hw];exact (setRow_other _ b k _ hk).trans (setRow_other (w.drewN q) b k _ hk)
 obtain⟨r1,r2⟩:=hs.rowed (id:=id) hxT rfl rfl hnT k1 k2 hu (I5 L1 (i+(xs.length - (i+1))) zs).toArray (xs.take i++xs.drop (i+1)) (by rw[hlen',yu,hRl]; omega) hg2 hother (by rw[hw]; rfl) (by rw[hw]; rfl) (by rw[hw]; rfl) (by rw[hw]; simp[World.drewN]) hcont;have hM:i+(xs.length - (i+1))=xs.length - 1:=by omega
 rw[hM];refine⟨_,_,rfl,r1,r2,?_,λx hx=>hx.elim (λh=>.inr o_) .inl⟩;refine .bsl id 0 _ _ rfl (.inl rfl) (λb' s' hbm=>?_) λhn'=>(hu (hs.nlu id hn').1).elim;simp only[Gh.rename,C2,zd,zi] at hbm;obtain⟨rfl,rfl⟩:=hbm;exact⟨c,_,e,s_,o_,by unfold maxLen; omega,hg2,by rw[yu,hRl]; omega⟩
def B1M(xs:List AV)(T i:Nat)(id:Nat)(hi:i<xs.length)(hbig:xs.length<=1000000)(h1:∀x∈xs,x.cells.all AV.one=true):
  A2 prog 262 [.bsl T 0 xs.length,.int .i64 i,.int .i64 ((i:Int)+1)] [(T,⟨xs,zT,false,false⟩)] id (.bsl id 0 (xs.length - 1)) [(T,none),(id,some ⟨xs.take i++xs.drop (i+1),zT,false,false⟩)]:=by
 refine⟨⟨_,func262,k_,k_⟩,λC G bx w vs nb hs hv hh hnb hid=>?_⟩;have hxT:=hh (T,⟨xs,zT,false,false⟩) s_;simp only at hxT;have hu:¬G.used id:=hid id (zy _) o_;obtain⟨hl,hvv⟩:=hv;obtain⟨v0,v1,v2,rfl⟩:∃v0 v1 v2,vs = #[v0,v1,v2]:=by
  match vs,hl with
  | ⟨[a,b,c]⟩,_=>exact⟨a,b,c,rfl⟩
 have hv0:RV G w (.bsl T 0 xs.length) v0:=hvv 0 _ rfl;have hv1:RV G w (.int .i64 i) v1:=hvv 1 _ rfl;have hv2:RV G w (.int .i64 ((i:Int)+1)) v2:=hvv 2 _ rfl;obtain rfl:=A6P hv1;obtain rfl:=A6P hv2;have hnT:¬G.nl T:=λhn=>by have:=(hs.nil T _ hxT hn).1; simp only at this; rw[this] at hi; simp at hi
 obtain⟨b,sT,cur,e,k1,k2,k3,⟨k4,k5⟩,k6,k7,k8⟩:=hs.box T _ hxT hnT;have hsT:sT=3:=by rw[←k4]; rfl
 subst hsT;obtain⟨c,hv0',hc1,hc2,hc3⟩:∃c,v0 = .slice (some ⟨b,0,none⟩) xs.length c/\xs.length<=c/\c<=maxLen/\cur.size=c*3:=by
  cases hv0 with|bsl _ _ _ _ _ _ hb _ =>
  obtain⟨c,cur',e',q1,q2,q3,q4,q5⟩:=hb b 3 k1;rw[k2] at q4;injection q4 with q4
  injection q4 with q4 _
  subst q4;exact⟨c,v_ q1,q2,q3,v_ q5⟩
 subst hv0';simp only at k5 k6;unfold maxLen at hc2;have h1c:=r8 k6 h1;have hct:cur.toList.length=cur.size:=by simp
 refine (B80 b xs.length c i cur e w hi hc1 o_ k2 o_ (v_ h1c)).mono λex w' ⟨he,q,hw⟩=>?_;subst he;obtain⟨L1,hL1⟩:∃L1,L1=I5 cur.toList (i*3) ((cur.toList.take (xs.length*3)).drop ((i+1)*3)):=⟨_,rfl⟩;rw[←hL1] at hw;obtain⟨zs,hzs⟩:∃zs,zs=(Builtin.zeroCells (Value.cells (.agg #[.int .i64 0,.int .i64 0,.slice none 0 0])) 1).toList:=⟨_,rfl⟩;rw[←hzs] at hw;have hzl:zs.length=3:=by rw[hzs,xg,size_zeroCells]<;>rfl
 have hcl:((cur.toList.take (xs.length*3)).drop ((i+1)*3)).length=(xs.length - (i+1))*3:=by rw[ye,zz,hct]; omega
 have hL1l:L1.length=cur.size:=by rw[hL1,M5 (by rw[hcl,hct]; omega),hct]
 have hRl:(I5 L1 ((i+(xs.length - (i+1)))*3) zs).length=cur.size:=by rw[M5 o_,hL1l]
 have hlen':(xs.take i++xs.drop (i+1)).length=xs.length - 1:=by simp; omega
 have hcont:y9 G w 3 (xs.take i++xs.drop (i+1)) (I5 L1 ((i+(xs.length - (i+1)))*3) zs).toArray:=by
  refine A8a k6 hi (λk hk=>?_) (λk hk1 hk2=>?_)
  ·rw[H6 o_,zj o_,hL1,H6 (by rw[hcl,hct]; omega),zj o_,xd]
  ·rw[H6 o_,zj o_,hL1,H6 (by rw[hcl,hct]; omega),zf o_,zj (by rw[hcl]; omega),yh,yd,zj o_,xd];congr 1
   omega
 have hg1:((w.drewN q).setRow b L1.toArray).heap[b]?=some (.cells L1.toArray e (0,0)):=setRow_heap (w.drewN q) b cur _ e (0,0) k2;have hg2:w'.heap[b]?=some (.cells (I5 L1 ((i+(xs.length - (i+1)))*3) zs).toArray e (0,0)):=by rw[hw]; exact setRow_heap _ b _ _ e (0,0) hg1
 have hother:∀k,k≠b->w'.heap[k]?=w.heap[k]?:=λk hk=>by
  rw[hw];exact (setRow_other _ b k _ hk).trans (setRow_other (w.drewN q) b k _ hk)
 obtain⟨r1,r2⟩:=hs.rowed (id:=id) hxT rfl rfl hnT k1 k2 hu (I5 L1 ((i+(xs.length - (i+1)))*3) zs).toArray (xs.take i++xs.drop (i+1)) (by rw[hlen',yu,hRl]; omega) hg2 hother (by rw[hw]; rfl) (by rw[hw]; rfl) (by rw[hw]; rfl) (by rw[hw]; simp[World.drewN]) hcont;have hM:i+(xs.length - (i+1))=xs.length - 1:=by omega
 rw[hM];refine⟨_,_,rfl,r1,r2,?_,λx hx=>hx.elim (λh=>.inr o_) .inl⟩;refine .bsl id 0 _ _ rfl (.inl rfl) (λb' s' hbm=>?_) λhn'=>(hu (hs.nlu id hn').1).elim;simp only[Gh.rename,C2,zd,zi] at hbm;obtain⟨rfl,rfl⟩:=hbm;exact⟨c,_,e,s_,o_,by unfold maxLen; omega,hg2,by rw[yu,hRl]; omega⟩
def M2(k:Int)(f:Fd):Bool:=if k=3 then decide (f.kind=1) else if k=4 then decide (f.kind=2) else c7 f.kind
def v8(ty:Ty)(e:Ev)(c:Nat):AV:=if e.field<0 then .tup [.agg [.str [],.int .i64 0,.str []],.nilp,.int .i64 5] else match ty.fields[e.field.toNat]? with
 | none=>.tup [.agg [.str [],.int .i64 0,.str []],.nilp,.int .i64 5]
 | some f=>if M2 e.kind f=true then .tup [T5 f,.ptr c e.field.toNat 0,.int .i64 0] else .tup [T5 f,.nilp,.int .i64 7]
def S2(l:List Ty)(th:AV)(e:Ev)(i:Int):Bx:=⟨[eD l th e i],eD [] .nils ⟨0,0,0,0,0,[]⟩ 0,false,false⟩
def A6Q(l:List Ty)(S:List H0)(e:Ev)(i:Nat)(o:H0)(ty:Ty)(D T:Nat)(id:Nat)(hty:l[e.type.toNat]?=some ty)(h0:0<=e.type)(ho:S[i]?=some o)(hlen:o.t.cells.length=ty.fields.length)(his:o.is.length=o.t.cells.length)(hl8:ty.fields.length<=1000)(d1:D≠T)(d2:D≠o.c)(d3:T≠o.c):
  A2 prog 297 [.ptr D 0 0] [(D,S2 l (.bsl T 0 S.length) e i),(T,P5 S),(o.c,cBn o)] id (v8 ty e o.c) []:=by
 unfold P5 S2 cBn eD;generalize hoc:o.c=c at *;refine w297.b.1 λE hP hR hl hid hB hu=>?_;simp[w297];have hD:=hl (D,_) (za ..);simp only at hD;have D1:=lf hD;have hT:=hl (T,_) (zb _ (za ..));simp only at hT;have T1:=lf hT;have hc:=hl (c,_) (zb _ (zb _ (za ..)));simp only at hc;have c1:=lf hc;have hTn:∀x∈S.map W5,B2 E.G0.used x:=B8 hB (zb _ (za ..));have hCn:∀x∈List.zipWith L9 o.t.cells o.is,B2 E.G0.used x:=B8 hB (zb _ (zb _ (za ..)));try simp[D1,T1,c1,d1,d1.symm,d2,d2.symm,d3,d3.symm,hty,h0,I7]
 have hiS:i<S.length:=(ze.1 ho).1;have htl:e.type<l.length:=by have:=(ze.1 hty).1; omega
 refine⟨htl,?_⟩;have hw:IntKind.i64.wrap ((ty.fields.length:Int) - 1)=(ty.fields.length:Int) - 1:=wrap64 o_;rw[hw];(refine D9 hP rfl (F6 _ _ _ _) (by simp[D1,T1,c1,d1,d1.symm,d2,d2.symm,d3,d3.symm]) (by simp[D1,T1,c1,d1,d1.symm,d2,d2.symm,d3,d3.symm]<;>rfl) ?_; refine A3 4000 ?_; simp[D1,T1,c1,d1,d1.symm,d2,d2.symm,d3,d3.symm]);refine D4 (λh=>?_) (λh=>?_)<;>simp[D1,T1,c1,d1,d1.symm,d2,d2.symm,d3,d3.symm]
 ·have hr:v8 ty e c = .tup [.agg [.str [],.int .i64 0,.str []],.nilp,.int .i64 5]:=by
   unfold v8;split
   ·rfl
   ·rename_i h5;rw[ww (by simp at h; omega)]
  rw[hr] at hR;refine yE hR [] (by simp[D1,T1,c1,d1,d1.symm,d2,d2.symm,d3,d3.symm,A4 hid]) λhrn=>⟨?_,?_,?_,?_,?_,?_⟩<;>(try simp[D1,T1,c1,d1,d1.symm,d2,d2.symm,d3,d3.symm,A4 hid])
  ·exact⟨by exact yO hu hTn,by exact yO hu hCn⟩
 have h:0<=e.field/\e.field<=ty.fields.length - 1:=by simpa using h
 obtain⟨f,hf⟩:∃f,ty.fields[e.field.toNat]?=some f:=⟨_,zc o_⟩;have hr:v8 ty e c=if M2 e.kind f=true then .tup [T5 f,.ptr c e.field.toNat 0,.int .i64 0] else .tup [T5 f,.nilp,.int .i64 7]:=by
  unfold v8;rw[zf o_,hf]
 simp[hf,T5,D1,T1,c1,d1,d1.symm,d2,d2.symm,d3,d3.symm];refine⟨⟨h.1,o_⟩,?_⟩;(refine D9 hP rfl (A8N _ _) (by simp[D1,T1,c1,d1,d1.symm,d2,d2.symm,d3,d3.symm]) (by simp[D1,T1,c1,d1,d1.symm,d2,d2.symm,d3,d3.symm]<;>rfl) ?_; refine A3 4000 ?_; simp[D1,T1,c1,d1,d1.symm,d2,d2.symm,d3,d3.symm]);refine D4 (λh3=>?_) (λh3=>?_)<;>simp[D1,T1,c1,d1,d1.symm,d2,d2.symm,d3,d3.symm]
 ·have k3:e.kind=3:=by simpa using h3
  have kf:M2 e.kind f=decide (f.kind=1):=by unfold M2; rw[zj k3]
  refine D4 (λh5=>?_) (λh5=>?_)<;>simp[D1,T1,c1,d1,d1.symm,d2,d2.symm,d3,d3.symm]
  ·rw[hr,zf (by rw[kf]; simpa using h5)] at hR;refine yE hR [] (by simp[T5,D1,T1,c1,d1,d1.symm,d2,d2.symm,d3,d3.symm,A4 hid]) λhrn=>⟨?_,?_,?_,?_,?_,?_⟩<;>(try simp[T5,D1,T1,c1,d1,d1.symm,d2,d2.symm,d3,d3.symm,A4 hid])
   ·exact⟨by exact yO hu hTn,by exact yO hu hCn⟩
  ·rw[hr,zj (by rw[kf]; simpa using h5)] at hR;simp[ho,W5,D1,T1,c1,d1,d1.symm,d2,d2.symm,d3,d3.symm];refine⟨⟨hiS,rfl⟩,hiS,?_⟩;simp[hoc,hlen,D1,T1,c1,d1,d1.symm,d2,d2.symm,d3,d3.symm];refine⟨⟨h.1,o_,rfl⟩,?_⟩;refine yE hR [] (by simp[T5,D1,T1,c1,d1,d1.symm,d2,d2.symm,d3,d3.symm,A4 hid]) λhrn=>⟨?_,?_,?_,?_,?_,?_⟩<;>(try simp[T5,D1,T1,c1,d1,d1.symm,d2,d2.symm,d3,d3.symm,A4 hid]);exact⟨by exact yO hu hTn,by exact yO hu hCn⟩
 have k3:e.kind≠3:=by simpa using h3
 refine D4 (λh4=>?_) (λh4=>?_)<;>simp[D1,T1,c1,d1,d1.symm,d2,d2.symm,d3,d3.symm]
 ·have k4:e.kind=4:=by simpa using h4
  have kf:M2 e.kind f=decide (f.kind=2):=by unfold M2; rw[zf k3,zj k4]
  refine D4 (λh5=>?_) (λh5=>?_)<;>simp[D1,T1,c1,d1,d1.symm,d2,d2.symm,d3,d3.symm]
  ·rw[hr,zf (by rw[kf]; simpa using h5)] at hR;refine yE hR [] (by simp[T5,D1,T1,c1,d1,d1.symm,d2,d2.symm,d3,d3.symm,A4 hid]) λhrn=>⟨?_,?_,?_,?_,?_,?_⟩<;>(try simp[T5,D1,T1,c1,d1,d1.symm,d2,d2.symm,d3,d3.symm,A4 hid])
   ·exact⟨by exact yO hu hTn,by exact yO hu hCn⟩
  ·rw[hr,zj (by rw[kf]; simpa using h5)] at hR;simp[ho,W5,D1,T1,c1,d1,d1.symm,d2,d2.symm,d3,d3.symm];refine⟨⟨hiS,rfl⟩,hiS,?_⟩;simp[hoc,hlen,D1,T1,c1,d1,d1.symm,d2,d2.symm,d3,d3.symm];refine⟨⟨h.1,o_,rfl⟩,?_⟩;refine yE hR [] (by simp[T5,D1,T1,c1,d1,d1.symm,d2,d2.symm,d3,d3.symm,A4 hid]) λhrn=>⟨?_,?_,?_,?_,?_,?_⟩<;>(try simp[T5,D1,T1,c1,d1,d1.symm,d2,d2.symm,d3,d3.symm,A4 hid]);exact⟨by exact yO hu hTn,by exact yO hu hCn⟩
 have k4:e.kind≠4:=by simpa using h4
 have kf:M2 e.kind f=c7 f.kind:=by unfold M2; rw[zf k3,zf k4]
 refine D4 (λh5=>?_) (λh5=>?_)<;>simp[D1,T1,c1,d1,d1.symm,d2,d2.symm,d3,d3.symm]
 ·rw[hr,zf (by rw[kf]; simpa using h5)] at hR;refine yE hR [] (by simp[T5,D1,T1,c1,d1,d1.symm,d2,d2.symm,d3,d3.symm,A4 hid]) λhrn=>⟨?_,?_,?_,?_,?_,?_⟩<;>(try simp[T5,D1,T1,c1,d1,d1.symm,d2,d2.symm,d3,d3.symm,A4 hid])
  ·exact⟨by exact yO hu hTn,by exact yO hu hCn⟩
 ·rw[hr,zj (by rw[kf]; simpa using h5)] at hR;simp[ho,W5,D1,T1,c1,d1,d1.symm,d2,d2.symm,d3,d3.symm];refine⟨⟨hiS,rfl⟩,hiS,?_⟩;simp[hoc,hlen,D1,T1,c1,d1,d1.symm,d2,d2.symm,d3,d3.symm];refine⟨⟨h.1,o_,rfl⟩,?_⟩;refine yE hR [] (by simp[T5,D1,T1,c1,d1,d1.symm,d2,d2.symm,d3,d3.symm,A4 hid]) λhrn=>⟨?_,?_,?_,?_,?_,?_⟩<;>(try simp[T5,D1,T1,c1,d1,d1.symm,d2,d2.symm,d3,d3.symm,A4 hid]);exact⟨by exact yO hu hTn,by exact yO hu hCn⟩
def B6G(c:Cl)(i:Option Nat)(L:List (Nat×Bx))(hL:∀q∈idB c i,q∈L)(hn:i=none->c.ids=[]):Rd L (N6 i c.ids.length) (.sl (c.ids.map eI)):=by
 cases i with
 | none=>rw[hn rfl]; exact .nils
 | some I =>
  refine .bsl I 0 _ (iBx c) _ (hL _ (za ..)) (by simp[iBx]) s_ (λi x y h1 h2=>?_) λi x y j a b h1 h2 h3 h4=>?_
  ·rw[xe] at h1;have:x=y:=by simpa using (show some x=some y from h1.symm.trans h2)
   rw[this]
  ·rw[xe] at h1;have:x=y:=by simpa using (show some x=some y from h1.symm.trans h2)
   subst this;rw[h3] at h4;injection h4 with h4
   subst h4;exact .same _
def A2j(c:Cl)(i:Option Nat)(x:Int)(id:Nat)(hl:c.ids.length<1000000)(hn:i=none->c.ids=[]):A2 prog 299 [N6 i c.ids.length,.int .i64 x] (idB c i) id (.tup [.int .i64 (K8 c.ids x),.bool (V7 c.ids x)]) []:=by
 refine (B7x c.ids x id hl).read rfl rfl λk a b h1 h2=>?_;match k,h1,h2 with
 | 0,h1,h2 =>
  simp only[yt,zd] at h1 h2;subst h1 h2;exact B6G c i _ (λq hq=>hq) hn
 | 1,h1,h2 =>
  simp only[xw,yt,zd] at h1 h2;subst h1 h2;exact .same _
 | k+2,h1,h2=>simp at h1
def A31:Option Nat->List (Nat×Option Bx)
 | none=>[]
 | some I=>[(I,none)]
def A8c(c:Cl)(i:Option Nat)(y:Int)(Y k:Nat)(id:Nat)(hk:k<=c.ids.length)(hbig:c.ids.length<=1000000)(hn:i=none->c.ids=[])(hY:∀I,i=some I->I≠Y/\(I<id\/id+1024<=I)):
  A2 prog 315 [N6 i c.ids.length,.int .i64 k,.bsl Y 0 1] (idB c i++[(Y,⟨[eI y],.int .i64 0,false,false⟩)]) id (.bsl id 0 (c.ids.length+1)) (A31 i++[(id,some ⟨(c.ids.take k++y::c.ids.drop k).map eI,.int .i64 0,false,false⟩)]):=by
 have hm:(c.ids.take k++y::c.ids.drop k).map eI=(c.ids.map eI).take k++eI y::(c.ids.map eI).drop k:=by simp
 have h1:∀x∈c.ids.map eI,x.cells.all AV.one=true:=λx hx=>by obtain⟨n,_,rfl⟩:=zw.1 hx; rfl
 rw[hm];cases i with
 | some I =>
  obtain⟨q1,q2⟩:=hY I rfl;have:=A8b (c.ids.map eI) (eI y) I Y k id (v_ hk) q1 q2 (v_ hbig) h1 rfl rfl;rw[xj] at this;exact this
 | none =>
  have h0:=hn rfl;rw[h0] at hk ⊢;have hk0:k=0:=by simpa using hk
  subst hk0;refine A2.nil (z:=.int .i64 0) (rd:=[(Y,⟨[eI y],.int .i64 0,false,false⟩)]) (wr:=[(id,some ⟨[eI y],.int .i64 0,false,false⟩)]) (λT hT hid=>?_) (λq hq=>?_) ?_
  ·exact A8b [] (eI y) T Y 0 id (zy _) (hT (Y,_) (za ..)).symm hid s_ (λx hx=>(by cases hx)) rfl rfl
  ·simp only[wn] at hq;subst hq;exact⟨⟨zy _,o_⟩,λb hb x hx=>by injection hb with hb; subst hb; simp only[wn] at hx; subst hx; rfl⟩
  ·exact⟨zy _,o_⟩
def I9{R:Rn}{S:Nat->Prop}{x y:AV}(h:O9 R S x y):∀{l l':List AV} (k:Nat),N8 R S l l'->N8 R S (l.set k x) (l'.set k y)
 | _,_,_,.nil=>.nil
 | _,_,0,.cons _ _ _ _ _ hl=>.cons _ _ _ _ h hl
 | _,_,k+1,.cons _ _ _ _ h0 hl=>.cons _ _ _ _ h0 (I9 h k hl)
def S9(s:H7)(f:Fd)(c:Cl)(n:Int):Int:=if K7 s f n=false then 5 else if V7 c.ids n=true then 6 else if f.kind=3 then 0 else if c.ids.length=6 then 2 else 0
def T9(f:Fd)(c:Cl)(n:Int):List Int:=if f.kind=3 then [n] else c.ids.take (K8 c.ids n)++n::c.ids.drop (K8 c.ids n)
def P4(s:H7)(f:Fd)(c:Cl)(n:Int)(cb k id:Nat)(xs:List AV)(i:Option Nat):List (Nat×Option Bx) :=
 if S9 s f c n≠0 then [] else (if f.kind=3 then [] else A31 i)++[(cb,some ⟨xs.set k (L9 ⟨c.n,c.text,T9 f c n⟩ (some id)),zC,false,false⟩),(id,some ⟨(T9 f c n).map eI,.int .i64 0,false,false⟩)]
def B81(l:List Ty)(S:List H0)(e:Ev)(i:Int)(f:Fd)(cl:Cl)(I:Nat)(xs:List AV)(k D T c:Nat)(id:Nat)(hx:xs[k]?=some (L9 cl (some I)))(hl5:l.length<=1000)(hS8:S.length<=1000)(hc8:cl.ids.length<=1000)(d1:D≠T)(d2:D≠c)(d3:T≠c)(d4:D≠I)(d5:T≠I)(d6:c≠I):
  A2 prog 298 [.ptr D 0 0,T5 f,.ptr c k 0] [(D,S2 l (.bsl T 0 S.length) e i),(T,P5 S),(c,⟨xs,zC,false,false⟩),(I,iBx cl)] id (.int .i64 (S9 (A6 l S) f cl e.n)) (P4 (A6 l S) f cl e.n c k id xs (some I)):=by
 have hB2:=λid=>A2j cl (some I) e.n id o_ s_;have hF:=λid=>S8 l S T (B7 l f.of) e.n id o_;have hIns:=λY k id=>A8c cl (some I) e.n Y k id;have hth:F4 (S.map H0.t) (B7 l f.of) e.n=K7 (A6 l S) f e.n:=rfl;rw[hth] at hF;have hLk:xs=xs.take k++L9 cl (some I)::xs.drop (k+1):=by
  rw[ze] at hx;obtain⟨h1,h2⟩:=hx;rw[←h2,←xm h1,xf]
 unfold P5 S2 eD idB iBx N6 T5 at *;dsimp only[yz,xv] at hIns hB2;refine w298.b.1 λE hP hR hl hid hB hu=>?_;simp[w298];have hD:=hl (D,_) (za ..);simp only at hD;have D1:=lf hD;have hT:=hl (T,_) (zb _ (za ..));simp only at hT;have T1:=lf hT;have hc:=hl (c,_) (zb _ (zb _ (za ..)));simp only at hc;have c1:=lf hc;have hI:=hl (I,_) (zb _ (zb _ (zb _ (za ..))));simp only at hI;have I1:=lf hI;have hTn:∀x∈S.map W5,B2 E.G0.used x:=B8 hB (zb _ (za ..));have hXn:∀x∈xs,B2 E.G0.used x:=B8 hB (zb _ (zb _ (za ..)));try simp[D1,T1,c1,I1,d1,d1.symm,d2,d2.symm,d3,d3.symm,d4,d4.symm,d5,d5.symm,d6,d6.symm,hx,L9,N6]
 have hkx:k<xs.length:=(ze.1 hx).1;refine⟨hkx,?_⟩;(refine yC rfl (hB2 _) ?_; simp[D1,T1,c1,I1,d1,d1.symm,d2,d2.symm,d3,d3.symm,d4,d4.symm,d5,d5.symm,d6,d6.symm]);(refine yC rfl (m8 l f.of _ o_) ?_; simp[D1,T1,c1,I1,d1,d1.symm,d2,d2.symm,d3,d3.symm,d4,d4.symm,d5,d5.symm,d6,d6.symm,A0C]);(refine yC rfl (hF _) ?_; simp[D1,T1,c1,I1,d1,d1.symm,d2,d2.symm,d3,d3.symm,d4,d4.symm,d5,d5.symm,d6,d6.symm]);have hL:∀R S,O9 R S (T5 f) (T5 f):=λR S=>C0A R S f;refine D4 (λh1=>?_) (λh1=>?_)<;>simp[D1,T1,c1,I1,d1,d1.symm,d2,d2.symm,d3,d3.symm,d4,d4.symm,d5,d5.symm,d6,d6.symm]
 ·have hE:S9 (A6 l S) f cl e.n=5:=by unfold S9; rw[zj (v_ h1)]
  have hW:P4 (A6 l S) f cl e.n c k id xs (some I)=[]:=by unfold P4; rw[zj o_]
  rw[hE,hW] at hR;refine yE hR [] (by simp[D1,T1,c1,I1,d1,d1.symm,d2,d2.symm,d3,d3.symm,d4,d4.symm,d5,d5.symm,d6,d6.symm,A4 hid]) λhrn=>⟨?_,?_,?_,?_,?_,?_⟩<;>(try simp[D1,T1,c1,I1,d1,d1.symm,d2,d2.symm,d3,d3.symm,d4,d4.symm,d5,d5.symm,d6,d6.symm,A4 hid]);exact⟨by exact yO hu hTn,by exact yO hu hXn⟩
 have h1:K7 (A6 l S) f e.n=true:=by simpa using h1
 refine D4 (λh2=>?_) (λh2=>?_)<;>simp[D1,T1,c1,I1,d1,d1.symm,d2,d2.symm,d3,d3.symm,d4,d4.symm,d5,d5.symm,d6,d6.symm]
 ·have hE:S9 (A6 l S) f cl e.n=6:=by unfold S9; rw[zf (t_ h1),zj (v_ h2)]
  have hW:P4 (A6 l S) f cl e.n c k id xs (some I)=[]:=by unfold P4; rw[zj o_]
  rw[hE,hW] at hR;refine yE hR [] (by simp[D1,T1,c1,I1,d1,d1.symm,d2,d2.symm,d3,d3.symm,d4,d4.symm,d5,d5.symm,d6,d6.symm,A4 hid]) λhrn=>⟨?_,?_,?_,?_,?_,?_⟩<;>(try simp[D1,T1,c1,I1,d1,d1.symm,d2,d2.symm,d3,d3.symm,d4,d4.symm,d5,d5.symm,d6,d6.symm,A4 hid]);exact⟨by exact yO hu hTn,by exact yO hu hXn⟩
 have h2:V7 cl.ids e.n=false:=by simpa using h2
 refine D4 (λh3=>?_) (λh3=>?_)<;>simp[D1,T1,c1,I1,d1,d1.symm,d2,d2.symm,d3,d3.symm,d4,d4.symm,d5,d5.symm,d6,d6.symm]
 ·have h3:f.kind=3:=by simpa using h3
  have hE:S9 (A6 l S) f cl e.n=0:=by unfold S9; rw[zf (t_ h1),zf (t_ h2),zj h3]
  have hW:P4 (A6 l S) f cl e.n c k id xs (some I)=[(c,some ⟨xs.set k (L9 ⟨cl.n,cl.text,[e.n]⟩ (some id)),zC,false,false⟩),(id,some ⟨[eI e.n],.int .i64 0,false,false⟩)]:=by unfold P4 T9; rw[zf o_,zj h3]; simp[h3]
  rw[hE,hW] at hR;refine⟨hkx,⟨hkx,by simp[hx,L9]⟩,?_⟩;simp[hx,L9,N6,eI];refine yE hR [(id,E.n0+56320)] (by simp[hx,L9,N6,eI,D1,T1,c1,I1,d1,d1.symm,d2,d2.symm,d3,d3.symm,d4,d4.symm,d5,d5.symm,d6,d6.symm,A4 hid]) λhrn=>⟨?_,?_,?_,?_,?_,?_⟩<;>(try simp[hx,L9,N6,eI,D1,T1,c1,I1,d1,d1.symm,d2,d2.symm,d3,d3.symm,d4,d4.symm,d5,d5.symm,d6,d6.symm,A4 hid]);exact⟨by exact yO hu hTn,I9 (by simp[A4 hid]) k (by exact yO hu hXn)⟩
 have h3:f.kind≠3:=by simpa using h3
 have hxk:xs[k]'hkx=L9 cl (some I):=by rw[zc hkx] at hx; injection hx
 simp[hxk,hx,hkx,L9,N6,D1,T1,c1,I1,d1,d1.symm,d2,d2.symm,d3,d3.symm,d4,d4.symm,d5,d5.symm,d6,d6.symm];refine D4 (λh4=>?_) (λh4=>?_)<;>simp[D1,T1,c1,I1,d1,d1.symm,d2,d2.symm,d3,d3.symm,d4,d4.symm,d5,d5.symm,d6,d6.symm]
 ·have h4:cl.ids.length=6:=by simp at h4; omega
  have hE:S9 (A6 l S) f cl e.n=2:=by unfold S9; rw[zf (t_ h1),zf (t_ h2),zf h3,zj h4]
  have hW:P4 (A6 l S) f cl e.n c k id xs (some I)=[]:=by unfold P4; rw[zj o_]
  rw[hE,hW] at hR;refine yE hR [] (by simp[D1,T1,c1,I1,d1,d1.symm,d2,d2.symm,d3,d3.symm,d4,d4.symm,d5,d5.symm,d6,d6.symm,A4 hid]) λhrn=>⟨?_,?_,?_,?_,?_,?_⟩<;>(try simp[D1,T1,c1,I1,d1,d1.symm,d2,d2.symm,d3,d3.symm,d4,d4.symm,d5,d5.symm,d6,d6.symm,A4 hid]);exact⟨by exact yO hu hTn,by exact yO hu hXn⟩
 have h4:cl.ids.length≠6:=by simp at h4; omega
 simp[hxk,hx,hkx,L9,N6,D1,T1,c1,I1,d1,d1.symm,d2,d2.symm,d3,d3.symm,d4,d4.symm,d5,d5.symm,d6,d6.symm];have hle:K8 cl.ids e.n<=cl.ids.length:=(B69 _ _ _ (sd _)).2;have hE:S9 (A6 l S) f cl e.n=0:=by unfold S9; rw[zf (t_ h1),zf (t_ h2),zf h3,zf h4]
 have hW:P4 (A6 l S) f cl e.n c k id xs (some I)=[(I,none),(c,some ⟨xs.set k (.agg [.int .i64 cl.n,.str cl.text,.bsl id 0 (cl.ids.length+1)]),zC,false,false⟩),(id,some ⟨(cl.ids.take (K8 cl.ids e.n)++e.n::cl.ids.drop (K8 cl.ids e.n)).map eI,.int .i64 0,false,false⟩)]:=by
  have hll:(cl.ids.take (K8 cl.ids e.n)++e.n::cl.ids.drop (K8 cl.ids e.n)).length=cl.ids.length+1:=by simp; omega
  unfold P4 T9; rw[zf o_,zf h3]; simp only[h3,if_false,A31,L9,N6,hll]; rfl
 rw[hE,hW] at hR;have hIc:=λ(id:Nat) (hid:I<id\/id+1024<=I)=>hIns (E.n0+68608) (K8 cl.ids e.n) id hle o_ s_ (by intro I' h; cases h; exact⟨o_,hid⟩);have hyp:F1 ((cl.ids.take (K8 cl.ids e.n)++e.n::cl.ids.drop (K8 cl.ids e.n)).map eI)=true:=A1C _;generalize (cl.ids.take (K8 cl.ids e.n)++e.n::cl.ids.drop (K8 cl.ids e.n)).map eI=ys at *;dsimp only[A31,yz,xv] at hIc;simp only[eI] at hIc;(refine yC rfl (hIc _ o_) ?_; simp[D1,T1,c1,I1,d1,d1.symm,d2,d2.symm,d3,d3.symm,d4,d4.symm,d5,d5.symm,d6,d6.symm]);refine⟨hkx,?_⟩;simp[hxk,hx,hkx,L9,D1,T1,c1,I1,d1,d1.symm,d2,d2.symm,d3,d3.symm,d4,d4.symm,d5,d5.symm,d6,d6.symm];refine yE hR [(id,E.n0+69632)] (by simp[hx,L9,eI,D1,T1,c1,I1,d1,d1.symm,d2,d2.symm,d3,d3.symm,d4,d4.symm,d5,d5.symm,d6,d6.symm,A4 hid]) λhrn=>⟨?_,?_,?_,?_,?_,?_⟩<;>(try simp[hx,L9,eI,D1,T1,c1,I1,d1,d1.symm,d2,d2.symm,d3,d3.symm,d4,d4.symm,d5,d5.symm,d6,d6.symm,A4 hid]);exact⟨by exact yO hu hTn,I9 (by simp[A4 hid]) k (by exact yO hu hXn),B4 rfl hyp⟩
def B82(l:List Ty)(S:List H0)(e:Ev)(i:Int)(f:Fd)(cl:Cl)(xs:List AV)(k D T c:Nat)(id:Nat)(hx:xs[k]?=some (L9 cl none))(hn:cl.ids=[])(hl5:l.length<=1000)(hS8:S.length<=1000)(hc8:cl.ids.length<=1000)(d1:D≠T)(d2:D≠c)(d3:T≠c):
  A2 prog 298 [.ptr D 0 0,T5 f,.ptr c k 0] [(D,S2 l (.bsl T 0 S.length) e i),(T,P5 S),(c,⟨xs,zC,false,false⟩)] id (.int .i64 (S9 (A6 l S) f cl e.n)) (P4 (A6 l S) f cl e.n c k id xs none):=by
 have hB2:=λid=>A2j cl none e.n id o_ (λ_=>hn);have hF:=λid=>S8 l S T (B7 l f.of) e.n id o_;have hIns:=λY k id=>A8c cl none e.n Y k id;have hth:F4 (S.map H0.t) (B7 l f.of) e.n=K7 (A6 l S) f e.n:=rfl;rw[hth] at hF;have hLk:xs=xs.take k++L9 cl none::xs.drop (k+1):=by
  rw[ze] at hx;obtain⟨h1,h2⟩:=hx;rw[←h2,←xm h1,xf]
 unfold P5 S2 eD idB iBx N6 T5 at *;dsimp only[yz,xv] at hIns hB2;refine w298.b.1 λE hP hR hl hid hB hu=>?_;simp[w298];have hD:=hl (D,_) (za ..);simp only at hD;have D1:=lf hD;have hT:=hl (T,_) (zb _ (za ..));simp only at hT;have T1:=lf hT;have hc:=hl (c,_) (zb _ (zb _ (za ..)));simp only at hc;have c1:=lf hc;have hTn:∀x∈S.map W5,B2 E.G0.used x:=B8 hB (zb _ (za ..));have hXn:∀x∈xs,B2 E.G0.used x:=B8 hB (zb _ (zb _ (za ..)));try simp[D1,T1,c1,d1,d1.symm,d2,d2.symm,d3,d3.symm,hx,L9,N6]
 have hkx:k<xs.length:=(ze.1 hx).1;refine⟨hkx,?_⟩;(refine yC rfl (hB2 _) ?_; simp[D1,T1,c1,d1,d1.symm,d2,d2.symm,d3,d3.symm]);(refine yC rfl (m8 l f.of _ o_) ?_; simp[D1,T1,c1,d1,d1.symm,d2,d2.symm,d3,d3.symm,A0C]);(refine yC rfl (hF _) ?_; simp[D1,T1,c1,d1,d1.symm,d2,d2.symm,d3,d3.symm]);have hL:∀R S,O9 R S (T5 f) (T5 f):=λR S=>C0A R S f;refine D4 (λh1=>?_) (λh1=>?_)<;>simp[D1,T1,c1,d1,d1.symm,d2,d2.symm,d3,d3.symm]
 ·have hE:S9 (A6 l S) f cl e.n=5:=by unfold S9; rw[zj (v_ h1)]
  have hW:P4 (A6 l S) f cl e.n c k id xs none=[]:=by unfold P4; rw[zj o_]
  rw[hE,hW] at hR;refine yE hR [] (by simp[D1,T1,c1,d1,d1.symm,d2,d2.symm,d3,d3.symm,A4 hid]) λhrn=>⟨?_,?_,?_,?_,?_,?_⟩<;>(try simp[D1,T1,c1,d1,d1.symm,d2,d2.symm,d3,d3.symm,A4 hid]);exact⟨by exact yO hu hTn,by exact yO hu hXn⟩
 have h1:K7 (A6 l S) f e.n=true:=by simpa using h1
 refine D4 (λh2=>?_) (λh2=>?_)<;>simp[D1,T1,c1,d1,d1.symm,d2,d2.symm,d3,d3.symm]
 ·have hE:S9 (A6 l S) f cl e.n=6:=by unfold S9; rw[zf (t_ h1),zj (v_ h2)]
  have hW:P4 (A6 l S) f cl e.n c k id xs none=[]:=by unfold P4; rw[zj o_]
  rw[hE,hW] at hR;refine yE hR [] (by simp[D1,T1,c1,d1,d1.symm,d2,d2.symm,d3,d3.symm,A4 hid]) λhrn=>⟨?_,?_,?_,?_,?_,?_⟩<;>(try simp[D1,T1,c1,d1,d1.symm,d2,d2.symm,d3,d3.symm,A4 hid]);exact⟨by exact yO hu hTn,by exact yO hu hXn⟩
 have h2:V7 cl.ids e.n=false:=by simpa using h2
 refine D4 (λh3=>?_) (λh3=>?_)<;>simp[D1,T1,c1,d1,d1.symm,d2,d2.symm,d3,d3.symm]
 ·have h3:f.kind=3:=by simpa using h3
  have hE:S9 (A6 l S) f cl e.n=0:=by unfold S9; rw[zf (t_ h1),zf (t_ h2),zj h3]
  have hW:P4 (A6 l S) f cl e.n c k id xs none=[(c,some ⟨xs.set k (L9 ⟨cl.n,cl.text,[e.n]⟩ (some id)),zC,false,false⟩),(id,some ⟨[eI e.n],.int .i64 0,false,false⟩)]:=by unfold P4 T9; rw[zf o_,zj h3]; simp[h3]
  rw[hE,hW] at hR;refine⟨hkx,⟨hkx,by simp[hx,L9]⟩,?_⟩;simp[hx,L9,N6,eI];refine yE hR [(id,E.n0+56320)] (by simp[hx,L9,N6,eI,D1,T1,c1,d1,d1.symm,d2,d2.symm,d3,d3.symm,A4 hid]) λhrn=>⟨?_,?_,?_,?_,?_,?_⟩<;>(try simp[hx,L9,N6,eI,D1,T1,c1,d1,d1.symm,d2,d2.symm,d3,d3.symm,A4 hid]);exact⟨by exact yO hu hTn,I9 (by simp[A4 hid]) k (by exact yO hu hXn)⟩
 have h3:f.kind≠3:=by simpa using h3
 have hxk:xs[k]'hkx=L9 cl none:=by rw[zc hkx] at hx; injection hx
 simp[hxk,hx,hkx,L9,N6,D1,T1,c1,d1,d1.symm,d2,d2.symm,d3,d3.symm];have h4:cl.ids.length≠6:=by rw[hn]; simp
 have hle:K8 cl.ids e.n<=cl.ids.length:=(B69 _ _ _ (sd _)).2;have hE:S9 (A6 l S) f cl e.n=0:=by unfold S9; rw[zf (t_ h1),zf (t_ h2),zf h3,zf h4]
 have hW:P4 (A6 l S) f cl e.n c k id xs none=[(c,some ⟨xs.set k (.agg [.int .i64 cl.n,.str cl.text,.bsl id 0 (cl.ids.length+1)]),zC,false,false⟩),(id,some ⟨(cl.ids.take (K8 cl.ids e.n)++e.n::cl.ids.drop (K8 cl.ids e.n)).map eI,.int .i64 0,false,false⟩)]:=by
  have hll:(cl.ids.take (K8 cl.ids e.n)++e.n::cl.ids.drop (K8 cl.ids e.n)).length=cl.ids.length+1:=by simp; omega
  unfold P4 T9; rw[zf o_,zf h3]; simp only[h3,if_false,A31,L9,N6,hll]; rfl
 rw[hE,hW] at hR;have hIc:=λ(id:Nat)=>hIns (E.n0+68608) (K8 cl.ids e.n) id hle o_ (λ_=>hn) (by intro I' h; cases h);have hyp:F1 ((cl.ids.take (K8 cl.ids e.n)++e.n::cl.ids.drop (K8 cl.ids e.n)).map eI)=true:=A1C _;generalize (cl.ids.take (K8 cl.ids e.n)++e.n::cl.ids.drop (K8 cl.ids e.n)).map eI=ys at *;dsimp only[A31,yz,xv] at hIc;simp only[eI] at hIc;(refine yC rfl (hIc _) ?_; simp[D1,T1,c1,d1,d1.symm,d2,d2.symm,d3,d3.symm]);refine⟨hkx,?_⟩;simp[hxk,hx,hkx,L9,D1,T1,c1,d1,d1.symm,d2,d2.symm,d3,d3.symm];refine yE hR [(id,E.n0+69632)] (by simp[hx,L9,eI,D1,T1,c1,d1,d1.symm,d2,d2.symm,d3,d3.symm,A4 hid]) λhrn=>⟨?_,?_,?_,?_,?_,?_⟩<;>(try simp[hx,L9,eI,D1,T1,c1,d1,d1.symm,d2,d2.symm,d3,d3.symm,A4 hid]);exact⟨by exact yO hu hTn,I9 (by simp[A4 hid]) k (by exact yO hu hXn),B4 rfl hyp⟩
def X6(s:H7)(f:Fd)(c:Cl)(e:Ev):Int :=
 if e.kind=3 then (if -999999999<=e.n/\e.n<=999999999 then 0 else 3)
 else if e.kind=4 then (if 40<e.text.length then 2 else 0)
 else if e.kind=5 then S9 s f c e.n
 else if V7 c.ids e.n=true then 0 else 5
def B3J(c:Cl)(n:Int):List Int:=c.ids.take (K8 c.ids n)++c.ids.drop (K8 c.ids n+1)
def z7(f:Fd)(c:Cl)(e:Ev):Cl :=
 if e.kind=3 then ⟨e.n,c.text,c.ids⟩ else if e.kind=4 then ⟨c.n,e.text,c.ids⟩ else if e.kind=5 then ⟨c.n,c.text,T9 f c e.n⟩ else ⟨c.n,c.text,B3J c e.n⟩
def R5(s:H7)(f:Fd)(c:Cl)(e:Ev)(cb k id:Nat)(xs:List AV)(i:Option Nat):List (Nat×Option Bx) :=
 if X6 s f c e≠0 then [] else if e.kind=3\/e.kind=4 then [(cb,some ⟨xs.set k (L9 (z7 f c e) i),zC,false,false⟩)]
 else (if e.kind=5/\f.kind=3 then [] else A31 i)++[(cb,some ⟨xs.set k (L9 (z7 f c e) (some id)),zC,false,false⟩),(id,some ⟨(z7 f c e).ids.map eI,.int .i64 0,false,false⟩)]
def A8d(l:List Ty)(S:List H0)(e:Ev)(i:Nat)(o:H0)(ty:Ty)(D T:Nat)(id:Nat)(f:AV)(w:Int)(hw:w≠0)(hf:∃a b c,f = .agg [.str a,.int .i64 b,.str c])(hr:v8 ty e o.c = .tup [f,.nilp,.int .i64 w])(hty:l[e.type.toNat]?=some ty)(h0:0<=e.type)(ho:S[i]?=some o)(hlen:o.t.cells.length=ty.fields.length)(his:o.is.length=o.t.cells.length)(hl8:ty.fields.length<=1000)(d1:D≠T)(d2:D≠o.c)(d3:T≠o.c):
  A2 prog 263 [.ptr D 0 0] [(D,S2 l (.bsl T 0 S.length) e i),(T,P5 S),(o.c,cBn o)] id (.int .i64 w) []:=by
 have hX:=λid=>A6Q l S e i o ty D T id hty h0 ho hlen his hl8 d1 d2 d3;rw[hr] at hX;obtain⟨fa,fb,fc,rfl⟩:=hf;unfold P5 S2 cBn eD at *;generalize hoc:o.c=c at *;refine w263.b.1 λE hP hR hl hid hB hu=>?_;simp[w263];have hD:=hl (D,_) (za ..);simp only at hD;have D1:=lf hD;have hT:=hl (T,_) (zb _ (za ..));simp only at hT;have T1:=lf hT;have hc:=hl (c,_) (zb _ (zb _ (za ..)));simp only at hc;have c1:=lf hc;have hTn:∀x∈S.map W5,B2 E.G0.used x:=B8 hB (zb _ (za ..));have hCn:∀x∈List.zipWith L9 o.t.cells o.is,B2 E.G0.used x:=B8 hB (zb _ (zb _ (za ..)));(refine yC rfl (hX _) ?_; simp[D1,T1,c1,d1,d1.symm,d2,d2.symm,d3,d3.symm]);refine D4 (λh=>?_) (λh=>?_)
 ·simp[D1,T1,c1,d1,d1.symm,d2,d2.symm,d3,d3.symm];refine yE hR [] (by simp[D1,T1,c1,d1,d1.symm,d2,d2.symm,d3,d3.symm,A4 hid]) λhrn=>⟨?_,?_,?_,?_,?_,?_⟩<;>(try simp[D1,T1,c1,d1,d1.symm,d2,d2.symm,d3,d3.symm,A4 hid]);exact⟨by exact yO hu hTn,by exact yO hu hCn⟩
 ·exact (hw (v_ h)).elim
def A7Z{cs:List Cl}{is:List (Option Nat)}{k:Nat}{c:Cl}{i:Option Nat}(h1:cs[k]?=some c)(h2:is[k]?=some i):(List.zipWith L9 cs is)[k]?=some (L9 c i):=by
 rw[qf,h1,h2]
def B4v(c:Cl)(I k:Nat)(id:Nat)(hk:k<c.ids.length)(hbig:c.ids.length<=1000000):
  A2 prog 300 [.bsl I 0 c.ids.length,.int .i64 k,.int .i64 ((k:Int)+1)] [(I,iBx c)] id (.bsl id 0 (c.ids.length - 1)) [(I,none),(id,some ⟨(c.ids.take k++c.ids.drop (k+1)).map eI,.int .i64 0,false,false⟩)]:=by
 have h1:∀x∈c.ids.map eI,x.cells.all AV.one=true:=λx hx=>by obtain⟨n,_,rfl⟩:=zw.1 hx; rfl
 have:=B4u (c.ids.map eI) I k id (v_ hk) (v_ hbig) h1;rw[xj] at this;have hm:(c.ids.take k++c.ids.drop (k+1)).map eI=(c.ids.map eI).take k++(c.ids.map eI).drop (k+1):=by simp
 rw[hm];exact this
def A1k(l:List Ty)(S:List H0)(e:Ev)(i:Nat)(o:H0)(ty:Ty)(f:Fd)(cl:Cl)(I D T:Nat)(id:Nat)(hk1:3<=e.kind)(hk2:e.kind<=6)(hf0:0<=e.field)(hf:ty.fields[e.field.toNat]?=some f)(hkf:M2 e.kind f=true)(hcl:o.t.cells[e.field.toNat]?=some cl)(hio:o.is[e.field.toNat]?=some (some I))
  (hty:l[e.type.toNat]?=some ty) (h0:0<=e.type) (ho:S[i]?=some o) (hlen:o.t.cells.length=ty.fields.length) (his:o.is.length=o.t.cells.length) (hl5:l.length<=1000) (hl8:ty.fields.length<=1000) (hS8:S.length<=1000) (hc8:cl.ids.length<=1000) (d1:D≠T) (d2:D≠o.c) (d3:T≠o.c) (d4:D≠I) (d5:T≠I) (d6:o.c≠I) :
  A2 prog 263 [.ptr D 0 0] [(D,S2 l (.bsl T 0 S.length) e i),(T,P5 S),(o.c,cBn o),(I,iBx cl)] id (.int .i64 (X6 (A6 l S) f cl e)) (R5 (A6 l S) f cl e o.c e.field.toNat id (List.zipWith L9 o.t.cells o.is) (some I)):=by
 have hX:=λid=>A6Q l S e i o ty D T id hty h0 ho hlen his hl8 d1 d2 d3;have hr:v8 ty e o.c = .tup [T5 f,.ptr o.c e.field.toNat 0,.int .i64 0]:=by unfold v8; rw[zf o_,hf]; simp only; rw[zj hkf]
 rw[hr] at hX;have hx:=A7Z hcl hio;have hLk:=λid=>B81 l S e i f cl I (List.zipWith L9 o.t.cells o.is) e.field.toNat D T o.c id hx hl5 hS8 hc8 d1 d2 d3 d4 d5 d6;have hB2:=λid=>A2j cl (some I) e.n id o_ s_;have hDl:=λid hk=>B4v cl I (K8 cl.ids e.n) id hk o_;have hkx:=(ze.1 hx).1;have hxk:(List.zipWith L9 o.t.cells o.is)[e.field.toNat]'hkx=L9 cl (some I):=by rw[zc hkx] at hx; injection hx
 unfold P5 S2 cBn eD idB iBx N6 T5 at *;dsimp only at hB2;generalize hoc:o.c=c at *;generalize hzz:List.zipWith L9 o.t.cells o.is=xs at *;generalize hkk:e.field.toNat=k at *;refine w263.b.1 λE hP hR hl hid hB hu=>?_;simp[w263];have hD:=hl (D,_) (za ..);simp only at hD;have D1:=lf hD;have hT:=hl (T,_) (zb _ (za ..));simp only at hT;have T1:=lf hT;have hc:=hl (c,_) (zb _ (zb _ (za ..)));simp only at hc;have c1:=lf hc;have hI:=hl (I,_) (zb _ (zb _ (zb _ (za ..))));simp only at hI;have I1:=lf hI;have hTn:∀x∈S.map W5,B2 E.G0.used x:=B8 hB (zb _ (za ..));have hXn:∀x∈xs,B2 E.G0.used x:=B8 hB (zb _ (zb _ (za ..)));(refine yC rfl (hX _) ?_; simp[D1,T1,c1,I1,d1,d1.symm,d2,d2.symm,d3,d3.symm,d4,d4.symm,d5,d5.symm,d6,d6.symm]);refine D4 (λh3=>?_) (λh3=>?_)<;>simp[D1,T1,c1,I1,d1,d1.symm,d2,d2.symm,d3,d3.symm,d4,d4.symm,d5,d5.symm,d6,d6.symm]
 ·have k3:e.kind=3:=by simpa using h3
  (refine D9 hP rfl (Q8 _ _) (by simp[D1,T1,c1,I1,d1,d1.symm,d2,d2.symm,d3,d3.symm,d4,d4.symm,d5,d5.symm,d6,d6.symm]) (by simp[D1,T1,c1,I1,d1,d1.symm,d2,d2.symm,d3,d3.symm,d4,d4.symm,d5,d5.symm,d6,d6.symm]<;>rfl) ?_; refine A3 4000 ?_; simp[D1,T1,c1,I1,d1,d1.symm,d2,d2.symm,d3,d3.symm,d4,d4.symm,d5,d5.symm,d6,d6.symm]);refine D4 (λh4=>?_) (λh4=>?_)<;>simp[D1,T1,c1,I1,d1,d1.symm,d2,d2.symm,d3,d3.symm,d4,d4.symm,d5,d5.symm,d6,d6.symm]
  ·have hE:X6 (A6 l S) f cl e=3:=(by unfold X6; rw[zj k3,zf (by simp at h4; omega)]);have hW:R5 (A6 l S) f cl e c k id xs (some I)=[]:=(by unfold R5; rw[zj o_]);rw[hE,hW] at hR;refine yE hR [] (by simp[D1,T1,c1,I1,d1,d1.symm,d2,d2.symm,d3,d3.symm,d4,d4.symm,d5,d5.symm,d6,d6.symm,A4 hid]) λhrn=>⟨?_,?_,?_,?_,?_,?_⟩<;>(try simp[D1,T1,c1,I1,d1,d1.symm,d2,d2.symm,d3,d3.symm,d4,d4.symm,d5,d5.symm,d6,d6.symm,A4 hid]);exact⟨by exact yO hu hTn,by exact yO hu hXn⟩
  ·have hE:X6 (A6 l S) f cl e=0:=(by unfold X6; rw[zj k3,zj (by simp at h4; omega)]);have hW:R5 (A6 l S) f cl e c k id xs (some I)=[(c,some ⟨xs.set k (.agg [.int .i64 e.n,.str cl.text,.bsl I 0 cl.ids.length]),zC,false,false⟩)]:=(by unfold R5; rw[zf o_,zj (.inl k3)]; simp[z7,k3,L9,N6]);rw[hE,hW] at hR;refine⟨hkx,⟨hkx,by simp[hx,L9]⟩,?_⟩;simp[hx,L9,N6];refine yE hR [] (by simp[hx,L9,N6,D1,T1,c1,I1,d1,d1.symm,d2,d2.symm,d3,d3.symm,d4,d4.symm,d5,d5.symm,d6,d6.symm,A4 hid]) λhrn=>⟨?_,?_,?_,?_,?_,?_⟩<;>(try simp[hx,L9,N6,D1,T1,c1,I1,d1,d1.symm,d2,d2.symm,d3,d3.symm,d4,d4.symm,d5,d5.symm,d6,d6.symm,A4 hid]);exact⟨by exact yO hu hTn,I9 (t_ I1) k (by exact yO hu hXn)⟩
 have k3:e.kind≠3:=by simpa using h3
 refine D4 (λh4=>?_) (λh4=>?_)<;>simp[D1,T1,c1,I1,d1,d1.symm,d2,d2.symm,d3,d3.symm,d4,d4.symm,d5,d5.symm,d6,d6.symm]
 ·have k4:e.kind=4:=by simpa using h4
  refine D4 (λh5=>?_) (λh5=>?_)<;>simp[D1,T1,c1,I1,d1,d1.symm,d2,d2.symm,d3,d3.symm,d4,d4.symm,d5,d5.symm,d6,d6.symm]
  ·have hE:X6 (A6 l S) f cl e=2:=(by unfold X6; rw[zf k3,zj k4,zj (by simp at h5; omega)]);have hW:R5 (A6 l S) f cl e c k id xs (some I)=[]:=(by unfold R5; rw[zj o_]);rw[hE,hW] at hR;refine yE hR [] (by simp[D1,T1,c1,I1,d1,d1.symm,d2,d2.symm,d3,d3.symm,d4,d4.symm,d5,d5.symm,d6,d6.symm,A4 hid]) λhrn=>⟨?_,?_,?_,?_,?_,?_⟩<;>(try simp[D1,T1,c1,I1,d1,d1.symm,d2,d2.symm,d3,d3.symm,d4,d4.symm,d5,d5.symm,d6,d6.symm,A4 hid]);exact⟨by exact yO hu hTn,by exact yO hu hXn⟩
  ·have hE:X6 (A6 l S) f cl e=0:=(by unfold X6; rw[zf k3,zj k4,zf (by simp at h5; omega)]);have hW:R5 (A6 l S) f cl e c k id xs (some I)=[(c,some ⟨xs.set k (.agg [.int .i64 cl.n,.str e.text,.bsl I 0 cl.ids.length]),zC,false,false⟩)]:=(by unfold R5; rw[zf o_,zj (.inr k4)]; simp[z7,k4,L9,N6]);rw[hE,hW] at hR;refine⟨hkx,⟨hkx,by simp[hx,L9]⟩,?_⟩;simp[hx,L9,N6];refine yE hR [] (by simp[hx,L9,N6,D1,T1,c1,I1,d1,d1.symm,d2,d2.symm,d3,d3.symm,d4,d4.symm,d5,d5.symm,d6,d6.symm,A4 hid]) λhrn=>⟨?_,?_,?_,?_,?_,?_⟩<;>(try simp[hx,L9,N6,D1,T1,c1,I1,d1,d1.symm,d2,d2.symm,d3,d3.symm,d4,d4.symm,d5,d5.symm,d6,d6.symm,A4 hid]);exact⟨by exact yO hu hTn,I9 (t_ I1) k (by exact yO hu hXn)⟩
 have k4:e.kind≠4:=by simpa using h4
 refine D4 (λh5=>?_) (λh5=>?_)<;>simp[D1,T1,c1,I1,d1,d1.symm,d2,d2.symm,d3,d3.symm,d4,d4.symm,d5,d5.symm,d6,d6.symm]
 ·have k5:e.kind=5:=by simpa using h5
  have hE:X6 (A6 l S) f cl e=S9 (A6 l S) f cl e.n:=by unfold X6; rw[zf k3,zf k4,zj k5]
  have hC:z7 f cl e=⟨cl.n,cl.text,T9 f cl e.n⟩:=by unfold z7; rw[zf k3,zf k4,zj k5]
  have k34:¬(e.kind=3\/e.kind=4):=by omega
  rw[hE] at hR;by_cases q1:S9 (A6 l S) f cl e.n=0
  ·by_cases q2:f.kind=3
   ·have hLw:∀id,P4 (A6 l S) f cl e.n c k id xs (some I)=[(c,some ⟨xs.set k (.agg [.int .i64 cl.n,.str cl.text,.bsl id 0 (T9 f cl e.n).length]),zC,false,false⟩),(id,some ⟨(T9 f cl e.n).map eI,.int .i64 0,false,false⟩)]:=λid=>by unfold P4; rw[zf o_,zj q2]; rfl
    have hW:R5 (A6 l S) f cl e c k id xs (some I)=[(c,some ⟨xs.set k (.agg [.int .i64 cl.n,.str cl.text,.bsl id 0 (T9 f cl e.n).length]),zC,false,false⟩),(id,some ⟨(T9 f cl e.n).map eI,.int .i64 0,false,false⟩)]:=(by unfold R5; rw[zf o_,zf k34,zj ⟨k5,q2⟩,hC]; rfl);simp only[hLw] at hLk;rw[hW] at hR;(refine yC rfl (hLk _) ?_; simp[D1,T1,c1,I1,d1,d1.symm,d2,d2.symm,d3,d3.symm,d4,d4.symm,d5,d5.symm,d6,d6.symm]);refine yE hR [(id,E.n0+27648)] (by simp[hx,L9,N6,D1,T1,c1,I1,d1,d1.symm,d2,d2.symm,d3,d3.symm,d4,d4.symm,d5,d5.symm,d6,d6.symm,A4 hid]) λhrn=>⟨?_,?_,?_,?_,?_,?_⟩<;>(try simp[hx,L9,N6,D1,T1,c1,I1,d1,d1.symm,d2,d2.symm,d3,d3.symm,d4,d4.symm,d5,d5.symm,d6,d6.symm,A4 hid]);exact⟨by exact yO hu hTn,I9 (by simp[A4 hid]) k (by exact yO hu hXn)⟩
   ·have hLw:∀id,P4 (A6 l S) f cl e.n c k id xs (some I)=[(I,none),(c,some ⟨xs.set k (.agg [.int .i64 cl.n,.str cl.text,.bsl id 0 (T9 f cl e.n).length]),zC,false,false⟩),(id,some ⟨(T9 f cl e.n).map eI,.int .i64 0,false,false⟩)]:=λid=>by unfold P4; rw[zf o_,zf q2]; rfl
    have hW:R5 (A6 l S) f cl e c k id xs (some I)=[(I,none),(c,some ⟨xs.set k (.agg [.int .i64 cl.n,.str cl.text,.bsl id 0 (T9 f cl e.n).length]),zC,false,false⟩),(id,some ⟨(T9 f cl e.n).map eI,.int .i64 0,false,false⟩)]:=(by unfold R5; rw[zf o_,zf k34,zf (λh=>q2 h.2),hC]; rfl);simp only[hLw] at hLk;rw[hW] at hR;(refine yC rfl (hLk _) ?_; simp[D1,T1,c1,I1,d1,d1.symm,d2,d2.symm,d3,d3.symm,d4,d4.symm,d5,d5.symm,d6,d6.symm]);refine yE hR [(id,E.n0+27648)] (by simp[hx,L9,N6,D1,T1,c1,I1,d1,d1.symm,d2,d2.symm,d3,d3.symm,d4,d4.symm,d5,d5.symm,d6,d6.symm,A4 hid]) λhrn=>⟨?_,?_,?_,?_,?_,?_⟩<;>(try simp[hx,L9,N6,D1,T1,c1,I1,d1,d1.symm,d2,d2.symm,d3,d3.symm,d4,d4.symm,d5,d5.symm,d6,d6.symm,A4 hid]);exact⟨by exact yO hu hTn,I9 (by simp[A4 hid]) k (by exact yO hu hXn)⟩
  ·have hLw:∀id,P4 (A6 l S) f cl e.n c k id xs (some I)=[]:=λid=>by unfold P4; rw[zj q1]
   have hW:R5 (A6 l S) f cl e c k id xs (some I)=[]:=(by unfold R5; rw[zj o_]);simp only[hLw] at hLk;rw[hW] at hR;(refine yC rfl (hLk _) ?_; simp[D1,T1,c1,I1,d1,d1.symm,d2,d2.symm,d3,d3.symm,d4,d4.symm,d5,d5.symm,d6,d6.symm]);refine yE hR [] (by simp[D1,T1,c1,I1,d1,d1.symm,d2,d2.symm,d3,d3.symm,d4,d4.symm,d5,d5.symm,d6,d6.symm,A4 hid]) λhrn=>⟨?_,?_,?_,?_,?_,?_⟩<;>(try simp[D1,T1,c1,I1,d1,d1.symm,d2,d2.symm,d3,d3.symm,d4,d4.symm,d5,d5.symm,d6,d6.symm,A4 hid]);exact⟨by exact yO hu hTn,by exact yO hu hXn⟩
 have k5:e.kind≠5:=by simpa using h5
 have k6:e.kind=6:=by omega
 refine A7 (t_ k6) ?_;simp[hxk,hx,hkx,L9,N6,D1,T1,c1,I1,d1,d1.symm,d2,d2.symm,d3,d3.symm,d4,d4.symm,d5,d5.symm,d6,d6.symm];(refine yC rfl (hB2 _) ?_; simp[D1,T1,c1,I1,d1,d1.symm,d2,d2.symm,d3,d3.symm,d4,d4.symm,d5,d5.symm,d6,d6.symm]);refine D4 (λh7=>?_) (λh7=>?_)<;>simp[hxk,hx,hkx,L9,N6,D1,T1,c1,I1,d1,d1.symm,d2,d2.symm,d3,d3.symm,d4,d4.symm,d5,d5.symm,d6,d6.symm]
 ·have hE:X6 (A6 l S) f cl e=5:=by unfold X6; rw[zf k3,zf k4,zf k5,zf (v_ h7)]
  have hW:R5 (A6 l S) f cl e c k id xs (some I)=[]:=by unfold R5; rw[zj o_]
  rw[hE,hW] at hR;refine yE hR [] (by simp[D1,T1,c1,I1,d1,d1.symm,d2,d2.symm,d3,d3.symm,d4,d4.symm,d5,d5.symm,d6,d6.symm,A4 hid]) λhrn=>⟨?_,?_,?_,?_,?_,?_⟩<;>(try simp[D1,T1,c1,I1,d1,d1.symm,d2,d2.symm,d3,d3.symm,d4,d4.symm,d5,d5.symm,d6,d6.symm,A4 hid]);exact⟨by exact yO hu hTn,by exact yO hu hXn⟩
 have h7:V7 cl.ids e.n=true:=by simpa using h7
 have h8:K8 cl.ids e.n<cl.ids.length:=by unfold V7 at h7; simp at h7; exact h7.1
 have hE:X6 (A6 l S) f cl e=0:=by unfold X6; rw[zf k3,zf k4,zf k5,zj h7]
 have hC:z7 f cl e=⟨cl.n,cl.text,B3J cl e.n⟩:=by unfold z7; rw[zf k3,zf k4,zf k5]
 have hlc:(B3J cl e.n).length=cl.ids.length - 1:=by simp[B3J]; omega
 have hW:R5 (A6 l S) f cl e c k id xs (some I)=[(I,none),(c,some ⟨xs.set k (.agg [.int .i64 cl.n,.str cl.text,.bsl id 0 (cl.ids.length - 1)]),zC,false,false⟩),(id,some ⟨(B3J cl e.n).map eI,.int .i64 0,false,false⟩)]:=by unfold R5; rw[zf o_,zf o_,zf o_,hC]; simp only[A31,L9,N6,hlc]; rfl
 rw[hE,hW] at hR;have hw1:IntKind.i64.wrap ((K8 cl.ids e.n:Int)+1)=(K8 cl.ids e.n:Int)+1:=wrap64 o_;rw[hw1];(refine yC rfl (hDl _ h8) ?_; simp[D1,T1,c1,I1,d1,d1.symm,d2,d2.symm,d3,d3.symm,d4,d4.symm,d5,d5.symm,d6,d6.symm]);refine⟨hkx,⟨hkx,by simp[hx,L9]⟩,?_⟩;simp[hx,L9,N6];refine yE hR [(id,E.n0+52224)] (by simp[hx,L9,N6,D1,T1,c1,I1,d1,d1.symm,d2,d2.symm,d3,d3.symm,d4,d4.symm,d5,d5.symm,d6,d6.symm,A4 hid]) λhrn=>⟨?_,?_,?_,?_,?_,?_⟩<;>(try simp[hx,L9,N6,D1,T1,c1,I1,d1,d1.symm,d2,d2.symm,d3,d3.symm,d4,d4.symm,d5,d5.symm,d6,d6.symm,A4 hid]);refine⟨by exact yO hu hTn,I9 (by simp[A4 hid]) k (by exact yO hu hXn),?_⟩;have hcm:List.take (K8 cl.ids e.n) (List.map eI cl.ids)++List.drop (K8 cl.ids e.n+1) (List.map eI cl.ids)=(B3J cl e.n).map eI:=by simp[B3J]
 rw[hcm];exact C03 _ _ _
def A3W(l:List Ty)(S:List H0)(e:Ev)(i:Nat)(o:H0)(ty:Ty)(f:Fd)(cl:Cl)(D T:Nat)(id:Nat)(hk1:3<=e.kind)(hk2:e.kind<=6)(hf0:0<=e.field)(hf:ty.fields[e.field.toNat]?=some f)(hkf:M2 e.kind f=true)(hcl:o.t.cells[e.field.toNat]?=some cl)(hio:o.is[e.field.toNat]?=some none)
  (hty:l[e.type.toNat]?=some ty) (h0:0<=e.type) (ho:S[i]?=some o) (hlen:o.t.cells.length=ty.fields.length) (his:o.is.length=o.t.cells.length) (hn:cl.ids=[]) (hl5:l.length<=1000) (hl8:ty.fields.length<=1000) (hS8:S.length<=1000) (hc8:cl.ids.length<=1000) (d1:D≠T) (d2:D≠o.c) (d3:T≠o.c) :
  A2 prog 263 [.ptr D 0 0] [(D,S2 l (.bsl T 0 S.length) e i),(T,P5 S),(o.c,cBn o)] id (.int .i64 (X6 (A6 l S) f cl e)) (R5 (A6 l S) f cl e o.c e.field.toNat id (List.zipWith L9 o.t.cells o.is) none):=by
 have hX:=λid=>A6Q l S e i o ty D T id hty h0 ho hlen his hl8 d1 d2 d3;have hr:v8 ty e o.c = .tup [T5 f,.ptr o.c e.field.toNat 0,.int .i64 0]:=by unfold v8; rw[zf o_,hf]; simp only; rw[zj hkf]
 rw[hr] at hX;have hx:=A7Z hcl hio;have hLk:=λid=>B82 l S e i f cl (List.zipWith L9 o.t.cells o.is) e.field.toNat D T o.c id hx hn hl5 hS8 hc8 d1 d2 d3;have hB2:=λid=>A2j cl none e.n id o_ (λ_=>hn);have hkx:=(ze.1 hx).1;have hxk:(List.zipWith L9 o.t.cells o.is)[e.field.toNat]'hkx=L9 cl none:=by rw[zc hkx] at hx; injection hx
 unfold P5 S2 cBn eD idB iBx N6 T5 at *;dsimp only at hB2;generalize hoc:o.c=c at *;generalize hzz:List.zipWith L9 o.t.cells o.is=xs at *;generalize hkk:e.field.toNat=k at *;refine w263.b.1 λE hP hR hl hid hB hu=>?_;simp[w263];have hD:=hl (D,_) (za ..);simp only at hD;have D1:=lf hD;have hT:=hl (T,_) (zb _ (za ..));simp only at hT;have T1:=lf hT;have hc:=hl (c,_) (zb _ (zb _ (za ..)));simp only at hc;have c1:=lf hc;have hTn:∀x∈S.map W5,B2 E.G0.used x:=B8 hB (zb _ (za ..));have hXn:∀x∈xs,B2 E.G0.used x:=B8 hB (zb _ (zb _ (za ..)));(refine yC rfl (hX _) ?_; simp[D1,T1,c1,d1,d1.symm,d2,d2.symm,d3,d3.symm]);refine D4 (λh3=>?_) (λh3=>?_)<;>simp[D1,T1,c1,d1,d1.symm,d2,d2.symm,d3,d3.symm]
 ·have k3:e.kind=3:=by simpa using h3
  (refine D9 hP rfl (Q8 _ _) (by simp[D1,T1,c1,d1,d1.symm,d2,d2.symm,d3,d3.symm]) (by simp[D1,T1,c1,d1,d1.symm,d2,d2.symm,d3,d3.symm]<;>rfl) ?_; refine A3 4000 ?_; simp[D1,T1,c1,d1,d1.symm,d2,d2.symm,d3,d3.symm]);refine D4 (λh4=>?_) (λh4=>?_)<;>simp[D1,T1,c1,d1,d1.symm,d2,d2.symm,d3,d3.symm]
  ·have hE:X6 (A6 l S) f cl e=3:=(by unfold X6; rw[zj k3,zf (by simp at h4; omega)]);have hW:R5 (A6 l S) f cl e c k id xs none=[]:=(by unfold R5; rw[zj o_]);rw[hE,hW] at hR;refine yE hR [] (by simp[D1,T1,c1,d1,d1.symm,d2,d2.symm,d3,d3.symm,A4 hid]) λhrn=>⟨?_,?_,?_,?_,?_,?_⟩<;>(try simp[D1,T1,c1,d1,d1.symm,d2,d2.symm,d3,d3.symm,A4 hid]);exact⟨by exact yO hu hTn,by exact yO hu hXn⟩
  ·have hE:X6 (A6 l S) f cl e=0:=(by unfold X6; rw[zj k3,zj (by simp at h4; omega)]);have hW:R5 (A6 l S) f cl e c k id xs none=[(c,some ⟨xs.set k (.agg [.int .i64 e.n,.str cl.text,.nils]),zC,false,false⟩)]:=(by unfold R5; rw[zf o_,zj (.inl k3)]; simp[z7,k3,L9,N6]);rw[hE,hW] at hR;refine⟨hkx,⟨hkx,by simp[hx,L9]⟩,?_⟩;simp[hx,L9,N6];refine yE hR [] (by simp[hx,L9,N6,D1,T1,c1,d1,d1.symm,d2,d2.symm,d3,d3.symm,A4 hid]) λhrn=>⟨?_,?_,?_,?_,?_,?_⟩<;>(try simp[hx,L9,N6,D1,T1,c1,d1,d1.symm,d2,d2.symm,d3,d3.symm,A4 hid]);exact⟨by exact yO hu hTn,I9 s_ k (by exact yO hu hXn)⟩
 have k3:e.kind≠3:=by simpa using h3
 refine D4 (λh4=>?_) (λh4=>?_)<;>simp[D1,T1,c1,d1,d1.symm,d2,d2.symm,d3,d3.symm]
 ·have k4:e.kind=4:=by simpa using h4
  refine D4 (λh5=>?_) (λh5=>?_)<;>simp[D1,T1,c1,d1,d1.symm,d2,d2.symm,d3,d3.symm]
  ·have hE:X6 (A6 l S) f cl e=2:=(by unfold X6; rw[zf k3,zj k4,zj (by simp at h5; omega)]);have hW:R5 (A6 l S) f cl e c k id xs none=[]:=(by unfold R5; rw[zj o_]);rw[hE,hW] at hR;refine yE hR [] (by simp[D1,T1,c1,d1,d1.symm,d2,d2.symm,d3,d3.symm,A4 hid]) λhrn=>⟨?_,?_,?_,?_,?_,?_⟩<;>(try simp[D1,T1,c1,d1,d1.symm,d2,d2.symm,d3,d3.symm,A4 hid]);exact⟨by exact yO hu hTn,by exact yO hu hXn⟩
  ·have hE:X6 (A6 l S) f cl e=0:=(by unfold X6; rw[zf k3,zj k4,zf (by simp at h5; omega)]);have hW:R5 (A6 l S) f cl e c k id xs none=[(c,some ⟨xs.set k (.agg [.int .i64 cl.n,.str e.text,.nils]),zC,false,false⟩)]:=(by unfold R5; rw[zf o_,zj (.inr k4)]; simp[z7,k4,L9,N6]);rw[hE,hW] at hR;refine⟨hkx,⟨hkx,by simp[hx,L9]⟩,?_⟩;simp[hx,L9,N6];refine yE hR [] (by simp[hx,L9,N6,D1,T1,c1,d1,d1.symm,d2,d2.symm,d3,d3.symm,A4 hid]) λhrn=>⟨?_,?_,?_,?_,?_,?_⟩<;>(try simp[hx,L9,N6,D1,T1,c1,d1,d1.symm,d2,d2.symm,d3,d3.symm,A4 hid]);exact⟨by exact yO hu hTn,I9 s_ k (by exact yO hu hXn)⟩
 have k4:e.kind≠4:=by simpa using h4
 refine D4 (λh5=>?_) (λh5=>?_)<;>simp[D1,T1,c1,d1,d1.symm,d2,d2.symm,d3,d3.symm]
 ·have k5:e.kind=5:=by simpa using h5
  have hE:X6 (A6 l S) f cl e=S9 (A6 l S) f cl e.n:=by unfold X6; rw[zf k3,zf k4,zj k5]
  have hC:z7 f cl e=⟨cl.n,cl.text,T9 f cl e.n⟩:=by unfold z7; rw[zf k3,zf k4,zj k5]
  have k34:¬(e.kind=3\/e.kind=4):=by omega
  rw[hE] at hR;by_cases q1:S9 (A6 l S) f cl e.n=0
  ·by_cases q2:f.kind=3
   ·have hLw:∀id,P4 (A6 l S) f cl e.n c k id xs none=[(c,some ⟨xs.set k (.agg [.int .i64 cl.n,.str cl.text,.bsl id 0 (T9 f cl e.n).length]),zC,false,false⟩),(id,some ⟨(T9 f cl e.n).map eI,.int .i64 0,false,false⟩)]:=λid=>by unfold P4; rw[zf o_,zj q2]; rfl
    have hW:R5 (A6 l S) f cl e c k id xs none=[(c,some ⟨xs.set k (.agg [.int .i64 cl.n,.str cl.text,.bsl id 0 (T9 f cl e.n).length]),zC,false,false⟩),(id,some ⟨(T9 f cl e.n).map eI,.int .i64 0,false,false⟩)]:=(by unfold R5; rw[zf o_,zf k34,zj ⟨k5,q2⟩,hC]; rfl);simp only[hLw] at hLk;rw[hW] at hR;(refine yC rfl (hLk _) ?_; simp[D1,T1,c1,d1,d1.symm,d2,d2.symm,d3,d3.symm]);refine yE hR [(id,E.n0+27648)] (by simp[hx,L9,N6,D1,T1,c1,d1,d1.symm,d2,d2.symm,d3,d3.symm,A4 hid]) λhrn=>⟨?_,?_,?_,?_,?_,?_⟩<;>(try simp[hx,L9,N6,D1,T1,c1,d1,d1.symm,d2,d2.symm,d3,d3.symm,A4 hid]);exact⟨by exact yO hu hTn,I9 (by simp[A4 hid]) k (by exact yO hu hXn)⟩
   ·have hLw:∀id,P4 (A6 l S) f cl e.n c k id xs none=[(c,some ⟨xs.set k (.agg [.int .i64 cl.n,.str cl.text,.bsl id 0 (T9 f cl e.n).length]),zC,false,false⟩),(id,some ⟨(T9 f cl e.n).map eI,.int .i64 0,false,false⟩)]:=λid=>by unfold P4; rw[zf o_,zf q2]; rfl
    have hW:R5 (A6 l S) f cl e c k id xs none=[(c,some ⟨xs.set k (.agg [.int .i64 cl.n,.str cl.text,.bsl id 0 (T9 f cl e.n).length]),zC,false,false⟩),(id,some ⟨(T9 f cl e.n).map eI,.int .i64 0,false,false⟩)]:=(by unfold R5; rw[zf o_,zf k34,zf (λh=>q2 h.2),hC]; rfl);simp only[hLw] at hLk;rw[hW] at hR;(refine yC rfl (hLk _) ?_; simp[D1,T1,c1,d1,d1.symm,d2,d2.symm,d3,d3.symm]);refine yE hR [(id,E.n0+27648)] (by simp[hx,L9,N6,D1,T1,c1,d1,d1.symm,d2,d2.symm,d3,d3.symm,A4 hid]) λhrn=>⟨?_,?_,?_,?_,?_,?_⟩<;>(try simp[hx,L9,N6,D1,T1,c1,d1,d1.symm,d2,d2.symm,d3,d3.symm,A4 hid]);exact⟨by exact yO hu hTn,I9 (by simp[A4 hid]) k (by exact yO hu hXn)⟩
  ·have hLw:∀id,P4 (A6 l S) f cl e.n c k id xs none=[]:=λid=>by unfold P4; rw[zj q1]
   have hW:R5 (A6 l S) f cl e c k id xs none=[]:=(by unfold R5; rw[zj o_]);simp only[hLw] at hLk;rw[hW] at hR;(refine yC rfl (hLk _) ?_; simp[D1,T1,c1,d1,d1.symm,d2,d2.symm,d3,d3.symm]);refine yE hR [] (by simp[D1,T1,c1,d1,d1.symm,d2,d2.symm,d3,d3.symm,A4 hid]) λhrn=>⟨?_,?_,?_,?_,?_,?_⟩<;>(try simp[D1,T1,c1,d1,d1.symm,d2,d2.symm,d3,d3.symm,A4 hid]);exact⟨by exact yO hu hTn,by exact yO hu hXn⟩
 have k5:e.kind≠5:=by simpa using h5
 have k6:e.kind=6:=by omega
 refine A7 (t_ k6) ?_;simp[hxk,hx,hkx,L9,N6,D1,T1,c1,d1,d1.symm,d2,d2.symm,d3,d3.symm];(refine yC rfl (hB2 _) ?_; simp[D1,T1,c1,d1,d1.symm,d2,d2.symm,d3,d3.symm]);refine D4 (λh7=>?_) (λh7=>?_)<;>simp[hxk,hx,hkx,L9,N6,D1,T1,c1,d1,d1.symm,d2,d2.symm,d3,d3.symm]
 ·have hE:X6 (A6 l S) f cl e=5:=by unfold X6; rw[zf k3,zf k4,zf k5,zf (v_ h7)]
  have hW:R5 (A6 l S) f cl e c k id xs none=[]:=by unfold R5; rw[zj o_]
  rw[hE,hW] at hR;refine yE hR [] (by simp[D1,T1,c1,d1,d1.symm,d2,d2.symm,d3,d3.symm,A4 hid]) λhrn=>⟨?_,?_,?_,?_,?_,?_⟩<;>(try simp[D1,T1,c1,d1,d1.symm,d2,d2.symm,d3,d3.symm,A4 hid]);exact⟨by exact yO hu hTn,by exact yO hu hXn⟩
 have h7:V7 cl.ids e.n=true:=by simpa using h7
 rw[hn] at h7;simp[V7] at h7
def C0J(l:List Ty)(S:List H0)(e:Ev)(i0:Int)(D T:Nat)(id:Nat)(w:Int)(hw:(e.kind=1/\F4 (S.map H0.t) e.type e.id=true/\w=6)\/(e.kind=1/\F4 (S.map H0.t) e.type e.id=false/\S.length=12/\w=2)\/(e.kind≠1/\F4 (S.map H0.t) e.type e.id=false/\w=5))(hS8:S.length<=1000)(d1:D≠T):
  A2 prog 195 [.ptr D 0 0] [(D,S2 l (.bsl T 0 S.length) e i0),(T,P5 S)] id (.int .i64 w) [(D,some (S2 l (.bsl T 0 S.length) e (C3 (S.map H0.t) e.type e.id)))]:=by
 have hF:=λid=>S8 l S T e.type e.id id o_;unfold P5 S2 eD at *;refine w195.b.1 λE hP hR hl hid hB hu=>?_;simp[w195];have hD:=hl (D,_) (za ..);simp only at hD;have D1:=lf hD;have hT:=hl (T,_) (zb _ (za ..));simp only at hT;have T1:=lf hT;have hTn:∀x∈S.map W5,B2 E.G0.used x:=B8 hB (zb _ (za ..));(refine yC rfl (hF _) ?_; simp[D1,T1,d1,d1.symm]);refine D4 (λh=>?_) (λh=>?_)<;>simp[D1,T1,d1,d1.symm]
 ·have h:e.kind=1/\F4 (S.map H0.t) e.type e.id=true:=by simpa using h
  have hw6:w=6:=by rcases hw with hw|hw|hw<;>simp_all
  subst hw6;refine yE hR [] (by simp[D1,T1,d1,d1.symm,A4 hid]) λhrn=>⟨?_,?_,?_,?_,?_,?_⟩<;>(try simp[D1,T1,d1,d1.symm,A4 hid]);all_goals exact yO hu hTn
 refine D4 (λh2=>?_) (λh2=>?_)<;>simp[D1,T1,d1,d1.symm]
 ·have h2:e.kind=1/\S.length=12:=by simp at h2; omega
  have hw6:w=2:=by rcases hw with hw|hw|hw<;>simp_all
  subst hw6;refine yE hR [] (by simp[D1,T1,d1,d1.symm,A4 hid]) λhrn=>⟨?_,?_,?_,?_,?_,?_⟩<;>(try simp[D1,T1,d1,d1.symm,A4 hid]);all_goals exact yO hu hTn
 have hk:e.kind≠1:=λhk=>by
  rcases hw with hw|hw|hw
  ·simp[hk,hw.2.1] at h
  ·simp[hk] at h2; omega
  ·exact hw.1 hk
 refine A0 (v_ hk) ?_;simp[D1,T1,d1,d1.symm];have hw5:F4 (S.map H0.t) e.type e.id=false/\w=5:=by rcases hw with hw|hw|hw<;>simp_all
 refine A7 (by simp[hw5.1]) ?_;obtain⟨_,hw5⟩:=hw5;subst hw5;simp[D1,T1,d1,d1.symm];refine yE hR [] (by simp[D1,T1,d1,d1.symm,A4 hid]) λhrn=>⟨?_,?_,?_,?_,?_,?_⟩<;>(try simp[D1,T1,d1,d1.symm,A4 hid]);all_goals exact yO hu hTn
def B4w(S:List H0)(x3:AV)(a b:Int)(T Y k:Nat)(id:Nat)(hk:k<=S.length)(hTY:T≠Y)(hTid:T<id\/id+1024<=T)(hbig:S.length<=1000000)(h3:AV.one x3=true):
  A2 prog 260 [.bsl T 0 S.length,.int .i64 k,.bsl Y 0 1] [(T,⟨S.map W5,zT,false,false⟩),(Y,⟨[.agg [.int .i64 a,.int .i64 b,x3]],.agg [.int .i64 0,.int .i64 0,.nils],false,false⟩)] id (.bsl id 0 (S.length+1)) [(T,none),(id,some ⟨(S.map W5).take k++.agg [.int .i64 a,.int .i64 b,x3]::(S.map W5).drop k,zT,false,false⟩)]:=by
 have:=B1L (S.map W5) (.agg [.int .i64 a,.int .i64 b,x3]) T Y k id (v_ hk) hTY hTid (v_ hbig) (λx hx=>by obtain⟨o,_,rfl⟩:=zw.1 hx; rfl) rfl (by simp[AV.cells,AV.one] at h3 ⊢; exact h3);rw[xj] at this;exact this
def B4x(S:List H0)(T k:Nat)(id:Nat)(hk:k<S.length)(hbig:S.length<=1000000):
  A2 prog 262 [.bsl T 0 S.length,.int .i64 k,.int .i64 ((k:Int)+1)] [(T,⟨S.map W5,zT,false,false⟩)] id (.bsl id 0 (S.length - 1)) [(T,none),(id,some ⟨(S.map W5).take k++(S.map W5).drop (k+1),zT,false,false⟩)]:=by
 have:=B1M (S.map W5) T k id (v_ hk) (v_ hbig) (λx hx=>by obtain⟨o,_,rfl⟩:=zw.1 hx; rfl);rw[xj] at this;exact this
def C3I(l:List Ty)(S:List H0)(e:Ev)(i0:Int)(ty:Ty)(D T:Nat)(id:Nat)(hk:e.kind=1)(hfB:F4 (S.map H0.t) e.type e.id=false)(h12:S.length≠12)(hty:l[e.type.toNat]?=some ty)(h0:0<=e.type)(hf8:ty.fields.length<=1000)(hS8:S.length<=1000)(d1:D≠T):
  A2 prog 195 [.ptr D 0 0] [(D,S2 l (.bsl T 0 S.length) e i0),(T,P5 S)] id (.int .i64 0) [(D,some (S2 l (.bsl id 0 (S.length+1)) e (C3 (S.map H0.t) e.type e.id))),(T,none),
   (id,some ⟨(S.map W5).take (C3 (S.map H0.t) e.type e.id)++.agg [.int .i64 e.type,.int .i64 e.id,.bsl (id+1) 0 ty.fields.length]::(S.map W5).drop (C3 (S.map H0.t) e.type e.id),zT,false,false⟩),(id+1,some ⟨List.replicate ty.fields.length zC,zC,false,false⟩)]:=by
 have hF:=λid=>S8 l S T e.type e.id id o_;unfold P5 S2 eD at *;refine w195.b.1 λE hP hR hl hid hB hu=>?_;simp[w195];have hD:=hl (D,_) (za ..);simp only at hD;have D1:=lf hD;have hT:=hl (T,_) (zb _ (za ..));simp only at hT;have T1:=lf hT;have hTn:∀x∈S.map W5,B2 E.G0.used x:=B8 hB (zb _ (za ..));(refine D9 hP rfl (hF _) (by simp[D1,T1,d1,d1.symm]) (by simp[D1,T1,d1,d1.symm]<;>rfl) ?_; refine A3 330 ?_; simp[D1,T1,d1,d1.symm]);refine A0 (t_ hfB) ?_;simp[D1,T1,d1,d1.symm];refine A0 (by simp[hk]; omega) ?_;simp[D1,T1,d1,d1.symm];refine A7 (t_ hk) ?_;simp[hty,I7,h0,D1,T1,d1,d1.symm];have htl:e.type<l.length:=by have:=(ze.1 hty).1; omega
 refine⟨htl,⟨o_,o_⟩,?_⟩;refine B4Z f_ s_ s_ f_ ?_;refine A3 4000 ?_;simp[D1,T1,d1,d1.symm];have hle:C3 (S.map H0.t) e.type e.id<=S.length:=by have:=(B69 (K6 (S.map H0.t) e.type e.id) 0 (S.map H0.t).length (sd _)).2; rw[xj] at this; unfold C3; rw[xj]; exact this
 have hIns:=λ(id:Nat) (hid:T<id\/id+1024<=T)=>B4w S (.bsl (E.n0+92160) 0 ty.fields.length) e.type e.id T (E.n0+94208) (C3 (S.map H0.t) e.type e.id) id hle o_ hid o_ rfl;generalize C3 (S.map H0.t) e.type e.id=m at *;(refine yC rfl (hIns _ o_) ?_; simp[D1,T1,d1,d1.symm]);have hp0:∀R S,N8 R S (List.replicate ty.fields.length (.agg [.int .i64 0,.str [],.nils])) (List.replicate ty.fields.length (.agg [.int .i64 0,.str [],.nils])):=λR S=>B4 rfl (A4v λi x hx=>by rw[vp] at hx; split at hx<;>simp at hx; subst hx; rfl);simp only[zC] at hR;have hrn:F3 [(id,E.n0+95232),(id+1,E.n0+92160)]:=by simp[hp0,A6B hD.2,A42 hD.2,A6B hT.2,A42 hT.2,D1,T1,d1,d1.symm,A4 hid,A3L hid,A1g hid,A0W hid,A0X hid,p8 hid]
 rw[hR];refine E6 f_ [(id,E.n0+95232),(id+1,E.n0+92160)] hrn ⟨?_,?_,?_,?_,?_,?_⟩<;>(try simp[hp0,A6B hD.2,A42 hD.2,A6B hT.2,A42 hT.2,D1,T1,d1,d1.symm,A4 hid,A3L hid,A1g hid,A0W hid,A0X hid,p8 hid]);have hlk:∀z,z<E.n0->(z<id\/id+1024<=z)->lkN [(id,E.n0+95232),(id+1,E.n0+92160)] z=none:=λz h1 h2=>by
  have a1:z≠id:=by omega
  have a2:z≠id+1:=by omega
  simp[lkN,a1,a2]
 exact u5 (j8 hu hlk λx hx=>hTn x (xq hx)) (.cons _ _ _ _ (by simp[A4 hid,A3L hid,A1g hid,A0W hid,A0X hid,p8 hid]) (j8 hu hlk λx hx=>hTn x (xn hx)))
structure H0.Ok(o:H0):Prop where
 len:o.is.length=o.t.cells.length
 nil:∀(k:Nat) (c:Cl),o.t.cells[k]?=some c->o.is[k]?=some none->c.ids=[]
def A5M{cs:List Cl}:∀{is:List (Option Nat)} (k:Nat) {c:Cl} {i:Option Nat},cs[k]?=some c->is[k]?=some i->∀q∈idB c i,q∈A0a cs is:=by
 induction cs with
 | nil=>intro is k c i h1; simp at h1
 | cons c0 cs ih =>
  intro is k c i h1 h2 q hq;cases is with
  | nil=>simp at h2
  | cons i0 is =>
   cases k with
   | zero=>simp at h1 h2; subst h1 h2; exact yw _ hq
   | succ k=>exact yg _ (ih k (v_ h1) (v_ h2) q hq)
def C0K{o:H0}(h:o.Ok){L:List (Nat×Bx)}(hL:∀q∈o.bxs,q∈L):Rd L (.bsl o.c 0 o.t.cells.length) (.sl (o.t.cells.map eCl)):=by
 have hg:∀i x y,(List.zipWith L9 o.t.cells o.is)[0+i]?=some x->(o.t.cells.map eCl)[i]?=some y->∃c io,o.t.cells[i]?=some c/\o.is[i]?=some io/\x=L9 c io/\y=eCl c:=λi x y h1 h2=>by
  rw[xe,qf] at h1;rw[ym] at h2;cases hc:o.t.cells[i]? with
  | none=>rw[hc] at h2; simp at h2
  | some c =>
   cases hi:o.is[i]? with
   | none=>rw[hc,hi] at h1; simp at h1
   | some io =>
    rw[hc,hi] at h1;rw[hc] at h2;simp at h1 h2;exact⟨c,io,rfl,rfl,h1.symm,h2.symm⟩
 refine .bsl o.c 0 _ (cBn o) _ (hL _ (za ..)) (by simp[cBn,h.len]) s_ (λi x y h1 h2=>?_) λi x y j a b h1 h2 h3 h4=>?_
 ·obtain⟨c,io,_,_,rfl,rfl⟩:=hg i x y h1 h2;rfl
 ·obtain⟨c,io,hc,hi,rfl,rfl⟩:=hg i x y h1 h2;match j,h3,h4 with
  | 0,h3,h4=>simp[L9,eCl,AV.cells] at h3 h4; subst h3 h4; exact .same _
  | 1,h3,h4=>simp[L9,eCl,AV.cells] at h3 h4; subst h3 h4; exact .same _
  | 2,h3,h4 =>
   simp[L9,eCl,AV.cells] at h3 h4;subst h3 h4;exact B6G c io L (λq hq=>hL _ (zb _ (A5M i hc hi q hq))) λe=>h.nil i c hc (e▸hi)
  | j+3,h3,h4=>simp[L9,AV.cells] at h3
def A6R{S:List H0}(h:∀o∈S,o.Ok){T:Nat}{L:List (Nat×Bx)}(hT:(T,P5 S)∈L)(hL:∀q∈I4 S,q∈L):Rd L (.bsl T 0 S.length) (.sl ((S.map H0.t).map W3)):=by
 have hg:∀i x y,(S.map W5)[0+i]?=some x->((S.map H0.t).map W3)[i]?=some y->∃o,S[i]?=some o/\x=W5 o/\y=W3 o.t:=λi x y h1 h2=>by
  rw[xe,ym] at h1;rw[ym,ym] at h2;cases ho:S[i]? with
  | none=>rw[ho] at h2; simp at h2
  | some o =>
   rw[ho] at h1 h2;simp at h1 h2;exact⟨o,rfl,h1.symm,h2.symm⟩
 refine .bsl T 0 _ (P5 S) _ hT (by simp[P5]) s_ (λi x y h1 h2=>?_) λi x y j a b h1 h2 h3 h4=>?_
 ·obtain⟨o,_,rfl,rfl⟩:=hg i x y h1 h2;rfl
 ·obtain⟨o,ho,rfl,rfl⟩:=hg i x y h1 h2;match j,h3,h4 with
  | 0,h3,h4=>simp[W5,W3,AV.cells] at h3 h4; subst h3 h4; exact .same _
  | 1,h3,h4=>simp[W5,W3,AV.cells] at h3 h4; subst h3 h4; exact .same _
  | 2,h3,h4 =>
   simp[W5,W3,AV.cells] at h3 h4;subst h3 h4;exact C0K (h o (zg ho)) λq hq=>hL q (we.2 ⟨o,zg ho,hq⟩)
  | j+3,h3,h4=>simp[W5,AV.cells] at h3
def B0G(l:List Ty)(S:List H0)(e:Ev)(i:Int)(D T:Nat)(id:Nat)(hS:∀o∈S,o.Ok)(h5:l.length<=1000)(h12:S.length<=1000000)
  (hok:∀t∈S.map H0.t,0<=t.type/\t.type.toNat<l.length/\t.cells.length=(D7 l t.type).length/\t.cells.length<=1000000/\∀c∈t.cells,c.ids.length<=6) :
  A2 prog 261 [.ptr D 0 0] ((D,S2 l (.bsl T 0 S.length) e i)::(T,P5 S)::I4 S) id (.bool (!T7 (U4 l e) l (S.map H0.t))) []:=by
 refine (C0I (A6 l S) e i id h5 (by simp[A6]; exact h12) hok).read rfl rfl λk a b h1 h2=>?_;match k,h1,h2 with
 | 0,h1,h2 =>
  simp only[yt,zd] at h1 h2;subst h1 h2;refine .ptr D (S2 l (.bsl T 0 S.length) e i) _ _ (za ..) rfl rfl λj c d h3 h4=>?_;match j,h3,h4 with
  | 0,h3,h4=>simp[eD,AV.cells,A6] at h3 h4; subst h3 h4; exact .same _
  | 1,h3,h4 =>
   simp only[eD,AV.cells,A6,xw,yt,zd] at h3 h4;subst h3 h4;exact A6R hS (zb _ (za ..)) λq hq=>zb _ (zb _ hq)
  | 2,h3,h4|3,h3,h4|4,h3,h4|5,h3,h4|6,h3,h4|7,h3,h4|8,h3,h4=>simp[eD,AV.cells,A6] at h3 h4; subst h3 h4; exact .same _
  | j+9,h3,h4=>simp[eD,AV.cells] at h3
 | k+1,h1,h2=>simp at h1
end Go.Am
