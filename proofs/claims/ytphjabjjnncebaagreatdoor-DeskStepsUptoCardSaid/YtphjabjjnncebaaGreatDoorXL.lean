/- Parts of the proof: an abstract machine for Go functions, and what functions of the program give back (In5, Do3, Do4, Do5, Do6, Do7, Do8, Do9). No condition. -/
import Derived.Test.YtphjabjjnncebaaGreatDoorXK
import Derived.Test.YtphjabjjnncebaaGreatDoorXG
set_option maxRecDepth 100000
set_option linter.all false
set_option maxHeartbeats 1000000
namespace Go.Am
open Go Go.Proofs Go.RowKit Go.Proofs.Tryz
def RS.rowed{P:Program}{C:Cx P}{G:Gh}{bx:Nat->Option Bx}{w w':World}(hs:RS C G bx w){T id:Nat}{x:Bx}(hx:bx T=some x)(hro:x.ro=false)(hfr:x.frz=false)(hn:¬G.nl T){b s:Nat}{cur:Array Value}{el:TypeId}(hb:G.bm T=some (b,s))(hg:w.heap[b]?=some (.cells cur el (0,0)))
  (hu:¬G.used id) (R:Array Value) (xs':List AV) (hlen:xs'.length*s<=R.size) (hh:w'.heap[b]?=some (.cells R el (0,0))) (ho:∀k,k≠b->w'.heap[k]?=w.heap[k]?) (h1:w'.os=w.os) (h2:w'.tape=w.tape) (h3:w'.output=w.output) (h4:w.heap.size<=w'.heap.size) (hc:A03 G w s xs' R) :
  RS C (G.rename T id b s) (T6 (T6 bx T none) id (some ⟨xs',x.d,false,false⟩)) w'/\L4 G w (G.rename T id b s) w':=by
 obtain⟨b1,s1,cur1,e1,k1,k2,k3,k4,k5,k6,k7⟩:=hs.box T x hx hn;rw[hb] at k1;injection k1 with k1
 injection k1 with kb ks
 subst kb ks;have hfz:∀b2 o,G.fz b2 o->b2≠b:=λb2 o hf e=>k6 hfr o (e▸hf);exact hs.moved (id0:=T) (id:=id) (b':=b) (s:=s) (x':=⟨xs',x.d,false,false⟩) (cur':=R) (e':=el) hu ⟨h1,h2,h3,h4,λk hk=>ho k (by have:=k3 hro; omega)⟩
  (λj b2 s2 hj hji=>ho b2 λhbb=>hji (hs.inj j T b2 s2 s hj (hbb▸hb))) (λb2 o hf=>World.cell?_of_block (w:=w) (ho b2 (hfz b2 o hf))) hh (k3 hro) (λj s2 hj hjb=>hj (hs.inj j T b s2 s hjb hb)) hlen k4.1 hc (λ_ o hf=>hfz b o hf rfl) (λo hf=>(hfz b o hf rfl).elim)
def RS.rehomed{P:Program}{C:Cx P}{G:Gh}{bx:Nat->Option Bx}{w w':World}(hs:RS C G bx w){T id:Nat}{x:Bx}(hx:bx T=some x)(hn:¬G.nl T){b s:Nat}(hb:G.bm T=some (b,s))
  (hu:¬G.used id) (R:Array Value) (el:TypeId) (xs':List AV) (hlen:xs'.length*s<=R.size) (hh:w'.heap[w.heap.size]?=some (.cells R el (0,0))) (ho:∀k,k<w.heap.size->w'.heap[k]?=w.heap[k]?) (h1:w'.os=w.os) (h2:w'.tape=w.tape) (h3:w'.output=w.output) (h4:w.heap.size<=w'.heap.size) (hc:A03 G w s xs' R) :
  RS C (G.rename T id w.heap.size s) (T6 (T6 bx T none) id (some ⟨xs',x.d,false,false⟩)) w'/\L4 G w (G.rename T id w.heap.size s) w':=by
 obtain⟨b1,s1,cur1,e1,k1,k2,k3,k4,k5,k6,k7⟩:=hs.box T x hx hn;rw[hb] at k1;injection k1 with k1
 injection k1 with kb ks
 subst kb ks;have hfl:∀b2 o,G.fz b2 o->b2<w.heap.size:=λb2 o hf=>let ⟨u,hu⟩:=hs.fzok b2 o hf; Y9 hu;exact hs.moved (id0:=T) (id:=id) (b':=w.heap.size) (s:=s) (x':=⟨xs',x.d,false,false⟩) (cur':=R) (e':=el) hu ⟨h1,h2,h3,h4,λk hk=>ho k (by have:=hs.size; omega)⟩
  (λj b2 s2 hj hji=>ho b2 (hs.rows j b2 s2 hj)) (λb2 o hf=>World.cell?_of_block (w:=w) (ho b2 (hfl b2 o hf))) hh hs.size (λj s2 hj hjb=>by have:=hs.rows j _ s2 hjb; omega) hlen k4.1 hc (λ_ o hf=>by have:=hfl _ o hf; omega) (λo hf=>by have:=hfl _ o hf; omega)
def A6c{G:Gh}{w:World}{k:IntKind}{n:Int}{v:Value}(h:RV G w (.int k n) v):v = .int k n:=by cases h; rfl
def A8t(xs:List AV)(y:AV)(T Y i:Nat)(id:Nat)(hi:i<=xs.length)(hTY:T≠Y)(hTid:T<id\/id+1024<=T)(hbig:xs.length<=1000000)(h1:∀x∈xs,x.cells.all AV.one=true)(hy:y.cells.length=1)(hy1:y.cells.all AV.one=true):
  A2 prog 315 [.bsl T 0 xs.length,.int .i64 i,.bsl Y 0 1] [(T,⟨xs,.int .i64 0,false,false⟩),(Y,⟨[y],.int .i64 0,false,false⟩)] id (.bsl id 0 (xs.length+1)) [(T,none),(id,some ⟨xs.take i++y::xs.drop i,.int .i64 0,false,false⟩)]:=by
 refine⟨⟨_,func315,k_,k_⟩,λC G bx w vs nb hs hv hh hnb hid=>?_⟩;have hxT:=hh (T,⟨xs,.int .i64 0,false,false⟩) s_;have hxY:=hh (Y,⟨[y],.int .i64 0,false,false⟩) s_;simp only at hxT hxY;have hu:¬G.used id:=hid id (zx _) o_;obtain⟨hl,hvv⟩:=hv;obtain⟨v0,v1,v2,rfl⟩:∃v0 v1 v2,vs = #[v0,v1,v2]:=by
  match vs,hl with
  | ⟨[a,b,c]⟩,_=>exact⟨a,b,c,rfl⟩
 have hv0:RV G w (.bsl T 0 xs.length) v0:=hvv 0 _ rfl;have hv1:RV G w (.int .i64 i) v1:=hvv 1 _ rfl;have hv2:RV G w (.bsl Y 0 1) v2:=hvv 2 _ rfl;obtain rfl:=A6c hv1;have hnY:¬G.nl Y:=hs.lies hxY (i:=0) (y:=y) rfl;obtain⟨vb,sY,curY,eY,y1,y2,y3,⟨y4,y5⟩,y6,y7,y8⟩:=hs.box Y _ hxY hnY;have hsY:sY=1:=by
  have:=(y6 0 y rfl).1;omega
 subst hsY;obtain⟨vc,curY',eY',hv2',hvc1,hvc2,hvc3,hvc4⟩:∃c cur e,v2 = .slice (some ⟨vb,0,none⟩) 1 c/\1<=c/\c<=maxLen/\w.heap[vb]?=some (.cells cur e (0,0))/\cur.size=(0+c)*1:=by
  cases hv2 with|bsl _ _ _ _ _ _ hb _ =>
  obtain⟨c,cur,e,q1,q2,q3,q4,q5⟩:=hb vb 1 y1;exact⟨c,cur,e,v_ q1,q2,q3,q4,q5⟩
 have hv2o:=hv2;subst hv2';obtain⟨vl,hvl⟩:∃vl,vl=curY.toList.take 1:=⟨_,rfl⟩;have hszY:1<=curY.size:=by simpa using y5
 have hvll:vl.length=1:=by rw[hvl,zy,yz]; omega
 have hvs:∀j v,vl[j]?=some v->w.cell? ⟨vb,j,none⟩=some v:=λj v hj=>by
  rw[hvl,zz] at hj;split at hj
  ·exact (E4 y2).trans (v_ hj)
  ·cases hj
 have h1v:∀v∈vl,v.oneCell'=true:=by
  have:=s7 y6 (h1:=λx hx=>by simp at hx; subst hx; exact hy1);rw[hvl];simpa using this
 have hyv:∀(j:Nat) z,y.cells[j]?=some z->∃u,vl[j]?=some u/\RV G w z u:=λj z hz=>by
  obtain⟨u,q1,q2⟩:=(y6 0 y rfl).2 j z hz;refine⟨u,?_,q2⟩;have hj:j<1:=by rw[←hy]; exact (ze.1 hz).1
  rw[hvl,zz,zj hj];simpa using q1
 by_cases hin:i=xs.length
 ·-- at the end: an append
  subst hin;obtain⟨i0,hi0,hz0,hzs,hzb⟩:=info_parts (P:=prog) (e:=3) (z:=.int .i64 0) (size:=1) (bytes:=8) k_;have hap:=A6D (P:=prog) hs hu hv0 hv2o (ys:=[y]) (by simp[elems,hxY]) (d:=.int .i64 0) (s:=1) (bytes:=8) (v_ hy) (λz hz c hc=>by simp at hz; subst hz; exact xe.1 hy1 c hc) (r:=.bsl id 0 (xs.length+1)) (rd:=[(T,⟨xs,.int .i64 0,false,false⟩)]) (wr:=[(T,none),(id,some ⟨xs++[y],.int .i64 0,false,false⟩)])
   (by simp[A72,hxT,Bx.sz]) s_ (t:=106) (tx:=106) (ty:=106) (e:=3) (i:=i0) (z:=.int .i64 0) (.inr ⟨λt h=>(by cases h),3,underlying106⟩) underlying106 hi0 hz0 (by rfl) hzs hzb
   (λn hn=>by simp[A1N,hxT] at hn; subst hn; constructor<;>(simp; omega))
  obtain⟨v,w1,G',hrun,r1,r2,r3,r4⟩:=hap;have hform:∃A c,v0 = .slice A xs.length c/\xs.length<=c/\c<=maxLen/\(A=none->c=0):=by
   by_cases hn:G.nl T
   ·have hx0:=(hs.nil T _ hxT hn).1;simp only at hx0;cases hv0 with|bsl _ _ _ _ _ _ _ hnl =>
    obtain⟨q1,_,q3⟩:=hnl hn;exact⟨none,0,by rw[q1,q3],o_,by simp[maxLen],λ_=>rfl⟩
   ·obtain⟨b,s,cur,e,k1,_⟩:=hs.box T _ hxT hn;cases hv0 with|bsl _ _ _ _ _ _ hb _ =>
    obtain⟨c,_,_,q1,q2,q3,_⟩:=hb b s k1;exact⟨_,c,q1,q2,q3,λh=>by cases h⟩
  obtain⟨A,c,rfl,q2,q3,q4⟩:=hform;refine (B5e A xs.length c vb vc w w1 v q2 (by unfold maxLen at q3; omega) q4 (λty=>hrun)).mono λe w' ⟨he,hw⟩=>?_;subst he hw;refine⟨v,G',rfl,?_,r2,r3,λx hx=>(r4 x hx).imp _root_.id λh=>o_⟩;simpa using r1
 ·have hin':i<xs.length:=by omega
  have hnT:¬G.nl T:=λhn=>by have:=(hs.nil T _ hxT hn).1; simp only at this; rw[this] at hin'; simp at hin'
  obtain⟨b,sT,cur,e,k1,k2,k3,⟨k4,k5⟩,k6,k7,k8⟩:=hs.box T _ hxT hnT;have hsT:sT=1:=by rw[←k4]; rfl
  subst hsT;obtain⟨c,hv0',hc1,hc2,hc3⟩:∃c,v0 = .slice (some ⟨b,0,none⟩) xs.length c/\xs.length<=c/\c<=maxLen/\cur.size=c*1:=by
   cases hv0 with|bsl _ _ _ _ _ _ hb _ =>
   obtain⟨c,cur',e',q1,q2,q3,q4,q5⟩:=hb b 1 k1;rw[k2] at q4;injection q4 with q4
   injection q4 with q4 _
   subst q4;exact⟨c,v_ q1,q2,q3,v_ q5⟩
  subst hv0';simp only at k5 k6;unfold maxLen at hc2;have h1c:=s7 k6 h1;have hct:cur.toList.length=cur.size:=by simp
  have hvb:vb≠b:=λe=>hTY (hs.inj T Y b 1 1 k1 (e▸y1));have hfin:∀(W:World) (b':Nat) (cc:Nat) (R:List Value) (el':TypeId),(∀k,k<i*1->R[k]?=cur[k]?)->(∀j,j<1->R[i*1+j]?=vl[j]?)->(∀k,i*1<=k->k<xs.length*1->R[k+1]?=cur[k]?)->A03 G w 1 (xs.take i++y::xs.drop i) R.toArray:=λW b' cc R el' q1 q2 q3=>A7G k6 hi hy hyv q1 q2 q3;have hlen':(xs.take i++y::xs.drop i).length=xs.length+1:=by simp; omega
  by_cases hroom:xs.length+1<=c
  ·-- there is room
   have hsa:w.shape? vb=some (eY,curY.size):=(by simp[World.shape?,y2]);have hsb:w.shape? b=some (e,cur.size):=(by simp[World.shape?,k2]);refine (B1k b xs.length c i vb vc cur e vl w hin' hroom o_ hvb hvll k2 o_ (v_ h1c) hvs h1v eY e curY.size cur.size hsa hsb o_ (by simp[World.frozen?,y2]) (by simp[World.frozen?,y2])).mono λex w' ⟨he,q,hw⟩=>?_;subst he;obtain⟨L1,hL1⟩:∃L1,L1=J3 cur.toList (i+1) ((cur.toList.take (xs.length)).drop (i)):=⟨_,rfl⟩;rw[←hL1] at hw;have hcl:((cur.toList.take (xs.length)).drop (i)).length=(xs.length - i):=(by rw[ya,zy,hct]; omega);have hL1l:L1.length=cur.size:=(by rw[hL1,M6 (by rw[hcl,hct]; omega),hct]);have hRl:(J3 L1 (i) vl).length=cur.size:=(by rw[M6 o_,hL1l]);have hcont:A03 G w 1 (xs.take i++y::xs.drop i) (J3 L1 (i) vl).toArray:=by
    refine hfin w b c _ e (λk hk=>?_) (λj hj=>?_) (λk hk1 hk2=>?_)
    ·rw[I3 o_,zj o_,hL1,I3 (by rw[hcl,hct]; omega),zj o_,yx]
    ·rw[I3 o_,zf o_,zj o_];congr 1
     omega
    ·rw[I3 o_,zf o_,zf o_,hL1,I3 (by rw[hcl,hct]; omega),zf o_,zj (by rw[hcl]; omega),yf,zz,zj o_,yx];congr 1
     omega
   have hg1:((w.drewN q).setRow b L1.toArray).heap[b]?=some (.cells L1.toArray e (0,0)):=setRow_heap (w.drewN q) b cur _ e (0,0) k2;have hg2:w'.heap[b]?=some (.cells (J3 L1 (i) vl).toArray e (0,0)):=(by rw[hw]; exact setRow_heap _ b _ _ e (0,0) hg1);have hother:∀k,k≠b->w'.heap[k]?=w.heap[k]?:=λk hk=>by
    rw[hw];exact (setRow_other _ b k _ hk).trans (setRow_other (w.drewN q) b k _ hk)
   obtain⟨r1,r2⟩:=hs.rowed (id:=id) hxT rfl rfl hnT k1 k2 hu (J3 L1 (i) vl).toArray (xs.take i++y::xs.drop i) (by rw[hlen',yo,hRl]; omega) hg2 hother (by rw[hw]; rfl) (by rw[hw]; rfl) (by rw[hw]; rfl) (by rw[hw]; simp[World.drewN]) hcont;refine⟨_,_,rfl,r1,r2,?_,λx hx=>hx.elim (λh=>.inr o_) .inl⟩;refine .bsl id 0 _ _ rfl (.inl rfl) (λb' s' hbm=>?_) λhn'=>(hu (hs.nlu id hn').1).elim;simp only[Gh.rename,C7,zd,zh] at hbm;obtain⟨rfl,rfl⟩:=hbm;exact⟨c,_,e,s_,hroom,by unfold maxLen; omega,hg2,by rw[yo,hRl]; omega⟩
  ·-- a new row
   refine (B3z b xs.length c i vb vc cur e vl w hin' hc1 o_ o_ hvll k2 o_ (v_ h1c) hvs h1v).mono λex w' ⟨he,q,ROW,hRl,hRt,hw⟩=>?_;subst he;have hG1:=grownCap_ge w (xs.length+1) c 3;have hG2:=grownCap_le_maxLen w (xs.length+1) c 3 (by unfold maxLen; omega);generalize grownCap w (xs.length+1) c 3=g at hRl hG1 hG2 hw;obtain⟨R1,hR1⟩:∃R1,R1=J3 ROW (i) vl:=⟨_,rfl⟩;rw[←hR1] at hw;have hcl:((cur.toList.take (xs.length)).drop (i)).length=(xs.length - i):=(by rw[ya,zy,hct]; omega);have hR1l:R1.length=g*1:=(by rw[hR1,M6 o_,hRl]);obtain⟨R2,hR2⟩:∃R2,R2=J3 R1 (i+1) ((cur.toList.take (xs.length)).drop (i)):=⟨_,rfl⟩;rw[←hR2] at hw;have hR2l:R2.length=g*1:=(by rw[hR2,M6 (by rw[hcl]; omega),hR1l]);have hcont:A03 G w 1 (xs.take i++y::xs.drop i) R2.toArray:=by
    refine hfin w b c _ e (λk hk=>?_) (λj hj=>?_) (λk hk1 hk2=>?_)
    ·rw[hR2,I3 (by rw[hcl]; omega),zj o_,hR1,I3 o_,zj o_];have:=congrArg (λl=>l[k]?) hRt;simp only[zz] at this;rw[zj o_,zj o_] at this;rw[this,yx]
    ·rw[hR2,I3 (by rw[hcl]; omega),zj o_,hR1,I3 o_,zf o_,zj o_];congr 1
     omega
    ·rw[hR2,I3 (by rw[hcl]; omega),zf o_,zj (by rw[hcl]; omega),yf,zz,zj o_,yx];congr 1
     omega
   have hN0:((w.drewN q).alloc (.cells ROW.toArray 3)).heap[w.heap.size]?=some (.cells ROW.toArray 3 (0,0)):=heap_alloc_new (w.drewN q) _;have hN1:(((w.drewN q).alloc (.cells ROW.toArray 3)).setRow w.heap.size R1.toArray).heap[w.heap.size]?=some (.cells R1.toArray 3 (0,0)):=setRow_heap _ _ _ _ _ (0,0) hN0;have hN2:w'.heap[w.heap.size]?=some (.cells R2.toArray 3 (0,0)):=(by rw[hw]; exact setRow_heap _ _ _ _ _ (0,0) hN1);have hother:∀k,k<w.heap.size->w'.heap[k]?=w.heap[k]?:=λk hk=>by
    rw[hw];exact ((setRow_other _ _ k _ o_).trans (setRow_other _ _ k _ o_)).trans (Below.heap_alloc (w.drewN q) _ k hk)
   obtain⟨r1,r2⟩:=hs.rehomed (id:=id) hxT hnT k1 hu R2.toArray 3 (xs.take i++y::xs.drop i) (by rw[hlen',yo,hR2l]; omega) hN2 hother (by rw[hw]; rfl) (by rw[hw]; rfl) (by rw[hw]; rfl) (by rw[hw]; simp[World.drewN]) hcont;refine⟨_,_,rfl,r1,r2,?_,λx hx=>hx.elim (λh=>.inr o_) .inl⟩;refine .bsl id 0 _ _ rfl (.inl rfl) (λb' s' hbm=>?_) λhn'=>(hu (hs.nlu id hn').1).elim;simp only[Gh.rename,C7,zd,zh] at hbm;obtain⟨rfl,rfl⟩:=hbm;exact⟨g,_,3,s_,hG1,hG2,hN2,by rw[yo,hR2l]; omega⟩
def B1m(xs:List AV)(y:AV)(T Y i:Nat)(id:Nat)(hi:i<=xs.length)(hTY:T≠Y)(hTid:T<id\/id+1024<=T)(hbig:xs.length<=1000000)(h1:∀x∈xs,x.cells.all AV.one=true)(hy:y.cells.length=3)(hy1:y.cells.all AV.one=true):
  A2 prog 260 [.bsl T 0 xs.length,.int .i64 i,.bsl Y 0 1] [(T,⟨xs,zT,false,false⟩),(Y,⟨[y],zT,false,false⟩)] id (.bsl id 0 (xs.length+1)) [(T,none),(id,some ⟨xs.take i++y::xs.drop i,zT,false,false⟩)]:=by
 refine⟨⟨_,func260,k_,k_⟩,λC G bx w vs nb hs hv hh hnb hid=>?_⟩;have hxT:=hh (T,⟨xs,zT,false,false⟩) s_;have hxY:=hh (Y,⟨[y],zT,false,false⟩) s_;simp only at hxT hxY;have hu:¬G.used id:=hid id (zx _) o_;obtain⟨hl,hvv⟩:=hv;obtain⟨v0,v1,v2,rfl⟩:∃v0 v1 v2,vs = #[v0,v1,v2]:=by
  match vs,hl with
  | ⟨[a,b,c]⟩,_=>exact⟨a,b,c,rfl⟩
 have hv0:RV G w (.bsl T 0 xs.length) v0:=hvv 0 _ rfl;have hv1:RV G w (.int .i64 i) v1:=hvv 1 _ rfl;have hv2:RV G w (.bsl Y 0 1) v2:=hvv 2 _ rfl;obtain rfl:=A6c hv1;have hnY:¬G.nl Y:=hs.lies hxY (i:=0) (y:=y) rfl;obtain⟨vb,sY,curY,eY,y1,y2,y3,⟨y4,y5⟩,y6,y7,y8⟩:=hs.box Y _ hxY hnY;have hsY:sY=3:=by
  have:=(y6 0 y rfl).1;omega
 subst hsY;obtain⟨vc,curY',eY',hv2',hvc1,hvc2,hvc3,hvc4⟩:∃c cur e,v2 = .slice (some ⟨vb,0,none⟩) 1 c/\1<=c/\c<=maxLen/\w.heap[vb]?=some (.cells cur e (0,0))/\cur.size=(0+c)*3:=by
  cases hv2 with|bsl _ _ _ _ _ _ hb _ =>
  obtain⟨c,cur,e,q1,q2,q3,q4,q5⟩:=hb vb 3 y1;exact⟨c,cur,e,v_ q1,q2,q3,q4,q5⟩
 have hv2o:=hv2;subst hv2';obtain⟨vl,hvl⟩:∃vl,vl=curY.toList.take 3:=⟨_,rfl⟩;have hszY:3<=curY.size:=by simpa using y5
 have hvll:vl.length=3:=by rw[hvl,zy,yz]; omega
 have hvs:∀j v,vl[j]?=some v->w.cell? ⟨vb,j,none⟩=some v:=λj v hj=>by
  rw[hvl,zz] at hj;split at hj
  ·exact (E4 y2).trans (v_ hj)
  ·cases hj
 have h1v:∀v∈vl,v.oneCell'=true:=by
  have:=s7 y6 (h1:=λx hx=>by simp at hx; subst hx; exact hy1);rw[hvl];simpa using this
 have hyv:∀(j:Nat) z,y.cells[j]?=some z->∃u,vl[j]?=some u/\RV G w z u:=λj z hz=>by
  obtain⟨u,q1,q2⟩:=(y6 0 y rfl).2 j z hz;refine⟨u,?_,q2⟩;have hj:j<3:=by rw[←hy]; exact (ze.1 hz).1
  rw[hvl,zz,zj hj];simpa using q1
 by_cases hin:i=xs.length
 ·-- at the end: an append
  subst hin;obtain⟨i0,hi0,hz0,hzs,hzb⟩:=info_parts (P:=prog) (e:=66) (z:=.agg #[.int .i64 0,.int .i64 0,.slice none 0 0]) (size:=3) (bytes:=40) k_;have hap:=A6D (P:=prog) hs hu hv0 hv2o (ys:=[y]) (by simp[elems,hxY]) (d:=zT) (s:=3) (bytes:=40) (v_ hy) (λz hz c hc=>by simp at hz; subst hz; exact xe.1 hy1 c hc) (r:=.bsl id 0 (xs.length+1)) (rd:=[(T,⟨xs,zT,false,false⟩)]) (wr:=[(T,none),(id,some ⟨xs++[y],zT,false,false⟩)])
   (by simp[A72,hxT,Bx.sz]) (by simp[zT]) (t:=27) (tx:=27) (ty:=27) (e:=66) (i:=i0) (z:=.agg #[.int .i64 0,.int .i64 0,.slice none 0 0]) (.inr ⟨λt h=>(by cases h),66,underlying27⟩) underlying27 hi0 hz0 (by rfl) hzs hzb
   (λn hn=>by simp[A1N,hxT] at hn; subst hn; constructor<;>(simp; omega))
  obtain⟨v,w1,G',hrun,r1,r2,r3,r4⟩:=hap;have hform:∃A c,v0 = .slice A xs.length c/\xs.length<=c/\c<=maxLen/\(A=none->c=0):=by
   by_cases hn:G.nl T
   ·have hx0:=(hs.nil T _ hxT hn).1;simp only at hx0;cases hv0 with|bsl _ _ _ _ _ _ _ hnl =>
    obtain⟨q1,_,q3⟩:=hnl hn;exact⟨none,0,by rw[q1,q3],o_,by simp[maxLen],λ_=>rfl⟩
   ·obtain⟨b,s,cur,e,k1,_⟩:=hs.box T _ hxT hn;cases hv0 with|bsl _ _ _ _ _ _ hb _ =>
    obtain⟨c,_,_,q1,q2,q3,_⟩:=hb b s k1;exact⟨_,c,q1,q2,q3,λh=>by cases h⟩
  obtain⟨A,c,rfl,q2,q3,q4⟩:=hform;refine (B1l A xs.length c vb vc w w1 v q2 (by unfold maxLen at q3; omega) q4 (λty=>hrun)).mono λe w' ⟨he,hw⟩=>?_;subst he hw;refine⟨v,G',rfl,?_,r2,r3,λx hx=>(r4 x hx).imp _root_.id λh=>o_⟩;simpa using r1
 ·have hin':i<xs.length:=by omega
  have hnT:¬G.nl T:=λhn=>by have:=(hs.nil T _ hxT hn).1; simp only at this; rw[this] at hin'; simp at hin'
  obtain⟨b,sT,cur,e,k1,k2,k3,⟨k4,k5⟩,k6,k7,k8⟩:=hs.box T _ hxT hnT;have hsT:sT=3:=by rw[←k4]; rfl
  subst hsT;obtain⟨c,hv0',hc1,hc2,hc3⟩:∃c,v0 = .slice (some ⟨b,0,none⟩) xs.length c/\xs.length<=c/\c<=maxLen/\cur.size=c*3:=by
   cases hv0 with|bsl _ _ _ _ _ _ hb _ =>
   obtain⟨c,cur',e',q1,q2,q3,q4,q5⟩:=hb b 3 k1;rw[k2] at q4;injection q4 with q4
   injection q4 with q4 _
   subst q4;exact⟨c,v_ q1,q2,q3,v_ q5⟩
  subst hv0';simp only at k5 k6;unfold maxLen at hc2;have h1c:=s7 k6 h1;have hct:cur.toList.length=cur.size:=by simp
  have hvb:vb≠b:=λe=>hTY (hs.inj T Y b 3 3 k1 (e▸y1));have hfin:∀(W:World) (b':Nat) (cc:Nat) (R:List Value) (el':TypeId),(∀k,k<i*3->R[k]?=cur[k]?)->(∀j,j<3->R[i*3+j]?=vl[j]?)->(∀k,i*3<=k->k<xs.length*3->R[k+3]?=cur[k]?)->A03 G w 3 (xs.take i++y::xs.drop i) R.toArray:=λW b' cc R el' q1 q2 q3=>A7G k6 hi hy hyv q1 q2 q3;have hlen':(xs.take i++y::xs.drop i).length=xs.length+1:=by simp; omega
  by_cases hroom:xs.length+1<=c
  ·-- there is room
   have hsa:w.shape? vb=some (eY,curY.size):=(by simp[World.shape?,y2]);have hsb:w.shape? b=some (e,cur.size):=(by simp[World.shape?,k2]);refine (A8r b xs.length c i vb vc cur e vl w hin' hroom o_ hvb hvll k2 o_ (v_ h1c) hvs h1v eY e curY.size cur.size hsa hsb o_ (by simp[World.frozen?,y2]) (by simp[World.frozen?,y2])).mono λex w' ⟨he,q,hw⟩=>?_;subst he;obtain⟨L1,hL1⟩:∃L1,L1=J3 cur.toList ((i+1)*3) ((cur.toList.take (xs.length*3)).drop (i*3)):=⟨_,rfl⟩;rw[←hL1] at hw;have hcl:((cur.toList.take (xs.length*3)).drop (i*3)).length=(xs.length - i)*3:=(by rw[ya,zy,hct]; omega);have hL1l:L1.length=cur.size:=(by rw[hL1,M6 (by rw[hcl,hct]; omega),hct]);have hRl:(J3 L1 (i*3) vl).length=cur.size:=(by rw[M6 o_,hL1l]);have hcont:A03 G w 3 (xs.take i++y::xs.drop i) (J3 L1 (i*3) vl).toArray:=by
    refine hfin w b c _ e (λk hk=>?_) (λj hj=>?_) (λk hk1 hk2=>?_)
    ·rw[I3 o_,zj o_,hL1,I3 (by rw[hcl,hct]; omega),zj o_,yx]
    ·rw[I3 o_,zf o_,zj o_];congr 1
     omega
    ·rw[I3 o_,zf o_,zf o_,hL1,I3 (by rw[hcl,hct]; omega),zf o_,zj (by rw[hcl]; omega),yf,zz,zj o_,yx];congr 1
     omega
   have hg1:((w.drewN q).setRow b L1.toArray).heap[b]?=some (.cells L1.toArray e (0,0)):=setRow_heap (w.drewN q) b cur _ e (0,0) k2;have hg2:w'.heap[b]?=some (.cells (J3 L1 (i*3) vl).toArray e (0,0)):=(by rw[hw]; exact setRow_heap _ b _ _ e (0,0) hg1);have hother:∀k,k≠b->w'.heap[k]?=w.heap[k]?:=λk hk=>by
    rw[hw];exact (setRow_other _ b k _ hk).trans (setRow_other (w.drewN q) b k _ hk)
   obtain⟨r1,r2⟩:=hs.rowed (id:=id) hxT rfl rfl hnT k1 k2 hu (J3 L1 (i*3) vl).toArray (xs.take i++y::xs.drop i) (by rw[hlen',yo,hRl]; omega) hg2 hother (by rw[hw]; rfl) (by rw[hw]; rfl) (by rw[hw]; rfl) (by rw[hw]; simp[World.drewN]) hcont;refine⟨_,_,rfl,r1,r2,?_,λx hx=>hx.elim (λh=>.inr o_) .inl⟩;refine .bsl id 0 _ _ rfl (.inl rfl) (λb' s' hbm=>?_) λhn'=>(hu (hs.nlu id hn').1).elim;simp only[Gh.rename,C7,zd,zh] at hbm;obtain⟨rfl,rfl⟩:=hbm;exact⟨c,_,e,s_,hroom,by unfold maxLen; omega,hg2,by rw[yo,hRl]; omega⟩
  ·-- a new row
   refine (A9k b xs.length c i vb vc cur e vl w hin' hc1 o_ o_ hvll k2 o_ (v_ h1c) hvs h1v).mono λex w' ⟨he,q,ROW,hRl,hRt,hw⟩=>?_;subst he;have hG1:=grownCap_ge w (xs.length+1) c 66;have hG2:=grownCap_le_maxLen w (xs.length+1) c 66 (by unfold maxLen; omega);generalize grownCap w (xs.length+1) c 66=g at hRl hG1 hG2 hw;obtain⟨R1,hR1⟩:∃R1,R1=J3 ROW (i*3) vl:=⟨_,rfl⟩;rw[←hR1] at hw;have hcl:((cur.toList.take (xs.length*3)).drop (i*3)).length=(xs.length - i)*3:=(by rw[ya,zy,hct]; omega);have hR1l:R1.length=g*3:=(by rw[hR1,M6 o_,hRl]);obtain⟨R2,hR2⟩:∃R2,R2=J3 R1 ((i+1)*3) ((cur.toList.take (xs.length*3)).drop (i*3)):=⟨_,rfl⟩;rw[←hR2] at hw;have hR2l:R2.length=g*3:=(by rw[hR2,M6 (by rw[hcl]; omega),hR1l]);have hcont:A03 G w 3 (xs.take i++y::xs.drop i) R2.toArray:=by
    refine hfin w b c _ e (λk hk=>?_) (λj hj=>?_) (λk hk1 hk2=>?_)
    ·rw[hR2,I3 (by rw[hcl]; omega),zj o_,hR1,I3 o_,zj o_];have:=congrArg (λl=>l[k]?) hRt;simp only[zz] at this;rw[zj o_,zj o_] at this;rw[this,yx]
    ·rw[hR2,I3 (by rw[hcl]; omega),zj o_,hR1,I3 o_,zf o_,zj o_];congr 1
     omega
    ·rw[hR2,I3 (by rw[hcl]; omega),zf o_,zj (by rw[hcl]; omega),yf,zz,zj o_,yx];congr 1
     omega
   have hN0:((w.drewN q).alloc (.cells ROW.toArray 66)).heap[w.heap.size]?=some (.cells ROW.toArray 66 (0,0)):=heap_alloc_new (w.drewN q) _;have hN1:(((w.drewN q).alloc (.cells ROW.toArray 66)).setRow w.heap.size R1.toArray).heap[w.heap.size]?=some (.cells R1.toArray 66 (0,0)):=setRow_heap _ _ _ _ _ (0,0) hN0;have hN2:w'.heap[w.heap.size]?=some (.cells R2.toArray 66 (0,0)):=(by rw[hw]; exact setRow_heap _ _ _ _ _ (0,0) hN1);have hother:∀k,k<w.heap.size->w'.heap[k]?=w.heap[k]?:=λk hk=>by
    rw[hw];exact ((setRow_other _ _ k _ o_).trans (setRow_other _ _ k _ o_)).trans (Below.heap_alloc (w.drewN q) _ k hk)
   obtain⟨r1,r2⟩:=hs.rehomed (id:=id) hxT hnT k1 hu R2.toArray 66 (xs.take i++y::xs.drop i) (by rw[hlen',yo,hR2l]; omega) hN2 hother (by rw[hw]; rfl) (by rw[hw]; rfl) (by rw[hw]; rfl) (by rw[hw]; simp[World.drewN]) hcont;refine⟨_,_,rfl,r1,r2,?_,λx hx=>hx.elim (λh=>.inr o_) .inl⟩;refine .bsl id 0 _ _ rfl (.inl rfl) (λb' s' hbm=>?_) λhn'=>(hu (hs.nlu id hn').1).elim;simp only[Gh.rename,C7,zd,zh] at hbm;obtain⟨rfl,rfl⟩:=hbm;exact⟨g,_,66,s_,hG1,hG2,hN2,by rw[yo,hR2l]; omega⟩
def B5f(xs:List AV)(T i:Nat)(id:Nat)(hi:i<xs.length)(hbig:xs.length<=1000000)(h1:∀x∈xs,x.cells.all AV.one=true):
  A2 prog 300 [.bsl T 0 xs.length,.int .i64 i,.int .i64 ((i:Int)+1)] [(T,⟨xs,.int .i64 0,false,false⟩)] id (.bsl id 0 (xs.length - 1)) [(T,none),(id,some ⟨xs.take i++xs.drop (i+1),.int .i64 0,false,false⟩)]:=by
 refine⟨⟨_,func300,k_,k_⟩,λC G bx w vs nb hs hv hh hnb hid=>?_⟩;have hxT:=hh (T,⟨xs,.int .i64 0,false,false⟩) s_;simp only at hxT;have hu:¬G.used id:=hid id (zx _) o_;obtain⟨hl,hvv⟩:=hv;obtain⟨v0,v1,v2,rfl⟩:∃v0 v1 v2,vs = #[v0,v1,v2]:=by
  match vs,hl with
  | ⟨[a,b,c]⟩,_=>exact⟨a,b,c,rfl⟩
 have hv0:RV G w (.bsl T 0 xs.length) v0:=hvv 0 _ rfl;have hv1:RV G w (.int .i64 i) v1:=hvv 1 _ rfl;have hv2:RV G w (.int .i64 ((i:Int)+1)) v2:=hvv 2 _ rfl;obtain rfl:=A6c hv1;obtain rfl:=A6c hv2;have hnT:¬G.nl T:=λhn=>by have:=(hs.nil T _ hxT hn).1; simp only at this; rw[this] at hi; simp at hi
 obtain⟨b,sT,cur,e,k1,k2,k3,⟨k4,k5⟩,k6,k7,k8⟩:=hs.box T _ hxT hnT;have hsT:sT=1:=by rw[←k4]; rfl
 subst hsT;obtain⟨c,hv0',hc1,hc2,hc3⟩:∃c,v0 = .slice (some ⟨b,0,none⟩) xs.length c/\xs.length<=c/\c<=maxLen/\cur.size=c*1:=by
  cases hv0 with|bsl _ _ _ _ _ _ hb _ =>
  obtain⟨c,cur',e',q1,q2,q3,q4,q5⟩:=hb b 1 k1;rw[k2] at q4;injection q4 with q4
  injection q4 with q4 _
  subst q4;exact⟨c,v_ q1,q2,q3,v_ q5⟩
 subst hv0';simp only at k5 k6;unfold maxLen at hc2;have h1c:=s7 k6 h1;have hct:cur.toList.length=cur.size:=by simp
 refine (C4E b xs.length c i cur e w hi hc1 o_ k2 o_ (v_ h1c)).mono λex w' ⟨he,q,hw⟩=>?_;subst he;obtain⟨L1,hL1⟩:∃L1,L1=J3 cur.toList (i) ((cur.toList.take (xs.length)).drop (i+1)):=⟨_,rfl⟩;rw[←hL1] at hw;obtain⟨zs,hzs⟩:∃zs,zs=(Builtin.zeroCells (Value.cells (.int .i64 0)) 1).toList:=⟨_,rfl⟩;rw[←hzs] at hw;have hzl:zs.length=1:=by rw[hzs,yz,size_zeroCells]<;>rfl
 have hcl:((cur.toList.take (xs.length)).drop (i+1)).length=(xs.length - (i+1)):=by rw[ya,zy,hct]; omega
 have hL1l:L1.length=cur.size:=by rw[hL1,M6 (by rw[hcl,hct]; omega),hct]
 have hRl:(J3 L1 (i+(xs.length - (i+1))) zs).length=cur.size:=by rw[M6 o_,hL1l]
 have hlen':(xs.take i++xs.drop (i+1)).length=xs.length - 1:=by simp; omega
 have hcont:A03 G w 1 (xs.take i++xs.drop (i+1)) (J3 L1 (i+(xs.length - (i+1))) zs).toArray:=by
  refine A8s k6 hi (λk hk=>?_) (λk hk1 hk2=>?_)
  ·rw[I3 o_,zj o_,hL1,I3 (by rw[hcl,hct]; omega),zj o_,yx]
  ·rw[I3 o_,zj o_,hL1,I3 (by rw[hcl,hct]; omega),zf o_,zj (by rw[hcl]; omega),yf,zz,zj o_,yx];congr 1
   omega
 have hg1:((w.drewN q).setRow b L1.toArray).heap[b]?=some (.cells L1.toArray e (0,0)):=setRow_heap (w.drewN q) b cur _ e (0,0) k2;have hg2:w'.heap[b]?=some (.cells (J3 L1 (i+(xs.length - (i+1))) zs).toArray e (0,0)):=by rw[hw]; exact setRow_heap _ b _ _ e (0,0) hg1
 have hother:∀k,k≠b->w'.heap[k]?=w.heap[k]?:=λk hk=>by
  rw[hw];exact (setRow_other _ b k _ hk).trans (setRow_other (w.drewN q) b k _ hk)
 obtain⟨r1,r2⟩:=hs.rowed (id:=id) hxT rfl rfl hnT k1 k2 hu (J3 L1 (i+(xs.length - (i+1))) zs).toArray (xs.take i++xs.drop (i+1)) (by rw[hlen',yo,hRl]; omega) hg2 hother (by rw[hw]; rfl) (by rw[hw]; rfl) (by rw[hw]; rfl) (by rw[hw]; simp[World.drewN]) hcont;have hM:i+(xs.length - (i+1))=xs.length - 1:=by omega
 rw[hM];refine⟨_,_,rfl,r1,r2,?_,λx hx=>hx.elim (λh=>.inr o_) .inl⟩;refine .bsl id 0 _ _ rfl (.inl rfl) (λb' s' hbm=>?_) λhn'=>(hu (hs.nlu id hn').1).elim;simp only[Gh.rename,C7,zd,zh] at hbm;obtain⟨rfl,rfl⟩:=hbm;exact⟨c,_,e,s_,o_,by unfold maxLen; omega,hg2,by rw[yo,hRl]; omega⟩
def B1n(xs:List AV)(T i:Nat)(id:Nat)(hi:i<xs.length)(hbig:xs.length<=1000000)(h1:∀x∈xs,x.cells.all AV.one=true):
  A2 prog 262 [.bsl T 0 xs.length,.int .i64 i,.int .i64 ((i:Int)+1)] [(T,⟨xs,zT,false,false⟩)] id (.bsl id 0 (xs.length - 1)) [(T,none),(id,some ⟨xs.take i++xs.drop (i+1),zT,false,false⟩)]:=by
 refine⟨⟨_,func262,k_,k_⟩,λC G bx w vs nb hs hv hh hnb hid=>?_⟩;have hxT:=hh (T,⟨xs,zT,false,false⟩) s_;simp only at hxT;have hu:¬G.used id:=hid id (zx _) o_;obtain⟨hl,hvv⟩:=hv;obtain⟨v0,v1,v2,rfl⟩:∃v0 v1 v2,vs = #[v0,v1,v2]:=by
  match vs,hl with
  | ⟨[a,b,c]⟩,_=>exact⟨a,b,c,rfl⟩
 have hv0:RV G w (.bsl T 0 xs.length) v0:=hvv 0 _ rfl;have hv1:RV G w (.int .i64 i) v1:=hvv 1 _ rfl;have hv2:RV G w (.int .i64 ((i:Int)+1)) v2:=hvv 2 _ rfl;obtain rfl:=A6c hv1;obtain rfl:=A6c hv2;have hnT:¬G.nl T:=λhn=>by have:=(hs.nil T _ hxT hn).1; simp only at this; rw[this] at hi; simp at hi
 obtain⟨b,sT,cur,e,k1,k2,k3,⟨k4,k5⟩,k6,k7,k8⟩:=hs.box T _ hxT hnT;have hsT:sT=3:=by rw[←k4]; rfl
 subst hsT;obtain⟨c,hv0',hc1,hc2,hc3⟩:∃c,v0 = .slice (some ⟨b,0,none⟩) xs.length c/\xs.length<=c/\c<=maxLen/\cur.size=c*3:=by
  cases hv0 with|bsl _ _ _ _ _ _ hb _ =>
  obtain⟨c,cur',e',q1,q2,q3,q4,q5⟩:=hb b 3 k1;rw[k2] at q4;injection q4 with q4
  injection q4 with q4 _
  subst q4;exact⟨c,v_ q1,q2,q3,v_ q5⟩
 subst hv0';simp only at k5 k6;unfold maxLen at hc2;have h1c:=s7 k6 h1;have hct:cur.toList.length=cur.size:=by simp
 refine (B8j b xs.length c i cur e w hi hc1 o_ k2 o_ (v_ h1c)).mono λex w' ⟨he,q,hw⟩=>?_;subst he;obtain⟨L1,hL1⟩:∃L1,L1=J3 cur.toList (i*3) ((cur.toList.take (xs.length*3)).drop ((i+1)*3)):=⟨_,rfl⟩;rw[←hL1] at hw;obtain⟨zs,hzs⟩:∃zs,zs=(Builtin.zeroCells (Value.cells (.agg #[.int .i64 0,.int .i64 0,.slice none 0 0])) 1).toList:=⟨_,rfl⟩;rw[←hzs] at hw;have hzl:zs.length=3:=by rw[hzs,yz,size_zeroCells]<;>rfl
 have hcl:((cur.toList.take (xs.length*3)).drop ((i+1)*3)).length=(xs.length - (i+1))*3:=by rw[ya,zy,hct]; omega
 have hL1l:L1.length=cur.size:=by rw[hL1,M6 (by rw[hcl,hct]; omega),hct]
 have hRl:(J3 L1 ((i+(xs.length - (i+1)))*3) zs).length=cur.size:=by rw[M6 o_,hL1l]
 have hlen':(xs.take i++xs.drop (i+1)).length=xs.length - 1:=by simp; omega
 have hcont:A03 G w 3 (xs.take i++xs.drop (i+1)) (J3 L1 ((i+(xs.length - (i+1)))*3) zs).toArray:=by
  refine A8s k6 hi (λk hk=>?_) (λk hk1 hk2=>?_)
  ·rw[I3 o_,zj o_,hL1,I3 (by rw[hcl,hct]; omega),zj o_,yx]
  ·rw[I3 o_,zj o_,hL1,I3 (by rw[hcl,hct]; omega),zf o_,zj (by rw[hcl]; omega),yf,zz,zj o_,yx];congr 1
   omega
 have hg1:((w.drewN q).setRow b L1.toArray).heap[b]?=some (.cells L1.toArray e (0,0)):=setRow_heap (w.drewN q) b cur _ e (0,0) k2;have hg2:w'.heap[b]?=some (.cells (J3 L1 ((i+(xs.length - (i+1)))*3) zs).toArray e (0,0)):=by rw[hw]; exact setRow_heap _ b _ _ e (0,0) hg1
 have hother:∀k,k≠b->w'.heap[k]?=w.heap[k]?:=λk hk=>by
  rw[hw];exact (setRow_other _ b k _ hk).trans (setRow_other (w.drewN q) b k _ hk)
 obtain⟨r1,r2⟩:=hs.rowed (id:=id) hxT rfl rfl hnT k1 k2 hu (J3 L1 ((i+(xs.length - (i+1)))*3) zs).toArray (xs.take i++xs.drop (i+1)) (by rw[hlen',yo,hRl]; omega) hg2 hother (by rw[hw]; rfl) (by rw[hw]; rfl) (by rw[hw]; rfl) (by rw[hw]; simp[World.drewN]) hcont;have hM:i+(xs.length - (i+1))=xs.length - 1:=by omega
 rw[hM];refine⟨_,_,rfl,r1,r2,?_,λx hx=>hx.elim (λh=>.inr o_) .inl⟩;refine .bsl id 0 _ _ rfl (.inl rfl) (λb' s' hbm=>?_) λhn'=>(hu (hs.nlu id hn').1).elim;simp only[Gh.rename,C7,zd,zh] at hbm;obtain⟨rfl,rfl⟩:=hbm;exact⟨c,_,e,s_,o_,by unfold maxLen; omega,hg2,by rw[yo,hRl]; omega⟩
def L9(k:Int)(f:Fd):Bool:=if k=3 then decide (f.kind=1) else if k=4 then decide (f.kind=2) else j0 f.kind
def x7(ty:Ty)(e:Ev)(c:Nat):AV:=if e.field<0 then .tup [.agg [.str [],.int .i64 0,.str []],.nilp,.int .i64 5] else match ty.fields[e.field.toNat]? with
 | none=>.tup [.agg [.str [],.int .i64 0,.str []],.nilp,.int .i64 5]
 | some f=>if L9 e.kind f=true then .tup [U8 f,.ptr c e.field.toNat 0,.int .i64 0] else .tup [U8 f,.nilp,.int .i64 7]
def S5(l:List Ty)(th:AV)(e:Ev)(i:Int):Bx:=⟨[eD l th e i],eD [] .nils ⟨0,0,0,0,0,[]⟩ 0,false,false⟩
def A6d(l:List Ty)(S:List I0)(e:Ev)(i:Nat)(o:I0)(ty:Ty)(D T:Nat)(id:Nat)(hty:l[e.type.toNat]?=some ty)(h0:0<=e.type)(ho:S[i]?=some o)(hlen:o.t.cells.length=ty.fields.length)(his:o.is.length=o.t.cells.length)(hl8:ty.fields.length<=1000)(d1:D≠T)(d2:D≠o.c)(d3:T≠o.c):
  A2 prog 297 [.ptr D 0 0] [(D,S5 l (.bsl T 0 S.length) e i),(T,P9 S),(o.c,cBn o)] id (x7 ty e o.c) []:=by
 unfold P9 S5 cBn eD;generalize hoc:o.c=c at *;refine w297.b.1 λE hP hR hl hid hB hu=>?_;simp[w297];have hD:=hl (D,_) (za ..);simp only at hD;have D1:=lf hD;have hT:=hl (T,_) (zb _ (za ..));simp only at hT;have T1:=lf hT;have hc:=hl (c,_) (zb _ (zb _ (za ..)));simp only at hc;have c1:=lf hc;have hTn:∀x∈S.map W9,B2 E.G0.used x:=C1 hB (zb _ (za ..));have hCn:∀x∈List.zipWith P6 o.t.cells o.is,B2 E.G0.used x:=C1 hB (zb _ (zb _ (za ..)));try simp[D1,hty,h0,I9]
 have hiS:i<S.length:=(ze.1 ho).1;have htl:e.type<l.length:=by have:=(ze.1 hty).1; omega
 refine⟨htl,?_⟩;have hw:IntKind.i64.wrap ((ty.fields.length:Int) - 1)=(ty.fields.length:Int) - 1:=wrap64 o_;rw[hw];(refine E5 hP rfl (H1 _ _ _ _) s_ f_ ?_; refine A3 4000 ?_; simp);refine D0 (λh=>?_) (λh=>?_)<;>simp[D1]
 ·have hr:x7 ty e c = .tup [.agg [.str [],.int .i64 0,.str []],.nilp,.int .i64 5]:=by
   unfold x7;split
   ·rfl
   ·rename_i h5;rw[wu (by simp at h; omega)]
  rw[hr] at hR;refine yE hR [] s_ λhrn=>⟨?_,?_,?_,?_,?_,?_⟩<;>(try simp[D1,T1,c1,d1,d1.symm,d2,d2.symm,d3,d3.symm])
  ·exact⟨by exact yO hu hTn,by exact yO hu hCn⟩
 have h:0<=e.field/\e.field<=ty.fields.length - 1:=by simpa using h
 obtain⟨f,hf⟩:∃f,ty.fields[e.field.toNat]?=some f:=⟨_,zc o_⟩;have hr:x7 ty e c=if L9 e.kind f=true then .tup [U8 f,.ptr c e.field.toNat 0,.int .i64 0] else .tup [U8 f,.nilp,.int .i64 7]:=by
  unfold x7;rw[zf o_,hf]
 simp[hf,U8];refine⟨⟨h.1,o_⟩,?_⟩;(refine E5 hP rfl (A8h _ _) s_ f_ ?_; refine A3 4000 ?_; simp[D1]);refine D0 (λh3=>?_) (λh3=>?_)<;>simp
 ·have k3:e.kind=3:=by simpa using h3
  have kf:L9 e.kind f=decide (f.kind=1):=by unfold L9; rw[zj k3]
  refine D0 (λh5=>?_) (λh5=>?_)<;>simp[D1,T1,d1.symm]
  ·rw[hr,zf (by rw[kf]; simpa using h5)] at hR;refine yE hR [] s_ λhrn=>⟨?_,?_,?_,?_,?_,?_⟩<;>(try simp[U8,D1,T1,c1,d1,d1.symm,d2,d2.symm,d3,d3.symm])
   ·exact⟨by exact yO hu hTn,by exact yO hu hCn⟩
  ·rw[hr,zj (by rw[kf]; simpa using h5)] at hR;simp[ho,W9,D1];refine⟨⟨hiS,rfl⟩,hiS,?_⟩;simp[hoc,hlen,D1,T1,c1,d2.symm,d3.symm];refine⟨⟨h.1,o_,rfl⟩,?_⟩;refine yE hR [] s_ λhrn=>⟨?_,?_,?_,?_,?_,?_⟩<;>(try simp[U8,D1,T1,c1,d1,d1.symm,d2,d2.symm,d3,d3.symm]);exact⟨by exact yO hu hTn,by exact yO hu hCn⟩
 have k3:e.kind≠3:=by simpa using h3
 refine D0 (λh4=>?_) (λh4=>?_)<;>simp
 ·have k4:e.kind=4:=by simpa using h4
  have kf:L9 e.kind f=decide (f.kind=2):=by unfold L9; rw[zf k3,zj k4]
  refine D0 (λh5=>?_) (λh5=>?_)<;>simp[D1,T1,d1.symm]
  ·rw[hr,zf (by rw[kf]; simpa using h5)] at hR;refine yE hR [] s_ λhrn=>⟨?_,?_,?_,?_,?_,?_⟩<;>(try simp[U8,D1,T1,c1,d1,d1.symm,d2,d2.symm,d3,d3.symm])
   ·exact⟨by exact yO hu hTn,by exact yO hu hCn⟩
  ·rw[hr,zj (by rw[kf]; simpa using h5)] at hR;simp[ho,W9,D1];refine⟨⟨hiS,rfl⟩,hiS,?_⟩;simp[hoc,hlen,D1,T1,c1,d2.symm,d3.symm];refine⟨⟨h.1,o_,rfl⟩,?_⟩;refine yE hR [] s_ λhrn=>⟨?_,?_,?_,?_,?_,?_⟩<;>(try simp[U8,D1,T1,c1,d1,d1.symm,d2,d2.symm,d3,d3.symm]);exact⟨by exact yO hu hTn,by exact yO hu hCn⟩
 have k4:e.kind≠4:=by simpa using h4
 have kf:L9 e.kind f=j0 f.kind:=by unfold L9; rw[zf k3,zf k4]
 refine D0 (λh5=>?_) (λh5=>?_)<;>simp[D1,T1,d1.symm]
 ·rw[hr,zf (by rw[kf]; simpa using h5)] at hR;refine yE hR [] s_ λhrn=>⟨?_,?_,?_,?_,?_,?_⟩<;>(try simp[U8,D1,T1,c1,d1,d1.symm,d2,d2.symm,d3,d3.symm])
  ·exact⟨by exact yO hu hTn,by exact yO hu hCn⟩
 ·rw[hr,zj (by rw[kf]; simpa using h5)] at hR;simp[ho,W9,D1];refine⟨⟨hiS,rfl⟩,hiS,?_⟩;simp[hoc,hlen,D1,T1,c1,d2.symm,d3.symm];refine⟨⟨h.1,o_,rfl⟩,?_⟩;refine yE hR [] s_ λhrn=>⟨?_,?_,?_,?_,?_,?_⟩<;>(try simp[U8,D1,T1,c1,d1,d1.symm,d2,d2.symm,d3,d3.symm]);exact⟨by exact yO hu hTn,by exact yO hu hCn⟩
def B6y(c:Cl)(i:Option Nat)(L:List (Nat×Bx))(hL:∀q∈idB c i,q∈L)(hn:i=none->c.ids=[]):Rd L (j7 i c.ids.length) (.sl (c.ids.map eI)):=by
 cases i with
 | none=>rw[hn rfl]; exact .nils
 | some I =>
  refine .bsl I 0 _ (iBx c) _ (hL _ (za ..)) (by simp[iBx]) s_ (λi x y h1 h2=>?_) λi x y j a b h1 h2 h3 h4=>?_
  ·rw[yy] at h1;have:x=y:=by simpa using (show some x=some y from h1.symm.trans h2)
   rw[this]
  ·rw[yy] at h1;have:x=y:=by simpa using (show some x=some y from h1.symm.trans h2)
   subst this;rw[h3] at h4;injection h4 with h4
   subst h4;exact .same _
def A2z(c:Cl)(i:Option Nat)(x:Int)(id:Nat)(hl:c.ids.length<1000000)(hn:i=none->c.ids=[]):A2 prog 299 [j7 i c.ids.length,.int .i64 x] (idB c i) id (.tup [.int .i64 (L2 c.ids x),.bool (V9 c.ids x)]) []:=by
 refine (B8g c.ids x id hl).read rfl rfl λk a b h1 h2=>?_;match k,h1,h2 with
 | 0,h1,h2 =>
  simp only[yn,zd] at h1 h2;subst h1 h2;exact B6y c i _ (λq hq=>hq) hn
 | 1,h1,h2 =>
  simp only[xt,yn,zd] at h1 h2;subst h1 h2;exact .same _
 | k+2,h1,h2=>simp at h1
def A3H:Option Nat->List (Nat×Option Bx)
 | none=>[]
 | some I=>[(I,none)]
def A8u(c:Cl)(i:Option Nat)(y:Int)(Y k:Nat)(id:Nat)(hk:k<=c.ids.length)(hbig:c.ids.length<=1000000)(hn:i=none->c.ids=[])(hY:∀I,i=some I->I≠Y/\(I<id\/id+1024<=I)):
  A2 prog 315 [j7 i c.ids.length,.int .i64 k,.bsl Y 0 1] (idB c i++[(Y,⟨[eI y],.int .i64 0,false,false⟩)]) id (.bsl id 0 (c.ids.length+1)) (A3H i++[(id,some ⟨(c.ids.take k++y::c.ids.drop k).map eI,.int .i64 0,false,false⟩)]):=by
 have hm:(c.ids.take k++y::c.ids.drop k).map eI=(c.ids.map eI).take k++eI y::(c.ids.map eI).drop k:=by simp
 have h1:∀x∈c.ids.map eI,x.cells.all AV.one=true:=λx hx=>by obtain⟨n,_,rfl⟩:=zw.1 hx; rfl
 rw[hm];cases i with
 | some I =>
  obtain⟨q1,q2⟩:=hY I rfl;have:=A8t (c.ids.map eI) (eI y) I Y k id (v_ hk) q1 q2 (v_ hbig) h1 rfl rfl;rw[xf] at this;exact this
 | none =>
  have h0:=hn rfl;rw[h0] at hk ⊢;have hk0:k=0:=by simpa using hk
  subst hk0;refine A2.nil (z:=.int .i64 0) (rd:=[(Y,⟨[eI y],.int .i64 0,false,false⟩)]) (wr:=[(id,some ⟨[eI y],.int .i64 0,false,false⟩)]) (λT hT hid=>?_) (λq hq=>?_) ?_
  ·exact A8t [] (eI y) T Y 0 id (zx _) (hT (Y,_) (za ..)).symm hid s_ (λx hx=>(by cases hx)) rfl rfl
  ·simp only[wj] at hq;subst hq;exact⟨⟨zx _,o_⟩,λb hb x hx=>by injection hb with hb; subst hb; simp only[wj] at hx; subst hx; rfl⟩
  ·exact⟨zx _,o_⟩
def J9{R:Rn}{S:Nat->Prop}{x y:AV}(h:O3 R S x y):∀{l l':List AV} (k:Nat),N8 R S l l'->N8 R S (l.set k x) (l'.set k y)
 | _,_,_,.nil=>.nil
 | _,_,0,.cons _ _ _ _ _ hl=>.cons _ _ _ _ h hl
 | _,_,k+1,.cons _ _ _ _ h0 hl=>.cons _ _ _ _ h0 (J9 h k hl)
def T4(s:H6)(f:Fd)(c:Cl)(n:Int):Int:=if M0 s f n=false then 5 else if V9 c.ids n=true then 6 else if f.kind=3 then 0 else if c.ids.length=6 then 2 else 0
def T9(f:Fd)(c:Cl)(n:Int):List Int:=if f.kind=3 then [n] else c.ids.take (L2 c.ids n)++n::c.ids.drop (L2 c.ids n)
def P7(s:H6)(f:Fd)(c:Cl)(n:Int)(cb k id:Nat)(xs:List AV)(i:Option Nat):List (Nat×Option Bx) :=
 if T4 s f c n≠0 then [] else (if f.kind=3 then [] else A3H i)++[(cb,some ⟨xs.set k (P6 ⟨c.n,c.text,T9 f c n⟩ (some id)),zC,false,false⟩),(id,some ⟨(T9 f c n).map eI,.int .i64 0,false,false⟩)]
def B8k(l:List Ty)(S:List I0)(e:Ev)(i:Int)(f:Fd)(cl:Cl)(I:Nat)(xs:List AV)(k D T c:Nat)(id:Nat)(hx:xs[k]?=some (P6 cl (some I)))(hl5:l.length<=1000)(hS8:S.length<=1000)(hc8:cl.ids.length<=1000)(d1:D≠T)(d2:D≠c)(d3:T≠c)(d4:D≠I)(d5:T≠I)(d6:c≠I):
  A2 prog 298 [.ptr D 0 0,U8 f,.ptr c k 0] [(D,S5 l (.bsl T 0 S.length) e i),(T,P9 S),(c,⟨xs,zC,false,false⟩),(I,iBx cl)] id (.int .i64 (T4 (A6 l S) f cl e.n)) (P7 (A6 l S) f cl e.n c k id xs (some I)):=by
 have hB2:=λid=>A2z cl (some I) e.n id o_ s_;have hF:=λid=>T3 l S T (B8 l f.of) e.n id o_;have hIns:=λY k id=>A8u cl (some I) e.n Y k id;have hth:F2 (S.map I0.t) (B8 l f.of) e.n=M0 (A6 l S) f e.n:=rfl;rw[hth] at hF;have hLk:xs=xs.take k++P6 cl (some I)::xs.drop (k+1):=by
  rw[ze] at hx;obtain⟨h1,h2⟩:=hx;rw[←h2,←xg h1,yu]
 unfold P9 S5 eD idB iBx j7 U8 at *;dsimp only[yw,xq] at hIns hB2;refine w298.b.1 λE hP hR hl hid hB hu=>?_;simp[w298];have hD:=hl (D,_) (za ..);simp only at hD;have D1:=lf hD;have hT:=hl (T,_) (zb _ (za ..));simp only at hT;have T1:=lf hT;have hc:=hl (c,_) (zb _ (zb _ (za ..)));simp only at hc;have c1:=lf hc;have hI:=hl (I,_) (zb _ (zb _ (zb _ (za ..))));simp only at hI;have I1:=lf hI;have hTn:∀x∈S.map W9,B2 E.G0.used x:=C1 hB (zb _ (za ..));have hXn:∀x∈xs,B2 E.G0.used x:=C1 hB (zb _ (zb _ (za ..)));try simp[D1,c1,d2.symm,d3.symm,hx,P6,j7]
 have hkx:k<xs.length:=(ze.1 hx).1;refine⟨hkx,?_⟩;(refine yC rfl (hB2 _) ?_; simp[D1,I1,d4.symm,d5.symm,d6.symm]);(refine yC rfl (o8 l f.of _ o_) ?_; simp[D1,A4K]);(refine yC rfl (hF _) ?_; simp[T1,d1.symm]);have hL:∀R S,O3 R S (U8 f) (U8 f):=λR S=>C0z R S f;refine D0 (λh1=>?_) (λh1=>?_)<;>simp
 ·have hE:T4 (A6 l S) f cl e.n=5:=by unfold T4; rw[zj (v_ h1)]
  have hW:P7 (A6 l S) f cl e.n c k id xs (some I)=[]:=by unfold P7; rw[zj o_]
  rw[hE,hW] at hR;refine yE hR [] s_ λhrn=>⟨?_,?_,?_,?_,?_,?_⟩<;>(try simp[D1,T1,c1,I1,d1,d1.symm,d2,d2.symm,d3,d3.symm,d4,d4.symm,d5,d5.symm,d6,d6.symm]);exact⟨by exact yO hu hTn,by exact yO hu hXn⟩
 have h1:M0 (A6 l S) f e.n=true:=by simpa using h1
 refine D0 (λh2=>?_) (λh2=>?_)<;>simp
 ·have hE:T4 (A6 l S) f cl e.n=6:=by unfold T4; rw[zf (t_ h1),zj (v_ h2)]
  have hW:P7 (A6 l S) f cl e.n c k id xs (some I)=[]:=by unfold P7; rw[zj o_]
  rw[hE,hW] at hR;refine yE hR [] s_ λhrn=>⟨?_,?_,?_,?_,?_,?_⟩<;>(try simp[D1,T1,c1,I1,d1,d1.symm,d2,d2.symm,d3,d3.symm,d4,d4.symm,d5,d5.symm,d6,d6.symm]);exact⟨by exact yO hu hTn,by exact yO hu hXn⟩
 have h2:V9 cl.ids e.n=false:=by simpa using h2
 refine D0 (λh3=>?_) (λh3=>?_)<;>simp[D1,c1,d2.symm,d3.symm]
 ·have h3:f.kind=3:=by simpa using h3
  have hE:T4 (A6 l S) f cl e.n=0:=by unfold T4; rw[zf (t_ h1),zf (t_ h2),zj h3]
  have hW:P7 (A6 l S) f cl e.n c k id xs (some I)=[(c,some ⟨xs.set k (P6 ⟨cl.n,cl.text,[e.n]⟩ (some id)),zC,false,false⟩),(id,some ⟨[eI e.n],.int .i64 0,false,false⟩)]:=by unfold P7 T9; rw[zf o_,zj h3]; simp[h3]
  rw[hE,hW] at hR;refine⟨hkx,⟨hkx,by simp[hx,P6]⟩,?_⟩;simp[hx,P6,j7];refine yE hR [(id,E.n0+56320)] s_ λhrn=>⟨?_,?_,?_,?_,?_,?_⟩<;>(try simp[P6,j7,eI,D1,T1,c1,I1,d1,d1.symm,d2,d2.symm,d3,d3.symm,d4,d4.symm,d5,d5.symm,d6,d6.symm]);exact⟨by exact yO hu hTn,J9 (by simp[I5 hid]) k (by exact yO hu hXn)⟩
 have h3:f.kind≠3:=by simpa using h3
 have hxk:xs[k]'hkx=P6 cl (some I):=by rw[zc hkx] at hx; injection hx
 simp[hxk,hkx,P6,j7,I1,d4.symm,d5.symm,d6.symm];refine D0 (λh4=>?_) (λh4=>?_)<;>simp[c1,d2.symm,d3.symm]
 ·have h4:cl.ids.length=6:=by simp at h4; omega
  have hE:T4 (A6 l S) f cl e.n=2:=by unfold T4; rw[zf (t_ h1),zf (t_ h2),zf h3,zj h4]
  have hW:P7 (A6 l S) f cl e.n c k id xs (some I)=[]:=by unfold P7; rw[zj o_]
  rw[hE,hW] at hR;refine yE hR [] s_ λhrn=>⟨?_,?_,?_,?_,?_,?_⟩<;>(try simp[D1,T1,c1,I1,d1,d1.symm,d2,d2.symm,d3,d3.symm,d4,d4.symm,d5,d5.symm,d6,d6.symm]);exact⟨by exact yO hu hTn,by exact yO hu hXn⟩
 have h4:cl.ids.length≠6:=by simp at h4; omega
 simp[hxk,hkx,P6,j7,D1];have hle:L2 cl.ids e.n<=cl.ids.length:=(B6r _ _ _ (rm _)).2;have hE:T4 (A6 l S) f cl e.n=0:=by unfold T4; rw[zf (t_ h1),zf (t_ h2),zf h3,zf h4]
 have hW:P7 (A6 l S) f cl e.n c k id xs (some I)=[(I,none),(c,some ⟨xs.set k (.agg [.int .i64 cl.n,.str cl.text,.bsl id 0 (cl.ids.length+1)]),zC,false,false⟩),(id,some ⟨(cl.ids.take (L2 cl.ids e.n)++e.n::cl.ids.drop (L2 cl.ids e.n)).map eI,.int .i64 0,false,false⟩)]:=by
  have hll:(cl.ids.take (L2 cl.ids e.n)++e.n::cl.ids.drop (L2 cl.ids e.n)).length=cl.ids.length+1:=by simp; omega
  unfold P7 T9; rw[zf o_,zf h3]; simp only[h3,if_false,A3H,P6,j7,hll]; rfl
 rw[hE,hW] at hR;have hIc:=λ(id:Nat) (hid:I<id\/id+1024<=I)=>hIns (E.n0+68608) (L2 cl.ids e.n) id hle o_ s_ (by intro I' h; cases h; exact⟨o_,hid⟩);have hyp:F8 ((cl.ids.take (L2 cl.ids e.n)++e.n::cl.ids.drop (L2 cl.ids e.n)).map eI)=true:=A1J _;generalize (cl.ids.take (L2 cl.ids e.n)++e.n::cl.ids.drop (L2 cl.ids e.n)).map eI=ys at *;dsimp only[A3H,yw,xq] at hIc;simp only[eI] at hIc;(refine yC rfl (hIc _ o_) ?_; simp[c1,I1,d2.symm,d3.symm,d4.symm,d5.symm,d6,d6.symm]);refine⟨hkx,?_⟩;simp[hxk,hkx,P6];refine yE hR [(id,E.n0+69632)] s_ λhrn=>⟨?_,?_,?_,?_,?_,?_⟩<;>(try simp[D1,T1,c1,I1,d1,d1.symm,d2,d2.symm,d3,d3.symm,d4,d4.symm,d5,d5.symm,d6,d6.symm]);exact⟨by exact yO hu hTn,J9 (by simp[I5 hid]) k (by exact yO hu hXn),B4 rfl hyp⟩
def B8l(l:List Ty)(S:List I0)(e:Ev)(i:Int)(f:Fd)(cl:Cl)(xs:List AV)(k D T c:Nat)(id:Nat)(hx:xs[k]?=some (P6 cl none))(hn:cl.ids=[])(hl5:l.length<=1000)(hS8:S.length<=1000)(hc8:cl.ids.length<=1000)(d1:D≠T)(d2:D≠c)(d3:T≠c):
  A2 prog 298 [.ptr D 0 0,U8 f,.ptr c k 0] [(D,S5 l (.bsl T 0 S.length) e i),(T,P9 S),(c,⟨xs,zC,false,false⟩)] id (.int .i64 (T4 (A6 l S) f cl e.n)) (P7 (A6 l S) f cl e.n c k id xs none):=by
 have hB2:=λid=>A2z cl none e.n id o_ (λ_=>hn);have hF:=λid=>T3 l S T (B8 l f.of) e.n id o_;have hIns:=λY k id=>A8u cl none e.n Y k id;have hth:F2 (S.map I0.t) (B8 l f.of) e.n=M0 (A6 l S) f e.n:=rfl;rw[hth] at hF;have hLk:xs=xs.take k++P6 cl none::xs.drop (k+1):=by
  rw[ze] at hx;obtain⟨h1,h2⟩:=hx;rw[←h2,←xg h1,yu]
 unfold P9 S5 eD idB iBx j7 U8 at *;dsimp only[yw,xq] at hIns hB2;refine w298.b.1 λE hP hR hl hid hB hu=>?_;simp[w298];have hD:=hl (D,_) (za ..);simp only at hD;have D1:=lf hD;have hT:=hl (T,_) (zb _ (za ..));simp only at hT;have T1:=lf hT;have hc:=hl (c,_) (zb _ (zb _ (za ..)));simp only at hc;have c1:=lf hc;have hTn:∀x∈S.map W9,B2 E.G0.used x:=C1 hB (zb _ (za ..));have hXn:∀x∈xs,B2 E.G0.used x:=C1 hB (zb _ (zb _ (za ..)));try simp[D1,c1,d2.symm,d3.symm,hx,P6,j7]
 have hkx:k<xs.length:=(ze.1 hx).1;refine⟨hkx,?_⟩;(refine yC rfl (hB2 _) ?_; simp[D1]);(refine yC rfl (o8 l f.of _ o_) ?_; simp[D1,A4K]);(refine yC rfl (hF _) ?_; simp[T1,d1.symm]);have hL:∀R S,O3 R S (U8 f) (U8 f):=λR S=>C0z R S f;refine D0 (λh1=>?_) (λh1=>?_)<;>simp
 ·have hE:T4 (A6 l S) f cl e.n=5:=by unfold T4; rw[zj (v_ h1)]
  have hW:P7 (A6 l S) f cl e.n c k id xs none=[]:=by unfold P7; rw[zj o_]
  rw[hE,hW] at hR;refine yE hR [] s_ λhrn=>⟨?_,?_,?_,?_,?_,?_⟩<;>(try simp[D1,T1,c1,d1,d1.symm,d2,d2.symm,d3,d3.symm]);exact⟨by exact yO hu hTn,by exact yO hu hXn⟩
 have h1:M0 (A6 l S) f e.n=true:=by simpa using h1
 refine D0 (λh2=>?_) (λh2=>?_)<;>simp
 ·have hE:T4 (A6 l S) f cl e.n=6:=by unfold T4; rw[zf (t_ h1),zj (v_ h2)]
  have hW:P7 (A6 l S) f cl e.n c k id xs none=[]:=by unfold P7; rw[zj o_]
  rw[hE,hW] at hR;refine yE hR [] s_ λhrn=>⟨?_,?_,?_,?_,?_,?_⟩<;>(try simp[D1,T1,c1,d1,d1.symm,d2,d2.symm,d3,d3.symm]);exact⟨by exact yO hu hTn,by exact yO hu hXn⟩
 have h2:V9 cl.ids e.n=false:=by simpa using h2
 refine D0 (λh3=>?_) (λh3=>?_)<;>simp[D1,c1,d2.symm,d3.symm]
 ·have h3:f.kind=3:=by simpa using h3
  have hE:T4 (A6 l S) f cl e.n=0:=by unfold T4; rw[zf (t_ h1),zf (t_ h2),zj h3]
  have hW:P7 (A6 l S) f cl e.n c k id xs none=[(c,some ⟨xs.set k (P6 ⟨cl.n,cl.text,[e.n]⟩ (some id)),zC,false,false⟩),(id,some ⟨[eI e.n],.int .i64 0,false,false⟩)]:=by unfold P7 T9; rw[zf o_,zj h3]; simp[h3]
  rw[hE,hW] at hR;refine⟨hkx,⟨hkx,by simp[hx,P6]⟩,?_⟩;simp[hx,P6,j7];refine yE hR [(id,E.n0+56320)] s_ λhrn=>⟨?_,?_,?_,?_,?_,?_⟩<;>(try simp[P6,j7,eI,D1,T1,c1,d1,d1.symm,d2,d2.symm,d3,d3.symm]);exact⟨by exact yO hu hTn,J9 (by simp[I5 hid]) k (by exact yO hu hXn)⟩
 have h3:f.kind≠3:=by simpa using h3
 have hxk:xs[k]'hkx=P6 cl none:=by rw[zc hkx] at hx; injection hx
 simp[hxk,hkx,P6,j7,D1,c1,d2.symm,d3.symm];have h4:cl.ids.length≠6:=by rw[hn]; simp
 have hle:L2 cl.ids e.n<=cl.ids.length:=(B6r _ _ _ (rm _)).2;have hE:T4 (A6 l S) f cl e.n=0:=by unfold T4; rw[zf (t_ h1),zf (t_ h2),zf h3,zf h4]
 have hW:P7 (A6 l S) f cl e.n c k id xs none=[(c,some ⟨xs.set k (.agg [.int .i64 cl.n,.str cl.text,.bsl id 0 (cl.ids.length+1)]),zC,false,false⟩),(id,some ⟨(cl.ids.take (L2 cl.ids e.n)++e.n::cl.ids.drop (L2 cl.ids e.n)).map eI,.int .i64 0,false,false⟩)]:=by
  have hll:(cl.ids.take (L2 cl.ids e.n)++e.n::cl.ids.drop (L2 cl.ids e.n)).length=cl.ids.length+1:=by simp; omega
  unfold P7 T9; rw[zf o_,zf h3]; simp only[h3,if_false,A3H,P6,j7,hll]; rfl
 rw[hE,hW] at hR;have hIc:=λ(id:Nat)=>hIns (E.n0+68608) (L2 cl.ids e.n) id hle o_ (λ_=>hn) (by intro I' h; cases h);have hyp:F8 ((cl.ids.take (L2 cl.ids e.n)++e.n::cl.ids.drop (L2 cl.ids e.n)).map eI)=true:=A1J _;generalize (cl.ids.take (L2 cl.ids e.n)++e.n::cl.ids.drop (L2 cl.ids e.n)).map eI=ys at *;dsimp only[A3H,yw,xq] at hIc;simp only[eI] at hIc;(refine yC rfl (hIc _) ?_; simp[c1,d2.symm,d3.symm]);refine⟨hkx,?_⟩;simp[hxk,hkx,P6];refine yE hR [(id,E.n0+69632)] s_ λhrn=>⟨?_,?_,?_,?_,?_,?_⟩<;>(try simp[D1,T1,c1,d1,d1.symm,d2,d2.symm,d3,d3.symm]);exact⟨by exact yO hu hTn,J9 (by simp[I5 hid]) k (by exact yO hu hXn),B4 rfl hyp⟩
def X2(s:H6)(f:Fd)(c:Cl)(e:Ev):Int :=
 if e.kind=3 then (if -999999999<=e.n/\e.n<=999999999 then 0 else 3)
 else if e.kind=4 then (if 40<e.text.length then 2 else 0)
 else if e.kind=5 then T4 s f c e.n
 else if V9 c.ids e.n=true then 0 else 5
def B40(c:Cl)(n:Int):List Int:=c.ids.take (L2 c.ids n)++c.ids.drop (L2 c.ids n+1)
def x8(f:Fd)(c:Cl)(e:Ev):Cl :=
 if e.kind=3 then ⟨e.n,c.text,c.ids⟩ else if e.kind=4 then ⟨c.n,e.text,c.ids⟩ else if e.kind=5 then ⟨c.n,c.text,T9 f c e.n⟩ else ⟨c.n,c.text,B40 c e.n⟩
def R8(s:H6)(f:Fd)(c:Cl)(e:Ev)(cb k id:Nat)(xs:List AV)(i:Option Nat):List (Nat×Option Bx) :=
 if X2 s f c e≠0 then [] else if e.kind=3\/e.kind=4 then [(cb,some ⟨xs.set k (P6 (x8 f c e) i),zC,false,false⟩)]
 else (if e.kind=5/\f.kind=3 then [] else A3H i)++[(cb,some ⟨xs.set k (P6 (x8 f c e) (some id)),zC,false,false⟩),(id,some ⟨(x8 f c e).ids.map eI,.int .i64 0,false,false⟩)]
def A8v(l:List Ty)(S:List I0)(e:Ev)(i:Nat)(o:I0)(ty:Ty)(D T:Nat)(id:Nat)(f:AV)(w:Int)(hw:w≠0)(hf:∃a b c,f = .agg [.str a,.int .i64 b,.str c])(hr:x7 ty e o.c = .tup [f,.nilp,.int .i64 w])(hty:l[e.type.toNat]?=some ty)(h0:0<=e.type)(ho:S[i]?=some o)(hlen:o.t.cells.length=ty.fields.length)(his:o.is.length=o.t.cells.length)(hl8:ty.fields.length<=1000)(d1:D≠T)(d2:D≠o.c)(d3:T≠o.c):
  A2 prog 263 [.ptr D 0 0] [(D,S5 l (.bsl T 0 S.length) e i),(T,P9 S),(o.c,cBn o)] id (.int .i64 w) []:=by
 have hX:=λid=>A6d l S e i o ty D T id hty h0 ho hlen his hl8 d1 d2 d3;rw[hr] at hX;obtain⟨fa,fb,fc,rfl⟩:=hf;unfold P9 S5 cBn eD at *;generalize hoc:o.c=c at *;refine w263.b.1 λE hP hR hl hid hB hu=>?_;simp[w263];have hD:=hl (D,_) (za ..);simp only at hD;have D1:=lf hD;have hT:=hl (T,_) (zb _ (za ..));simp only at hT;have T1:=lf hT;have hc:=hl (c,_) (zb _ (zb _ (za ..)));simp only at hc;have c1:=lf hc;have hTn:∀x∈S.map W9,B2 E.G0.used x:=C1 hB (zb _ (za ..));have hCn:∀x∈List.zipWith P6 o.t.cells o.is,B2 E.G0.used x:=C1 hB (zb _ (zb _ (za ..)));(refine yC rfl (hX _) ?_; simp[d1.symm,d2.symm,d3.symm]);refine D0 (λh=>?_) (λh=>?_)
 ·simp;refine yE hR [] s_ λhrn=>⟨?_,?_,?_,?_,?_,?_⟩<;>(try simp[D1,T1,c1,d1,d1.symm,d2,d2.symm,d3,d3.symm]);exact⟨by exact yO hu hTn,by exact yO hu hCn⟩
 ·exact (hw (v_ h)).elim
def A7q{cs:List Cl}{is:List (Option Nat)}{k:Nat}{c:Cl}{i:Option Nat}(h1:cs[k]?=some c)(h2:is[k]?=some i):(List.zipWith P6 cs is)[k]?=some (P6 c i):=by
 rw[qi,h1,h2]
def B5g(c:Cl)(I k:Nat)(id:Nat)(hk:k<c.ids.length)(hbig:c.ids.length<=1000000):
  A2 prog 300 [.bsl I 0 c.ids.length,.int .i64 k,.int .i64 ((k:Int)+1)] [(I,iBx c)] id (.bsl id 0 (c.ids.length - 1)) [(I,none),(id,some ⟨(c.ids.take k++c.ids.drop (k+1)).map eI,.int .i64 0,false,false⟩)]:=by
 have h1:∀x∈c.ids.map eI,x.cells.all AV.one=true:=λx hx=>by obtain⟨n,_,rfl⟩:=zw.1 hx; rfl
 have:=B5f (c.ids.map eI) I k id (v_ hk) (v_ hbig) h1;rw[xf] at this;have hm:(c.ids.take k++c.ids.drop (k+1)).map eI=(c.ids.map eI).take k++(c.ids.map eI).drop (k+1):=by simp
 rw[hm];exact this
def A1s(l:List Ty)(S:List I0)(e:Ev)(i:Nat)(o:I0)(ty:Ty)(f:Fd)(cl:Cl)(I D T:Nat)(id:Nat)(hk1:3<=e.kind)(hk2:e.kind<=6)(hf0:0<=e.field)(hf:ty.fields[e.field.toNat]?=some f)(hkf:L9 e.kind f=true)(hcl:o.t.cells[e.field.toNat]?=some cl)(hio:o.is[e.field.toNat]?=some (some I))
  (hty:l[e.type.toNat]?=some ty) (h0:0<=e.type) (ho:S[i]?=some o) (hlen:o.t.cells.length=ty.fields.length) (his:o.is.length=o.t.cells.length) (hl5:l.length<=1000) (hl8:ty.fields.length<=1000) (hS8:S.length<=1000) (hc8:cl.ids.length<=1000) (d1:D≠T) (d2:D≠o.c) (d3:T≠o.c) (d4:D≠I) (d5:T≠I) (d6:o.c≠I) :
  A2 prog 263 [.ptr D 0 0] [(D,S5 l (.bsl T 0 S.length) e i),(T,P9 S),(o.c,cBn o),(I,iBx cl)] id (.int .i64 (X2 (A6 l S) f cl e)) (R8 (A6 l S) f cl e o.c e.field.toNat id (List.zipWith P6 o.t.cells o.is) (some I)):=by
 have hX:=λid=>A6d l S e i o ty D T id hty h0 ho hlen his hl8 d1 d2 d3;have hr:x7 ty e o.c = .tup [U8 f,.ptr o.c e.field.toNat 0,.int .i64 0]:=by unfold x7; rw[zf o_,hf]; simp only; rw[zj hkf]
 rw[hr] at hX;have hx:=A7q hcl hio;have hLk:=λid=>B8k l S e i f cl I (List.zipWith P6 o.t.cells o.is) e.field.toNat D T o.c id hx hl5 hS8 hc8 d1 d2 d3 d4 d5 d6;have hB2:=λid=>A2z cl (some I) e.n id o_ s_;have hDl:=λid hk=>B5g cl I (L2 cl.ids e.n) id hk o_;have hkx:=(ze.1 hx).1;have hxk:(List.zipWith P6 o.t.cells o.is)[e.field.toNat]'hkx=P6 cl (some I):=by rw[zc hkx] at hx; injection hx
 unfold P9 S5 cBn eD idB iBx j7 U8 at *;dsimp only at hB2;generalize hoc:o.c=c at *;generalize hzz:List.zipWith P6 o.t.cells o.is=xs at *;generalize hkk:e.field.toNat=k at *;refine w263.b.1 λE hP hR hl hid hB hu=>?_;simp[w263];have hD:=hl (D,_) (za ..);simp only at hD;have D1:=lf hD;have hT:=hl (T,_) (zb _ (za ..));simp only at hT;have T1:=lf hT;have hc:=hl (c,_) (zb _ (zb _ (za ..)));simp only at hc;have c1:=lf hc;have hI:=hl (I,_) (zb _ (zb _ (zb _ (za ..))));simp only at hI;have I1:=lf hI;have hTn:∀x∈S.map W9,B2 E.G0.used x:=C1 hB (zb _ (za ..));have hXn:∀x∈xs,B2 E.G0.used x:=C1 hB (zb _ (zb _ (za ..)));(refine yC rfl (hX _) ?_; simp[D1,d1.symm,d2.symm,d3.symm]);refine D0 (λh3=>?_) (λh3=>?_)<;>simp[D1]
 ·have k3:e.kind=3:=by simpa using h3
  (refine E5 hP rfl (Q8 _ _) s_ f_ ?_; refine A3 4000 ?_; simp);refine D0 (λh4=>?_) (λh4=>?_)<;>simp[D1,c1,d2.symm,d3.symm]
  ·have hE:X2 (A6 l S) f cl e=3:=(by unfold X2; rw[zj k3,zf (by simp at h4; omega)]);have hW:R8 (A6 l S) f cl e c k id xs (some I)=[]:=(by unfold R8; rw[zj o_]);rw[hE,hW] at hR;refine yE hR [] s_ λhrn=>⟨?_,?_,?_,?_,?_,?_⟩<;>(try simp[D1,T1,c1,I1,d1,d1.symm,d2,d2.symm,d3,d3.symm,d4,d4.symm,d5,d5.symm,d6,d6.symm]);exact⟨by exact yO hu hTn,by exact yO hu hXn⟩
  ·have hE:X2 (A6 l S) f cl e=0:=(by unfold X2; rw[zj k3,zj (by simp at h4; omega)]);have hW:R8 (A6 l S) f cl e c k id xs (some I)=[(c,some ⟨xs.set k (.agg [.int .i64 e.n,.str cl.text,.bsl I 0 cl.ids.length]),zC,false,false⟩)]:=(by unfold R8; rw[zf o_,zj (.inl k3)]; simp[x8,k3,P6,j7]);rw[hE,hW] at hR;refine⟨hkx,⟨hkx,by simp[hx,P6]⟩,?_⟩;simp[hx,P6,j7];refine yE hR [] s_ λhrn=>⟨?_,?_,?_,?_,?_,?_⟩<;>(try simp[D1,T1,c1,I1,d1,d1.symm,d2,d2.symm,d3,d3.symm,d4,d4.symm,d5,d5.symm,d6,d6.symm]);exact⟨by exact yO hu hTn,J9 (t_ I1) k (by exact yO hu hXn)⟩
 have k3:e.kind≠3:=by simpa using h3
 refine D0 (λh4=>?_) (λh4=>?_)<;>simp[D1]
 ·have k4:e.kind=4:=by simpa using h4
  refine D0 (λh5=>?_) (λh5=>?_)<;>simp[D1,c1,d2.symm,d3.symm]
  ·have hE:X2 (A6 l S) f cl e=2:=(by unfold X2; rw[zf k3,zj k4,zj (by simp at h5; omega)]);have hW:R8 (A6 l S) f cl e c k id xs (some I)=[]:=(by unfold R8; rw[zj o_]);rw[hE,hW] at hR;refine yE hR [] s_ λhrn=>⟨?_,?_,?_,?_,?_,?_⟩<;>(try simp[D1,T1,c1,I1,d1,d1.symm,d2,d2.symm,d3,d3.symm,d4,d4.symm,d5,d5.symm,d6,d6.symm]);exact⟨by exact yO hu hTn,by exact yO hu hXn⟩
  ·have hE:X2 (A6 l S) f cl e=0:=(by unfold X2; rw[zf k3,zj k4,zf (by simp at h5; omega)]);have hW:R8 (A6 l S) f cl e c k id xs (some I)=[(c,some ⟨xs.set k (.agg [.int .i64 cl.n,.str e.text,.bsl I 0 cl.ids.length]),zC,false,false⟩)]:=(by unfold R8; rw[zf o_,zj (.inr k4)]; simp[x8,k4,P6,j7]);rw[hE,hW] at hR;refine⟨hkx,⟨hkx,by simp[hx,P6]⟩,?_⟩;simp[hx,P6,j7];refine yE hR [] s_ λhrn=>⟨?_,?_,?_,?_,?_,?_⟩<;>(try simp[D1,T1,c1,I1,d1,d1.symm,d2,d2.symm,d3,d3.symm,d4,d4.symm,d5,d5.symm,d6,d6.symm]);exact⟨by exact yO hu hTn,J9 (t_ I1) k (by exact yO hu hXn)⟩
 have k4:e.kind≠4:=by simpa using h4
 refine D0 (λh5=>?_) (λh5=>?_)<;>simp
 ·have k5:e.kind=5:=by simpa using h5
  have hE:X2 (A6 l S) f cl e=T4 (A6 l S) f cl e.n:=by unfold X2; rw[zf k3,zf k4,zj k5]
  have hC:x8 f cl e=⟨cl.n,cl.text,T9 f cl e.n⟩:=by unfold x8; rw[zf k3,zf k4,zj k5]
  have k34:¬(e.kind=3\/e.kind=4):=by omega
  rw[hE] at hR;by_cases q1:T4 (A6 l S) f cl e.n=0
  ·by_cases q2:f.kind=3
   ·have hLw:∀id,P7 (A6 l S) f cl e.n c k id xs (some I)=[(c,some ⟨xs.set k (.agg [.int .i64 cl.n,.str cl.text,.bsl id 0 (T9 f cl e.n).length]),zC,false,false⟩),(id,some ⟨(T9 f cl e.n).map eI,.int .i64 0,false,false⟩)]:=λid=>by unfold P7; rw[zf o_,zj q2]; rfl
    have hW:R8 (A6 l S) f cl e c k id xs (some I)=[(c,some ⟨xs.set k (.agg [.int .i64 cl.n,.str cl.text,.bsl id 0 (T9 f cl e.n).length]),zC,false,false⟩),(id,some ⟨(T9 f cl e.n).map eI,.int .i64 0,false,false⟩)]:=(by unfold R8; rw[zf o_,zf k34,zj ⟨k5,q2⟩,hC]; rfl);simp only[hLw] at hLk;rw[hW] at hR;(refine yC rfl (hLk _) ?_; simp[D1,T1,c1,I1,d1.symm,d2.symm,d3.symm,d4.symm,d5.symm,d6.symm]);refine yE hR [(id,E.n0+27648)] s_ λhrn=>⟨?_,?_,?_,?_,?_,?_⟩<;>(try simp[D1,T1,c1,I1,d1,d1.symm,d2,d2.symm,d3,d3.symm,d4,d4.symm,d5,d5.symm,d6,d6.symm]);exact⟨by exact yO hu hTn,J9 (by simp[I5 hid]) k (by exact yO hu hXn)⟩
   ·have hLw:∀id,P7 (A6 l S) f cl e.n c k id xs (some I)=[(I,none),(c,some ⟨xs.set k (.agg [.int .i64 cl.n,.str cl.text,.bsl id 0 (T9 f cl e.n).length]),zC,false,false⟩),(id,some ⟨(T9 f cl e.n).map eI,.int .i64 0,false,false⟩)]:=λid=>by unfold P7; rw[zf o_,zf q2]; rfl
    have hW:R8 (A6 l S) f cl e c k id xs (some I)=[(I,none),(c,some ⟨xs.set k (.agg [.int .i64 cl.n,.str cl.text,.bsl id 0 (T9 f cl e.n).length]),zC,false,false⟩),(id,some ⟨(T9 f cl e.n).map eI,.int .i64 0,false,false⟩)]:=(by unfold R8; rw[zf o_,zf k34,zf (λh=>q2 h.2),hC]; rfl);simp only[hLw] at hLk;rw[hW] at hR;(refine yC rfl (hLk _) ?_; simp[D1,T1,c1,I1,d1.symm,d2.symm,d3.symm,d4.symm,d5.symm,d6.symm]);refine yE hR [(id,E.n0+27648)] s_ λhrn=>⟨?_,?_,?_,?_,?_,?_⟩<;>(try simp[D1,T1,c1,I1,d1,d1.symm,d2,d2.symm,d3,d3.symm,d4,d4.symm,d5,d5.symm,d6,d6.symm]);exact⟨by exact yO hu hTn,J9 (by simp[I5 hid]) k (by exact yO hu hXn)⟩
  ·have hLw:∀id,P7 (A6 l S) f cl e.n c k id xs (some I)=[]:=λid=>by unfold P7; rw[zj q1]
   have hW:R8 (A6 l S) f cl e c k id xs (some I)=[]:=(by unfold R8; rw[zj o_]);simp only[hLw] at hLk;rw[hW] at hR;(refine yC rfl (hLk _) ?_; simp[D1,T1,c1,I1,d1.symm,d2.symm,d3.symm,d4.symm,d5.symm,d6.symm]);refine yE hR [] s_ λhrn=>⟨?_,?_,?_,?_,?_,?_⟩<;>(try simp[D1,T1,c1,I1,d1,d1.symm,d2,d2.symm,d3,d3.symm,d4,d4.symm,d5,d5.symm,d6,d6.symm]);exact⟨by exact yO hu hTn,by exact yO hu hXn⟩
 have k5:e.kind≠5:=by simpa using h5
 have k6:e.kind=6:=by omega
 refine A7 (t_ k6) ?_;simp[hxk,hkx,P6,j7,D1,c1,d2.symm,d3.symm];(refine yC rfl (hB2 _) ?_; simp[I1,d4.symm,d5.symm,d6.symm]);refine D0 (λh7=>?_) (λh7=>?_)<;>simp[hxk,hkx,P6,j7,c1,d2.symm,d3.symm]
 ·have hE:X2 (A6 l S) f cl e=5:=by unfold X2; rw[zf k3,zf k4,zf k5,zf (v_ h7)]
  have hW:R8 (A6 l S) f cl e c k id xs (some I)=[]:=by unfold R8; rw[zj o_]
  rw[hE,hW] at hR;refine yE hR [] s_ λhrn=>⟨?_,?_,?_,?_,?_,?_⟩<;>(try simp[D1,T1,c1,I1,d1,d1.symm,d2,d2.symm,d3,d3.symm,d4,d4.symm,d5,d5.symm,d6,d6.symm]);exact⟨by exact yO hu hTn,by exact yO hu hXn⟩
 have h7:V9 cl.ids e.n=true:=by simpa using h7
 have h8:L2 cl.ids e.n<cl.ids.length:=by unfold V9 at h7; simp at h7; exact h7.1
 have hE:X2 (A6 l S) f cl e=0:=by unfold X2; rw[zf k3,zf k4,zf k5,zj h7]
 have hC:x8 f cl e=⟨cl.n,cl.text,B40 cl e.n⟩:=by unfold x8; rw[zf k3,zf k4,zf k5]
 have hlc:(B40 cl e.n).length=cl.ids.length - 1:=by simp[B40]; omega
 have hW:R8 (A6 l S) f cl e c k id xs (some I)=[(I,none),(c,some ⟨xs.set k (.agg [.int .i64 cl.n,.str cl.text,.bsl id 0 (cl.ids.length - 1)]),zC,false,false⟩),(id,some ⟨(B40 cl e.n).map eI,.int .i64 0,false,false⟩)]:=by unfold R8; rw[zf o_,zf o_,zf o_,hC]; simp only[A3H,P6,j7,hlc]; rfl
 rw[hE,hW] at hR;have hw1:IntKind.i64.wrap ((L2 cl.ids e.n:Int)+1)=(L2 cl.ids e.n:Int)+1:=wrap64 o_;rw[hw1];(refine yC rfl (hDl _ h8) ?_; simp[c1,I1,d2.symm,d3.symm,d4.symm,d5.symm,d6,d6.symm]);refine⟨hkx,⟨hkx,by simp[hx,P6]⟩,?_⟩;simp[hx,P6,j7];refine yE hR [(id,E.n0+52224)] s_ λhrn=>⟨?_,?_,?_,?_,?_,?_⟩<;>(try simp[D1,T1,c1,I1,d1,d1.symm,d2,d2.symm,d3,d3.symm,d4,d4.symm,d5,d5.symm,d6,d6.symm]);refine⟨by exact yO hu hTn,J9 (by simp[I5 hid]) k (by exact yO hu hXn),?_⟩;have hcm:List.take (L2 cl.ids e.n) (List.map eI cl.ids)++List.drop (L2 cl.ids e.n+1) (List.map eI cl.ids)=(B40 cl e.n).map eI:=by simp[B40]
 rw[hcm];exact C0t _ _ _
def A3l(l:List Ty)(S:List I0)(e:Ev)(i:Nat)(o:I0)(ty:Ty)(f:Fd)(cl:Cl)(D T:Nat)(id:Nat)(hk1:3<=e.kind)(hk2:e.kind<=6)(hf0:0<=e.field)(hf:ty.fields[e.field.toNat]?=some f)(hkf:L9 e.kind f=true)(hcl:o.t.cells[e.field.toNat]?=some cl)(hio:o.is[e.field.toNat]?=some none)
  (hty:l[e.type.toNat]?=some ty) (h0:0<=e.type) (ho:S[i]?=some o) (hlen:o.t.cells.length=ty.fields.length) (his:o.is.length=o.t.cells.length) (hn:cl.ids=[]) (hl5:l.length<=1000) (hl8:ty.fields.length<=1000) (hS8:S.length<=1000) (hc8:cl.ids.length<=1000) (d1:D≠T) (d2:D≠o.c) (d3:T≠o.c) :
  A2 prog 263 [.ptr D 0 0] [(D,S5 l (.bsl T 0 S.length) e i),(T,P9 S),(o.c,cBn o)] id (.int .i64 (X2 (A6 l S) f cl e)) (R8 (A6 l S) f cl e o.c e.field.toNat id (List.zipWith P6 o.t.cells o.is) none):=by
 have hX:=λid=>A6d l S e i o ty D T id hty h0 ho hlen his hl8 d1 d2 d3;have hr:x7 ty e o.c = .tup [U8 f,.ptr o.c e.field.toNat 0,.int .i64 0]:=by unfold x7; rw[zf o_,hf]; simp only; rw[zj hkf]
 rw[hr] at hX;have hx:=A7q hcl hio;have hLk:=λid=>B8l l S e i f cl (List.zipWith P6 o.t.cells o.is) e.field.toNat D T o.c id hx hn hl5 hS8 hc8 d1 d2 d3;have hB2:=λid=>A2z cl none e.n id o_ (λ_=>hn);have hkx:=(ze.1 hx).1;have hxk:(List.zipWith P6 o.t.cells o.is)[e.field.toNat]'hkx=P6 cl none:=by rw[zc hkx] at hx; injection hx
 unfold P9 S5 cBn eD idB iBx j7 U8 at *;dsimp only at hB2;generalize hoc:o.c=c at *;generalize hzz:List.zipWith P6 o.t.cells o.is=xs at *;generalize hkk:e.field.toNat=k at *;refine w263.b.1 λE hP hR hl hid hB hu=>?_;simp[w263];have hD:=hl (D,_) (za ..);simp only at hD;have D1:=lf hD;have hT:=hl (T,_) (zb _ (za ..));simp only at hT;have T1:=lf hT;have hc:=hl (c,_) (zb _ (zb _ (za ..)));simp only at hc;have c1:=lf hc;have hTn:∀x∈S.map W9,B2 E.G0.used x:=C1 hB (zb _ (za ..));have hXn:∀x∈xs,B2 E.G0.used x:=C1 hB (zb _ (zb _ (za ..)));(refine yC rfl (hX _) ?_; simp[D1,d1.symm,d2.symm,d3.symm]);refine D0 (λh3=>?_) (λh3=>?_)<;>simp[D1]
 ·have k3:e.kind=3:=by simpa using h3
  (refine E5 hP rfl (Q8 _ _) s_ f_ ?_; refine A3 4000 ?_; simp);refine D0 (λh4=>?_) (λh4=>?_)<;>simp[D1,c1,d2.symm,d3.symm]
  ·have hE:X2 (A6 l S) f cl e=3:=(by unfold X2; rw[zj k3,zf (by simp at h4; omega)]);have hW:R8 (A6 l S) f cl e c k id xs none=[]:=(by unfold R8; rw[zj o_]);rw[hE,hW] at hR;refine yE hR [] s_ λhrn=>⟨?_,?_,?_,?_,?_,?_⟩<;>(try simp[D1,T1,c1,d1,d1.symm,d2,d2.symm,d3,d3.symm]);exact⟨by exact yO hu hTn,by exact yO hu hXn⟩
  ·have hE:X2 (A6 l S) f cl e=0:=(by unfold X2; rw[zj k3,zj (by simp at h4; omega)]);have hW:R8 (A6 l S) f cl e c k id xs none=[(c,some ⟨xs.set k (.agg [.int .i64 e.n,.str cl.text,.nils]),zC,false,false⟩)]:=(by unfold R8; rw[zf o_,zj (.inl k3)]; simp[x8,k3,P6,j7]);rw[hE,hW] at hR;refine⟨hkx,⟨hkx,by simp[hx,P6]⟩,?_⟩;simp[hx,P6,j7];refine yE hR [] s_ λhrn=>⟨?_,?_,?_,?_,?_,?_⟩<;>(try simp[D1,T1,c1,d1,d1.symm,d2,d2.symm,d3,d3.symm]);exact⟨by exact yO hu hTn,J9 s_ k (by exact yO hu hXn)⟩
 have k3:e.kind≠3:=by simpa using h3
 refine D0 (λh4=>?_) (λh4=>?_)<;>simp[D1]
 ·have k4:e.kind=4:=by simpa using h4
  refine D0 (λh5=>?_) (λh5=>?_)<;>simp[D1,c1,d2.symm,d3.symm]
  ·have hE:X2 (A6 l S) f cl e=2:=(by unfold X2; rw[zf k3,zj k4,zj (by simp at h5; omega)]);have hW:R8 (A6 l S) f cl e c k id xs none=[]:=(by unfold R8; rw[zj o_]);rw[hE,hW] at hR;refine yE hR [] s_ λhrn=>⟨?_,?_,?_,?_,?_,?_⟩<;>(try simp[D1,T1,c1,d1,d1.symm,d2,d2.symm,d3,d3.symm]);exact⟨by exact yO hu hTn,by exact yO hu hXn⟩
  ·have hE:X2 (A6 l S) f cl e=0:=(by unfold X2; rw[zf k3,zj k4,zf (by simp at h5; omega)]);have hW:R8 (A6 l S) f cl e c k id xs none=[(c,some ⟨xs.set k (.agg [.int .i64 cl.n,.str e.text,.nils]),zC,false,false⟩)]:=(by unfold R8; rw[zf o_,zj (.inr k4)]; simp[x8,k4,P6,j7]);rw[hE,hW] at hR;refine⟨hkx,⟨hkx,by simp[hx,P6]⟩,?_⟩;simp[hx,P6,j7];refine yE hR [] s_ λhrn=>⟨?_,?_,?_,?_,?_,?_⟩<;>(try simp[D1,T1,c1,d1,d1.symm,d2,d2.symm,d3,d3.symm]);exact⟨by exact yO hu hTn,J9 s_ k (by exact yO hu hXn)⟩
 have k4:e.kind≠4:=by simpa using h4
 refine D0 (λh5=>?_) (λh5=>?_)<;>simp
 ·have k5:e.kind=5:=by simpa using h5
  have hE:X2 (A6 l S) f cl e=T4 (A6 l S) f cl e.n:=by unfold X2; rw[zf k3,zf k4,zj k5]
  have hC:x8 f cl e=⟨cl.n,cl.text,T9 f cl e.n⟩:=by unfold x8; rw[zf k3,zf k4,zj k5]
  have k34:¬(e.kind=3\/e.kind=4):=by omega
  rw[hE] at hR;by_cases q1:T4 (A6 l S) f cl e.n=0
  ·by_cases q2:f.kind=3
   ·have hLw:∀id,P7 (A6 l S) f cl e.n c k id xs none=[(c,some ⟨xs.set k (.agg [.int .i64 cl.n,.str cl.text,.bsl id 0 (T9 f cl e.n).length]),zC,false,false⟩),(id,some ⟨(T9 f cl e.n).map eI,.int .i64 0,false,false⟩)]:=λid=>by unfold P7; rw[zf o_,zj q2]; rfl
    have hW:R8 (A6 l S) f cl e c k id xs none=[(c,some ⟨xs.set k (.agg [.int .i64 cl.n,.str cl.text,.bsl id 0 (T9 f cl e.n).length]),zC,false,false⟩),(id,some ⟨(T9 f cl e.n).map eI,.int .i64 0,false,false⟩)]:=(by unfold R8; rw[zf o_,zf k34,zj ⟨k5,q2⟩,hC]; rfl);simp only[hLw] at hLk;rw[hW] at hR;(refine yC rfl (hLk _) ?_; simp[D1,T1,c1,d1.symm,d2.symm,d3.symm]);refine yE hR [(id,E.n0+27648)] s_ λhrn=>⟨?_,?_,?_,?_,?_,?_⟩<;>(try simp[D1,T1,c1,d1,d1.symm,d2,d2.symm,d3,d3.symm]);exact⟨by exact yO hu hTn,J9 (by simp[I5 hid]) k (by exact yO hu hXn)⟩
   ·have hLw:∀id,P7 (A6 l S) f cl e.n c k id xs none=[(c,some ⟨xs.set k (.agg [.int .i64 cl.n,.str cl.text,.bsl id 0 (T9 f cl e.n).length]),zC,false,false⟩),(id,some ⟨(T9 f cl e.n).map eI,.int .i64 0,false,false⟩)]:=λid=>by unfold P7; rw[zf o_,zf q2]; rfl
    have hW:R8 (A6 l S) f cl e c k id xs none=[(c,some ⟨xs.set k (.agg [.int .i64 cl.n,.str cl.text,.bsl id 0 (T9 f cl e.n).length]),zC,false,false⟩),(id,some ⟨(T9 f cl e.n).map eI,.int .i64 0,false,false⟩)]:=(by unfold R8; rw[zf o_,zf k34,zf (λh=>q2 h.2),hC]; rfl);simp only[hLw] at hLk;rw[hW] at hR;(refine yC rfl (hLk _) ?_; simp[D1,T1,c1,d1.symm,d2.symm,d3.symm]);refine yE hR [(id,E.n0+27648)] s_ λhrn=>⟨?_,?_,?_,?_,?_,?_⟩<;>(try simp[D1,T1,c1,d1,d1.symm,d2,d2.symm,d3,d3.symm]);exact⟨by exact yO hu hTn,J9 (by simp[I5 hid]) k (by exact yO hu hXn)⟩
  ·have hLw:∀id,P7 (A6 l S) f cl e.n c k id xs none=[]:=λid=>by unfold P7; rw[zj q1]
   have hW:R8 (A6 l S) f cl e c k id xs none=[]:=(by unfold R8; rw[zj o_]);simp only[hLw] at hLk;rw[hW] at hR;(refine yC rfl (hLk _) ?_; simp[D1,T1,c1,d1.symm,d2.symm,d3.symm]);refine yE hR [] s_ λhrn=>⟨?_,?_,?_,?_,?_,?_⟩<;>(try simp[D1,T1,c1,d1,d1.symm,d2,d2.symm,d3,d3.symm]);exact⟨by exact yO hu hTn,by exact yO hu hXn⟩
 have k5:e.kind≠5:=by simpa using h5
 have k6:e.kind=6:=by omega
 refine A7 (t_ k6) ?_;simp[hxk,hkx,P6,j7,D1,c1,d2.symm,d3.symm];(refine yC rfl (hB2 _) ?_; simp);refine D0 (λh7=>?_) (λh7=>?_)<;>simp[hxk,hkx,P6,j7,c1,d2.symm,d3.symm]
 ·have hE:X2 (A6 l S) f cl e=5:=by unfold X2; rw[zf k3,zf k4,zf k5,zf (v_ h7)]
  have hW:R8 (A6 l S) f cl e c k id xs none=[]:=by unfold R8; rw[zj o_]
  rw[hE,hW] at hR;refine yE hR [] s_ λhrn=>⟨?_,?_,?_,?_,?_,?_⟩<;>(try simp[D1,T1,c1,d1,d1.symm,d2,d2.symm,d3,d3.symm]);exact⟨by exact yO hu hTn,by exact yO hu hXn⟩
 have h7:V9 cl.ids e.n=true:=by simpa using h7
 rw[hn] at h7;simp[V9] at h7
def C18(l:List Ty)(S:List I0)(e:Ev)(i0:Int)(D T:Nat)(id:Nat)(w:Int)(hw:(e.kind=1/\F2 (S.map I0.t) e.type e.id=true/\w=6)\/(e.kind=1/\F2 (S.map I0.t) e.type e.id=false/\S.length=12/\w=2)\/(e.kind≠1/\F2 (S.map I0.t) e.type e.id=false/\w=5))(hS8:S.length<=1000)(d1:D≠T):
  A2 prog 195 [.ptr D 0 0] [(D,S5 l (.bsl T 0 S.length) e i0),(T,P9 S)] id (.int .i64 w) [(D,some (S5 l (.bsl T 0 S.length) e (C3 (S.map I0.t) e.type e.id)))]:=by
 have hF:=λid=>T3 l S T e.type e.id id o_;unfold P9 S5 eD at *;refine w195.b.1 λE hP hR hl hid hB hu=>?_;simp[w195];have hD:=hl (D,_) (za ..);simp only at hD;have D1:=lf hD;have hT:=hl (T,_) (zb _ (za ..));simp only at hT;have T1:=lf hT;have hTn:∀x∈S.map W9,B2 E.G0.used x:=C1 hB (zb _ (za ..));(refine yC rfl (hF _) ?_; simp[d1.symm]);refine D0 (λh=>?_) (λh=>?_)<;>simp[d1.symm]
 ·have h:e.kind=1/\F2 (S.map I0.t) e.type e.id=true:=by simpa using h
  have hw6:w=6:=by rcases hw with hw|hw|hw<;>simp_all
  subst hw6;refine yE hR [] s_ λhrn=>⟨?_,?_,?_,?_,?_,?_⟩<;>(try simp[D1,T1,d1,d1.symm]);all_goals exact yO hu hTn
 refine D0 (λh2=>?_) (λh2=>?_)<;>simp
 ·have h2:e.kind=1/\S.length=12:=by simp at h2; omega
  have hw6:w=2:=by rcases hw with hw|hw|hw<;>simp_all
  subst hw6;refine yE hR [] s_ λhrn=>⟨?_,?_,?_,?_,?_,?_⟩<;>(try simp[D1,T1,d1,d1.symm]);all_goals exact yO hu hTn
 have hk:e.kind≠1:=λhk=>by
  rcases hw with hw|hw|hw
  ·simp[hk,hw.2.1] at h
  ·simp[hk] at h2; omega
  ·exact hw.1 hk
 refine A0 (v_ hk) ?_;simp;have hw5:F2 (S.map I0.t) e.type e.id=false/\w=5:=by rcases hw with hw|hw|hw<;>simp_all
 refine A7 (by simp[hw5.1]) ?_;obtain⟨_,hw5⟩:=hw5;subst hw5;simp;refine yE hR [] s_ λhrn=>⟨?_,?_,?_,?_,?_,?_⟩<;>(try simp[D1,T1,d1,d1.symm]);all_goals exact yO hu hTn
def B5h(S:List I0)(x3:AV)(a b:Int)(T Y k:Nat)(id:Nat)(hk:k<=S.length)(hTY:T≠Y)(hTid:T<id\/id+1024<=T)(hbig:S.length<=1000000)(h3:AV.one x3=true):
  A2 prog 260 [.bsl T 0 S.length,.int .i64 k,.bsl Y 0 1] [(T,⟨S.map W9,zT,false,false⟩),(Y,⟨[.agg [.int .i64 a,.int .i64 b,x3]],.agg [.int .i64 0,.int .i64 0,.nils],false,false⟩)] id (.bsl id 0 (S.length+1)) [(T,none),(id,some ⟨(S.map W9).take k++.agg [.int .i64 a,.int .i64 b,x3]::(S.map W9).drop k,zT,false,false⟩)]:=by
 have:=B1m (S.map W9) (.agg [.int .i64 a,.int .i64 b,x3]) T Y k id (v_ hk) hTY hTid (v_ hbig) (λx hx=>by obtain⟨o,_,rfl⟩:=zw.1 hx; rfl) rfl (by simp[AV.cells,AV.one] at h3 ⊢; exact h3);rw[xf] at this;exact this
def B5i(S:List I0)(T k:Nat)(id:Nat)(hk:k<S.length)(hbig:S.length<=1000000):
  A2 prog 262 [.bsl T 0 S.length,.int .i64 k,.int .i64 ((k:Int)+1)] [(T,⟨S.map W9,zT,false,false⟩)] id (.bsl id 0 (S.length - 1)) [(T,none),(id,some ⟨(S.map W9).take k++(S.map W9).drop (k+1),zT,false,false⟩)]:=by
 have:=B1n (S.map W9) T k id (v_ hk) (v_ hbig) (λx hx=>by obtain⟨o,_,rfl⟩:=zw.1 hx; rfl);rw[xf] at this;exact this
def C4F(l:List Ty)(S:List I0)(e:Ev)(i0:Int)(ty:Ty)(D T:Nat)(id:Nat)(hk:e.kind=1)(hfB:F2 (S.map I0.t) e.type e.id=false)(h12:S.length≠12)(hty:l[e.type.toNat]?=some ty)(h0:0<=e.type)(hf8:ty.fields.length<=1000)(hS8:S.length<=1000)(d1:D≠T):
  A2 prog 195 [.ptr D 0 0] [(D,S5 l (.bsl T 0 S.length) e i0),(T,P9 S)] id (.int .i64 0) [(D,some (S5 l (.bsl id 0 (S.length+1)) e (C3 (S.map I0.t) e.type e.id))),(T,none),
   (id,some ⟨(S.map W9).take (C3 (S.map I0.t) e.type e.id)++.agg [.int .i64 e.type,.int .i64 e.id,.bsl (id+1) 0 ty.fields.length]::(S.map W9).drop (C3 (S.map I0.t) e.type e.id),zT,false,false⟩),(id+1,some ⟨List.replicate ty.fields.length zC,zC,false,false⟩)]:=by
 have hF:=λid=>T3 l S T e.type e.id id o_;unfold P9 S5 eD at *;refine w195.b.1 λE hP hR hl hid hB hu=>?_;simp[w195];have hD:=hl (D,_) (za ..);simp only at hD;have D1:=lf hD;have hT:=hl (T,_) (zb _ (za ..));simp only at hT;have T1:=lf hT;have hTn:∀x∈S.map W9,B2 E.G0.used x:=C1 hB (zb _ (za ..));(refine E5 hP rfl (hF _) s_ (by simp[d1.symm]<;>rfl) ?_; refine A3 330 ?_; simp);refine A0 (t_ hfB) ?_;simp[d1.symm];refine A0 (by simp[hk]; omega) ?_;simp;refine A7 (t_ hk) ?_;simp[hty,I9,h0];have htl:e.type<l.length:=by have:=(ze.1 hty).1; omega
 refine⟨htl,⟨o_,o_⟩,?_⟩;refine B5F f_ s_ s_ f_ ?_;refine A3 4000 ?_;simp;have hle:C3 (S.map I0.t) e.type e.id<=S.length:=by have:=(B6r (J7 (S.map I0.t) e.type e.id) 0 (S.map I0.t).length (rm _)).2; rw[xf] at this; unfold C3; rw[xf]; exact this
 have hIns:=λ(id:Nat) (hid:T<id\/id+1024<=T)=>B5h S (.bsl (E.n0+92160) 0 ty.fields.length) e.type e.id T (E.n0+94208) (C3 (S.map I0.t) e.type e.id) id hle o_ hid o_ rfl;generalize C3 (S.map I0.t) e.type e.id=m at *;(refine yC rfl (hIns _ o_) ?_; simp[D1,T1,d1,d1.symm]);have hp0:∀R S,N8 R S (List.replicate ty.fields.length (.agg [.int .i64 0,.str [],.nils])) (List.replicate ty.fields.length (.agg [.int .i64 0,.str [],.nils])):=λR S=>B4 rfl (A57 λi x hx=>by rw[vk] at hx; split at hx<;>simp at hx; subst hx; rfl);simp only[zC] at hR;have hrn:F7 [(id,E.n0+95232),(id+1,E.n0+92160)]:=by simp
 rw[hR];refine F5 f_ [(id,E.n0+95232),(id+1,E.n0+92160)] hrn ⟨?_,?_,?_,?_,?_,?_⟩<;>(try simp[hp0,B5I hD.2,B1Y hD.2,B5I hT.2,B1Y hT.2,D1,T1,d1,d1.symm,I5 hid,A3Z hid]);have hlk:∀z,z<E.n0->(z<id\/id+1024<=z)->lkN [(id,E.n0+95232),(id+1,E.n0+92160)] z=none:=λz h1 h2=>by
  have a1:z≠id:=by omega
  have a2:z≠id+1:=by omega
  simp[lkN,a1,a2]
 exact v6 (m8 hu hlk λx hx=>hTn x (xn hx)) (.cons _ _ _ _ (by simp[I5 hid,A3Z hid]) (m8 hu hlk λx hx=>hTn x (xh hx)))
structure I0.Ok(o:I0):Prop where
 len:o.is.length=o.t.cells.length
 nil:∀(k:Nat) (c:Cl),o.t.cells[k]?=some c->o.is[k]?=some none->c.ids=[]
def A5X{cs:List Cl}:∀{is:List (Option Nat)} (k:Nat) {c:Cl} {i:Option Nat},cs[k]?=some c->is[k]?=some i->∀q∈idB c i,q∈A0c cs is:=by
 induction cs with
 | nil=>intro is k c i h1; simp at h1
 | cons c0 cs ih =>
  intro is k c i h1 h2 q hq;cases is with
  | nil=>simp at h2
  | cons i0 is =>
   cases k with
   | zero=>simp at h1 h2; subst h1 h2; exact yq _ hq
   | succ k=>exact ye _ (ih k (v_ h1) (v_ h2) q hq)
def C19{o:I0}(h:o.Ok){L:List (Nat×Bx)}(hL:∀q∈o.bxs,q∈L):Rd L (.bsl o.c 0 o.t.cells.length) (.sl (o.t.cells.map eCl)):=by
 have hg:∀i x y,(List.zipWith P6 o.t.cells o.is)[0+i]?=some x->(o.t.cells.map eCl)[i]?=some y->∃c io,o.t.cells[i]?=some c/\o.is[i]?=some io/\x=P6 c io/\y=eCl c:=λi x y h1 h2=>by
  rw[yy,qi] at h1;rw[yj] at h2;cases hc:o.t.cells[i]? with
  | none=>rw[hc] at h2; simp at h2
  | some c =>
   cases hi:o.is[i]? with
   | none=>rw[hc,hi] at h1; simp at h1
   | some io =>
    rw[hc,hi] at h1;rw[hc] at h2;simp at h1 h2;exact⟨c,io,rfl,rfl,h1.symm,h2.symm⟩
 refine .bsl o.c 0 _ (cBn o) _ (hL _ (za ..)) (by simp[cBn,h.len]) s_ (λi x y h1 h2=>?_) λi x y j a b h1 h2 h3 h4=>?_
 ·obtain⟨c,io,_,_,rfl,rfl⟩:=hg i x y h1 h2;rfl
 ·obtain⟨c,io,hc,hi,rfl,rfl⟩:=hg i x y h1 h2;match j,h3,h4 with
  | 0,h3,h4=>simp[P6,eCl,AV.cells] at h3 h4; subst h3 h4; exact .same _
  | 1,h3,h4=>simp[P6,eCl,AV.cells] at h3 h4; subst h3 h4; exact .same _
  | 2,h3,h4 =>
   simp[P6,eCl,AV.cells] at h3 h4;subst h3 h4;exact B6y c io L (λq hq=>hL _ (zb _ (A5X i hc hi q hq))) λe=>h.nil i c hc (e▸hi)
  | j+3,h3,h4=>simp[P6,AV.cells] at h3
def B0e{S:List I0}(h:∀o∈S,o.Ok){T:Nat}{L:List (Nat×Bx)}(hT:(T,P9 S)∈L)(hL:∀q∈J2 S,q∈L):Rd L (.bsl T 0 S.length) (.sl ((S.map I0.t).map Q9)):=by
 have hg:∀i x y,(S.map W9)[0+i]?=some x->((S.map I0.t).map Q9)[i]?=some y->∃o,S[i]?=some o/\x=W9 o/\y=Q9 o.t:=λi x y h1 h2=>by
  rw[yy,yj] at h1;rw[yj,yj] at h2;cases ho:S[i]? with
  | none=>rw[ho] at h2; simp at h2
  | some o =>
   rw[ho] at h1 h2;simp at h1 h2;exact⟨o,rfl,h1.symm,h2.symm⟩
 refine .bsl T 0 _ (P9 S) _ hT (by simp[P9]) s_ (λi x y h1 h2=>?_) λi x y j a b h1 h2 h3 h4=>?_
 ·obtain⟨o,_,rfl,rfl⟩:=hg i x y h1 h2;rfl
 ·obtain⟨o,ho,rfl,rfl⟩:=hg i x y h1 h2;match j,h3,h4 with
  | 0,h3,h4=>simp[W9,Q9,AV.cells] at h3 h4; subst h3 h4; exact .same _
  | 1,h3,h4=>simp[W9,Q9,AV.cells] at h3 h4; subst h3 h4; exact .same _
  | 2,h3,h4 =>
   simp[W9,Q9,AV.cells] at h3 h4;subst h3 h4;exact C19 (h o (zg ho)) λq hq=>hL q (xz.2 ⟨o,zg ho,hq⟩)
  | j+3,h3,h4=>simp[W9,AV.cells] at h3
def B0f(l:List Ty)(S:List I0)(e:Ev)(i:Int)(D T:Nat)(id:Nat)(hS:∀o∈S,o.Ok)(h5:l.length<=1000)(h12:S.length<=1000000)
  (hok:∀t∈S.map I0.t,0<=t.type/\t.type.toNat<l.length/\t.cells.length=(D5 l t.type).length/\t.cells.length<=1000000/\∀c∈t.cells,c.ids.length<=6) :
  A2 prog 261 [.ptr D 0 0] ((D,S5 l (.bsl T 0 S.length) e i)::(T,P9 S)::J2 S) id (.bool (!T8 (W3 l e) l (S.map I0.t))) []:=by
 refine (C17 (A6 l S) e i id h5 (by simp[A6]; exact h12) hok).read rfl rfl λk a b h1 h2=>?_;match k,h1,h2 with
 | 0,h1,h2 =>
  simp only[yn,zd] at h1 h2;subst h1 h2;refine .ptr D (S5 l (.bsl T 0 S.length) e i) _ _ (za ..) rfl rfl λj c d h3 h4=>?_;match j,h3,h4 with
  | 0,h3,h4=>simp[eD,AV.cells,A6] at h3 h4; subst h3 h4; exact .same _
  | 1,h3,h4 =>
   simp only[eD,AV.cells,A6,xt,yn,zd] at h3 h4;subst h3 h4;exact B0e hS (zb _ (za ..)) λq hq=>zb _ (zb _ hq)
  | 2,h3,h4|3,h3,h4|4,h3,h4|5,h3,h4|6,h3,h4|7,h3,h4|8,h3,h4=>simp[eD,AV.cells,A6] at h3 h4; subst h3 h4; exact .same _
  | j+9,h3,h4=>simp[eD,AV.cells] at h3
 | k+1,h1,h2=>simp at h1
end Go.Am
