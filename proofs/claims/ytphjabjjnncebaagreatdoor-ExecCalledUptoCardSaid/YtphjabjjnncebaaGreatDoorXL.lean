/- Parts of the proof: an abstract machine for Go functions, and what functions of the program give back (In4, In5, Do3, Do4, Do5, Do6, Do7, Do8). No condition. -/
import Derived.Test.YtphjabjjnncebaaGreatDoorXK
set_option maxRecDepth 100000
set_option linter.all false
set_option maxHeartbeats 1000000
namespace Go.Am
open Go Go.Proofs Go.RowKit
theorem D3{l cs:List Value}{o:Nat}(h:o+cs.length<=l.length)(k:Nat):(E3 l o cs)[k]?=if k<o then l[k]? else if k<o+cs.length then cs[k - o]? else l[k]?:=by
 unfold E3;have h1:(l.take o).length=o:=by rw[zu]; omega
 split
 ·rw[xg,zz (by omega),zr,zk (by assumption)]
 ·split
  ·rw[xg,ya (by omega),h1,zz (by omega)]
  ·rw[ya (by simp[h1]; omega),zw];congr 1
   simp[h1];omega
section
variable {G:Gh} {w:World}
theorem A2o{s i:Nat}{xs:List AV}{y:AV}{cur:Array Value}{vs R:List Value}(hc:U0 G w s xs cur)(hi:i<=xs.length)(hy:y.cells.length=s)(hv:∀(j:Nat) z,y.cells[j]?=some z->∃u,vs[j]?=some u/\RV G w z u)
  (h1:∀k,k<i*s->R[k]?=cur[k]?) (h2:∀j,j<s->R[i*s+j]?=vs[j]?) (h3:∀k,i*s<=k->k<xs.length*s->R[k+s]?=cur[k]?):U0 G w s (xs.take i++y::xs.drop i) R.toArray:=by
 intro k x hx;have ht:(xs.take i).length=i:=by rw[zu]; omega
 rcases vp k i with hk|hk|hk
 ·rw[zz (by omega),zr,zk hk] at hx;obtain⟨q1,q2⟩:=hc k x hx;refine⟨q1,fun j z hz=>?_⟩;obtain⟨u,hu,hr⟩:=q2 j z hz;have hj:j<s:=by rw[←q1]; exact (ze.1 hz).1
  refine⟨u,?_,hr⟩;rw[xk,h1 _ (by have:(k+1)*s<=i*s:=yf _ hk; rw[xb] at this; omega)];exact hu
 ·subst hk;rw[ya (by omega),ht,Nat.sub_self] at hx;simp at hx;subst hx;refine⟨hy,fun j z hz=>?_⟩;obtain⟨u,hu,hr⟩:=hv j z hz;have hj:j<s:=by rw[←hy]; exact (ze.1 hz).1
  exact⟨u,by rw[xk,h2 j hj]; exact hu,hr⟩
 ·rw[ya (by omega),ht] at hx;obtain⟨m,rfl⟩:∃m,k=i+1+m:=⟨k - i - 1,by omega⟩;rw[show i+1+m - i=m+1 by omega,xe,zw] at hx;obtain⟨q1,q2⟩:=hc (i+m) x hx;refine⟨q1,fun j z hz=>?_⟩;obtain⟨u,hu,hr⟩:=q2 j z hz;have hj:j<s:=by rw[←q1]; exact (ze.1 hz).1
  have hlt:=(ze.1 hx).1;have e1:i*s<=(i+m)*s:=yf _ (by omega);have e2:(i+m+1)*s<=xs.length*s:=yf _ hlt;have e3:(i+m+1)*s=(i+m)*s+s:=by rw[xb,Nat.one_mul]
  have e4:(i+1+m)*s=(i+m)*s+s:=by rw[show i+1+m=i+m+1 by omega]; exact e3
  refine⟨u,?_,hr⟩;rw[xk,show (i+1+m)*s+j=((i+m)*s+j)+s by omega,h3 _ (by omega) (by omega)];exact hu
theorem A4A{s i:Nat}{xs:List AV}{cur:Array Value}{R:List Value}(hc:U0 G w s xs cur)(hi:i<xs.length)(h1:∀k,k<i*s->R[k]?=cur[k]?)(h3:∀k,i*s<=k->k+s<xs.length*s->R[k]?=cur[k+s]?):U0 G w s (xs.take i++xs.drop (i+1)) R.toArray:=by
 intro k x hx;have ht:(xs.take i).length=i:=by rw[zu]; omega
 by_cases hk:k<i
 ·rw[zz (by omega),zr,zk hk] at hx;obtain⟨q1,q2⟩:=hc k x hx;refine⟨q1,fun j z hz=>?_⟩;obtain⟨u,hu,hr⟩:=q2 j z hz;have hj:j<s:=by rw[←q1]; exact (ze.1 hz).1
  refine⟨u,?_,hr⟩;rw[xk,h1 _ (by have:(k+1)*s<=i*s:=yf _ hk; rw[xb] at this; omega)];exact hu
 ·rw[ya (by omega),ht,zw] at hx;obtain⟨m,rfl⟩:∃m,k=i+m:=⟨k - i,by omega⟩;rw[show i+1+(i+m - i)=i+m+1 by omega] at hx;obtain⟨q1,q2⟩:=hc (i+m+1) x hx;refine⟨q1,fun j z hz=>?_⟩;obtain⟨u,hu,hr⟩:=q2 j z hz;have hj:j<s:=by rw[←q1]; exact (ze.1 hz).1
  have hlt:=(ze.1 hx).1;have e1:i*s<=(i+m)*s:=yf _ (by omega);have e2:(i+m+1+1)*s<=xs.length*s:=yf _ hlt;have e3:(i+m+1)*s=(i+m)*s+s:=by rw[xb,Nat.one_mul]
  have e4:(i+m+1+1)*s=(i+m)*s+s+s:=by rw[xb,Nat.one_mul,e3]
  refine⟨u,?_,hr⟩;rw[xk,h3 _ (by omega) (by omega),←hu];congr 1
  omega
theorem S4{s:Nat}{xs:List AV}{cur:Array Value}(hc:U0 G w s xs cur)(h1:∀x∈xs,x.cells.all AV.one=true):∀v∈cur.toList.take (xs.length*s),v.oneCell'=true:=fun v hv=>by
 obtain⟨k,hk⟩:=yk.1 hv;rw[zr] at hk;split at hk
 ·rename_i hlt;have hs:0<s:=by
   rcases ui s with h|h
   ·subst h; omega
   ·exact h
  have hi:k / s<xs.length:=Nat.div_lt_of_lt_mul (by rw[tk]; exact hlt);have hj:k % s<s:=Nat.mod_lt _ hs;obtain⟨x,hx⟩:∃x,xs[k / s]?=some x:=⟨_,zd hi⟩;obtain⟨q1,q2⟩:=hc _ x hx;obtain⟨z,hz⟩:∃z,x.cells[k % s]?=some z:=⟨_,zd (by omega)⟩;obtain⟨u,hu,hr⟩:=q2 _ z hz;have e:k / s*s+k % s=k:=Nat.div_add_mod' k s;rw[e] at hu;have:v=u:=by
   rw[yj,hu] at hk;injection hk with hk
   exact hk.symm
  subst this;exact hr.oneCell (yq.1 (h1 x (zf hx)) z (zf hz))
 ·cases hk
end
theorem RS.rowed{P:Program}{C:Cx P}{G:Gh}{bx:Nat->Option Bx}{w w':World}(hs:RS C G bx w){T id:Nat}{x:Bx}(hx:bx T=some x)(hro:x.ro=false)(hfr:x.frz=false)(hn:¬G.nl T){b s:Nat}{cur:Array Value}{el:TypeId}(hb:G.bm T=some (b,s))(hg:w.heap[b]?=some (.cells cur el (0,0)))
  (hu:¬G.used id) (R:Array Value) (xs':List AV) (hlen:xs'.length*s<=R.size) (hh:w'.heap[b]?=some (.cells R el (0,0))) (ho:∀k,k≠b->w'.heap[k]?=w.heap[k]?) (h1:w'.os=w.os) (h2:w'.tape=w.tape) (h3:w'.output=w.output) (h4:w.heap.size<=w'.heap.size) (hc:U0 G w s xs' R) :
  RS C (G.rename T id b s) (P9 (P9 bx T none) id (some ⟨xs',x.d,false,false⟩)) w'/\I9 G w (G.rename T id b s) w':=by
 obtain⟨b1,s1,cur1,e1,k1,k2,k3,k4,k5,k6,k7⟩:=hs.box T x hx hn;rw[hb] at k1;injection k1 with k1
 injection k1 with kb ks
 subst kb ks;have hfz:∀b2 o,G.fz b2 o->b2≠b:=fun b2 o hf e=>k6 hfr o (e▸hf);exact hs.moved (id0:=T) (id:=id) (b':=b) (s:=s) (x':=⟨xs',x.d,false,false⟩) (cur':=R) (e':=el) hu ⟨h1,h2,h3,h4,fun k hk=>ho k (by have:=k3 hro; omega)⟩
  (fun j b2 s2 hj hji=>ho b2 fun hbb=>hji (hs.inj j T b2 s2 s hj (hbb▸hb))) (fun b2 o hf=>World.cell?_of_block (w:=w) (ho b2 (hfz b2 o hf))) hh (k3 hro) (fun j s2 hj hjb=>hj (hs.inj j T b s2 s hjb hb)) hlen k4.1 hc (fun _ o hf=>hfz b o hf rfl) (fun o hf=>(hfz b o hf rfl).elim)
theorem RS.rehomed{P:Program}{C:Cx P}{G:Gh}{bx:Nat->Option Bx}{w w':World}(hs:RS C G bx w){T id:Nat}{x:Bx}(hx:bx T=some x)(hn:¬G.nl T){b s:Nat}(hb:G.bm T=some (b,s))
  (hu:¬G.used id) (R:Array Value) (el:TypeId) (xs':List AV) (hlen:xs'.length*s<=R.size) (hh:w'.heap[w.heap.size]?=some (.cells R el (0,0))) (ho:∀k,k<w.heap.size->w'.heap[k]?=w.heap[k]?) (h1:w'.os=w.os) (h2:w'.tape=w.tape) (h3:w'.output=w.output) (h4:w.heap.size<=w'.heap.size) (hc:U0 G w s xs' R) :
  RS C (G.rename T id w.heap.size s) (P9 (P9 bx T none) id (some ⟨xs',x.d,false,false⟩)) w'/\I9 G w (G.rename T id w.heap.size s) w':=by
 obtain⟨b1,s1,cur1,e1,k1,k2,k3,k4,k5,k6,k7⟩:=hs.box T x hx hn;rw[hb] at k1;injection k1 with k1
 injection k1 with kb ks
 subst kb ks;have hfl:∀b2 o,G.fz b2 o->b2<w.heap.size:=fun b2 o hf=>let ⟨u,hu⟩:=hs.fzok b2 o hf; P0 hu;exact hs.moved (id0:=T) (id:=id) (b':=w.heap.size) (s:=s) (x':=⟨xs',x.d,false,false⟩) (cur':=R) (e':=el) hu ⟨h1,h2,h3,h4,fun k hk=>ho k (by have:=hs.size; omega)⟩
  (fun j b2 s2 hj hji=>ho b2 (hs.rows j b2 s2 hj)) (fun b2 o hf=>World.cell?_of_block (w:=w) (ho b2 (hfl b2 o hf))) hh hs.size (fun j s2 hj hjb=>by have:=hs.rows j _ s2 hjb; omega) hlen k4.1 hc (fun _ o hf=>by have:=hfl _ o hf; omega) (fun o hf=>by have:=hfl _ o hf; omega)
theorem A2L{G:Gh}{w:World}{k:IntKind}{n:Int}{v:Value}(h:RV G w (.int k n) v):v = .int k n:=by cases h; rfl
theorem A4B(xs:List AV)(y:AV)(T Y i:Nat)(id:Nat)(hi:i<=xs.length)(hTY:T≠Y)(hTid:T<id\/id+1024<=T)(hbig:xs.length<=1000000)(h1:∀x∈xs,x.cells.all AV.one=true)(hy:y.cells.length=1)(hy1:y.cells.all AV.one=true):
  A2 Tryz.prog 315 [.bsl T 0 xs.length,.int .i64 i,.bsl Y 0 1] [(T,⟨xs,.int .i64 0,false,false⟩),(Y,⟨[y],.int .i64 0,false,false⟩)] id (.bsl id 0 (xs.length+1)) [(T,none),(id,some ⟨xs.take i++y::xs.drop i,.int .i64 0,false,false⟩)]:=by
 refine⟨⟨_,Tryz.func315,by kernel_rfl,by kernel_rfl⟩,fun C G bx w vs nb hs hv hh hnb hid=>?_⟩;have hxT:=hh (T,⟨xs,.int .i64 0,false,false⟩) (by simp);have hxY:=hh (Y,⟨[y],.int .i64 0,false,false⟩) (by simp);simp only at hxT hxY;have hu:¬G.used id:=hid id (yg _) (by omega);obtain⟨hl,hvv⟩:=hv;obtain⟨v0,v1,v2,rfl⟩:∃v0 v1 v2,vs = #[v0,v1,v2]:=by
  match vs,hl with
  | ⟨[a,b,c]⟩,_=>exact⟨a,b,c,rfl⟩
 have hv0:RV G w (.bsl T 0 xs.length) v0:=hvv 0 _ rfl;have hv1:RV G w (.int .i64 i) v1:=hvv 1 _ rfl;have hv2:RV G w (.bsl Y 0 1) v2:=hvv 2 _ rfl;obtain rfl:=A2L hv1;have hnY:¬G.nl Y:=hs.lies hxY (i:=0) (y:=y) rfl;obtain⟨vb,sY,curY,eY,y1,y2,y3,⟨y4,y5⟩,y6,y7,y8⟩:=hs.box Y _ hxY hnY;have hsY:sY=1:=by
  have:=(y6 0 y rfl).1;omega
 subst hsY;obtain⟨vc,curY',eY',hv2',hvc1,hvc2,hvc3,hvc4⟩:∃c cur e,v2 = .slice (some ⟨vb,0,none⟩) 1 c/\1<=c/\c<=maxLen/\w.heap[vb]?=some (.cells cur e (0,0))/\cur.size=(0+c)*1:=by
  cases hv2 with|bsl _ _ _ _ _ _ hb _ =>
  obtain⟨c,cur,e,q1,q2,q3,q4,q5⟩:=hb vb 1 y1;exact⟨c,cur,e,by simpa using q1,q2,q3,q4,q5⟩
 have hv2o:=hv2;subst hv2';obtain⟨vl,hvl⟩:∃vl,vl=curY.toList.take 1:=⟨_,rfl⟩;have hszY:1<=curY.size:=by simpa using y5
 have hvll:vl.length=1:=by rw[hvl,zu,yp]; omega
 have hvs:∀j v,vl[j]?=some v->w.cell? ⟨vb,j,none⟩=some v:=fun j v hj=>by
  rw[hvl,zr] at hj;split at hj
  ·exact (C1 y2).trans (by simpa using hj)
  ·cases hj
 have h1v:∀v∈vl,v.oneCell'=true:=by
  have:=S4 y6 (h1:=fun x hx=>by simp at hx; subst hx; exact hy1);rw[hvl];simpa using this
 have hyv:∀(j:Nat) z,y.cells[j]?=some z->∃u,vl[j]?=some u/\RV G w z u:=fun j z hz=>by
  obtain⟨u,q1,q2⟩:=(y6 0 y rfl).2 j z hz;refine⟨u,?_,q2⟩;have hj:j<1:=by rw[←hy]; exact (ze.1 hz).1
  rw[hvl,zr,zk hj];simpa using q1
 by_cases hin:i=xs.length
 ·-- at the end: an append
  subst hin;obtain⟨i0,hi0,hz0,hzs,hzb⟩:=info_parts (P:=Tryz.prog) (e:=3) (z:=.int .i64 0) (size:=1) (bytes:=8) (by kernel_rfl);have hap:=A1z (P:=Tryz.prog) hs hu hv0 hv2o (ys:=[y]) (by simp[elems,hxY]) (d:=.int .i64 0) (s:=1) (bytes:=8) (by simpa using hy) (fun z hz c hc=>by simp at hz; subst hz; exact yq.1 hy1 c hc) (r:=.bsl id 0 (xs.length+1)) (rd:=[(T,⟨xs,.int .i64 0,false,false⟩)]) (wr:=[(T,none),(id,some ⟨xs++[y],.int .i64 0,false,false⟩)])
   (by simp[A2X,hxT,Bx.sz]) (by simp[zT]) (t:=106) (tx:=106) (ty:=106) (e:=3) (i:=i0) (z:=.int .i64 0) (.inr ⟨fun t h=>(by cases h),3,Tryz.underlying106⟩) Tryz.underlying106 hi0 hz0 (by rfl) hzs hzb
   (fun n hn=>by simp[e7,hxT] at hn; subst hn; constructor<;>(simp; omega))
  obtain⟨v,w1,G',hrun,r1,r2,r3,r4⟩:=hap;have hform:∃A c,v0 = .slice A xs.length c/\xs.length<=c/\c<=maxLen/\(A=none->c=0):=by
   by_cases hn:G.nl T
   ·have hx0:=(hs.nil T _ hxT hn).1;simp only at hx0;cases hv0 with|bsl _ _ _ _ _ _ _ hnl =>
    obtain⟨q1,_,q3⟩:=hnl hn;exact⟨none,0,by rw[q1,q3],by omega,by simp[maxLen],fun _=>rfl⟩
   ·obtain⟨b,s,cur,e,k1,_⟩:=hs.box T _ hxT hn;cases hv0 with|bsl _ _ _ _ _ _ hb _ =>
    obtain⟨c,_,_,q1,q2,q3,_⟩:=hb b s k1;exact⟨_,c,q1,q2,q3,fun h=>by cases h⟩
  obtain⟨A,c,rfl,q2,q3,q4⟩:=hform;refine (A8j A xs.length c vb vc w w1 v q2 (by unfold maxLen at q3; omega) q4 (fun ty=>hrun)).mono fun e w' ⟨he,hw⟩=>?_;subst he hw;refine⟨v,G',rfl,?_,r2,r3,fun x hx=>(r4 x hx).imp _root_.id fun h=>by omega⟩;simpa using r1
 ·have hin':i<xs.length:=by omega
  have hnT:¬G.nl T:=fun hn=>by have:=(hs.nil T _ hxT hn).1; simp only at this; rw[this] at hin'; simp at hin'
  obtain⟨b,sT,cur,e,k1,k2,k3,⟨k4,k5⟩,k6,k7,k8⟩:=hs.box T _ hxT hnT;have hsT:sT=1:=by rw[←k4]; rfl
  subst hsT;obtain⟨c,hv0',hc1,hc2,hc3⟩:∃c,v0 = .slice (some ⟨b,0,none⟩) xs.length c/\xs.length<=c/\c<=maxLen/\cur.size=c*1:=by
   cases hv0 with|bsl _ _ _ _ _ _ hb _ =>
   obtain⟨c,cur',e',q1,q2,q3,q4,q5⟩:=hb b 1 k1;rw[k2] at q4;injection q4 with q4
   injection q4 with q4 _
   subst q4;exact⟨c,by simpa using q1,q2,q3,by simpa using q5⟩
  subst hv0';simp only at k5 k6;unfold maxLen at hc2;have h1c:=S4 k6 h1;have hct:cur.toList.length=cur.size:=by simp
  have hvb:vb≠b:=fun e=>hTY (hs.inj T Y b 1 1 k1 (e▸y1));have hfin:∀(W:World) (b':Nat) (cc:Nat) (R:List Value) (el':TypeId),(∀k,k<i*1->R[k]?=cur[k]?)->(∀j,j<1->R[i*1+j]?=vl[j]?)->(∀k,i*1<=k->k<xs.length*1->R[k+1]?=cur[k]?)->U0 G w 1 (xs.take i++y::xs.drop i) R.toArray:=fun W b' cc R el' q1 q2 q3=>A2o k6 hi hy hyv q1 q2 q3;have hlen':(xs.take i++y::xs.drop i).length=xs.length+1:=by simp; omega
  by_cases hroom:xs.length+1<=c
  ·-- there is room
   have hsa:w.shape? vb=some (eY,curY.size):=(by simp[World.shape?,y2]);have hsb:w.shape? b=some (e,cur.size):=(by simp[World.shape?,k2]);refine (A6N b xs.length c i vb vc cur e vl w hin' hroom (by omega) hvb hvll k2 (by omega) (by simpa using h1c) hvs h1v eY e curY.size cur.size hsa hsb (by omega) (by simp[World.frozen?,y2]) (by simp[World.frozen?,y2])).mono fun ex w' ⟨he,q,hw⟩=>?_;subst he;obtain⟨L1,hL1⟩:∃L1,L1=E3 cur.toList (i+1) ((cur.toList.take (xs.length)).drop (i)):=⟨_,rfl⟩;rw[←hL1] at hw;have hcl:((cur.toList.take (xs.length)).drop (i)).length=(xs.length - i):=(by rw[xc,zu,hct]; omega);have hL1l:L1.length=cur.size:=(by rw[hL1,I2 (by rw[hcl,hct]; omega),hct]);have hRl:(E3 L1 (i) vl).length=cur.size:=(by rw[I2 (by omega),hL1l]);have hcont:U0 G w 1 (xs.take i++y::xs.drop i) (E3 L1 (i) vl).toArray:=by
    refine hfin w b c _ e (fun k hk=>?_) (fun j hj=>?_) (fun k hk1 hk2=>?_)
    ·rw[D3 (by omega),zk (by omega),hL1,D3 (by rw[hcl,hct]; omega),zk (by omega),yj]
    ·rw[D3 (by omega),zh (by omega),zk (by omega)];congr 1
     omega
    ·rw[D3 (by omega),zh (by omega),zh (by omega),hL1,D3 (by rw[hcl,hct]; omega),zh (by omega),zk (by rw[hcl]; omega),zw,zr,zk (by omega),yj];congr 1
     omega
   have hg1:((w.drewN q).setRow b L1.toArray).heap[b]?=some (.cells L1.toArray e (0,0)):=setRow_heap (w.drewN q) b cur _ e (0,0) k2;have hg2:w'.heap[b]?=some (.cells (E3 L1 (i) vl).toArray e (0,0)):=(by rw[hw]; exact setRow_heap _ b _ _ e (0,0) hg1);have hother:∀k,k≠b->w'.heap[k]?=w.heap[k]?:=fun k hk=>by
    rw[hw];exact (setRow_other _ b k _ hk).trans (setRow_other (w.drewN q) b k _ hk)
   obtain⟨r1,r2⟩:=hs.rowed (id:=id) hxT rfl rfl hnT k1 k2 hu (E3 L1 (i) vl).toArray (xs.take i++y::xs.drop i) (by rw[hlen',yc,hRl]; omega) hg2 hother (by rw[hw]; rfl) (by rw[hw]; rfl) (by rw[hw]; rfl) (by rw[hw]; simp[World.drewN]) hcont;refine⟨_,_,rfl,r1,r2,?_,fun x hx=>hx.elim (fun h=>.inr (by omega)) .inl⟩;refine .bsl id 0 _ _ rfl (.inl rfl) (fun b' s' hbm=>?_) fun hn'=>(hu (hs.nlu id hn').1).elim;simp only[Gh.rename,B5,zc,zg] at hbm;obtain⟨rfl,rfl⟩:=hbm;exact⟨c,_,e,by simp,hroom,by unfold maxLen; omega,hg2,by rw[yc,hRl]; omega⟩
  ·-- a new row
   refine (A7q b xs.length c i vb vc cur e vl w hin' hc1 (by omega) (by omega) hvll k2 (by omega) (by simpa using h1c) hvs h1v).mono fun ex w' ⟨he,q,ROW,hRl,hRt,hw⟩=>?_;subst he;have hG1:=grownCap_ge w (xs.length+1) c 3;have hG2:=grownCap_le_maxLen w (xs.length+1) c 3 (by unfold maxLen; omega);generalize grownCap w (xs.length+1) c 3=g at hRl hG1 hG2 hw;obtain⟨R1,hR1⟩:∃R1,R1=E3 ROW (i) vl:=⟨_,rfl⟩;rw[←hR1] at hw;have hcl:((cur.toList.take (xs.length)).drop (i)).length=(xs.length - i):=(by rw[xc,zu,hct]; omega);have hR1l:R1.length=g*1:=(by rw[hR1,I2 (by omega),hRl]);obtain⟨R2,hR2⟩:∃R2,R2=E3 R1 (i+1) ((cur.toList.take (xs.length)).drop (i)):=⟨_,rfl⟩;rw[←hR2] at hw;have hR2l:R2.length=g*1:=(by rw[hR2,I2 (by rw[hcl]; omega),hR1l]);have hcont:U0 G w 1 (xs.take i++y::xs.drop i) R2.toArray:=by
    refine hfin w b c _ e (fun k hk=>?_) (fun j hj=>?_) (fun k hk1 hk2=>?_)
    ·rw[hR2,D3 (by rw[hcl]; omega),zk (by omega),hR1,D3 (by omega),zk (by omega)];have:=congrArg (fun l=>l[k]?) hRt;simp only[zr] at this;rw[zk (by omega),zk (by omega)] at this;rw[this,yj]
    ·rw[hR2,D3 (by rw[hcl]; omega),zk (by omega),hR1,D3 (by omega),zh (by omega),zk (by omega)];congr 1
     omega
    ·rw[hR2,D3 (by rw[hcl]; omega),zh (by omega),zk (by rw[hcl]; omega),zw,zr,zk (by omega),yj];congr 1
     omega
   have hN0:((w.drewN q).alloc (.cells ROW.toArray 3)).heap[w.heap.size]?=some (.cells ROW.toArray 3 (0,0)):=heap_alloc_new (w.drewN q) _;have hN1:(((w.drewN q).alloc (.cells ROW.toArray 3)).setRow w.heap.size R1.toArray).heap[w.heap.size]?=some (.cells R1.toArray 3 (0,0)):=setRow_heap _ _ _ _ _ (0,0) hN0;have hN2:w'.heap[w.heap.size]?=some (.cells R2.toArray 3 (0,0)):=(by rw[hw]; exact setRow_heap _ _ _ _ _ (0,0) hN1);have hother:∀k,k<w.heap.size->w'.heap[k]?=w.heap[k]?:=fun k hk=>by
    rw[hw];exact ((setRow_other _ _ k _ (by omega)).trans (setRow_other _ _ k _ (by omega))).trans (Below.heap_alloc (w.drewN q) _ k hk)
   obtain⟨r1,r2⟩:=hs.rehomed (id:=id) hxT hnT k1 hu R2.toArray 3 (xs.take i++y::xs.drop i) (by rw[hlen',yc,hR2l]; omega) hN2 hother (by rw[hw]; rfl) (by rw[hw]; rfl) (by rw[hw]; rfl) (by rw[hw]; simp[World.drewN]) hcont;refine⟨_,_,rfl,r1,r2,?_,fun x hx=>hx.elim (fun h=>.inr (by omega)) .inl⟩;refine .bsl id 0 _ _ rfl (.inl rfl) (fun b' s' hbm=>?_) fun hn'=>(hu (hs.nlu id hn').1).elim;simp only[Gh.rename,B5,zc,zg] at hbm;obtain⟨rfl,rfl⟩:=hbm;exact⟨g,_,3,by simp,hG1,hG2,hN2,by rw[yc,hR2l]; omega⟩
theorem A6P(xs:List AV)(y:AV)(T Y i:Nat)(id:Nat)(hi:i<=xs.length)(hTY:T≠Y)(hTid:T<id\/id+1024<=T)(hbig:xs.length<=1000000)(h1:∀x∈xs,x.cells.all AV.one=true)(hy:y.cells.length=3)(hy1:y.cells.all AV.one=true):
  A2 Tryz.prog 260 [.bsl T 0 xs.length,.int .i64 i,.bsl Y 0 1] [(T,⟨xs,zT,false,false⟩),(Y,⟨[y],zT,false,false⟩)] id (.bsl id 0 (xs.length+1)) [(T,none),(id,some ⟨xs.take i++y::xs.drop i,zT,false,false⟩)]:=by
 refine⟨⟨_,Tryz.func260,by kernel_rfl,by kernel_rfl⟩,fun C G bx w vs nb hs hv hh hnb hid=>?_⟩;have hxT:=hh (T,⟨xs,zT,false,false⟩) (by simp);have hxY:=hh (Y,⟨[y],zT,false,false⟩) (by simp);simp only at hxT hxY;have hu:¬G.used id:=hid id (yg _) (by omega);obtain⟨hl,hvv⟩:=hv;obtain⟨v0,v1,v2,rfl⟩:∃v0 v1 v2,vs = #[v0,v1,v2]:=by
  match vs,hl with
  | ⟨[a,b,c]⟩,_=>exact⟨a,b,c,rfl⟩
 have hv0:RV G w (.bsl T 0 xs.length) v0:=hvv 0 _ rfl;have hv1:RV G w (.int .i64 i) v1:=hvv 1 _ rfl;have hv2:RV G w (.bsl Y 0 1) v2:=hvv 2 _ rfl;obtain rfl:=A2L hv1;have hnY:¬G.nl Y:=hs.lies hxY (i:=0) (y:=y) rfl;obtain⟨vb,sY,curY,eY,y1,y2,y3,⟨y4,y5⟩,y6,y7,y8⟩:=hs.box Y _ hxY hnY;have hsY:sY=3:=by
  have:=(y6 0 y rfl).1;omega
 subst hsY;obtain⟨vc,curY',eY',hv2',hvc1,hvc2,hvc3,hvc4⟩:∃c cur e,v2 = .slice (some ⟨vb,0,none⟩) 1 c/\1<=c/\c<=maxLen/\w.heap[vb]?=some (.cells cur e (0,0))/\cur.size=(0+c)*3:=by
  cases hv2 with|bsl _ _ _ _ _ _ hb _ =>
  obtain⟨c,cur,e,q1,q2,q3,q4,q5⟩:=hb vb 3 y1;exact⟨c,cur,e,by simpa using q1,q2,q3,q4,q5⟩
 have hv2o:=hv2;subst hv2';obtain⟨vl,hvl⟩:∃vl,vl=curY.toList.take 3:=⟨_,rfl⟩;have hszY:3<=curY.size:=by simpa using y5
 have hvll:vl.length=3:=by rw[hvl,zu,yp]; omega
 have hvs:∀j v,vl[j]?=some v->w.cell? ⟨vb,j,none⟩=some v:=fun j v hj=>by
  rw[hvl,zr] at hj;split at hj
  ·exact (C1 y2).trans (by simpa using hj)
  ·cases hj
 have h1v:∀v∈vl,v.oneCell'=true:=by
  have:=S4 y6 (h1:=fun x hx=>by simp at hx; subst hx; exact hy1);rw[hvl];simpa using this
 have hyv:∀(j:Nat) z,y.cells[j]?=some z->∃u,vl[j]?=some u/\RV G w z u:=fun j z hz=>by
  obtain⟨u,q1,q2⟩:=(y6 0 y rfl).2 j z hz;refine⟨u,?_,q2⟩;have hj:j<3:=by rw[←hy]; exact (ze.1 hz).1
  rw[hvl,zr,zk hj];simpa using q1
 by_cases hin:i=xs.length
 ·-- at the end: an append
  subst hin;obtain⟨i0,hi0,hz0,hzs,hzb⟩:=info_parts (P:=Tryz.prog) (e:=66) (z:=.agg #[.int .i64 0,.int .i64 0,.slice none 0 0]) (size:=3) (bytes:=40) (by kernel_rfl);have hap:=A1z (P:=Tryz.prog) hs hu hv0 hv2o (ys:=[y]) (by simp[elems,hxY]) (d:=zT) (s:=3) (bytes:=40) (by simpa using hy) (fun z hz c hc=>by simp at hz; subst hz; exact yq.1 hy1 c hc) (r:=.bsl id 0 (xs.length+1)) (rd:=[(T,⟨xs,zT,false,false⟩)]) (wr:=[(T,none),(id,some ⟨xs++[y],zT,false,false⟩)])
   (by simp[A2X,hxT,Bx.sz]) (by simp[zT]) (t:=27) (tx:=27) (ty:=27) (e:=66) (i:=i0) (z:=.agg #[.int .i64 0,.int .i64 0,.slice none 0 0]) (.inr ⟨fun t h=>(by cases h),66,Tryz.underlying27⟩) Tryz.underlying27 hi0 hz0 (by rfl) hzs hzb
   (fun n hn=>by simp[e7,hxT] at hn; subst hn; constructor<;>(simp; omega))
  obtain⟨v,w1,G',hrun,r1,r2,r3,r4⟩:=hap;have hform:∃A c,v0 = .slice A xs.length c/\xs.length<=c/\c<=maxLen/\(A=none->c=0):=by
   by_cases hn:G.nl T
   ·have hx0:=(hs.nil T _ hxT hn).1;simp only at hx0;cases hv0 with|bsl _ _ _ _ _ _ _ hnl =>
    obtain⟨q1,_,q3⟩:=hnl hn;exact⟨none,0,by rw[q1,q3],by omega,by simp[maxLen],fun _=>rfl⟩
   ·obtain⟨b,s,cur,e,k1,_⟩:=hs.box T _ hxT hn;cases hv0 with|bsl _ _ _ _ _ _ hb _ =>
    obtain⟨c,_,_,q1,q2,q3,_⟩:=hb b s k1;exact⟨_,c,q1,q2,q3,fun h=>by cases h⟩
  obtain⟨A,c,rfl,q2,q3,q4⟩:=hform;refine (A6O A xs.length c vb vc w w1 v q2 (by unfold maxLen at q3; omega) q4 (fun ty=>hrun)).mono fun e w' ⟨he,hw⟩=>?_;subst he hw;refine⟨v,G',rfl,?_,r2,r3,fun x hx=>(r4 x hx).imp _root_.id fun h=>by omega⟩;simpa using r1
 ·have hin':i<xs.length:=by omega
  have hnT:¬G.nl T:=fun hn=>by have:=(hs.nil T _ hxT hn).1; simp only at this; rw[this] at hin'; simp at hin'
  obtain⟨b,sT,cur,e,k1,k2,k3,⟨k4,k5⟩,k6,k7,k8⟩:=hs.box T _ hxT hnT;have hsT:sT=3:=by rw[←k4]; rfl
  subst hsT;obtain⟨c,hv0',hc1,hc2,hc3⟩:∃c,v0 = .slice (some ⟨b,0,none⟩) xs.length c/\xs.length<=c/\c<=maxLen/\cur.size=c*3:=by
   cases hv0 with|bsl _ _ _ _ _ _ hb _ =>
   obtain⟨c,cur',e',q1,q2,q3,q4,q5⟩:=hb b 3 k1;rw[k2] at q4;injection q4 with q4
   injection q4 with q4 _
   subst q4;exact⟨c,by simpa using q1,q2,q3,by simpa using q5⟩
  subst hv0';simp only at k5 k6;unfold maxLen at hc2;have h1c:=S4 k6 h1;have hct:cur.toList.length=cur.size:=by simp
  have hvb:vb≠b:=fun e=>hTY (hs.inj T Y b 3 3 k1 (e▸y1));have hfin:∀(W:World) (b':Nat) (cc:Nat) (R:List Value) (el':TypeId),(∀k,k<i*3->R[k]?=cur[k]?)->(∀j,j<3->R[i*3+j]?=vl[j]?)->(∀k,i*3<=k->k<xs.length*3->R[k+3]?=cur[k]?)->U0 G w 3 (xs.take i++y::xs.drop i) R.toArray:=fun W b' cc R el' q1 q2 q3=>A2o k6 hi hy hyv q1 q2 q3;have hlen':(xs.take i++y::xs.drop i).length=xs.length+1:=by simp; omega
  by_cases hroom:xs.length+1<=c
  ·-- there is room
   have hsa:w.shape? vb=some (eY,curY.size):=(by simp[World.shape?,y2]);have hsb:w.shape? b=some (e,cur.size):=(by simp[World.shape?,k2]);refine (A49 b xs.length c i vb vc cur e vl w hin' hroom (by omega) hvb hvll k2 (by omega) (by simpa using h1c) hvs h1v eY e curY.size cur.size hsa hsb (by omega) (by simp[World.frozen?,y2]) (by simp[World.frozen?,y2])).mono fun ex w' ⟨he,q,hw⟩=>?_;subst he;obtain⟨L1,hL1⟩:∃L1,L1=E3 cur.toList ((i+1)*3) ((cur.toList.take (xs.length*3)).drop (i*3)):=⟨_,rfl⟩;rw[←hL1] at hw;have hcl:((cur.toList.take (xs.length*3)).drop (i*3)).length=(xs.length - i)*3:=(by rw[xc,zu,hct]; omega);have hL1l:L1.length=cur.size:=(by rw[hL1,I2 (by rw[hcl,hct]; omega),hct]);have hRl:(E3 L1 (i*3) vl).length=cur.size:=(by rw[I2 (by omega),hL1l]);have hcont:U0 G w 3 (xs.take i++y::xs.drop i) (E3 L1 (i*3) vl).toArray:=by
    refine hfin w b c _ e (fun k hk=>?_) (fun j hj=>?_) (fun k hk1 hk2=>?_)
    ·rw[D3 (by omega),zk (by omega),hL1,D3 (by rw[hcl,hct]; omega),zk (by omega),yj]
    ·rw[D3 (by omega),zh (by omega),zk (by omega)];congr 1
     omega
    ·rw[D3 (by omega),zh (by omega),zh (by omega),hL1,D3 (by rw[hcl,hct]; omega),zh (by omega),zk (by rw[hcl]; omega),zw,zr,zk (by omega),yj];congr 1
     omega
   have hg1:((w.drewN q).setRow b L1.toArray).heap[b]?=some (.cells L1.toArray e (0,0)):=setRow_heap (w.drewN q) b cur _ e (0,0) k2;have hg2:w'.heap[b]?=some (.cells (E3 L1 (i*3) vl).toArray e (0,0)):=(by rw[hw]; exact setRow_heap _ b _ _ e (0,0) hg1);have hother:∀k,k≠b->w'.heap[k]?=w.heap[k]?:=fun k hk=>by
    rw[hw];exact (setRow_other _ b k _ hk).trans (setRow_other (w.drewN q) b k _ hk)
   obtain⟨r1,r2⟩:=hs.rowed (id:=id) hxT rfl rfl hnT k1 k2 hu (E3 L1 (i*3) vl).toArray (xs.take i++y::xs.drop i) (by rw[hlen',yc,hRl]; omega) hg2 hother (by rw[hw]; rfl) (by rw[hw]; rfl) (by rw[hw]; rfl) (by rw[hw]; simp[World.drewN]) hcont;refine⟨_,_,rfl,r1,r2,?_,fun x hx=>hx.elim (fun h=>.inr (by omega)) .inl⟩;refine .bsl id 0 _ _ rfl (.inl rfl) (fun b' s' hbm=>?_) fun hn'=>(hu (hs.nlu id hn').1).elim;simp only[Gh.rename,B5,zc,zg] at hbm;obtain⟨rfl,rfl⟩:=hbm;exact⟨c,_,e,by simp,hroom,by unfold maxLen; omega,hg2,by rw[yc,hRl]; omega⟩
  ·-- a new row
   refine (A4Z b xs.length c i vb vc cur e vl w hin' hc1 (by omega) (by omega) hvll k2 (by omega) (by simpa using h1c) hvs h1v).mono fun ex w' ⟨he,q,ROW,hRl,hRt,hw⟩=>?_;subst he;have hG1:=grownCap_ge w (xs.length+1) c 66;have hG2:=grownCap_le_maxLen w (xs.length+1) c 66 (by unfold maxLen; omega);generalize grownCap w (xs.length+1) c 66=g at hRl hG1 hG2 hw;obtain⟨R1,hR1⟩:∃R1,R1=E3 ROW (i*3) vl:=⟨_,rfl⟩;rw[←hR1] at hw;have hcl:((cur.toList.take (xs.length*3)).drop (i*3)).length=(xs.length - i)*3:=(by rw[xc,zu,hct]; omega);have hR1l:R1.length=g*3:=(by rw[hR1,I2 (by omega),hRl]);obtain⟨R2,hR2⟩:∃R2,R2=E3 R1 ((i+1)*3) ((cur.toList.take (xs.length*3)).drop (i*3)):=⟨_,rfl⟩;rw[←hR2] at hw;have hR2l:R2.length=g*3:=(by rw[hR2,I2 (by rw[hcl]; omega),hR1l]);have hcont:U0 G w 3 (xs.take i++y::xs.drop i) R2.toArray:=by
    refine hfin w b c _ e (fun k hk=>?_) (fun j hj=>?_) (fun k hk1 hk2=>?_)
    ·rw[hR2,D3 (by rw[hcl]; omega),zk (by omega),hR1,D3 (by omega),zk (by omega)];have:=congrArg (fun l=>l[k]?) hRt;simp only[zr] at this;rw[zk (by omega),zk (by omega)] at this;rw[this,yj]
    ·rw[hR2,D3 (by rw[hcl]; omega),zk (by omega),hR1,D3 (by omega),zh (by omega),zk (by omega)];congr 1
     omega
    ·rw[hR2,D3 (by rw[hcl]; omega),zh (by omega),zk (by rw[hcl]; omega),zw,zr,zk (by omega),yj];congr 1
     omega
   have hN0:((w.drewN q).alloc (.cells ROW.toArray 66)).heap[w.heap.size]?=some (.cells ROW.toArray 66 (0,0)):=heap_alloc_new (w.drewN q) _;have hN1:(((w.drewN q).alloc (.cells ROW.toArray 66)).setRow w.heap.size R1.toArray).heap[w.heap.size]?=some (.cells R1.toArray 66 (0,0)):=setRow_heap _ _ _ _ _ (0,0) hN0;have hN2:w'.heap[w.heap.size]?=some (.cells R2.toArray 66 (0,0)):=(by rw[hw]; exact setRow_heap _ _ _ _ _ (0,0) hN1);have hother:∀k,k<w.heap.size->w'.heap[k]?=w.heap[k]?:=fun k hk=>by
    rw[hw];exact ((setRow_other _ _ k _ (by omega)).trans (setRow_other _ _ k _ (by omega))).trans (Below.heap_alloc (w.drewN q) _ k hk)
   obtain⟨r1,r2⟩:=hs.rehomed (id:=id) hxT hnT k1 hu R2.toArray 66 (xs.take i++y::xs.drop i) (by rw[hlen',yc,hR2l]; omega) hN2 hother (by rw[hw]; rfl) (by rw[hw]; rfl) (by rw[hw]; rfl) (by rw[hw]; simp[World.drewN]) hcont;refine⟨_,_,rfl,r1,r2,?_,fun x hx=>hx.elim (fun h=>.inr (by omega)) .inl⟩;refine .bsl id 0 _ _ rfl (.inl rfl) (fun b' s' hbm=>?_) fun hn'=>(hu (hs.nlu id hn').1).elim;simp only[Gh.rename,B5,zc,zg] at hbm;obtain⟨rfl,rfl⟩:=hbm;exact⟨g,_,66,by simp,hG1,hG2,hN2,by rw[yc,hR2l]; omega⟩
theorem A8k(xs:List AV)(T i:Nat)(id:Nat)(hi:i<xs.length)(hbig:xs.length<=1000000)(h1:∀x∈xs,x.cells.all AV.one=true):
  A2 Tryz.prog 300 [.bsl T 0 xs.length,.int .i64 i,.int .i64 ((i:Int)+1)] [(T,⟨xs,.int .i64 0,false,false⟩)] id (.bsl id 0 (xs.length - 1)) [(T,none),(id,some ⟨xs.take i++xs.drop (i+1),.int .i64 0,false,false⟩)]:=by
 refine⟨⟨_,Tryz.func300,by kernel_rfl,by kernel_rfl⟩,fun C G bx w vs nb hs hv hh hnb hid=>?_⟩;have hxT:=hh (T,⟨xs,.int .i64 0,false,false⟩) (by simp);simp only at hxT;have hu:¬G.used id:=hid id (yg _) (by omega);obtain⟨hl,hvv⟩:=hv;obtain⟨v0,v1,v2,rfl⟩:∃v0 v1 v2,vs = #[v0,v1,v2]:=by
  match vs,hl with
  | ⟨[a,b,c]⟩,_=>exact⟨a,b,c,rfl⟩
 have hv0:RV G w (.bsl T 0 xs.length) v0:=hvv 0 _ rfl;have hv1:RV G w (.int .i64 i) v1:=hvv 1 _ rfl;have hv2:RV G w (.int .i64 ((i:Int)+1)) v2:=hvv 2 _ rfl;obtain rfl:=A2L hv1;obtain rfl:=A2L hv2;have hnT:¬G.nl T:=fun hn=>by have:=(hs.nil T _ hxT hn).1; simp only at this; rw[this] at hi; simp at hi
 obtain⟨b,sT,cur,e,k1,k2,k3,⟨k4,k5⟩,k6,k7,k8⟩:=hs.box T _ hxT hnT;have hsT:sT=1:=by rw[←k4]; rfl
 subst hsT;obtain⟨c,hv0',hc1,hc2,hc3⟩:∃c,v0 = .slice (some ⟨b,0,none⟩) xs.length c/\xs.length<=c/\c<=maxLen/\cur.size=c*1:=by
  cases hv0 with|bsl _ _ _ _ _ _ hb _ =>
  obtain⟨c,cur',e',q1,q2,q3,q4,q5⟩:=hb b 1 k1;rw[k2] at q4;injection q4 with q4
  injection q4 with q4 _
  subst q4;exact⟨c,by simpa using q1,q2,q3,by simpa using q5⟩
 subst hv0';simp only at k5 k6;unfold maxLen at hc2;have h1c:=S4 k6 h1;have hct:cur.toList.length=cur.size:=by simp
 refine (B3w b xs.length c i cur e w hi hc1 (by omega) k2 (by omega) (by simpa using h1c)).mono fun ex w' ⟨he,q,hw⟩=>?_;subst he;obtain⟨L1,hL1⟩:∃L1,L1=E3 cur.toList (i) ((cur.toList.take (xs.length)).drop (i+1)):=⟨_,rfl⟩;rw[←hL1] at hw;obtain⟨zs,hzs⟩:∃zs,zs=(Builtin.zeroCells (Value.cells (.int .i64 0)) 1).toList:=⟨_,rfl⟩;rw[←hzs] at hw;have hzl:zs.length=1:=by rw[hzs,yp,size_zeroCells]<;>rfl
 have hcl:((cur.toList.take (xs.length)).drop (i+1)).length=(xs.length - (i+1)):=by rw[xc,zu,hct]; omega
 have hL1l:L1.length=cur.size:=by rw[hL1,I2 (by rw[hcl,hct]; omega),hct]
 have hRl:(E3 L1 (i+(xs.length - (i+1))) zs).length=cur.size:=by rw[I2 (by omega),hL1l]
 have hlen':(xs.take i++xs.drop (i+1)).length=xs.length - 1:=by simp; omega
 have hcont:U0 G w 1 (xs.take i++xs.drop (i+1)) (E3 L1 (i+(xs.length - (i+1))) zs).toArray:=by
  refine A4A k6 hi (fun k hk=>?_) (fun k hk1 hk2=>?_)
  ·rw[D3 (by omega),zk (by omega),hL1,D3 (by rw[hcl,hct]; omega),zk (by omega),yj]
  ·rw[D3 (by omega),zk (by omega),hL1,D3 (by rw[hcl,hct]; omega),zh (by omega),zk (by rw[hcl]; omega),zw,zr,zk (by omega),yj];congr 1
   omega
 have hg1:((w.drewN q).setRow b L1.toArray).heap[b]?=some (.cells L1.toArray e (0,0)):=setRow_heap (w.drewN q) b cur _ e (0,0) k2;have hg2:w'.heap[b]?=some (.cells (E3 L1 (i+(xs.length - (i+1))) zs).toArray e (0,0)):=by rw[hw]; exact setRow_heap _ b _ _ e (0,0) hg1
 have hother:∀k,k≠b->w'.heap[k]?=w.heap[k]?:=fun k hk=>by
  rw[hw];exact (setRow_other _ b k _ hk).trans (setRow_other (w.drewN q) b k _ hk)
 obtain⟨r1,r2⟩:=hs.rowed (id:=id) hxT rfl rfl hnT k1 k2 hu (E3 L1 (i+(xs.length - (i+1))) zs).toArray (xs.take i++xs.drop (i+1)) (by rw[hlen',yc,hRl]; omega) hg2 hother (by rw[hw]; rfl) (by rw[hw]; rfl) (by rw[hw]; rfl) (by rw[hw]; simp[World.drewN]) hcont;have hM:i+(xs.length - (i+1))=xs.length - 1:=by omega
 rw[hM];refine⟨_,_,rfl,r1,r2,?_,fun x hx=>hx.elim (fun h=>.inr (by omega)) .inl⟩;refine .bsl id 0 _ _ rfl (.inl rfl) (fun b' s' hbm=>?_) fun hn'=>(hu (hs.nlu id hn').1).elim;simp only[Gh.rename,B5,zc,zg] at hbm;obtain⟨rfl,rfl⟩:=hbm;exact⟨c,_,e,by simp,by omega,by unfold maxLen; omega,hg2,by rw[yc,hRl]; omega⟩
theorem A6Q(xs:List AV)(T i:Nat)(id:Nat)(hi:i<xs.length)(hbig:xs.length<=1000000)(h1:∀x∈xs,x.cells.all AV.one=true):
  A2 Tryz.prog 262 [.bsl T 0 xs.length,.int .i64 i,.int .i64 ((i:Int)+1)] [(T,⟨xs,zT,false,false⟩)] id (.bsl id 0 (xs.length - 1)) [(T,none),(id,some ⟨xs.take i++xs.drop (i+1),zT,false,false⟩)]:=by
 refine⟨⟨_,Tryz.func262,by kernel_rfl,by kernel_rfl⟩,fun C G bx w vs nb hs hv hh hnb hid=>?_⟩;have hxT:=hh (T,⟨xs,zT,false,false⟩) (by simp);simp only at hxT;have hu:¬G.used id:=hid id (yg _) (by omega);obtain⟨hl,hvv⟩:=hv;obtain⟨v0,v1,v2,rfl⟩:∃v0 v1 v2,vs = #[v0,v1,v2]:=by
  match vs,hl with
  | ⟨[a,b,c]⟩,_=>exact⟨a,b,c,rfl⟩
 have hv0:RV G w (.bsl T 0 xs.length) v0:=hvv 0 _ rfl;have hv1:RV G w (.int .i64 i) v1:=hvv 1 _ rfl;have hv2:RV G w (.int .i64 ((i:Int)+1)) v2:=hvv 2 _ rfl;obtain rfl:=A2L hv1;obtain rfl:=A2L hv2;have hnT:¬G.nl T:=fun hn=>by have:=(hs.nil T _ hxT hn).1; simp only at this; rw[this] at hi; simp at hi
 obtain⟨b,sT,cur,e,k1,k2,k3,⟨k4,k5⟩,k6,k7,k8⟩:=hs.box T _ hxT hnT;have hsT:sT=3:=by rw[←k4]; rfl
 subst hsT;obtain⟨c,hv0',hc1,hc2,hc3⟩:∃c,v0 = .slice (some ⟨b,0,none⟩) xs.length c/\xs.length<=c/\c<=maxLen/\cur.size=c*3:=by
  cases hv0 with|bsl _ _ _ _ _ _ hb _ =>
  obtain⟨c,cur',e',q1,q2,q3,q4,q5⟩:=hb b 3 k1;rw[k2] at q4;injection q4 with q4
  injection q4 with q4 _
  subst q4;exact⟨c,by simpa using q1,q2,q3,by simpa using q5⟩
 subst hv0';simp only at k5 k6;unfold maxLen at hc2;have h1c:=S4 k6 h1;have hct:cur.toList.length=cur.size:=by simp
 refine (B0Y b xs.length c i cur e w hi hc1 (by omega) k2 (by omega) (by simpa using h1c)).mono fun ex w' ⟨he,q,hw⟩=>?_;subst he;obtain⟨L1,hL1⟩:∃L1,L1=E3 cur.toList (i*3) ((cur.toList.take (xs.length*3)).drop ((i+1)*3)):=⟨_,rfl⟩;rw[←hL1] at hw;obtain⟨zs,hzs⟩:∃zs,zs=(Builtin.zeroCells (Value.cells (.agg #[.int .i64 0,.int .i64 0,.slice none 0 0])) 1).toList:=⟨_,rfl⟩;rw[←hzs] at hw;have hzl:zs.length=3:=by rw[hzs,yp,size_zeroCells]<;>rfl
 have hcl:((cur.toList.take (xs.length*3)).drop ((i+1)*3)).length=(xs.length - (i+1))*3:=by rw[xc,zu,hct]; omega
 have hL1l:L1.length=cur.size:=by rw[hL1,I2 (by rw[hcl,hct]; omega),hct]
 have hRl:(E3 L1 ((i+(xs.length - (i+1)))*3) zs).length=cur.size:=by rw[I2 (by omega),hL1l]
 have hlen':(xs.take i++xs.drop (i+1)).length=xs.length - 1:=by simp; omega
 have hcont:U0 G w 3 (xs.take i++xs.drop (i+1)) (E3 L1 ((i+(xs.length - (i+1)))*3) zs).toArray:=by
  refine A4A k6 hi (fun k hk=>?_) (fun k hk1 hk2=>?_)
  ·rw[D3 (by omega),zk (by omega),hL1,D3 (by rw[hcl,hct]; omega),zk (by omega),yj]
  ·rw[D3 (by omega),zk (by omega),hL1,D3 (by rw[hcl,hct]; omega),zh (by omega),zk (by rw[hcl]; omega),zw,zr,zk (by omega),yj];congr 1
   omega
 have hg1:((w.drewN q).setRow b L1.toArray).heap[b]?=some (.cells L1.toArray e (0,0)):=setRow_heap (w.drewN q) b cur _ e (0,0) k2;have hg2:w'.heap[b]?=some (.cells (E3 L1 ((i+(xs.length - (i+1)))*3) zs).toArray e (0,0)):=by rw[hw]; exact setRow_heap _ b _ _ e (0,0) hg1
 have hother:∀k,k≠b->w'.heap[k]?=w.heap[k]?:=fun k hk=>by
  rw[hw];exact (setRow_other _ b k _ hk).trans (setRow_other (w.drewN q) b k _ hk)
 obtain⟨r1,r2⟩:=hs.rowed (id:=id) hxT rfl rfl hnT k1 k2 hu (E3 L1 ((i+(xs.length - (i+1)))*3) zs).toArray (xs.take i++xs.drop (i+1)) (by rw[hlen',yc,hRl]; omega) hg2 hother (by rw[hw]; rfl) (by rw[hw]; rfl) (by rw[hw]; rfl) (by rw[hw]; simp[World.drewN]) hcont;have hM:i+(xs.length - (i+1))=xs.length - 1:=by omega
 rw[hM];refine⟨_,_,rfl,r1,r2,?_,fun x hx=>hx.elim (fun h=>.inr (by omega)) .inl⟩;refine .bsl id 0 _ _ rfl (.inl rfl) (fun b' s' hbm=>?_) fun hn'=>(hu (hs.nlu id hn').1).elim;simp only[Gh.rename,B5,zc,zg] at hbm;obtain⟨rfl,rfl⟩:=hbm;exact⟨c,_,e,by simp,by omega,by unfold maxLen; omega,hg2,by rw[yc,hRl]; omega⟩
def H8(k:Int)(f:Fd):Bool:=if k=3 then decide (f.kind=1) else if k=4 then decide (f.kind=2) else O5 f.kind
def T7(ty:Ty)(e:Ev)(c:Nat):AV:=if e.field<0 then .tup [.agg [.str [],.int .i64 0,.str []],.nilp,.int .i64 5] else match ty.fields[e.field.toNat]? with
 | none=>.tup [.agg [.str [],.int .i64 0,.str []],.nilp,.int .i64 5]
 | some f=>if H8 e.kind f=true then .tup [M4 f,.ptr c e.field.toNat 0,.int .i64 0] else .tup [M4 f,.nilp,.int .i64 7]
def L7(l:List Ty)(th:AV)(e:Ev)(i:Int):Bx:=⟨[eD l th e i],eD [] .nils ⟨0,0,0,0,0,[]⟩ 0,false,false⟩
theorem A2M(l:List Ty)(S:List D2)(e:Ev)(i:Nat)(o:D2)(ty:Ty)(D T:Nat)(id:Nat)(hty:l[e.type.toNat]?=some ty)(h0:0<=e.type)(ho:S[i]?=some o)(hlen:o.t.cells.length=ty.fields.length)(his:o.is.length=o.t.cells.length)(hl8:ty.fields.length<=1000)(d1:D≠T)(d2:D≠o.c)(d3:T≠o.c):
  A2 Tryz.prog 297 [.ptr D 0 0] [(D,L7 l (.bsl T 0 S.length) e i),(T,J9 S),(o.c,cBn o)] id (T7 ty e o.c) []:=by
 unfold J9 L7 cBn eD;generalize hoc:o.c=c at *;refine w297.b.1 fun E hP hR hl hid hB hu=>?_;simp[w297];have hD:=hl (D,_) (zb ..);simp only at hD;have D1:=lf hD;have hT:=hl (T,_) (za _ (zb ..));simp only at hT;have T1:=lf hT;have hc:=hl (c,_) (za _ (za _ (zb ..)));simp only at hc;have c1:=lf hc;have hTn:∀x∈S.map N8,A4 E.G0.used x:=A9 hB (za _ (zb ..));have hCn:∀x∈List.zipWith H4 o.t.cells o.is,A4 E.G0.used x:=A9 hB (za _ (za _ (zb ..)));try simp[D1,T1,c1,d1,d1.symm,d2,d2.symm,d3,d3.symm,hty,h0,H6]
 have hiS:i<S.length:=(ze.1 ho).1;have htl:e.type<l.length:=by have:=(ze.1 hty).1; omega
 refine⟨htl,?_⟩;have hw:IntKind.i64.wrap ((ty.fields.length:Int) - 1)=(ty.fields.length:Int) - 1:=wrap64 (by omega);rw[hw];(refine C6 hP rfl (C5 _ _ _ _) (by simp[D1,T1,c1,d1,d1.symm,d2,d2.symm,d3,d3.symm]) (by simp[D1,T1,c1,d1,d1.symm,d2,d2.symm,d3,d3.symm]<;>rfl) ?_; refine A6 4000 ?_; simp[D1,T1,c1,d1,d1.symm,d2,d2.symm,d3,d3.symm]);refine C9 (fun h=>?_) (fun h=>?_)<;>simp[D1,T1,c1,d1,d1.symm,d2,d2.symm,d3,d3.symm]
 ·have hr:T7 ty e c = .tup [.agg [.str [],.int .i64 0,.str []],.nilp,.int .i64 5]:=by
   unfold T7;split
   ·rfl
   ·rename_i h5;rw[xx (by simp at h; omega)]
  rw[hr] at hR;refine yE hR [] (by simp[D1,T1,c1,d1,d1.symm,d2,d2.symm,d3,d3.symm,B2 hid]) fun hrn=>⟨?_,?_,?_,?_,?_,?_⟩<;>(try simp[D1,T1,c1,d1,d1.symm,d2,d2.symm,d3,d3.symm,B2 hid])
  ·exact⟨by exact yO hu hTn,by exact yO hu hCn⟩
 have h:0<=e.field/\e.field<=ty.fields.length - 1:=by simpa using h
 obtain⟨f,hf⟩:∃f,ty.fields[e.field.toNat]?=some f:=⟨_,zd (by omega)⟩;have hr:T7 ty e c=if H8 e.kind f=true then .tup [M4 f,.ptr c e.field.toNat 0,.int .i64 0] else .tup [M4 f,.nilp,.int .i64 7]:=by
  unfold T7;rw[zh (by omega),hf]
 simp[hf,M4,D1,T1,c1,d1,d1.symm,d2,d2.symm,d3,d3.symm];refine⟨⟨h.1,by omega⟩,?_⟩;(refine C6 hP rfl (A3y _ _) (by simp[D1,T1,c1,d1,d1.symm,d2,d2.symm,d3,d3.symm]) (by simp[D1,T1,c1,d1,d1.symm,d2,d2.symm,d3,d3.symm]<;>rfl) ?_; refine A6 4000 ?_; simp[D1,T1,c1,d1,d1.symm,d2,d2.symm,d3,d3.symm]);refine C9 (fun h3=>?_) (fun h3=>?_)<;>simp[D1,T1,c1,d1,d1.symm,d2,d2.symm,d3,d3.symm]
 ·have k3:e.kind=3:=by simpa using h3
  have kf:H8 e.kind f=decide (f.kind=1):=by unfold H8; rw[zk k3]
  refine C9 (fun h5=>?_) (fun h5=>?_)<;>simp[D1,T1,c1,d1,d1.symm,d2,d2.symm,d3,d3.symm]
  ·rw[hr,zh (by rw[kf]; simpa using h5)] at hR;refine yE hR [] (by simp[M4,D1,T1,c1,d1,d1.symm,d2,d2.symm,d3,d3.symm,B2 hid]) fun hrn=>⟨?_,?_,?_,?_,?_,?_⟩<;>(try simp[M4,D1,T1,c1,d1,d1.symm,d2,d2.symm,d3,d3.symm,B2 hid])
   ·exact⟨by exact yO hu hTn,by exact yO hu hCn⟩
  ·rw[hr,zk (by rw[kf]; simpa using h5)] at hR;simp[ho,N8,D1,T1,c1,d1,d1.symm,d2,d2.symm,d3,d3.symm];refine⟨⟨hiS,rfl⟩,hiS,?_⟩;simp[hoc,hlen,D1,T1,c1,d1,d1.symm,d2,d2.symm,d3,d3.symm];refine⟨⟨h.1,by omega,rfl⟩,?_⟩;refine yE hR [] (by simp[M4,D1,T1,c1,d1,d1.symm,d2,d2.symm,d3,d3.symm,B2 hid]) fun hrn=>⟨?_,?_,?_,?_,?_,?_⟩<;>(try simp[M4,D1,T1,c1,d1,d1.symm,d2,d2.symm,d3,d3.symm,B2 hid]);exact⟨by exact yO hu hTn,by exact yO hu hCn⟩
 have k3:e.kind≠3:=by simpa using h3
 refine C9 (fun h4=>?_) (fun h4=>?_)<;>simp[D1,T1,c1,d1,d1.symm,d2,d2.symm,d3,d3.symm]
 ·have k4:e.kind=4:=by simpa using h4
  have kf:H8 e.kind f=decide (f.kind=2):=by unfold H8; rw[zh k3,zk k4]
  refine C9 (fun h5=>?_) (fun h5=>?_)<;>simp[D1,T1,c1,d1,d1.symm,d2,d2.symm,d3,d3.symm]
  ·rw[hr,zh (by rw[kf]; simpa using h5)] at hR;refine yE hR [] (by simp[M4,D1,T1,c1,d1,d1.symm,d2,d2.symm,d3,d3.symm,B2 hid]) fun hrn=>⟨?_,?_,?_,?_,?_,?_⟩<;>(try simp[M4,D1,T1,c1,d1,d1.symm,d2,d2.symm,d3,d3.symm,B2 hid])
   ·exact⟨by exact yO hu hTn,by exact yO hu hCn⟩
  ·rw[hr,zk (by rw[kf]; simpa using h5)] at hR;simp[ho,N8,D1,T1,c1,d1,d1.symm,d2,d2.symm,d3,d3.symm];refine⟨⟨hiS,rfl⟩,hiS,?_⟩;simp[hoc,hlen,D1,T1,c1,d1,d1.symm,d2,d2.symm,d3,d3.symm];refine⟨⟨h.1,by omega,rfl⟩,?_⟩;refine yE hR [] (by simp[M4,D1,T1,c1,d1,d1.symm,d2,d2.symm,d3,d3.symm,B2 hid]) fun hrn=>⟨?_,?_,?_,?_,?_,?_⟩<;>(try simp[M4,D1,T1,c1,d1,d1.symm,d2,d2.symm,d3,d3.symm,B2 hid]);exact⟨by exact yO hu hTn,by exact yO hu hCn⟩
 have k4:e.kind≠4:=by simpa using h4
 have kf:H8 e.kind f=O5 f.kind:=by unfold H8; rw[zh k3,zh k4]
 refine C9 (fun h5=>?_) (fun h5=>?_)<;>simp[D1,T1,c1,d1,d1.symm,d2,d2.symm,d3,d3.symm]
 ·rw[hr,zh (by rw[kf]; simpa using h5)] at hR;refine yE hR [] (by simp[M4,D1,T1,c1,d1,d1.symm,d2,d2.symm,d3,d3.symm,B2 hid]) fun hrn=>⟨?_,?_,?_,?_,?_,?_⟩<;>(try simp[M4,D1,T1,c1,d1,d1.symm,d2,d2.symm,d3,d3.symm,B2 hid])
  ·exact⟨by exact yO hu hTn,by exact yO hu hCn⟩
 ·rw[hr,zk (by rw[kf]; simpa using h5)] at hR;simp[ho,N8,D1,T1,c1,d1,d1.symm,d2,d2.symm,d3,d3.symm];refine⟨⟨hiS,rfl⟩,hiS,?_⟩;simp[hoc,hlen,D1,T1,c1,d1,d1.symm,d2,d2.symm,d3,d3.symm];refine⟨⟨h.1,by omega,rfl⟩,?_⟩;refine yE hR [] (by simp[M4,D1,T1,c1,d1,d1.symm,d2,d2.symm,d3,d3.symm,B2 hid]) fun hrn=>⟨?_,?_,?_,?_,?_,?_⟩<;>(try simp[M4,D1,T1,c1,d1,d1.symm,d2,d2.symm,d3,d3.symm,B2 hid]);exact⟨by exact yO hu hTn,by exact yO hu hCn⟩
theorem A9W(c:Cl)(i:Option Nat)(L:List (Nat×Bx))(hL:∀q∈idB c i,q∈L)(hn:i=none->c.ids=[]):Rd L (I6 i c.ids.length) (.sl (c.ids.map eI)):=by
 cases i with
 | none=>rw[hn rfl]; exact .nils
 | some I =>
  refine .bsl I 0 _ (iBx c) _ (hL _ (zb ..)) (by simp[iBx]) (by simp) (fun i x y h1 h2=>?_) fun i x y j a b h1 h2 h3 h4=>?_
  ·rw[yu] at h1;have:x=y:=by simpa using (show some x=some y from h1.symm.trans h2)
   rw[this]
  ·rw[yu] at h1;have:x=y:=by simpa using (show some x=some y from h1.symm.trans h2)
   subst this;rw[h3] at h4;injection h4 with h4
   subst h4;exact .same _
theorem A08(c:Cl)(i:Option Nat)(x:Int)(id:Nat)(hl:c.ids.length<1000000)(hn:i=none->c.ids=[]):A2 Tryz.prog 299 [I6 i c.ids.length,.int .i64 x] (idB c i) id (.tup [.int .i64 (H7 c.ids x),.bool (T6 c.ids x)]) []:=by
 refine (B0V c.ids x id hl).read rfl rfl fun k a b h1 h2=>?_;match k,h1,h2 with
 | 0,h1,h2 =>
  simp only[yb,zc] at h1 h2;subst h1 h2;exact A9W c i _ (fun q hq=>hq) hn
 | 1,h1,h2 =>
  simp only[xe,yb,zc] at h1 h2;subst h1 h2;exact .same _
 | k+2,h1,h2=>simp at h1
def A0I:Option Nat->List (Nat×Option Bx)
 | none=>[]
 | some I=>[(I,none)]
theorem A4C(c:Cl)(i:Option Nat)(y:Int)(Y k:Nat)(id:Nat)(hk:k<=c.ids.length)(hbig:c.ids.length<=1000000)(hn:i=none->c.ids=[])(hY:∀I,i=some I->I≠Y/\(I<id\/id+1024<=I)):
  A2 Tryz.prog 315 [I6 i c.ids.length,.int .i64 k,.bsl Y 0 1] (idB c i++[(Y,⟨[eI y],.int .i64 0,false,false⟩)]) id (.bsl id 0 (c.ids.length+1)) (A0I i++[(id,some ⟨(c.ids.take k++y::c.ids.drop k).map eI,.int .i64 0,false,false⟩)]):=by
 have hm:(c.ids.take k++y::c.ids.drop k).map eI=(c.ids.map eI).take k++eI y::(c.ids.map eI).drop k:=by simp
 have h1:∀x∈c.ids.map eI,x.cells.all AV.one=true:=fun x hx=>by obtain⟨n,_,rfl⟩:=yi.1 hx; rfl
 rw[hm];cases i with
 | some I =>
  obtain⟨q1,q2⟩:=hY I rfl;have:=A4B (c.ids.map eI) (eI y) I Y k id (by simpa using hk) q1 q2 (by simpa using hbig) h1 rfl rfl;rw[xd] at this;exact this
 | none =>
  have h0:=hn rfl;rw[h0] at hk ⊢;have hk0:k=0:=by simpa using hk
  subst hk0;refine A2.nil (z:=.int .i64 0) (rd:=[(Y,⟨[eI y],.int .i64 0,false,false⟩)]) (wr:=[(id,some ⟨[eI y],.int .i64 0,false,false⟩)]) (fun T hT hid=>?_) (fun q hq=>?_) ?_
  ·exact A4B [] (eI y) T Y 0 id (yg _) (hT (Y,_) (zb ..)).symm hid (by simp) (fun x hx=>(by cases hx)) rfl rfl
  ·simp only[xm] at hq;subst hq;exact⟨⟨yg _,by omega⟩,fun b hb x hx=>by injection hb with hb; subst hb; simp only[xm] at hx; subst hx; rfl⟩
  ·exact⟨yg _,by omega⟩
theorem E9{R:Rn}{S:Nat->Prop}{x y:AV}(h:J8 R S x y):∀{l l':List AV} (k:Nat),K2 R S l l'->K2 R S (l.set k x) (l'.set k y)
 | _,_,_,.nil=>.nil
 | _,_,0,.cons _ _ _ _ _ hl=>.cons _ _ _ _ h hl
 | _,_,k+1,.cons _ _ _ _ h0 hl=>.cons _ _ _ _ h0 (E9 h k hl)
def M8(s:F1)(f:Fd)(c:Cl)(n:Int):Int:=if F9 s f n=false then 5 else if T6 c.ids n=true then 6 else if f.kind=3 then 0 else if c.ids.length=6 then 2 else 0
def N3(f:Fd)(c:Cl)(n:Int):List Int:=if f.kind=3 then [n] else c.ids.take (H7 c.ids n)++n::c.ids.drop (H7 c.ids n)
def J7(s:F1)(f:Fd)(c:Cl)(n:Int)(cb k id:Nat)(xs:List AV)(i:Option Nat):List (Nat×Option Bx) :=
 if M8 s f c n≠0 then [] else (if f.kind=3 then [] else A0I i)++[(cb,some ⟨xs.set k (H4 ⟨c.n,c.text,N3 f c n⟩ (some id)),zC,false,false⟩),(id,some ⟨(N3 f c n).map eI,.int .i64 0,false,false⟩)]
theorem B0Z(l:List Ty)(S:List D2)(e:Ev)(i:Int)(f:Fd)(cl:Cl)(I:Nat)(xs:List AV)(k D T c:Nat)(id:Nat)(hx:xs[k]?=some (H4 cl (some I)))(hl5:l.length<=1000)(hS8:S.length<=1000)(hc8:cl.ids.length<=1000)(d1:D≠T)(d2:D≠c)(d3:T≠c)(d4:D≠I)(d5:T≠I)(d6:c≠I):
  A2 Tryz.prog 298 [.ptr D 0 0,M4 f,.ptr c k 0] [(D,L7 l (.bsl T 0 S.length) e i),(T,J9 S),(c,⟨xs,zC,false,false⟩),(I,iBx cl)] id (.int .i64 (M8 (A3 l S) f cl e.n)) (J7 (A3 l S) f cl e.n c k id xs (some I)):=by
 have hB2:=fun id=>A08 cl (some I) e.n id (by omega) (by simp);have hF:=fun id=>M3 l S T (A8 l f.of) e.n id (by omega);have hIns:=fun Y k id=>A4C cl (some I) e.n Y k id;have hth:C3 (S.map D2.t) (A8 l f.of) e.n=F9 (A3 l S) f e.n:=rfl;rw[hth] at hF;have hLk:xs=xs.take k++H4 cl (some I)::xs.drop (k+1):=by
  rw[ze] at hx;obtain⟨h1,h2⟩:=hx;rw[←h2,←yv h1,xa]
 unfold J9 L7 eD idB iBx I6 M4 at *;dsimp only[yo,xi] at hIns hB2;refine w298.b.1 fun E hP hR hl hid hB hu=>?_;simp[w298];have hD:=hl (D,_) (zb ..);simp only at hD;have D1:=lf hD;have hT:=hl (T,_) (za _ (zb ..));simp only at hT;have T1:=lf hT;have hc:=hl (c,_) (za _ (za _ (zb ..)));simp only at hc;have c1:=lf hc;have hI:=hl (I,_) (za _ (za _ (za _ (zb ..))));simp only at hI;have I1:=lf hI;have hTn:∀x∈S.map N8,A4 E.G0.used x:=A9 hB (za _ (zb ..));have hXn:∀x∈xs,A4 E.G0.used x:=A9 hB (za _ (za _ (zb ..)));try simp[D1,T1,c1,I1,d1,d1.symm,d2,d2.symm,d3,d3.symm,d4,d4.symm,d5,d5.symm,d6,d6.symm,hx,H4,I6]
 have hkx:k<xs.length:=(ze.1 hx).1;refine⟨hkx,?_⟩;(refine yC rfl (hB2 _) ?_; simp[D1,T1,c1,I1,d1,d1.symm,d2,d2.symm,d3,d3.symm,d4,d4.symm,d5,d5.symm,d6,d6.symm]);(refine yC rfl (T2 l f.of _ (by omega)) ?_; simp[D1,T1,c1,I1,d1,d1.symm,d2,d2.symm,d3,d3.symm,d4,d4.symm,d5,d5.symm,d6,d6.symm,V1]);(refine yC rfl (hF _) ?_; simp[D1,T1,c1,I1,d1,d1.symm,d2,d2.symm,d3,d3.symm,d4,d4.symm,d5,d5.symm,d6,d6.symm]);have hL:∀R S,J8 R S (M4 f) (M4 f):=fun R S=>B21 R S f;refine C9 (fun h1=>?_) (fun h1=>?_)<;>simp[D1,T1,c1,I1,d1,d1.symm,d2,d2.symm,d3,d3.symm,d4,d4.symm,d5,d5.symm,d6,d6.symm]
 ·have hE:M8 (A3 l S) f cl e.n=5:=by unfold M8; rw[zk (by simpa using h1)]
  have hW:J7 (A3 l S) f cl e.n c k id xs (some I)=[]:=by unfold J7; rw[zk (by omega)]
  rw[hE,hW] at hR;refine yE hR [] (by simp[D1,T1,c1,I1,d1,d1.symm,d2,d2.symm,d3,d3.symm,d4,d4.symm,d5,d5.symm,d6,d6.symm,B2 hid]) fun hrn=>⟨?_,?_,?_,?_,?_,?_⟩<;>(try simp[D1,T1,c1,I1,d1,d1.symm,d2,d2.symm,d3,d3.symm,d4,d4.symm,d5,d5.symm,d6,d6.symm,B2 hid]);exact⟨by exact yO hu hTn,by exact yO hu hXn⟩
 have h1:F9 (A3 l S) f e.n=true:=by simpa using h1
 refine C9 (fun h2=>?_) (fun h2=>?_)<;>simp[D1,T1,c1,I1,d1,d1.symm,d2,d2.symm,d3,d3.symm,d4,d4.symm,d5,d5.symm,d6,d6.symm]
 ·have hE:M8 (A3 l S) f cl e.n=6:=by unfold M8; rw[zh (by simp[h1]),zk (by simpa using h2)]
  have hW:J7 (A3 l S) f cl e.n c k id xs (some I)=[]:=by unfold J7; rw[zk (by omega)]
  rw[hE,hW] at hR;refine yE hR [] (by simp[D1,T1,c1,I1,d1,d1.symm,d2,d2.symm,d3,d3.symm,d4,d4.symm,d5,d5.symm,d6,d6.symm,B2 hid]) fun hrn=>⟨?_,?_,?_,?_,?_,?_⟩<;>(try simp[D1,T1,c1,I1,d1,d1.symm,d2,d2.symm,d3,d3.symm,d4,d4.symm,d5,d5.symm,d6,d6.symm,B2 hid]);exact⟨by exact yO hu hTn,by exact yO hu hXn⟩
 have h2:T6 cl.ids e.n=false:=by simpa using h2
 refine C9 (fun h3=>?_) (fun h3=>?_)<;>simp[D1,T1,c1,I1,d1,d1.symm,d2,d2.symm,d3,d3.symm,d4,d4.symm,d5,d5.symm,d6,d6.symm]
 ·have h3:f.kind=3:=by simpa using h3
  have hE:M8 (A3 l S) f cl e.n=0:=by unfold M8; rw[zh (by simp[h1]),zh (by simp[h2]),zk h3]
  have hW:J7 (A3 l S) f cl e.n c k id xs (some I)=[(c,some ⟨xs.set k (H4 ⟨cl.n,cl.text,[e.n]⟩ (some id)),zC,false,false⟩),(id,some ⟨[eI e.n],.int .i64 0,false,false⟩)]:=by unfold J7 N3; rw[zh (by omega),zk h3]; simp[h3]
  rw[hE,hW] at hR;refine⟨hkx,⟨hkx,by simp[hx,H4]⟩,?_⟩;simp[hx,H4,I6,eI];refine yE hR [(id,E.n0+56320)] (by simp[hx,H4,I6,eI,D1,T1,c1,I1,d1,d1.symm,d2,d2.symm,d3,d3.symm,d4,d4.symm,d5,d5.symm,d6,d6.symm,B2 hid]) fun hrn=>⟨?_,?_,?_,?_,?_,?_⟩<;>(try simp[hx,H4,I6,eI,D1,T1,c1,I1,d1,d1.symm,d2,d2.symm,d3,d3.symm,d4,d4.symm,d5,d5.symm,d6,d6.symm,B2 hid]);exact⟨by exact yO hu hTn,E9 (by simp[B2 hid]) k (by exact yO hu hXn)⟩
 have h3:f.kind≠3:=by simpa using h3
 have hxk:xs[k]'hkx=H4 cl (some I):=by rw[zd hkx] at hx; injection hx
 simp[hxk,hx,hkx,H4,I6,D1,T1,c1,I1,d1,d1.symm,d2,d2.symm,d3,d3.symm,d4,d4.symm,d5,d5.symm,d6,d6.symm];refine C9 (fun h4=>?_) (fun h4=>?_)<;>simp[D1,T1,c1,I1,d1,d1.symm,d2,d2.symm,d3,d3.symm,d4,d4.symm,d5,d5.symm,d6,d6.symm]
 ·have h4:cl.ids.length=6:=by simp at h4; omega
  have hE:M8 (A3 l S) f cl e.n=2:=by unfold M8; rw[zh (by simp[h1]),zh (by simp[h2]),zh h3,zk h4]
  have hW:J7 (A3 l S) f cl e.n c k id xs (some I)=[]:=by unfold J7; rw[zk (by omega)]
  rw[hE,hW] at hR;refine yE hR [] (by simp[D1,T1,c1,I1,d1,d1.symm,d2,d2.symm,d3,d3.symm,d4,d4.symm,d5,d5.symm,d6,d6.symm,B2 hid]) fun hrn=>⟨?_,?_,?_,?_,?_,?_⟩<;>(try simp[D1,T1,c1,I1,d1,d1.symm,d2,d2.symm,d3,d3.symm,d4,d4.symm,d5,d5.symm,d6,d6.symm,B2 hid]);exact⟨by exact yO hu hTn,by exact yO hu hXn⟩
 have h4:cl.ids.length≠6:=by simp at h4; omega
 simp[hxk,hx,hkx,H4,I6,D1,T1,c1,I1,d1,d1.symm,d2,d2.symm,d3,d3.symm,d4,d4.symm,d5,d5.symm,d6,d6.symm];have hle:H7 cl.ids e.n<=cl.ids.length:=(A9K _ _ _ (uo _)).2;have hE:M8 (A3 l S) f cl e.n=0:=by unfold M8; rw[zh (by simp[h1]),zh (by simp[h2]),zh h3,zh h4]
 have hW:J7 (A3 l S) f cl e.n c k id xs (some I)=[(I,none),(c,some ⟨xs.set k (.agg [.int .i64 cl.n,.str cl.text,.bsl id 0 (cl.ids.length+1)]),zC,false,false⟩),(id,some ⟨(cl.ids.take (H7 cl.ids e.n)++e.n::cl.ids.drop (H7 cl.ids e.n)).map eI,.int .i64 0,false,false⟩)]:=by
  have hll:(cl.ids.take (H7 cl.ids e.n)++e.n::cl.ids.drop (H7 cl.ids e.n)).length=cl.ids.length+1:=by simp; omega
  unfold J7 N3; rw[zh (by omega),zh h3]; simp only[h3,if_false,A0I,H4,I6,hll]; rfl
 rw[hE,hW] at hR;have hIc:=fun (id:Nat) (hid:I<id\/id+1024<=I)=>hIns (E.n0+68608) (H7 cl.ids e.n) id hle (by omega) (by simp) (by intro I' h; cases h; exact⟨by omega,hid⟩);have hyp:E7 ((cl.ids.take (H7 cl.ids e.n)++e.n::cl.ids.drop (H7 cl.ids e.n)).map eI)=true:=c8 _;generalize (cl.ids.take (H7 cl.ids e.n)++e.n::cl.ids.drop (H7 cl.ids e.n)).map eI=ys at *;dsimp only[A0I,yo,xi] at hIc;simp only[eI] at hIc;(refine yC rfl (hIc _ (by omega)) ?_; simp[D1,T1,c1,I1,d1,d1.symm,d2,d2.symm,d3,d3.symm,d4,d4.symm,d5,d5.symm,d6,d6.symm]);refine⟨hkx,?_⟩;simp[hxk,hx,hkx,H4,D1,T1,c1,I1,d1,d1.symm,d2,d2.symm,d3,d3.symm,d4,d4.symm,d5,d5.symm,d6,d6.symm];refine yE hR [(id,E.n0+69632)] (by simp[hx,H4,eI,D1,T1,c1,I1,d1,d1.symm,d2,d2.symm,d3,d3.symm,d4,d4.symm,d5,d5.symm,d6,d6.symm,B2 hid]) fun hrn=>⟨?_,?_,?_,?_,?_,?_⟩<;>(try simp[hx,H4,eI,D1,T1,c1,I1,d1,d1.symm,d2,d2.symm,d3,d3.symm,d4,d4.symm,d5,d5.symm,d6,d6.symm,B2 hid]);exact⟨by exact yO hu hTn,E9 (by simp[B2 hid]) k (by exact yO hu hXn),F7 rfl hyp⟩
theorem B0a(l:List Ty)(S:List D2)(e:Ev)(i:Int)(f:Fd)(cl:Cl)(xs:List AV)(k D T c:Nat)(id:Nat)(hx:xs[k]?=some (H4 cl none))(hn:cl.ids=[])(hl5:l.length<=1000)(hS8:S.length<=1000)(hc8:cl.ids.length<=1000)(d1:D≠T)(d2:D≠c)(d3:T≠c):
  A2 Tryz.prog 298 [.ptr D 0 0,M4 f,.ptr c k 0] [(D,L7 l (.bsl T 0 S.length) e i),(T,J9 S),(c,⟨xs,zC,false,false⟩)] id (.int .i64 (M8 (A3 l S) f cl e.n)) (J7 (A3 l S) f cl e.n c k id xs none):=by
 have hB2:=fun id=>A08 cl none e.n id (by omega) (fun _=>hn);have hF:=fun id=>M3 l S T (A8 l f.of) e.n id (by omega);have hIns:=fun Y k id=>A4C cl none e.n Y k id;have hth:C3 (S.map D2.t) (A8 l f.of) e.n=F9 (A3 l S) f e.n:=rfl;rw[hth] at hF;have hLk:xs=xs.take k++H4 cl none::xs.drop (k+1):=by
  rw[ze] at hx;obtain⟨h1,h2⟩:=hx;rw[←h2,←yv h1,xa]
 unfold J9 L7 eD idB iBx I6 M4 at *;dsimp only[yo,xi] at hIns hB2;refine w298.b.1 fun E hP hR hl hid hB hu=>?_;simp[w298];have hD:=hl (D,_) (zb ..);simp only at hD;have D1:=lf hD;have hT:=hl (T,_) (za _ (zb ..));simp only at hT;have T1:=lf hT;have hc:=hl (c,_) (za _ (za _ (zb ..)));simp only at hc;have c1:=lf hc;have hTn:∀x∈S.map N8,A4 E.G0.used x:=A9 hB (za _ (zb ..));have hXn:∀x∈xs,A4 E.G0.used x:=A9 hB (za _ (za _ (zb ..)));try simp[D1,T1,c1,d1,d1.symm,d2,d2.symm,d3,d3.symm,hx,H4,I6]
 have hkx:k<xs.length:=(ze.1 hx).1;refine⟨hkx,?_⟩;(refine yC rfl (hB2 _) ?_; simp[D1,T1,c1,d1,d1.symm,d2,d2.symm,d3,d3.symm]);(refine yC rfl (T2 l f.of _ (by omega)) ?_; simp[D1,T1,c1,d1,d1.symm,d2,d2.symm,d3,d3.symm,V1]);(refine yC rfl (hF _) ?_; simp[D1,T1,c1,d1,d1.symm,d2,d2.symm,d3,d3.symm]);have hL:∀R S,J8 R S (M4 f) (M4 f):=fun R S=>B21 R S f;refine C9 (fun h1=>?_) (fun h1=>?_)<;>simp[D1,T1,c1,d1,d1.symm,d2,d2.symm,d3,d3.symm]
 ·have hE:M8 (A3 l S) f cl e.n=5:=by unfold M8; rw[zk (by simpa using h1)]
  have hW:J7 (A3 l S) f cl e.n c k id xs none=[]:=by unfold J7; rw[zk (by omega)]
  rw[hE,hW] at hR;refine yE hR [] (by simp[D1,T1,c1,d1,d1.symm,d2,d2.symm,d3,d3.symm,B2 hid]) fun hrn=>⟨?_,?_,?_,?_,?_,?_⟩<;>(try simp[D1,T1,c1,d1,d1.symm,d2,d2.symm,d3,d3.symm,B2 hid]);exact⟨by exact yO hu hTn,by exact yO hu hXn⟩
 have h1:F9 (A3 l S) f e.n=true:=by simpa using h1
 refine C9 (fun h2=>?_) (fun h2=>?_)<;>simp[D1,T1,c1,d1,d1.symm,d2,d2.symm,d3,d3.symm]
 ·have hE:M8 (A3 l S) f cl e.n=6:=by unfold M8; rw[zh (by simp[h1]),zk (by simpa using h2)]
  have hW:J7 (A3 l S) f cl e.n c k id xs none=[]:=by unfold J7; rw[zk (by omega)]
  rw[hE,hW] at hR;refine yE hR [] (by simp[D1,T1,c1,d1,d1.symm,d2,d2.symm,d3,d3.symm,B2 hid]) fun hrn=>⟨?_,?_,?_,?_,?_,?_⟩<;>(try simp[D1,T1,c1,d1,d1.symm,d2,d2.symm,d3,d3.symm,B2 hid]);exact⟨by exact yO hu hTn,by exact yO hu hXn⟩
 have h2:T6 cl.ids e.n=false:=by simpa using h2
 refine C9 (fun h3=>?_) (fun h3=>?_)<;>simp[D1,T1,c1,d1,d1.symm,d2,d2.symm,d3,d3.symm]
 ·have h3:f.kind=3:=by simpa using h3
  have hE:M8 (A3 l S) f cl e.n=0:=by unfold M8; rw[zh (by simp[h1]),zh (by simp[h2]),zk h3]
  have hW:J7 (A3 l S) f cl e.n c k id xs none=[(c,some ⟨xs.set k (H4 ⟨cl.n,cl.text,[e.n]⟩ (some id)),zC,false,false⟩),(id,some ⟨[eI e.n],.int .i64 0,false,false⟩)]:=by unfold J7 N3; rw[zh (by omega),zk h3]; simp[h3]
  rw[hE,hW] at hR;refine⟨hkx,⟨hkx,by simp[hx,H4]⟩,?_⟩;simp[hx,H4,I6,eI];refine yE hR [(id,E.n0+56320)] (by simp[hx,H4,I6,eI,D1,T1,c1,d1,d1.symm,d2,d2.symm,d3,d3.symm,B2 hid]) fun hrn=>⟨?_,?_,?_,?_,?_,?_⟩<;>(try simp[hx,H4,I6,eI,D1,T1,c1,d1,d1.symm,d2,d2.symm,d3,d3.symm,B2 hid]);exact⟨by exact yO hu hTn,E9 (by simp[B2 hid]) k (by exact yO hu hXn)⟩
 have h3:f.kind≠3:=by simpa using h3
 have hxk:xs[k]'hkx=H4 cl none:=by rw[zd hkx] at hx; injection hx
 simp[hxk,hx,hkx,H4,I6,D1,T1,c1,d1,d1.symm,d2,d2.symm,d3,d3.symm];have h4:cl.ids.length≠6:=by rw[hn]; simp
 have hle:H7 cl.ids e.n<=cl.ids.length:=(A9K _ _ _ (uo _)).2;have hE:M8 (A3 l S) f cl e.n=0:=by unfold M8; rw[zh (by simp[h1]),zh (by simp[h2]),zh h3,zh h4]
 have hW:J7 (A3 l S) f cl e.n c k id xs none=[(c,some ⟨xs.set k (.agg [.int .i64 cl.n,.str cl.text,.bsl id 0 (cl.ids.length+1)]),zC,false,false⟩),(id,some ⟨(cl.ids.take (H7 cl.ids e.n)++e.n::cl.ids.drop (H7 cl.ids e.n)).map eI,.int .i64 0,false,false⟩)]:=by
  have hll:(cl.ids.take (H7 cl.ids e.n)++e.n::cl.ids.drop (H7 cl.ids e.n)).length=cl.ids.length+1:=by simp; omega
  unfold J7 N3; rw[zh (by omega),zh h3]; simp only[h3,if_false,A0I,H4,I6,hll]; rfl
 rw[hE,hW] at hR;have hIc:=fun (id:Nat)=>hIns (E.n0+68608) (H7 cl.ids e.n) id hle (by omega) (fun _=>hn) (by intro I' h; cases h);have hyp:E7 ((cl.ids.take (H7 cl.ids e.n)++e.n::cl.ids.drop (H7 cl.ids e.n)).map eI)=true:=c8 _;generalize (cl.ids.take (H7 cl.ids e.n)++e.n::cl.ids.drop (H7 cl.ids e.n)).map eI=ys at *;dsimp only[A0I,yo,xi] at hIc;simp only[eI] at hIc;(refine yC rfl (hIc _) ?_; simp[D1,T1,c1,d1,d1.symm,d2,d2.symm,d3,d3.symm]);refine⟨hkx,?_⟩;simp[hxk,hx,hkx,H4,D1,T1,c1,d1,d1.symm,d2,d2.symm,d3,d3.symm];refine yE hR [(id,E.n0+69632)] (by simp[hx,H4,eI,D1,T1,c1,d1,d1.symm,d2,d2.symm,d3,d3.symm,B2 hid]) fun hrn=>⟨?_,?_,?_,?_,?_,?_⟩<;>(try simp[hx,H4,eI,D1,T1,c1,d1,d1.symm,d2,d2.symm,d3,d3.symm,B2 hid]);exact⟨by exact yO hu hTn,E9 (by simp[B2 hid]) k (by exact yO hu hXn),F7 rfl hyp⟩
def O7(s:F1)(f:Fd)(c:Cl)(e:Ev):Int :=
 if e.kind=3 then (if -999999999<=e.n/\e.n<=999999999 then 0 else 3)
 else if e.kind=4 then (if 40<e.text.length then 2 else 0)
 else if e.kind=5 then M8 s f c e.n
 else if T6 c.ids e.n=true then 0 else 5
def A7r(c:Cl)(n:Int):List Int:=c.ids.take (H7 c.ids n)++c.ids.drop (H7 c.ids n+1)
def s9(f:Fd)(c:Cl)(e:Ev):Cl :=
 if e.kind=3 then ⟨e.n,c.text,c.ids⟩ else if e.kind=4 then ⟨c.n,e.text,c.ids⟩ else if e.kind=5 then ⟨c.n,c.text,N3 f c e.n⟩ else ⟨c.n,c.text,A7r c e.n⟩
def L4(s:F1)(f:Fd)(c:Cl)(e:Ev)(cb k id:Nat)(xs:List AV)(i:Option Nat):List (Nat×Option Bx) :=
 if O7 s f c e≠0 then [] else if e.kind=3\/e.kind=4 then [(cb,some ⟨xs.set k (H4 (s9 f c e) i),zC,false,false⟩)]
 else (if e.kind=5/\f.kind=3 then [] else A0I i)++[(cb,some ⟨xs.set k (H4 (s9 f c e) (some id)),zC,false,false⟩),(id,some ⟨(s9 f c e).ids.map eI,.int .i64 0,false,false⟩)]
theorem A4D(l:List Ty)(S:List D2)(e:Ev)(i:Nat)(o:D2)(ty:Ty)(D T:Nat)(id:Nat)(f:AV)(w:Int)(hw:w≠0)(hf:∃a b c,f = .agg [.str a,.int .i64 b,.str c])(hr:T7 ty e o.c = .tup [f,.nilp,.int .i64 w])(hty:l[e.type.toNat]?=some ty)(h0:0<=e.type)(ho:S[i]?=some o)(hlen:o.t.cells.length=ty.fields.length)(his:o.is.length=o.t.cells.length)(hl8:ty.fields.length<=1000)(d1:D≠T)(d2:D≠o.c)(d3:T≠o.c):
  A2 Tryz.prog 263 [.ptr D 0 0] [(D,L7 l (.bsl T 0 S.length) e i),(T,J9 S),(o.c,cBn o)] id (.int .i64 w) []:=by
 have hX:=fun id=>A2M l S e i o ty D T id hty h0 ho hlen his hl8 d1 d2 d3;rw[hr] at hX;obtain⟨fa,fb,fc,rfl⟩:=hf;unfold J9 L7 cBn eD at *;generalize hoc:o.c=c at *;refine w263.b.1 fun E hP hR hl hid hB hu=>?_;simp[w263];have hD:=hl (D,_) (zb ..);simp only at hD;have D1:=lf hD;have hT:=hl (T,_) (za _ (zb ..));simp only at hT;have T1:=lf hT;have hc:=hl (c,_) (za _ (za _ (zb ..)));simp only at hc;have c1:=lf hc;have hTn:∀x∈S.map N8,A4 E.G0.used x:=A9 hB (za _ (zb ..));have hCn:∀x∈List.zipWith H4 o.t.cells o.is,A4 E.G0.used x:=A9 hB (za _ (za _ (zb ..)));(refine yC rfl (hX _) ?_; simp[D1,T1,c1,d1,d1.symm,d2,d2.symm,d3,d3.symm]);refine C9 (fun h=>?_) (fun h=>?_)
 ·simp[D1,T1,c1,d1,d1.symm,d2,d2.symm,d3,d3.symm];refine yE hR [] (by simp[D1,T1,c1,d1,d1.symm,d2,d2.symm,d3,d3.symm,B2 hid]) fun hrn=>⟨?_,?_,?_,?_,?_,?_⟩<;>(try simp[D1,T1,c1,d1,d1.symm,d2,d2.symm,d3,d3.symm,B2 hid]);exact⟨by exact yO hu hTn,by exact yO hu hCn⟩
 ·exact (hw (by simpa using h)).elim
theorem A3G{cs:List Cl}{is:List (Option Nat)}{k:Nat}{c:Cl}{i:Option Nat}(h1:cs[k]?=some c)(h2:is[k]?=some i):(List.zipWith H4 cs is)[k]?=some (H4 c i):=by
 rw[tc,h1,h2]
theorem A8l(c:Cl)(I k:Nat)(id:Nat)(hk:k<c.ids.length)(hbig:c.ids.length<=1000000):
  A2 Tryz.prog 300 [.bsl I 0 c.ids.length,.int .i64 k,.int .i64 ((k:Int)+1)] [(I,iBx c)] id (.bsl id 0 (c.ids.length - 1)) [(I,none),(id,some ⟨(c.ids.take k++c.ids.drop (k+1)).map eI,.int .i64 0,false,false⟩)]:=by
 have h1:∀x∈c.ids.map eI,x.cells.all AV.one=true:=fun x hx=>by obtain⟨n,_,rfl⟩:=yi.1 hx; rfl
 have:=A8k (c.ids.map eI) I k id (by simpa using hk) (by simpa using hbig) h1;rw[xd] at this;have hm:(c.ids.take k++c.ids.drop (k+1)).map eI=(c.ids.map eI).take k++(c.ids.map eI).drop (k+1):=by simp
 rw[hm];exact this
theorem p6(l:List Ty)(S:List D2)(e:Ev)(i:Nat)(o:D2)(ty:Ty)(f:Fd)(cl:Cl)(I D T:Nat)(id:Nat)(hk1:3<=e.kind)(hk2:e.kind<=6)(hf0:0<=e.field)(hf:ty.fields[e.field.toNat]?=some f)(hkf:H8 e.kind f=true)(hcl:o.t.cells[e.field.toNat]?=some cl)(hio:o.is[e.field.toNat]?=some (some I))
  (hty:l[e.type.toNat]?=some ty) (h0:0<=e.type) (ho:S[i]?=some o) (hlen:o.t.cells.length=ty.fields.length) (his:o.is.length=o.t.cells.length) (hl5:l.length<=1000) (hl8:ty.fields.length<=1000) (hS8:S.length<=1000) (hc8:cl.ids.length<=1000) (d1:D≠T) (d2:D≠o.c) (d3:T≠o.c) (d4:D≠I) (d5:T≠I) (d6:o.c≠I) :
  A2 Tryz.prog 263 [.ptr D 0 0] [(D,L7 l (.bsl T 0 S.length) e i),(T,J9 S),(o.c,cBn o),(I,iBx cl)] id (.int .i64 (O7 (A3 l S) f cl e)) (L4 (A3 l S) f cl e o.c e.field.toNat id (List.zipWith H4 o.t.cells o.is) (some I)):=by
 have hX:=fun id=>A2M l S e i o ty D T id hty h0 ho hlen his hl8 d1 d2 d3;have hr:T7 ty e o.c = .tup [M4 f,.ptr o.c e.field.toNat 0,.int .i64 0]:=by unfold T7; rw[zh (by omega),hf]; simp only; rw[zk hkf]
 rw[hr] at hX;have hx:=A3G hcl hio;have hLk:=fun id=>B0Z l S e i f cl I (List.zipWith H4 o.t.cells o.is) e.field.toNat D T o.c id hx hl5 hS8 hc8 d1 d2 d3 d4 d5 d6;have hB2:=fun id=>A08 cl (some I) e.n id (by omega) (by simp);have hDl:=fun id hk=>A8l cl I (H7 cl.ids e.n) id hk (by omega);have hkx:=(ze.1 hx).1;have hxk:(List.zipWith H4 o.t.cells o.is)[e.field.toNat]'hkx=H4 cl (some I):=by rw[zd hkx] at hx; injection hx
 unfold J9 L7 cBn eD idB iBx I6 M4 at *;dsimp only at hB2;generalize hoc:o.c=c at *;generalize hzz:List.zipWith H4 o.t.cells o.is=xs at *;generalize hkk:e.field.toNat=k at *;refine w263.b.1 fun E hP hR hl hid hB hu=>?_;simp[w263];have hD:=hl (D,_) (zb ..);simp only at hD;have D1:=lf hD;have hT:=hl (T,_) (za _ (zb ..));simp only at hT;have T1:=lf hT;have hc:=hl (c,_) (za _ (za _ (zb ..)));simp only at hc;have c1:=lf hc;have hI:=hl (I,_) (za _ (za _ (za _ (zb ..))));simp only at hI;have I1:=lf hI;have hTn:∀x∈S.map N8,A4 E.G0.used x:=A9 hB (za _ (zb ..));have hXn:∀x∈xs,A4 E.G0.used x:=A9 hB (za _ (za _ (zb ..)));(refine yC rfl (hX _) ?_; simp[D1,T1,c1,I1,d1,d1.symm,d2,d2.symm,d3,d3.symm,d4,d4.symm,d5,d5.symm,d6,d6.symm]);refine C9 (fun h3=>?_) (fun h3=>?_)<;>simp[D1,T1,c1,I1,d1,d1.symm,d2,d2.symm,d3,d3.symm,d4,d4.symm,d5,d5.symm,d6,d6.symm]
 ·have k3:e.kind=3:=by simpa using h3
  (refine C6 hP rfl (w8 _ _) (by simp[D1,T1,c1,I1,d1,d1.symm,d2,d2.symm,d3,d3.symm,d4,d4.symm,d5,d5.symm,d6,d6.symm]) (by simp[D1,T1,c1,I1,d1,d1.symm,d2,d2.symm,d3,d3.symm,d4,d4.symm,d5,d5.symm,d6,d6.symm]<;>rfl) ?_; refine A6 4000 ?_; simp[D1,T1,c1,I1,d1,d1.symm,d2,d2.symm,d3,d3.symm,d4,d4.symm,d5,d5.symm,d6,d6.symm]);refine C9 (fun h4=>?_) (fun h4=>?_)<;>simp[D1,T1,c1,I1,d1,d1.symm,d2,d2.symm,d3,d3.symm,d4,d4.symm,d5,d5.symm,d6,d6.symm]
  ·have hE:O7 (A3 l S) f cl e=3:=(by unfold O7; rw[zk k3,zh (by simp at h4; omega)]);have hW:L4 (A3 l S) f cl e c k id xs (some I)=[]:=(by unfold L4; rw[zk (by omega)]);rw[hE,hW] at hR;refine yE hR [] (by simp[D1,T1,c1,I1,d1,d1.symm,d2,d2.symm,d3,d3.symm,d4,d4.symm,d5,d5.symm,d6,d6.symm,B2 hid]) fun hrn=>⟨?_,?_,?_,?_,?_,?_⟩<;>(try simp[D1,T1,c1,I1,d1,d1.symm,d2,d2.symm,d3,d3.symm,d4,d4.symm,d5,d5.symm,d6,d6.symm,B2 hid]);exact⟨by exact yO hu hTn,by exact yO hu hXn⟩
  ·have hE:O7 (A3 l S) f cl e=0:=(by unfold O7; rw[zk k3,zk (by simp at h4; omega)]);have hW:L4 (A3 l S) f cl e c k id xs (some I)=[(c,some ⟨xs.set k (.agg [.int .i64 e.n,.str cl.text,.bsl I 0 cl.ids.length]),zC,false,false⟩)]:=(by unfold L4; rw[zh (by omega),zk (.inl k3)]; simp[s9,k3,H4,I6]);rw[hE,hW] at hR;refine⟨hkx,⟨hkx,by simp[hx,H4]⟩,?_⟩;simp[hx,H4,I6];refine yE hR [] (by simp[hx,H4,I6,D1,T1,c1,I1,d1,d1.symm,d2,d2.symm,d3,d3.symm,d4,d4.symm,d5,d5.symm,d6,d6.symm,B2 hid]) fun hrn=>⟨?_,?_,?_,?_,?_,?_⟩<;>(try simp[hx,H4,I6,D1,T1,c1,I1,d1,d1.symm,d2,d2.symm,d3,d3.symm,d4,d4.symm,d5,d5.symm,d6,d6.symm,B2 hid]);exact⟨by exact yO hu hTn,E9 (by simp[I1]) k (by exact yO hu hXn)⟩
 have k3:e.kind≠3:=by simpa using h3
 refine C9 (fun h4=>?_) (fun h4=>?_)<;>simp[D1,T1,c1,I1,d1,d1.symm,d2,d2.symm,d3,d3.symm,d4,d4.symm,d5,d5.symm,d6,d6.symm]
 ·have k4:e.kind=4:=by simpa using h4
  refine C9 (fun h5=>?_) (fun h5=>?_)<;>simp[D1,T1,c1,I1,d1,d1.symm,d2,d2.symm,d3,d3.symm,d4,d4.symm,d5,d5.symm,d6,d6.symm]
  ·have hE:O7 (A3 l S) f cl e=2:=(by unfold O7; rw[zh k3,zk k4,zk (by simp at h5; omega)]);have hW:L4 (A3 l S) f cl e c k id xs (some I)=[]:=(by unfold L4; rw[zk (by omega)]);rw[hE,hW] at hR;refine yE hR [] (by simp[D1,T1,c1,I1,d1,d1.symm,d2,d2.symm,d3,d3.symm,d4,d4.symm,d5,d5.symm,d6,d6.symm,B2 hid]) fun hrn=>⟨?_,?_,?_,?_,?_,?_⟩<;>(try simp[D1,T1,c1,I1,d1,d1.symm,d2,d2.symm,d3,d3.symm,d4,d4.symm,d5,d5.symm,d6,d6.symm,B2 hid]);exact⟨by exact yO hu hTn,by exact yO hu hXn⟩
  ·have hE:O7 (A3 l S) f cl e=0:=(by unfold O7; rw[zh k3,zk k4,zh (by simp at h5; omega)]);have hW:L4 (A3 l S) f cl e c k id xs (some I)=[(c,some ⟨xs.set k (.agg [.int .i64 cl.n,.str e.text,.bsl I 0 cl.ids.length]),zC,false,false⟩)]:=(by unfold L4; rw[zh (by omega),zk (.inr k4)]; simp[s9,k4,H4,I6]);rw[hE,hW] at hR;refine⟨hkx,⟨hkx,by simp[hx,H4]⟩,?_⟩;simp[hx,H4,I6];refine yE hR [] (by simp[hx,H4,I6,D1,T1,c1,I1,d1,d1.symm,d2,d2.symm,d3,d3.symm,d4,d4.symm,d5,d5.symm,d6,d6.symm,B2 hid]) fun hrn=>⟨?_,?_,?_,?_,?_,?_⟩<;>(try simp[hx,H4,I6,D1,T1,c1,I1,d1,d1.symm,d2,d2.symm,d3,d3.symm,d4,d4.symm,d5,d5.symm,d6,d6.symm,B2 hid]);exact⟨by exact yO hu hTn,E9 (by simp[I1]) k (by exact yO hu hXn)⟩
 have k4:e.kind≠4:=by simpa using h4
 refine C9 (fun h5=>?_) (fun h5=>?_)<;>simp[D1,T1,c1,I1,d1,d1.symm,d2,d2.symm,d3,d3.symm,d4,d4.symm,d5,d5.symm,d6,d6.symm]
 ·have k5:e.kind=5:=by simpa using h5
  have hE:O7 (A3 l S) f cl e=M8 (A3 l S) f cl e.n:=by unfold O7; rw[zh k3,zh k4,zk k5]
  have hC:s9 f cl e=⟨cl.n,cl.text,N3 f cl e.n⟩:=by unfold s9; rw[zh k3,zh k4,zk k5]
  have k34:¬(e.kind=3\/e.kind=4):=by omega
  rw[hE] at hR;by_cases q1:M8 (A3 l S) f cl e.n=0
  ·by_cases q2:f.kind=3
   ·have hLw:∀id,J7 (A3 l S) f cl e.n c k id xs (some I)=[(c,some ⟨xs.set k (.agg [.int .i64 cl.n,.str cl.text,.bsl id 0 (N3 f cl e.n).length]),zC,false,false⟩),(id,some ⟨(N3 f cl e.n).map eI,.int .i64 0,false,false⟩)]:=fun id=>by unfold J7; rw[zh (by omega),zk q2]; rfl
    have hW:L4 (A3 l S) f cl e c k id xs (some I)=[(c,some ⟨xs.set k (.agg [.int .i64 cl.n,.str cl.text,.bsl id 0 (N3 f cl e.n).length]),zC,false,false⟩),(id,some ⟨(N3 f cl e.n).map eI,.int .i64 0,false,false⟩)]:=(by unfold L4; rw[zh (by omega),zh k34,zk ⟨k5,q2⟩,hC]; rfl);simp only[hLw] at hLk;rw[hW] at hR;(refine yC rfl (hLk _) ?_; simp[D1,T1,c1,I1,d1,d1.symm,d2,d2.symm,d3,d3.symm,d4,d4.symm,d5,d5.symm,d6,d6.symm]);refine yE hR [(id,E.n0+27648)] (by simp[hx,H4,I6,D1,T1,c1,I1,d1,d1.symm,d2,d2.symm,d3,d3.symm,d4,d4.symm,d5,d5.symm,d6,d6.symm,B2 hid]) fun hrn=>⟨?_,?_,?_,?_,?_,?_⟩<;>(try simp[hx,H4,I6,D1,T1,c1,I1,d1,d1.symm,d2,d2.symm,d3,d3.symm,d4,d4.symm,d5,d5.symm,d6,d6.symm,B2 hid]);exact⟨by exact yO hu hTn,E9 (by simp[B2 hid]) k (by exact yO hu hXn)⟩
   ·have hLw:∀id,J7 (A3 l S) f cl e.n c k id xs (some I)=[(I,none),(c,some ⟨xs.set k (.agg [.int .i64 cl.n,.str cl.text,.bsl id 0 (N3 f cl e.n).length]),zC,false,false⟩),(id,some ⟨(N3 f cl e.n).map eI,.int .i64 0,false,false⟩)]:=fun id=>by unfold J7; rw[zh (by omega),zh q2]; rfl
    have hW:L4 (A3 l S) f cl e c k id xs (some I)=[(I,none),(c,some ⟨xs.set k (.agg [.int .i64 cl.n,.str cl.text,.bsl id 0 (N3 f cl e.n).length]),zC,false,false⟩),(id,some ⟨(N3 f cl e.n).map eI,.int .i64 0,false,false⟩)]:=(by unfold L4; rw[zh (by omega),zh k34,zh (fun h=>q2 h.2),hC]; rfl);simp only[hLw] at hLk;rw[hW] at hR;(refine yC rfl (hLk _) ?_; simp[D1,T1,c1,I1,d1,d1.symm,d2,d2.symm,d3,d3.symm,d4,d4.symm,d5,d5.symm,d6,d6.symm]);refine yE hR [(id,E.n0+27648)] (by simp[hx,H4,I6,D1,T1,c1,I1,d1,d1.symm,d2,d2.symm,d3,d3.symm,d4,d4.symm,d5,d5.symm,d6,d6.symm,B2 hid]) fun hrn=>⟨?_,?_,?_,?_,?_,?_⟩<;>(try simp[hx,H4,I6,D1,T1,c1,I1,d1,d1.symm,d2,d2.symm,d3,d3.symm,d4,d4.symm,d5,d5.symm,d6,d6.symm,B2 hid]);exact⟨by exact yO hu hTn,E9 (by simp[B2 hid]) k (by exact yO hu hXn)⟩
  ·have hLw:∀id,J7 (A3 l S) f cl e.n c k id xs (some I)=[]:=fun id=>by unfold J7; rw[zk q1]
   have hW:L4 (A3 l S) f cl e c k id xs (some I)=[]:=(by unfold L4; rw[zk (by omega)]);simp only[hLw] at hLk;rw[hW] at hR;(refine yC rfl (hLk _) ?_; simp[D1,T1,c1,I1,d1,d1.symm,d2,d2.symm,d3,d3.symm,d4,d4.symm,d5,d5.symm,d6,d6.symm]);refine yE hR [] (by simp[D1,T1,c1,I1,d1,d1.symm,d2,d2.symm,d3,d3.symm,d4,d4.symm,d5,d5.symm,d6,d6.symm,B2 hid]) fun hrn=>⟨?_,?_,?_,?_,?_,?_⟩<;>(try simp[D1,T1,c1,I1,d1,d1.symm,d2,d2.symm,d3,d3.symm,d4,d4.symm,d5,d5.symm,d6,d6.symm,B2 hid]);exact⟨by exact yO hu hTn,by exact yO hu hXn⟩
 have k5:e.kind≠5:=by simpa using h5
 have k6:e.kind=6:=by omega
 refine D5 (by simp[k6]) ?_;simp[hxk,hx,hkx,H4,I6,D1,T1,c1,I1,d1,d1.symm,d2,d2.symm,d3,d3.symm,d4,d4.symm,d5,d5.symm,d6,d6.symm];(refine yC rfl (hB2 _) ?_; simp[D1,T1,c1,I1,d1,d1.symm,d2,d2.symm,d3,d3.symm,d4,d4.symm,d5,d5.symm,d6,d6.symm]);refine C9 (fun h7=>?_) (fun h7=>?_)<;>simp[hxk,hx,hkx,H4,I6,D1,T1,c1,I1,d1,d1.symm,d2,d2.symm,d3,d3.symm,d4,d4.symm,d5,d5.symm,d6,d6.symm]
 ·have hE:O7 (A3 l S) f cl e=5:=by unfold O7; rw[zh k3,zh k4,zh k5,zh (by simpa using h7)]
  have hW:L4 (A3 l S) f cl e c k id xs (some I)=[]:=by unfold L4; rw[zk (by omega)]
  rw[hE,hW] at hR;refine yE hR [] (by simp[D1,T1,c1,I1,d1,d1.symm,d2,d2.symm,d3,d3.symm,d4,d4.symm,d5,d5.symm,d6,d6.symm,B2 hid]) fun hrn=>⟨?_,?_,?_,?_,?_,?_⟩<;>(try simp[D1,T1,c1,I1,d1,d1.symm,d2,d2.symm,d3,d3.symm,d4,d4.symm,d5,d5.symm,d6,d6.symm,B2 hid]);exact⟨by exact yO hu hTn,by exact yO hu hXn⟩
 have h7:T6 cl.ids e.n=true:=by simpa using h7
 have h8:H7 cl.ids e.n<cl.ids.length:=by unfold T6 at h7; simp at h7; exact h7.1
 have hE:O7 (A3 l S) f cl e=0:=by unfold O7; rw[zh k3,zh k4,zh k5,zk h7]
 have hC:s9 f cl e=⟨cl.n,cl.text,A7r cl e.n⟩:=by unfold s9; rw[zh k3,zh k4,zh k5]
 have hlc:(A7r cl e.n).length=cl.ids.length - 1:=by simp[A7r]; omega
 have hW:L4 (A3 l S) f cl e c k id xs (some I)=[(I,none),(c,some ⟨xs.set k (.agg [.int .i64 cl.n,.str cl.text,.bsl id 0 (cl.ids.length - 1)]),zC,false,false⟩),(id,some ⟨(A7r cl e.n).map eI,.int .i64 0,false,false⟩)]:=by unfold L4; rw[zh (by omega),zh (by omega),zh (by omega),hC]; simp only[A0I,H4,I6,hlc]; rfl
 rw[hE,hW] at hR;have hw1:IntKind.i64.wrap ((H7 cl.ids e.n:Int)+1)=(H7 cl.ids e.n:Int)+1:=wrap64 (by omega);rw[hw1];(refine yC rfl (hDl _ h8) ?_; simp[D1,T1,c1,I1,d1,d1.symm,d2,d2.symm,d3,d3.symm,d4,d4.symm,d5,d5.symm,d6,d6.symm]);refine⟨hkx,⟨hkx,by simp[hx,H4]⟩,?_⟩;simp[hx,H4,I6];refine yE hR [(id,E.n0+52224)] (by simp[hx,H4,I6,D1,T1,c1,I1,d1,d1.symm,d2,d2.symm,d3,d3.symm,d4,d4.symm,d5,d5.symm,d6,d6.symm,B2 hid]) fun hrn=>⟨?_,?_,?_,?_,?_,?_⟩<;>(try simp[hx,H4,I6,D1,T1,c1,I1,d1,d1.symm,d2,d2.symm,d3,d3.symm,d4,d4.symm,d5,d5.symm,d6,d6.symm,B2 hid]);refine⟨by exact yO hu hTn,E9 (by simp[B2 hid]) k (by exact yO hu hXn),?_⟩;have hcm:List.take (H7 cl.ids e.n) (List.map eI cl.ids)++List.drop (H7 cl.ids e.n+1) (List.map eI cl.ids)=(A7r cl e.n).map eI:=by simp[A7r]
 rw[hcm];exact B1u _ _ _
theorem A0h(l:List Ty)(S:List D2)(e:Ev)(i:Nat)(o:D2)(ty:Ty)(f:Fd)(cl:Cl)(D T:Nat)(id:Nat)(hk1:3<=e.kind)(hk2:e.kind<=6)(hf0:0<=e.field)(hf:ty.fields[e.field.toNat]?=some f)(hkf:H8 e.kind f=true)(hcl:o.t.cells[e.field.toNat]?=some cl)(hio:o.is[e.field.toNat]?=some none)
  (hty:l[e.type.toNat]?=some ty) (h0:0<=e.type) (ho:S[i]?=some o) (hlen:o.t.cells.length=ty.fields.length) (his:o.is.length=o.t.cells.length) (hn:cl.ids=[]) (hl5:l.length<=1000) (hl8:ty.fields.length<=1000) (hS8:S.length<=1000) (hc8:cl.ids.length<=1000) (d1:D≠T) (d2:D≠o.c) (d3:T≠o.c) :
  A2 Tryz.prog 263 [.ptr D 0 0] [(D,L7 l (.bsl T 0 S.length) e i),(T,J9 S),(o.c,cBn o)] id (.int .i64 (O7 (A3 l S) f cl e)) (L4 (A3 l S) f cl e o.c e.field.toNat id (List.zipWith H4 o.t.cells o.is) none):=by
 have hX:=fun id=>A2M l S e i o ty D T id hty h0 ho hlen his hl8 d1 d2 d3;have hr:T7 ty e o.c = .tup [M4 f,.ptr o.c e.field.toNat 0,.int .i64 0]:=by unfold T7; rw[zh (by omega),hf]; simp only; rw[zk hkf]
 rw[hr] at hX;have hx:=A3G hcl hio;have hLk:=fun id=>B0a l S e i f cl (List.zipWith H4 o.t.cells o.is) e.field.toNat D T o.c id hx hn hl5 hS8 hc8 d1 d2 d3;have hB2:=fun id=>A08 cl none e.n id (by omega) (fun _=>hn);have hkx:=(ze.1 hx).1;have hxk:(List.zipWith H4 o.t.cells o.is)[e.field.toNat]'hkx=H4 cl none:=by rw[zd hkx] at hx; injection hx
 unfold J9 L7 cBn eD idB iBx I6 M4 at *;dsimp only at hB2;generalize hoc:o.c=c at *;generalize hzz:List.zipWith H4 o.t.cells o.is=xs at *;generalize hkk:e.field.toNat=k at *;refine w263.b.1 fun E hP hR hl hid hB hu=>?_;simp[w263];have hD:=hl (D,_) (zb ..);simp only at hD;have D1:=lf hD;have hT:=hl (T,_) (za _ (zb ..));simp only at hT;have T1:=lf hT;have hc:=hl (c,_) (za _ (za _ (zb ..)));simp only at hc;have c1:=lf hc;have hTn:∀x∈S.map N8,A4 E.G0.used x:=A9 hB (za _ (zb ..));have hXn:∀x∈xs,A4 E.G0.used x:=A9 hB (za _ (za _ (zb ..)));(refine yC rfl (hX _) ?_; simp[D1,T1,c1,d1,d1.symm,d2,d2.symm,d3,d3.symm]);refine C9 (fun h3=>?_) (fun h3=>?_)<;>simp[D1,T1,c1,d1,d1.symm,d2,d2.symm,d3,d3.symm]
 ·have k3:e.kind=3:=by simpa using h3
  (refine C6 hP rfl (w8 _ _) (by simp[D1,T1,c1,d1,d1.symm,d2,d2.symm,d3,d3.symm]) (by simp[D1,T1,c1,d1,d1.symm,d2,d2.symm,d3,d3.symm]<;>rfl) ?_; refine A6 4000 ?_; simp[D1,T1,c1,d1,d1.symm,d2,d2.symm,d3,d3.symm]);refine C9 (fun h4=>?_) (fun h4=>?_)<;>simp[D1,T1,c1,d1,d1.symm,d2,d2.symm,d3,d3.symm]
  ·have hE:O7 (A3 l S) f cl e=3:=(by unfold O7; rw[zk k3,zh (by simp at h4; omega)]);have hW:L4 (A3 l S) f cl e c k id xs none=[]:=(by unfold L4; rw[zk (by omega)]);rw[hE,hW] at hR;refine yE hR [] (by simp[D1,T1,c1,d1,d1.symm,d2,d2.symm,d3,d3.symm,B2 hid]) fun hrn=>⟨?_,?_,?_,?_,?_,?_⟩<;>(try simp[D1,T1,c1,d1,d1.symm,d2,d2.symm,d3,d3.symm,B2 hid]);exact⟨by exact yO hu hTn,by exact yO hu hXn⟩
  ·have hE:O7 (A3 l S) f cl e=0:=(by unfold O7; rw[zk k3,zk (by simp at h4; omega)]);have hW:L4 (A3 l S) f cl e c k id xs none=[(c,some ⟨xs.set k (.agg [.int .i64 e.n,.str cl.text,.nils]),zC,false,false⟩)]:=(by unfold L4; rw[zh (by omega),zk (.inl k3)]; simp[s9,k3,H4,I6]);rw[hE,hW] at hR;refine⟨hkx,⟨hkx,by simp[hx,H4]⟩,?_⟩;simp[hx,H4,I6];refine yE hR [] (by simp[hx,H4,I6,D1,T1,c1,d1,d1.symm,d2,d2.symm,d3,d3.symm,B2 hid]) fun hrn=>⟨?_,?_,?_,?_,?_,?_⟩<;>(try simp[hx,H4,I6,D1,T1,c1,d1,d1.symm,d2,d2.symm,d3,d3.symm,B2 hid]);exact⟨by exact yO hu hTn,E9 (by simp) k (by exact yO hu hXn)⟩
 have k3:e.kind≠3:=by simpa using h3
 refine C9 (fun h4=>?_) (fun h4=>?_)<;>simp[D1,T1,c1,d1,d1.symm,d2,d2.symm,d3,d3.symm]
 ·have k4:e.kind=4:=by simpa using h4
  refine C9 (fun h5=>?_) (fun h5=>?_)<;>simp[D1,T1,c1,d1,d1.symm,d2,d2.symm,d3,d3.symm]
  ·have hE:O7 (A3 l S) f cl e=2:=(by unfold O7; rw[zh k3,zk k4,zk (by simp at h5; omega)]);have hW:L4 (A3 l S) f cl e c k id xs none=[]:=(by unfold L4; rw[zk (by omega)]);rw[hE,hW] at hR;refine yE hR [] (by simp[D1,T1,c1,d1,d1.symm,d2,d2.symm,d3,d3.symm,B2 hid]) fun hrn=>⟨?_,?_,?_,?_,?_,?_⟩<;>(try simp[D1,T1,c1,d1,d1.symm,d2,d2.symm,d3,d3.symm,B2 hid]);exact⟨by exact yO hu hTn,by exact yO hu hXn⟩
  ·have hE:O7 (A3 l S) f cl e=0:=(by unfold O7; rw[zh k3,zk k4,zh (by simp at h5; omega)]);have hW:L4 (A3 l S) f cl e c k id xs none=[(c,some ⟨xs.set k (.agg [.int .i64 cl.n,.str e.text,.nils]),zC,false,false⟩)]:=(by unfold L4; rw[zh (by omega),zk (.inr k4)]; simp[s9,k4,H4,I6]);rw[hE,hW] at hR;refine⟨hkx,⟨hkx,by simp[hx,H4]⟩,?_⟩;simp[hx,H4,I6];refine yE hR [] (by simp[hx,H4,I6,D1,T1,c1,d1,d1.symm,d2,d2.symm,d3,d3.symm,B2 hid]) fun hrn=>⟨?_,?_,?_,?_,?_,?_⟩<;>(try simp[hx,H4,I6,D1,T1,c1,d1,d1.symm,d2,d2.symm,d3,d3.symm,B2 hid]);exact⟨by exact yO hu hTn,E9 (by simp) k (by exact yO hu hXn)⟩
 have k4:e.kind≠4:=by simpa using h4
 refine C9 (fun h5=>?_) (fun h5=>?_)<;>simp[D1,T1,c1,d1,d1.symm,d2,d2.symm,d3,d3.symm]
 ·have k5:e.kind=5:=by simpa using h5
  have hE:O7 (A3 l S) f cl e=M8 (A3 l S) f cl e.n:=by unfold O7; rw[zh k3,zh k4,zk k5]
  have hC:s9 f cl e=⟨cl.n,cl.text,N3 f cl e.n⟩:=by unfold s9; rw[zh k3,zh k4,zk k5]
  have k34:¬(e.kind=3\/e.kind=4):=by omega
  rw[hE] at hR;by_cases q1:M8 (A3 l S) f cl e.n=0
  ·by_cases q2:f.kind=3
   ·have hLw:∀id,J7 (A3 l S) f cl e.n c k id xs none=[(c,some ⟨xs.set k (.agg [.int .i64 cl.n,.str cl.text,.bsl id 0 (N3 f cl e.n).length]),zC,false,false⟩),(id,some ⟨(N3 f cl e.n).map eI,.int .i64 0,false,false⟩)]:=fun id=>by unfold J7; rw[zh (by omega),zk q2]; rfl
    have hW:L4 (A3 l S) f cl e c k id xs none=[(c,some ⟨xs.set k (.agg [.int .i64 cl.n,.str cl.text,.bsl id 0 (N3 f cl e.n).length]),zC,false,false⟩),(id,some ⟨(N3 f cl e.n).map eI,.int .i64 0,false,false⟩)]:=(by unfold L4; rw[zh (by omega),zh k34,zk ⟨k5,q2⟩,hC]; rfl);simp only[hLw] at hLk;rw[hW] at hR;(refine yC rfl (hLk _) ?_; simp[D1,T1,c1,d1,d1.symm,d2,d2.symm,d3,d3.symm]);refine yE hR [(id,E.n0+27648)] (by simp[hx,H4,I6,D1,T1,c1,d1,d1.symm,d2,d2.symm,d3,d3.symm,B2 hid]) fun hrn=>⟨?_,?_,?_,?_,?_,?_⟩<;>(try simp[hx,H4,I6,D1,T1,c1,d1,d1.symm,d2,d2.symm,d3,d3.symm,B2 hid]);exact⟨by exact yO hu hTn,E9 (by simp[B2 hid]) k (by exact yO hu hXn)⟩
   ·have hLw:∀id,J7 (A3 l S) f cl e.n c k id xs none=[(c,some ⟨xs.set k (.agg [.int .i64 cl.n,.str cl.text,.bsl id 0 (N3 f cl e.n).length]),zC,false,false⟩),(id,some ⟨(N3 f cl e.n).map eI,.int .i64 0,false,false⟩)]:=fun id=>by unfold J7; rw[zh (by omega),zh q2]; rfl
    have hW:L4 (A3 l S) f cl e c k id xs none=[(c,some ⟨xs.set k (.agg [.int .i64 cl.n,.str cl.text,.bsl id 0 (N3 f cl e.n).length]),zC,false,false⟩),(id,some ⟨(N3 f cl e.n).map eI,.int .i64 0,false,false⟩)]:=(by unfold L4; rw[zh (by omega),zh k34,zh (fun h=>q2 h.2),hC]; rfl);simp only[hLw] at hLk;rw[hW] at hR;(refine yC rfl (hLk _) ?_; simp[D1,T1,c1,d1,d1.symm,d2,d2.symm,d3,d3.symm]);refine yE hR [(id,E.n0+27648)] (by simp[hx,H4,I6,D1,T1,c1,d1,d1.symm,d2,d2.symm,d3,d3.symm,B2 hid]) fun hrn=>⟨?_,?_,?_,?_,?_,?_⟩<;>(try simp[hx,H4,I6,D1,T1,c1,d1,d1.symm,d2,d2.symm,d3,d3.symm,B2 hid]);exact⟨by exact yO hu hTn,E9 (by simp[B2 hid]) k (by exact yO hu hXn)⟩
  ·have hLw:∀id,J7 (A3 l S) f cl e.n c k id xs none=[]:=fun id=>by unfold J7; rw[zk q1]
   have hW:L4 (A3 l S) f cl e c k id xs none=[]:=(by unfold L4; rw[zk (by omega)]);simp only[hLw] at hLk;rw[hW] at hR;(refine yC rfl (hLk _) ?_; simp[D1,T1,c1,d1,d1.symm,d2,d2.symm,d3,d3.symm]);refine yE hR [] (by simp[D1,T1,c1,d1,d1.symm,d2,d2.symm,d3,d3.symm,B2 hid]) fun hrn=>⟨?_,?_,?_,?_,?_,?_⟩<;>(try simp[D1,T1,c1,d1,d1.symm,d2,d2.symm,d3,d3.symm,B2 hid]);exact⟨by exact yO hu hTn,by exact yO hu hXn⟩
 have k5:e.kind≠5:=by simpa using h5
 have k6:e.kind=6:=by omega
 refine D5 (by simp[k6]) ?_;simp[hxk,hx,hkx,H4,I6,D1,T1,c1,d1,d1.symm,d2,d2.symm,d3,d3.symm];(refine yC rfl (hB2 _) ?_; simp[D1,T1,c1,d1,d1.symm,d2,d2.symm,d3,d3.symm]);refine C9 (fun h7=>?_) (fun h7=>?_)<;>simp[hxk,hx,hkx,H4,I6,D1,T1,c1,d1,d1.symm,d2,d2.symm,d3,d3.symm]
 ·have hE:O7 (A3 l S) f cl e=5:=by unfold O7; rw[zh k3,zh k4,zh k5,zh (by simpa using h7)]
  have hW:L4 (A3 l S) f cl e c k id xs none=[]:=by unfold L4; rw[zk (by omega)]
  rw[hE,hW] at hR;refine yE hR [] (by simp[D1,T1,c1,d1,d1.symm,d2,d2.symm,d3,d3.symm,B2 hid]) fun hrn=>⟨?_,?_,?_,?_,?_,?_⟩<;>(try simp[D1,T1,c1,d1,d1.symm,d2,d2.symm,d3,d3.symm,B2 hid]);exact⟨by exact yO hu hTn,by exact yO hu hXn⟩
 have h7:T6 cl.ids e.n=true:=by simpa using h7
 rw[hn] at h7;simp[T6] at h7
theorem B2J(l:List Ty)(S:List D2)(e:Ev)(i0:Int)(D T:Nat)(id:Nat)(w:Int)(hw:(e.kind=1/\C3 (S.map D2.t) e.type e.id=true/\w=6)\/(e.kind=1/\C3 (S.map D2.t) e.type e.id=false/\S.length=12/\w=2)\/(e.kind≠1/\C3 (S.map D2.t) e.type e.id=false/\w=5))(hS8:S.length<=1000)(d1:D≠T):
  A2 Tryz.prog 195 [.ptr D 0 0] [(D,L7 l (.bsl T 0 S.length) e i0),(T,J9 S)] id (.int .i64 w) [(D,some (L7 l (.bsl T 0 S.length) e (B3 (S.map D2.t) e.type e.id)))]:=by
 have hF:=fun id=>M3 l S T e.type e.id id (by omega);unfold J9 L7 eD at *;refine w195.b.1 fun E hP hR hl hid hB hu=>?_;simp[w195];have hD:=hl (D,_) (zb ..);simp only at hD;have D1:=lf hD;have hT:=hl (T,_) (za _ (zb ..));simp only at hT;have T1:=lf hT;have hTn:∀x∈S.map N8,A4 E.G0.used x:=A9 hB (za _ (zb ..));(refine yC rfl (hF _) ?_; simp[D1,T1,d1,d1.symm]);refine C9 (fun h=>?_) (fun h=>?_)<;>simp[D1,T1,d1,d1.symm]
 ·have h:e.kind=1/\C3 (S.map D2.t) e.type e.id=true:=by simpa using h
  have hw6:w=6:=by rcases hw with hw|hw|hw<;>simp_all
  subst hw6;refine yE hR [] (by simp[D1,T1,d1,d1.symm,B2 hid]) fun hrn=>⟨?_,?_,?_,?_,?_,?_⟩<;>(try simp[D1,T1,d1,d1.symm,B2 hid]);all_goals exact yO hu hTn
 refine C9 (fun h2=>?_) (fun h2=>?_)<;>simp[D1,T1,d1,d1.symm]
 ·have h2:e.kind=1/\S.length=12:=by simp at h2; omega
  have hw6:w=2:=by rcases hw with hw|hw|hw<;>simp_all
  subst hw6;refine yE hR [] (by simp[D1,T1,d1,d1.symm,B2 hid]) fun hrn=>⟨?_,?_,?_,?_,?_,?_⟩<;>(try simp[D1,T1,d1,d1.symm,B2 hid]);all_goals exact yO hu hTn
 have hk:e.kind≠1:=fun hk=>by
  rcases hw with hw|hw|hw
  ·simp[hk,hw.2.1] at h
  ·simp[hk] at h2; omega
  ·exact hw.1 hk
 refine A0 (by simpa using hk) ?_;simp[D1,T1,d1,d1.symm];have hw5:C3 (S.map D2.t) e.type e.id=false/\w=5:=by rcases hw with hw|hw|hw<;>simp_all
 refine D5 (by simp[hw5.1]) ?_;obtain⟨_,hw5⟩:=hw5;subst hw5;simp[D1,T1,d1,d1.symm];refine yE hR [] (by simp[D1,T1,d1,d1.symm,B2 hid]) fun hrn=>⟨?_,?_,?_,?_,?_,?_⟩<;>(try simp[D1,T1,d1,d1.symm,B2 hid]);all_goals exact yO hu hTn
theorem A8m(S:List D2)(x3:AV)(a b:Int)(T Y k:Nat)(id:Nat)(hk:k<=S.length)(hTY:T≠Y)(hTid:T<id\/id+1024<=T)(hbig:S.length<=1000000)(h3:AV.one x3=true):
  A2 Tryz.prog 260 [.bsl T 0 S.length,.int .i64 k,.bsl Y 0 1] [(T,⟨S.map N8,zT,false,false⟩),(Y,⟨[.agg [.int .i64 a,.int .i64 b,x3]],.agg [.int .i64 0,.int .i64 0,.nils],false,false⟩)] id (.bsl id 0 (S.length+1)) [(T,none),(id,some ⟨(S.map N8).take k++.agg [.int .i64 a,.int .i64 b,x3]::(S.map N8).drop k,zT,false,false⟩)]:=by
 have:=A6P (S.map N8) (.agg [.int .i64 a,.int .i64 b,x3]) T Y k id (by simpa using hk) hTY hTid (by simpa using hbig) (fun x hx=>by obtain⟨o,_,rfl⟩:=yi.1 hx; rfl) rfl (by simp[AV.cells,AV.one] at h3 ⊢; exact h3);rw[xd] at this;exact this
theorem A8n(S:List D2)(T k:Nat)(id:Nat)(hk:k<S.length)(hbig:S.length<=1000000):
  A2 Tryz.prog 262 [.bsl T 0 S.length,.int .i64 k,.int .i64 ((k:Int)+1)] [(T,⟨S.map N8,zT,false,false⟩)] id (.bsl id 0 (S.length - 1)) [(T,none),(id,some ⟨(S.map N8).take k++(S.map N8).drop (k+1),zT,false,false⟩)]:=by
 have:=A6Q (S.map N8) T k id (by simpa using hk) (by simpa using hbig) (fun x hx=>by obtain⟨o,_,rfl⟩:=yi.1 hx; rfl);rw[xd] at this;exact this
theorem B3x(l:List Ty)(S:List D2)(e:Ev)(i0:Int)(ty:Ty)(D T:Nat)(id:Nat)(hk:e.kind=1)(hfB:C3 (S.map D2.t) e.type e.id=false)(h12:S.length≠12)(hty:l[e.type.toNat]?=some ty)(h0:0<=e.type)(hf8:ty.fields.length<=1000)(hS8:S.length<=1000)(d1:D≠T):
  A2 Tryz.prog 195 [.ptr D 0 0] [(D,L7 l (.bsl T 0 S.length) e i0),(T,J9 S)] id (.int .i64 0) [(D,some (L7 l (.bsl id 0 (S.length+1)) e (B3 (S.map D2.t) e.type e.id))),(T,none),
   (id,some ⟨(S.map N8).take (B3 (S.map D2.t) e.type e.id)++.agg [.int .i64 e.type,.int .i64 e.id,.bsl (id+1) 0 ty.fields.length]::(S.map N8).drop (B3 (S.map D2.t) e.type e.id),zT,false,false⟩),(id+1,some ⟨List.replicate ty.fields.length zC,zC,false,false⟩)]:=by
 have hF:=fun id=>M3 l S T e.type e.id id (by omega);unfold J9 L7 eD at *;refine w195.b.1 fun E hP hR hl hid hB hu=>?_;simp[w195];have hD:=hl (D,_) (zb ..);simp only at hD;have D1:=lf hD;have hT:=hl (T,_) (za _ (zb ..));simp only at hT;have T1:=lf hT;have hTn:∀x∈S.map N8,A4 E.G0.used x:=A9 hB (za _ (zb ..));(refine C6 hP rfl (hF _) (by simp[D1,T1,d1,d1.symm]) (by simp[D1,T1,d1,d1.symm]<;>rfl) ?_; refine A6 330 ?_; simp[D1,T1,d1,d1.symm]);refine A0 (by simp[hfB]) ?_;simp[D1,T1,d1,d1.symm];refine A0 (by simp[hk]; omega) ?_;simp[D1,T1,d1,d1.symm];refine D5 (by simp[hk]) ?_;simp[hty,H6,h0,D1,T1,d1,d1.symm];have htl:e.type<l.length:=by have:=(ze.1 hty).1; omega
 refine⟨htl,⟨by omega,by omega⟩,?_⟩;refine A8P (by simp<;>rfl) (by simp) (by simp) (by simp<;>rfl) ?_;refine A6 4000 ?_;simp[D1,T1,d1,d1.symm];have hle:B3 (S.map D2.t) e.type e.id<=S.length:=by have:=(A9K (F4 (S.map D2.t) e.type e.id) 0 (S.map D2.t).length (uo _)).2; rw[xd] at this; unfold B3; rw[xd]; exact this
 have hIns:=fun (id:Nat) (hid:T<id\/id+1024<=T)=>A8m S (.bsl (E.n0+92160) 0 ty.fields.length) e.type e.id T (E.n0+94208) (B3 (S.map D2.t) e.type e.id) id hle (by omega) hid (by omega) rfl;generalize B3 (S.map D2.t) e.type e.id=m at *;(refine yC rfl (hIns _ (by omega)) ?_; simp[D1,T1,d1,d1.symm]);have hp0:∀R S,K2 R S (List.replicate ty.fields.length (.agg [.int .i64 0,.str [],.nils])) (List.replicate ty.fields.length (.agg [.int .i64 0,.str [],.nils])):=fun R S=>F7 rfl (A3I fun i x hx=>by rw[vn] at hx; split at hx<;>simp at hx; subst hx; rfl);simp only[zC] at hR;have hrn:I0 [(id,E.n0+95232),(id+1,E.n0+92160)]:=by simp[hp0,A2F hD.2,A0w hD.2,A2F hT.2,A0w hT.2,D1,T1,d1,d1.symm,B2 hid,A2E hid,A0v hid,x6 hid,x7 hid,c9 hid]
 rw[hR];refine H2 (by simp<;>rfl) [(id,E.n0+95232),(id+1,E.n0+92160)] hrn ⟨?_,?_,?_,?_,?_,?_⟩<;>(try simp[hp0,A2F hD.2,A0w hD.2,A2F hT.2,A0w hT.2,D1,T1,d1,d1.symm,B2 hid,A2E hid,A0v hid,x6 hid,x7 hid,c9 hid]);have hlk:∀z,z<E.n0->(z<id\/id+1024<=z)->Y3 [(id,E.n0+95232),(id+1,E.n0+92160)] z=none:=fun z h1 h2=>by
  have a1:z≠id:=by omega
  have a2:z≠id+1:=by omega
  simp[Y3,a1,a2]
 exact S8 (Q1 hu hlk fun x hx=>hTn x (wc hx)) (.cons _ _ _ _ (by simp[B2 hid,A2E hid,A0v hid,x6 hid,x7 hid,c9 hid]) (Q1 hu hlk fun x hx=>hTn x (xh hx)))
end Go.Am
