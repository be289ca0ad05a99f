/- Parts of the proof: an abstract machine for Go functions, and what functions of the program give back (Am9, Am10, Am11, Am12, Am13, Am14, Am15, Am16, Am17, Am18, Am19). No condition. -/
import Derived.Test.YtphjabjjnncebaaGreatDoorXA
set_option maxRecDepth 100000
set_option linter.all false
namespace Go.Am
open Go Go.RowKit
def A69(d:AV)(bx:Nat->Option Bx)(id:Nat)(x:AV)(ys:List AV):Option (AV×List (Nat×Bx)×List (Nat×Option Bx)) :=
 match x with
 | .nils=>some (.bsl id 0 ys.length,[],[(id,some ⟨ys,d,false,false⟩)])
 | .bsl i0 off n=>match bx i0 with
  | some b=>if off=0/\n=b.xs.length/\b.sz=d.cells.length/\b.ro=false then some (.bsl id 0 (n+ys.length),[(i0,b)],[(i0,none),(id,some ⟨b.xs++ys,d,false,b.frz⟩)]) else none
  | none=>none
 | _=>none
section
variable {P:Program} {C:Cx P} {G:Gh} {bx:Nat->Option Bx} {w:World}
theorem A7F(a b c:Nat)(h:((a:Int)+b)*c<=140737488355328):(a+b)*c<=140737488355328:=by
 have e:((a:Int)+b)*c=(((a+b)*c:Nat):Int):=by rw[rc,Int.natCast_add]
 rw[e] at h;omega
theorem C4p(a:List Value)(z:Array Value):(a++z.toList).toArray=a.toArray++z:=by apply vm; simp
theorem A6A{l:List Value}{n k:Nat}(h:k<n):(l.take n)[k]?=l[k]?:=by rw[zy,zj h]
theorem A43(hs:RS C G bx w){id:Nat}(hu:¬G.used id){ys:List AV}{vy:Value}{s:Nat}(hsz:∀z∈ys,z.cells.length=s){t tx ty e:TypeId}{i:TypeInfo}{z:Value}{news:List Value}(hsrc:Src P s tx vy ys.length news w)
  (hnl:news.length=ys.length*s) (hnf:∀(k:Nat) z,(flat ys)[k]?=some z->∃u,news[k]?=some u/\RV G w z u) (ht:P.underlying t=some (.slice e)) (hi:P.info? e=some i) (hz:i.zero=some z) (hzs:z.cells.size=s) (his:i.size=s)
  (hb1:(0+ys.length)*i.bytes<=140737488355328) (hb2:ys.length<=9223372036854775807) (f:Bool) (d:AV) (hd:d.cells.length=s) :
  Made P C (Builtin.append_ #[t,tx] ty #[.slice none 0 0,vy]) G w id (.bsl id 0 ys.length) (U8 bx id (some ⟨ys,d,false,f⟩)):=by
 subst his;by_cases hem:ys=[]
 ·subst hem;have hn0:news=[]:=wi (by simpa using hnl);subst hn0;obtain⟨r1,r2,r3⟩:=hs.void hu d f;exact⟨_,w,_,A40 t tx ty e i ht hi vy hsrc,r1,r2,r3,fun k hk=>hk.elim .inr .inl⟩
 ·have hpos:0<ys.length:=by
   rcases ys with _|⟨a,l⟩
   ·simp at hem
   ·simp
  have hrun:=run_append_grow_src (P:=P) w t tx ty e i z ht hi hz none 0 0 [] (by simp[Builtin.firstCells]) vy ys.length news hsrc (by omega) (by omega) (growslice_fits (by omega) hb1);have hcap:=grownCap_ge w (0+ys.length) 0 e;have hcm:=grownCap_le_maxLen w (0+ys.length) 0 e (by simp only[maxLen]; omega);simp only[xm] at hrun;have hsize:(news.toArray++Builtin.zeroCells z.cells (grownCap w (0+ys.length) 0 e - (0+ys.length))).size=grownCap w (0+ys.length) 0 e*i.size:=by
   rw[vo,size_zeroCells,hzs,yo,hnl,←xk];congr 1; omega
  have hcont:x1 G w.drew i.size ys (news.toArray++Builtin.zeroCells z.cells (grownCap w (0+ys.length) 0 e - (0+ys.length))):=by
   have:=A5Q (G:=G) (w:=w.drew) (xs:=[]) (cur:=#[]) (ys:=ys) (news:=news) (rest:=(Builtin.zeroCells z.cells (grownCap w (0+ys.length) 0 e - (0+ys.length))).toList) (fun i y hy=>by simp at hy) (by simp) hsz
    fun k q hq=>let ⟨u,h1,h2⟩:=hnf k q hq; ⟨u,h1,h2.mono hs.drew.2⟩
   rw[C4p] at this;simpa only[List.take_nil,xm] using this
  obtain⟨r1,r2⟩:=hs.drew.1.alloc hu (s:=i.size) ys _ e (by rw[hsize]; exact yt _ (by omega)) hcont d hd;have r1':=r1.reflag f;refine⟨_,_,_,hrun,r1',hs.drew.2.trans r2,?_,fun k hk=>hk.elim .inr .inl⟩;refine .bsl id 0 _ _ rfl (.inl rfl) (fun b s' hbm=>?_) fun hn=>(hu (hs.nlu id hn).1).elim;simp only[Gh.name,C7,zd,zi] at hbm;obtain⟨rfl,rfl⟩:=hbm;exact⟨_,_,e,by simp,by omega,hcm,heap_alloc_new w.drew _,by rw[hsize]; simp⟩
theorem A5R(hs:RS C G bx w){id:Nat}(hu:¬G.used id){x y r:AV}{vx vy:Value}(hx:RV G w x vx)(hy:RV G w y vy){ys:List AV}(he:elems bx y=some ys){d:AV}{s bytes:Nat}(hsz:∀z∈ys,z.cells.length=s)
  (h1:∀z∈ys,∀c∈z.cells,c.one=true) {rd:List (Nat×Bx)} {wr:List (Nat×Option Bx)} (hr:A69 d bx id x ys=some (r,rd,wr)) (hd:d.cells.length=s) {t tx ty e:TypeId} {i:TypeInfo} {z:Value}
  (hk:((∃t,y = .str t)/\P.underlying tx=some .string/\s=1)\/((∀t,y≠.str t)/\∃e,P.underlying tx=some (.slice e)))
  (ht:P.underlying t=some (.slice e)) (hi:P.info? e=some i) (hz:i.zero=some z) (hzs:z.cells.size=s) (his:i.size=s) (hib:i.bytes=bytes)
  (hb:∀n,A1A bx x=some (.int .i64 n)->(n+ys.length)*bytes<=140737488355328/\n+ys.length<=9223372036854775807) :
  Made P C (Builtin.append_ #[t,tx] ty #[vx,vy]) G w id r (F4 bx wr):=by
 obtain⟨news,hsrc,hnl,hnf⟩:=C3G hs hy he hsz h1 hk;subst his hib;cases x with
 | nils =>
  cases hx
  simp only[A69,zd,zi] at hr;obtain⟨rfl,_,rfl⟩:=hr;have hbd:=hb (0:Nat) (by simp[A1A]);exact A43 hs hu hsz hsrc hnl hnf ht hi hz hzs rfl (A7F 0 _ _ hbd.1) (by have:=hbd.2; omega) false d hd
 | bsl i0 off n =>
  simp only[A69] at hr;split at hr
  ·rename_i b hbx;split at hr
   ·rename_i hc;obtain⟨rfl,rfl,hbs',hro⟩:=hc;simp only[zd,zi] at hr;obtain⟨rfl,_,rfl⟩:=hr;cases hx with|bsl _ _ _ _ hone hub hbm hvn =>
    have hbd:=hb b.xs.length (by simp[A1A,hbx]);have hb1:(b.xs.length+ys.length)*i.bytes<=140737488355328:=A7F _ _ _ hbd.1;by_cases hn:G.nl i0
    ·have h0:=(hs.nil i0 b hbx hn).1;obtain⟨hv,_,_⟩:=hvn hn;subst hv;rw[h0] at hbd hb1 ⊢;have:=A43 (hs.weak (bx':=U8 bx i0 none) fun j x hx=>by
      by_cases hj:j=i0
      ·subst hj; rw[C7] at hx; cases hx
      ·rwa [B7 _ _ _ hj] at hx) hu hsz hsrc hnl hnf ht hi hz hzs rfl hb1 (by have:=hbd.2; simp at this; omega) b.frz d hd (ty:=ty)
     simpa [F4] using this
    obtain⟨blk,s',cur,el,k1,k2,k3,⟨k4,k5⟩,k6,k7,k8⟩:=hs.box i0 b hbx hn;have hss:s'=i.size:=k4.symm.trans (hbs'.trans hd);subst hss;obtain⟨c,cur',el',hv,hlc,hcm,hh',hsz'⟩:=hbm blk _ k1;rw[k2] at hh';injection hh' with hh'
    injection hh' with q1 q2
    subst q1 q2;simp only[qf,yy] at hv hsz';subst hv;have hne:i0≠id:=fun h=>hu (h▸hs.used i0 blk _ k1);by_cases hroom:b.xs.length+ys.length<=c
    ·have hfit:b.xs.length*i.size+news.length<=cur.size:=(by rw[hnl,hsz',←xk]; exact yt _ hroom);have hrun:=Z7 (P:=P) t tx ty e i ht hi blk b.xs.length c cur el k2 vy ys.length news hsrc hroom hfit;have hnewh:=setRow_heap w blk cur (cur.toList.take (b.xs.length*i.size)++news++cur.toList.drop (b.xs.length*i.size+news.length)).toArray el (0,0) k2;have hsz2:(cur.toList.take (b.xs.length*i.size)++news++cur.toList.drop (b.xs.length*i.size+news.length)).toArray.size=cur.size:=by
      rw[yo,yl,yl,zw,zx,yz]; omega
     obtain⟨r1,r2⟩:=hs.moved (id0:=i0) (id:=id) (b':=blk) (s:=i.size) (x':=⟨b.xs++ys,d,false,b.frz⟩) (w':=w.setRow blk (cur.toList.take (b.xs.length*i.size)++news++cur.toList.drop (b.xs.length*i.size+news.length)).toArray) hu
      ⟨rfl,rfl,rfl,by simp,fun k hk=>setRow_other w blk k _ (by have:=k3 hro; omega)⟩
      (fun j b2 s2 hj hji=>setRow_other w blk b2 _ fun hbb=>hji (hs.inj j i0 b2 s2 i.size hj (hbb▸k1)))
      (fun b2 o hf=>by
       by_cases hbb:b2=blk
       ·subst hbb;have ho:=k8 o hf;rw[E6 hnewh,E6 k2,xu,yk,yf (by simp; omega),A6A ho];simp
       ·exact World.cell?_of_block (w:=w) (setRow_other w blk b2 _ hbb))
      hnewh (k3 hro) (fun j s2 hj hjb=>hj (hs.inj j i0 blk s2 i.size hjb k1)) (by rw[hsz2]; simp only[yl,xk]; omega) hd
      (A5Q k6 k5 hsz hnf) (fun hf o hfz=>k7 hf o hfz) (fun o hf=>by have:=k8 o hf; simp only[yl,xk]; omega)
     refine⟨_,_,_,hrun,by simpa [F4] using r1,r2,?_,fun k hk=>hk.elim .inr .inl⟩;refine .bsl id 0 _ _ rfl (.inl rfl) (fun b' s2 hbm'=>?_) fun hn'=>(hu (hs.nlu id hn').1).elim;simp only[Gh.rename,C7,zd,zi] at hbm';obtain⟨rfl,rfl⟩:=hbm';exact⟨c,_,el,by simp,hroom,hcm,hnewh,by rw[hsz2,hsz']; simp⟩
    ·have holds:∀(j:Nat) u,(cur.toList.take (b.xs.length*i.size))[j]?=some u->w.drew.cell? ((⟨blk,0,none⟩:Addr).add j)=some u:=fun j u hj=>by
      have hjl:j<b.xs.length*i.size:=(by have:=(ze.1 hj).1; simp at this; omega);rw[A6A hjl] at hj;rw[Addr.add_lit,yy,World.cell?_drew,E6 k2];simpa using hj
     have hfirst:(Builtin.firstCells i.size b.xs.length (.slice (some ⟨blk,0,none⟩) b.xs.length c)).run P w.drew = .ok (cur.toList.take (b.xs.length*i.size)).toArray w.drew :=
      run_firstCells_some w.drew i.size b.xs.length ⟨blk,0,none⟩ b.xs.length c _ (by simp; omega) holds
     have hrun:=run_append_grow_src (P:=P) w t tx ty e i z ht hi hz (some ⟨blk,0,none⟩) b.xs.length c _ hfirst vy ys.length news hsrc (by omega) (by have:=hbd.2; omega) (growslice_fits (by omega) hb1);have hcap:=grownCap_ge w (b.xs.length+ys.length) c e;have hcm':=grownCap_le_maxLen w (b.xs.length+ys.length) c e (by simp only[maxLen]; have:=hbd.2; omega);have hsize:((cur.toList.take (b.xs.length*i.size)++news).toArray++Builtin.zeroCells z.cells (grownCap w (b.xs.length+ys.length) c e - (b.xs.length+ys.length))).size=grownCap w (b.xs.length+ys.length) c e*i.size:=by
      rw[vo,size_zeroCells,hzs,yo,yl,hnl,zw,yz,ub k5,←xk,←xk];congr 1; omega
     have hcont:x1 G w i.size (b.xs++ys) ((cur.toList.take (b.xs.length*i.size)++news).toArray++Builtin.zeroCells z.cells (grownCap w (b.xs.length+ys.length) c e - (b.xs.length+ys.length))):=by
      have:=A5Q (rest:=(Builtin.zeroCells z.cells (grownCap w (b.xs.length+ys.length) c e - (b.xs.length+ys.length))).toList) k6 k5 hsz hnf;rw[C4p] at this;exact this
     have hold:∀k,k<w.heap.size->(w.drew.alloc (.cells ((cur.toList.take (b.xs.length*i.size)++news).toArray++Builtin.zeroCells z.cells (grownCap w (b.xs.length+ys.length) c e - (b.xs.length+ys.length))) e)).heap[k]?=w.heap[k]?:=fun k hk=>Below.heap_alloc w.drew _ k hk;have hnewh:=heap_alloc_new w.drew (.cells ((cur.toList.take (b.xs.length*i.size)++news).toArray++Builtin.zeroCells z.cells (grownCap w (b.xs.length+ys.length) c e - (b.xs.length+ys.length))) e);have hfzlt:∀b2 o,G.fz b2 o->b2<w.heap.size:=fun b2 o hf=>let ⟨u,hu⟩:=hs.fzok b2 o hf; Y4 hu;obtain⟨r1,r2⟩:=hs.moved (id0:=i0) (id:=id) (b':=w.heap.size) (s:=i.size) (x':=⟨b.xs++ys,d,false,b.frz⟩) (w':=w.drew.alloc (.cells ((cur.toList.take (b.xs.length*i.size)++news).toArray++Builtin.zeroCells z.cells (grownCap w (b.xs.length+ys.length) c e - (b.xs.length+ys.length))) e)) hu
      ⟨rfl,rfl,rfl,by simp,fun k hk=>hold k (by have:=hs.size; omega)⟩ (fun j b2 s2 hj _=>hold b2 (hs.rows j b2 s2 hj)) (fun b2 o hf=>World.cell?_of_block (w:=w) (hold b2 (hfzlt b2 o hf)))
      hnewh hs.size (fun j s2 _ hjb=>absurd (hs.rows j _ s2 hjb) (uf _)) (by rw[hsize]; exact yt _ (by simp; omega)) hd hcont
      (fun _ o hf=>absurd (hfzlt _ o hf) (uf _)) (fun o hf=>absurd (hfzlt _ o hf) (uf _))
     refine⟨_,_,_,hrun,by simpa [F4] using r1,r2,?_,fun k hk=>hk.elim .inr .inl⟩;refine .bsl id 0 _ _ rfl (.inl rfl) (fun b' s2 hbm'=>?_) fun hn'=>(hu (hs.nlu id hn').1).elim;simp only[Gh.rename,C7,zd,zi] at hbm';obtain⟨rfl,rfl⟩:=hbm';exact⟨_,_,e,by simp,by omega,hcm',hnewh,by rw[hsize]; simp⟩
   ·cases hr
  ·cases hr
 | _=>cases hr
end
def B87(y:AV)(off:Nat)(z:AV):AV :=
 match y with
 | .agg cs=>.agg (A0U cs off z.cells)
 | _=>match z.cells with
  | [c]=>c
  | _=>z
theorem B3i{y z:AV}{off:Nat}(h:off+z.cells.length<=y.cells.length)(h1:∀c∈z.cells,c.one=true)(hy:(∀cs,y≠.agg cs)->z.cells.length=1):(B87 y off z).cells=A0U y.cells off z.cells:=by
 have other:∀y:AV,y.cells=[y]->(∀cs,y≠.agg cs)->off+z.cells.length<=y.cells.length->z.cells.length=1->(match z.cells with|[c]=>c|_=>z).cells=A0U y.cells off z.cells:=by
  intro y hyc _ hl h2;rw[hyc] at hl ⊢;simp only[List.length_singleton] at hl;obtain⟨c,hc⟩:=List.length_eq_one_iff.1 h2;have ho:off=0:=by omega
  subst ho;have hc1:c.one=true:=h1 c (by rw[hc]; simp);simp only[hc,A0U,AV.one_cells hc1];simp
 cases y with
 | agg cs=>rfl
 | _=>exact other _ rfl (fun cs h=>by cases h) h (hy fun cs h=>by cases h)
section
variable {P:Program} {C:Cx P} {G:Gh} {bx:Nat->Option Bx} {w:World}
def C63(P:Program)(C:Cx P)(x:Sem Unit)(G:Gh)(w:World)(bx':Nat->Option Bx):Prop :=
 ∃w' G',x.run P w = .ok () w'/\RS C G' bx' w'/\M0 G w G' w'/\(∀i,G'.used i->G.used i)
theorem B88(hs:RS C G bx w){id i off:Nat}{v vz:Value}(h:RV G w (.ptr id i off) v){z:AV}(hz:RV G w z vz){b:Bx}(hb:bx id=some b){y:AV}(hy:b.xs[i]?=some y)(hro:b.ro=false)(hfr:b.frz=false)
  {n:Nat} (hn:z.cells.length=n) (hle:off+n<=y.cells.length) (h1:∀c∈z.cells,c.one=true) (h2:(∀cs,y≠.agg cs)->n=1) {t:TypeId} (hi:(P.info? t).map (·.size)=some n) :
  C63 P C (Instr.storeAt t v vz) G w (U8 bx id (some { b with xs:=b.xs.set i (B87 y off z) })):=by
 subst hn;obtain⟨blk,s,cur,e,k1,k2,k3,⟨k4,k5⟩,k6,k7⟩:=hs.box id b hb (hs.lies hb hy);cases h with|ptr _ _ _ _ ho hu hbm =>
 have hv:=hbm blk s k1;subst hv;obtain⟨hzl,hzr⟩:=Q2 hz;have hil:i<b.xs.length:=(ze.1 hy).1;have hys:y.cells.length=s:=(k6 i y hy).1;have hfit:i*s+off+0+vz.cells.toList.length<=cur.size:=by
  have:i*s+s<=b.xs.length*s:=by rw[←vq]; exact yt _ hil
  have hlen:vz.cells.toList.length=z.cells.length:=by simp[hzl]
  omega
 have hone:∀u∈vz.cells.toList,u.oneCell'=true:=fun u hu=>by
  obtain⟨j,hj⟩:=ui hu;have hjl:j<z.cells.length:=by rw[hzl]; have:=(ze.1 hj).1; simpa using this
  have hc:=zc hjl;obtain⟨u',g1,g2⟩:=(Q2 hz).get hc;have:u=u':=by
   rw[yw,g1] at hj;injection hj with hj
   exact hj.symm
  subst this;exact g2.oneCell (h1 _ (List.getElem_mem hjl))
 have hrun:=run_storeCells_at P blk (i*s+off) e vz.cells.toList 0 cur w k2 hfit hone;simp only[vh] at hrun;have hlen:vz.cells.toList.length=z.cells.length:=by simp[hzl]
 have hget:∀k,(cur.toList.take (i*s+off)++vz.cells.toList++cur.toList.drop (i*s+off+vz.cells.toList.length)).toArray[k]?=if i*s+off<=k/\k<i*s+off+z.cells.length then vz.cells[k - (i*s+off)]? else cur[k]?:=fun k=>by
  rw[xu,yk,hlen];have hcs:(cur.toList.take (i*s+off)).length=i*s+off:=by rw[zw,yz]; omega
  by_cases q1:k<i*s+off
  ·rw[zf (by omega),yf (by omega),zy,zj q1,yw]
  ·rw[yj (by omega),hcs];by_cases q2:k<i*s+off+z.cells.length
   ·rw[zj ⟨by omega,q2⟩,yf (by omega),yw]
   ·rw[zf (by omega),yj (by omega),yc,yw];congr 1; omega
 obtain⟨r1,r2⟩:=hs.setRow (cur':=(cur.toList.take (i*s+off)++vz.cells.toList++cur.toList.drop (i*s+off+vz.cells.toList.length)).toArray) hb k1 hro hfr k2 (by
  rw[yo,yl,yl,zw,zx,yz]; omega) (b.xs.set i (B87 y off z)) (by simp) (fun k q hq=>by
  have hmc:=B3i (z:=z) hle h1 h2;rw[ug] at hq;split at hq
  ·rename_i hik;subst hik;injection hq with hq
   subst hq;rw[hmc,A42 hle];refine⟨hys,fun j c hc=>?_⟩;rw[A4A hle] at hc;by_cases hj:off<=j/\j<off+z.cells.length
   ·rw[zj hj] at hc;obtain⟨u,g1,g2⟩:=(Q2 hz).get hc;refine⟨u,?_,g2⟩;rw[hget,zj (by omega),show i*s+j - (i*s+off)=j - off by omega];exact g1
   ·rw[zf hj] at hc;obtain⟨u,g1,g2⟩:=(k6 i y hy).2 j c hc;refine⟨u,?_,g2⟩;rw[hget,zf (by omega)];exact g1
  ·rename_i hik;obtain⟨g0,g1⟩:=k6 k q hq;refine⟨g0,fun j c hc=>?_⟩;obtain⟨u,g2,g3⟩:=g1 j c hc;refine⟨u,?_,g3⟩;have hjs:j<s:=(by rw[←g0]; exact (ze.1 hc).1);rw[hget,zf]
   ·exact g2
   ·intro ⟨q1,q2⟩;rcases Nat.lt_or_gt_of_ne hik with hlt|hgt
    ·have:(i+1)*s<=k*s:=yt _ hlt;rw[vq] at this;omega
    ·have:(k+1)*s<=i*s:=yt _ hgt;rw[vq] at this;omega)
 refine⟨_,G,?_,r1,r2,fun _ h=>h⟩;simp only[Instr.storeAt,Instr.sureAddr,Sem.run_bind,Sem.run_pure,Result.andThen_ok,storeVar,R5 hi];rw[zf (by rw[←hzl]; simp)];exact hrun
end
def j9(xs:List AV):List (Nat×AV)->List AV
 | []=>xs
 | (i,x)::r=>j9 (xs.set i x) r
def A44(len s:Nat):List (Nat×AV)->Prop
 | []=>True
 | (i,x)::r=>i<len/\x.cells.length=s/\A44 len s r
def A5S:AV->UInt8
 | .int _ n=>UInt8.ofNat n.toNat
 | _=>0
def A4e:AV->Bool
 | .int .u8 _=>true
 | _=>false
section
variable {P:Program} {C:Cx P} {G:Gh} {bx:Nat->Option Bx} {w:World}
theorem A1i:∀(ps:List (Nat×AV)) (xs:List AV),(j9 xs ps).length=xs.length
 | [],_=>rfl
 | (i,x)::r,xs=>by simp[j9,A1i r]
theorem A4f{s:Nat}:∀(ps:List (Nat×AV)) (xs:List AV),A44 xs.length s ps->(∀y∈xs,y.cells.length=s)->∀y∈j9 xs ps,y.cells.length=s
 | [],_,_,h,y,hy=>h y hy
 | (i,x)::r,xs,ho,h,y,hy=>by
  refine A4f r (xs.set i x) (by simpa using ho.2.2) (fun z hz=>?_) y hy;rcases vj hz with h1|h1
  ·exact h z h1
  ·subst h1; exact ho.2.1
theorem B89{s:Nat}{xs:List AV}(h:∀y∈xs,y.cells.length=s){i:Nat}(hi:i<xs.length){x:AV}(hx:x.cells.length=s):A0U (flat xs) (i*s) x.cells=flat (xs.set i x):=by
 have hle:i*s+x.cells.length<=(flat xs).length:=by
  rw[Q4 h,hx,←vq]; exact yt _ hi
 have hset:∀y∈xs.set i x,y.cells.length=s:=fun y hy=>by
  rcases vj hy with h1|h1
  ·exact h y h1
  ·subst h1; exact hx
 apply List.ext_getElem?;intro k;rw[A4A hle];rcases yh k (xs.length*s) with hk|hk
 ·have hs0:0<s:=by
   rcases ua s with h0|h0
   ·subst h0; simp at hk
   ·exact h0
  have hkd:k=(k / s)*s+k % s:=by rw[qg]; exact (Nat.div_add_mod k s).symm
  have hm:k % s<s:=Nat.mod_lt _ hs0;have hq:k / s<xs.length:=Nat.div_lt_of_lt_mul (by rw[qg]; exact hk);generalize k / s=q at *;generalize k % s=m at *;subst hkd;rw[A4d hset q m ((xs.set i x)[q]'(by simpa using hq)) (zc _) hm,A4d h q m xs[q] (zc _) hm];rw[List.getElem_set];by_cases hiq:i=q
  ·subst hiq;rw[zj rfl,zj (by omega)];congr 1; omega
  ·rw[zf hiq,zf];intro ⟨h1,h2⟩;rcases Nat.lt_or_gt_of_ne hiq with hlt|hgt
   ·have:(i+1)*s<=q*s:=yt _ hlt;rw[vq] at this;omega
   ·have:(q+1)*s<=i*s:=yt _ hgt;rw[vq] at this;omega
 ·rw[zf (by rw[Q4 h] at hle; omega),wl (by rw[Q4 h]; exact hk),wl (by rw[Q4 hset]; simpa using hk)]
theorem A7G{s:Nat}:∀(ps:List (Nat×AV)) (xs:List AV),(∀y∈xs,y.cells.length=s)->A44 xs.length s ps->A2w (flat xs) (ps.map fun p=>(p.1*s,s,p.2))=some (flat (j9 xs ps))
 | [],_,_,_=>rfl
 | (i,x)::r,xs,h,ho=>by
  obtain⟨h1,h2,h3⟩:=ho;have hle:i*s+s<=(flat xs).length:=by rw[Q4 h,←vq]; exact yt _ h1
  simp only[ym,A2w,h2,hle,and_self,if_true,j9];rw[B89 h h1 h2];refine A7G r _ (fun y hy=>?_) (by simpa using h3);rcases vj hy with h4|h4
  ·exact h y h4
  ·subst h4; exact h2
theorem A4g{s:Nat}{xs:List AV}{cur:Array Value}(h:∀y∈xs,y.cells.length=s)(hf:∀(k:Nat) z,(flat xs)[k]?=some z->∃u,cur[k]?=some u/\RV G w z u):x1 G w s xs cur:=fun i y hy =>
 ⟨h y (zg hy),fun j z hz=>hf _ z (by
  rw[A4d h i j y hy]
  ·exact hz
  ·rw[←h y (zg hy)]; exact (ze.1 hz).1)⟩
theorem A2x{s:Nat}{z:AV}{v:Value}(hz:RV G w z v)(hs:z.cells.length=s)(n m:Nat)(hnm:n<=m):∀(k:Nat) c,(flat (List.replicate n z))[k]?=some c->∃u,(madeCells v.cells (m*s))[k]?=some u/\RV G w c u:=by
 intro k c hc;have hall:∀y∈List.replicate n z,y.cells.length=s:=fun y hy=>by rw[(uy.1 hy).2]; exact hs
 obtain⟨i,j,y,h1,h2,h3,h4⟩:=A4c hall k c hc;have hy:y=z:=(uy.1 (zg h3)).2;have hi:i<n:=by have:=(ze.1 h3).1; simpa using this
 subst hy h1;obtain⟨u,g1,g2⟩:=(Q2 hz).get h4;have hsz:v.cells.size=s:=by rw[←(Q2 hz).1]; exact hs
 have hlt:i*s+j<m*s:=by
  have:(i+1)*s<=m*s:=yt _ (by omega);rw[vq] at this;omega
 refine⟨u,?_,g2⟩;have hm:(i*s+j) % s=j:=by rw[qh,Nat.add_mul_mod_self_right]; exact sq h2
 have hg:v.cells[j]! = u:=by rw[getElem!_def,g1]
 simp[madeCells,hlt,hsz,hm,hg]
theorem A4h{t:TypeId}{z:Value}(hz:(P.info? t).map (·.zero)=some (some z)):(zeroValue t).run P w = .ok z w:=by
 obtain⟨i,h1,h2⟩:=zm.1 hz;simp[zeroValue,typeInfo,h1,h2]
theorem A97(hs:RS C G bx w){id:Nat}(hu:¬G.used id){t e:TypeId}(ht:P.underlying t=some (.slice e)){s:Nat}(hi:(P.info? e).map (·.size)=some s){zv:Value}(hz:(P.info? e).map (·.zero)=some (some zv)){z:AV}(hzv:RV G w z zv)(hzs:z.cells.length=s)
  {len:Nat} (hlen:len*s<=16777216) (hm:len<=maxLen) {ps:List (Nat×AV)} (ho:A44 len s ps) {vs:Array (Nat×Value)} (hl:ps.length=vs.size) (hp:∀(i:Nat) p q,ps[i]?=some p->vs[i]?=some q->p.1=q.1/\RV G w p.2 q.2) :
  Made P C (Instr.buildSlice t len vs) G w id (.bsl id 0 len) (U8 bx id (some ⟨j9 (List.replicate len z) ps,z,false,false⟩)):=by
 have hall:∀y∈List.replicate len z,y.cells.length=s:=fun y hy=>by rw[(uy.1 hy).2]; exact hzs
 have ho':A44 (List.replicate len z).length s ps:=by simpa using ho
 have hzsz:zv.cells.size=s:=by rw[←(Q2 hzv).1]; exact hzs
 have hrow:RVs G w (flat (List.replicate len z)) (madeCells zv.cells (len*s)):=by
  refine RVs.of_get (by rw[Q4 hall,size_madeCells]; simp) fun k c u hc hu'=>?_;obtain⟨u',h1,h2⟩:=A2x hzv hzs len len (ya _) k c hc;rw[h1] at hu';injection hu' with hu'
  subst hu';exact h2
 obtain⟨us,hfill,hus⟩:=B0P (G:=G) (w:=w) (fun i=>some (i*s,s)) (ps.map fun p=>(p.1*s,s,p.2)) vs.toList _ _ _ hrow (A7G ps _ hall ho') (by simpa using hl) fun i p q hpi hq=>by
  rw[yi,zm] at hpi;obtain⟨p',h1,rfl⟩:=hpi;obtain⟨h2,h3⟩:=hp i p' q h1 (by simpa using hq);exact⟨by rw[h2],h3⟩
 have hsz:∀y∈j9 (List.replicate len z) ps,y.cells.length=s:=A4f ps _ ho' hall;have hussz:us.size=len*s:=by rw[←hus.1,Q4 hsz,A1i]; simp
 obtain⟨r1,r2⟩:=hs.alloc hu (s:=s) (j9 (List.replicate len z) ps) us e (by rw[A1i,hussz]; simp) (A4g hsz fun k c hc=>hus.get hc) z hzs;refine⟨.slice (some ⟨w.heap.size,0,none⟩) len len,_,_,?_,r1,r2,.bsl id 0 len _ rfl (.inl rfl) (fun b s' hb=>?_) fun hn=>(hu (hs.nlu id hn).1).elim,fun i hi=>hi.elim .inr .inl⟩
 ·have hgt:¬(len*s>2 ^ 24):=by omega
  by_cases h0:len*s=0
  ·have e1:∀z':Array Value,(Array.range (len*s)).map (z'[· % z'.size]!)=madeCells zv.cells (len*s):=fun z'=>by simp[h0,madeCells]
   simp only[Instr.buildSlice,Sem.run_bind,run_underlying ht,Result.andThen_ok,R5 hi,zf hgt,zj h0,Sem.run_pure,e1,hfill,newRow,run_newObj];rfl
  ·have e1:(Array.range (len*s)).map (zv.cells[· % zv.cells.size]!)=madeCells zv.cells (len*s):=rfl;simp only[Instr.buildSlice,Sem.run_bind,run_underlying ht,Result.andThen_ok,R5 hi,zf hgt,zf h0,Sem.run_pure,A4h hz,e1,hfill,newRow,run_newObj];rfl
 ·simp only[Gh.name,C7,zd,zi] at hb;obtain⟨rfl,rfl⟩:=hb;exact⟨len,us,e,by simp,ya _,hm,heap_alloc_new w _,by rw[hussz]; simp⟩
theorem C3H(hs:RS C G bx w){id:Nat}(hu:¬G.used id){t e:TypeId}(ht:P.underlying t=some (.slice e)){i:TypeInfo}(hi:P.info? e=some i){zv:Value}(hz:i.zero=some zv){z:AV}(hzv:RV G w z zv){s bytes:Nat}(his:i.size=s)(hib:i.bytes=bytes)(hzs:z.cells.length=s)
  {kl kc:IntKind} {l c:Int} (h0:0<=l) (hlc:l<=c) (hbytes:(bytes:Int)*c<=281474976710656) (h63:c<=9223372036854775807) :
  Made P C (Instr.makeSlice t (.int kl l) (.int kc c)) G w id (.bsl id 0 l.toNat) (U8 bx id (some ⟨List.replicate l.toNat z,z,false,false⟩)):=by
 subst his hib;have hall:∀y∈List.replicate l.toNat z,y.cells.length=i.size:=fun y hy=>by rw[(uy.1 hy).2]; exact hzs
 have hrun:=run_make (P:=P) w t e i zv ht hi hz kl kc l c h0 hlc hbytes h63;obtain⟨r1,r2⟩:=hs.alloc hu (s:=i.size) (List.replicate l.toNat z) (madeCells zv.cells (c.toNat*i.size)) e (by rw[size_madeCells]; simp only[List.length_replicate]; exact yt _ (by omega)) (A4g hall (A2x hzv hzs _ _ (by omega))) z hzs;refine⟨_,_,_,hrun,r1,r2,.bsl id 0 _ _ rfl (.inl rfl) (fun b s' hb=>?_) fun hn=>(hu (hs.nlu id hn).1).elim,fun i hi=>hi.elim .inr .inl⟩;simp only[Gh.name,C7,zd,zi] at hb;obtain⟨rfl,rfl⟩:=hb;exact⟨c.toNat,_,e,by simp,by omega,by simp only[maxLen]; omega,heap_alloc_new w _,by rw[size_madeCells]; simp⟩
theorem B8A(hs:RS C G bx w){id:Nat}(hu:¬G.used id){t:TypeId}{zv:Value}(hz:(P.info? t).map (·.zero)=some (some zv)){z:AV}(hzv:RV G w z zv):
  Made P C (Instr.alloc t true (.tuple #[])) G w id (.ptr id 0 0) (U8 bx id (some ⟨[z],z,false,false⟩)):=by
 obtain⟨v,w',G',h1,h2⟩:=A96 (P:=P) hs hu hzv t;refine⟨v,w',G',?_,h2⟩;simp only[Instr.alloc,Sem.run_bind,A4h hz,Result.andThen_ok];exact h1
theorem B3j(hs:RS C G bx w){l:List UInt8}{src dst e:TypeId}(h1:P.underlying src=some .string)(h2:P.underlying dst=some (.slice e))(h3:P.underlying e=some (.int .u8))(hl:l.length<=9223372036854775807)(id:Nat):
  Made P C (convert src dst (.string ⟨⟨l⟩⟩)) G w id (.sl (l.map fun b=>.int .u8 b.toNat)) bx:=by
 have hrun:=run_bytes_of_string (P:=P) w src dst e ⟨⟨l⟩⟩ h1 h2 h3;have hsz:ByteArray.size ⟨⟨l⟩⟩=l.length:=rfl;rw[hsz] at hrun;have hcap:=grownCap_ge w l.length 0 e;have hcm:=grownCap_le_maxLen w l.length 0 e (by simp only[maxLen]; omega);generalize hc:grownCap w l.length 0 e=c at *;obtain⟨q1,q2⟩:=hs.drew;obtain⟨r1,r2⟩:=q1.allocAny (.cells (bytesRow ⟨⟨l⟩⟩ c) e ((bytesRow ⟨⟨l⟩⟩ c).size,(bytesRow ⟨⟨l⟩⟩ c).size+1));generalize hw:w.drew.alloc (.cells (bytesRow ⟨⟨l⟩⟩ c) e ((bytesRow ⟨⟨l⟩⟩ c).size,(bytesRow ⟨⟨l⟩⟩ c).size+1))=w' at *;have hnew:w'.heap[w.heap.size]?=some (.cells (bytesRow ⟨⟨l⟩⟩ c) e ((bytesRow ⟨⟨l⟩⟩ c).size,(bytesRow ⟨⟨l⟩⟩ c).size+1)):=by rw[←hw]; exact heap_alloc_new w.drew _
 have hcell:∀i b,l[i]?=some b->w'.cell? ⟨w.heap.size,i,none⟩=some (.int .u8 b.toNat):=fun i b hb=>by
  rw[E6 hnew];have hil:i<l.length:=(ze.1 hb).1;have hb':=(ze.1 hb).2;simp[bytesRow,hil,Array.getElem?_append,hb']
 have hlt:∀b o,G.fz b o->b<w.heap.size:=fun b o hf=>let ⟨u,hu⟩:=hs.fzok b o hf; Y4 hu;let G':Gh:={ G with fz:=fun b o=>G.fz b o\/(b=w.heap.size/\o<l.length) }
 have ev:M0 G w G' w':=⟨fun _ _ h=>.inl h,fun a ha=>(q2.trans r2).cell a ha,fun _ h=>h,fun _ _=>.inl rfl,fun _ _ h=>h,(q2.trans r2).row⟩;refine⟨_,w',G',hrun,⟨r1.below,r1.size,fun b o hf=>?_,fun b o hf hb=>?_,fun i x hx hn=>?_,r1.nil,r1.nlu,r1.used,r1.inj,r1.rows⟩,ev,?_,fun _ h=>.inl h⟩
 ·rcases hf with hf|⟨rfl,ho⟩
  ·exact r1.fzok b o hf
  ·exact⟨_,hcell o _ (zc ho)⟩
 ·rcases hf with hf|⟨rfl,ho⟩
  ·exact r1.fzold b o hf hb
  ·have:=hs.size; omega
 ·obtain⟨b,s,cur,e',g1,g2,g3,g4,g5,g6,g7⟩:=r1.box i x hx hn;have hbl:b≠w.heap.size:=fun h=>by have:=hs.rows i b s g1; omega
  have evG:M0 G w' G' w':=⟨fun _ _ h=>.inl h,fun _ _=>rfl,fun _ h=>h,fun _ _=>.inl rfl,fun _ _ h=>h,fun _ _ _ _ _ cur _ h=>⟨cur,h,rfl⟩⟩;exact⟨b,s,cur,e',g1,g2,g3,g4,g5.mono evG,fun hf o ho=>ho.elim (g6 hf o) fun h=>hbl h.1,fun o ho=>ho.elim (g7 o) fun h=>(hbl h.1).elim⟩
 ·have:=RV.sl (G:=G') (w:=w') (l.map fun b=>AV.int .u8 b.toNat) (some ⟨w.heap.size,0,none⟩) c 1 (fun i _=>.int .u8 (l.getD i 0).toNat) (by simpa using hcap) hcm (fun h=>by cases h) (fun i x hx=>by
    rw[yi,zm] at hx; obtain⟨b,_,rfl⟩:=hx; rfl)
   (fun a i x j y ha hx hy=>by
    injection ha with ha; subst ha
    rw[yi,zm] at hx; obtain⟨b,hb,rfl⟩:=hx;have hil:i<l.length:=(ze.1 hb).1;have hj:j=0:=(by have:=(ze.1 hy).1; simp[AV.cells] at this; omega);subst hj;exact .inr ⟨rfl,by simpa using hil⟩)
   (fun a i x j y ha hx hy=>by
    injection ha with ha; subst ha
    rw[yi,zm] at hx; obtain⟨b,hb,rfl⟩:=hx;have hj:j=0:=(by have:=(ze.1 hy).1; simp[AV.cells] at this; omega);subst hj;rw[Addr.add_lit,Nat.mul_one,vh,yy,hcell i b hb];simp[List.getD,hb])
   (fun i x j y hx hy=>by
    rw[yi,zm] at hx; obtain⟨b,hb,rfl⟩:=hx;have hj:j=0:=(by have:=(ze.1 hy).1; simp[AV.cells] at this; omega);subst hj;simp[AV.cells] at hy;subst hy;simp only[List.getD,hb,ww];exact .int _ _)
  simpa using this
end
def Bx.el(b:Bx)(i:Nat):AV:=b.xs.getD i b.d
def A1B(bx:Nat->Option Bx):AV->Option (Prop×List AV×List (Nat×Bx))
 | .cptr cs=>some (True,cs,[])
 | .ptr id i off=>match bx id with
  | some b=>some (i<b.xs.length/\off<=(b.el i).cells.length,(b.el i).cells.drop off,[(id,b)])
  | none=>none
 | _=>none
def A1j(bx:Nat->Option Bx)(off:Nat):AV->Option (Prop×AV×List (Nat×Bx))
 | .cptr cs=>some (True,.cptr (cs.drop off),[])
 | .ptr id i o=>match bx id with
  | some b=>some (i<b.xs.length,.ptr id i (o+off),[(id,b)])
  | none=>none
 | _=>none
def A2P(s:Nat)(z:AV)(bx:Nat->Option Bx):AV->AV->Option (Prop×AV×List (Nat×Bx))
 | .sl xs,.int _ n=>some (0<=n/\n.toNat<xs.length/\(xs.getD n.toNat z).cells.length=s,.cptr (xs.getD n.toNat z).cells,[])
 | .bsl id off len,.int _ n=>match bx id with
  | some b=>some (0<=n/\n<len/\b.sz=s,.ptr id (off+n.toNat) 0,[(id,b)])
  | none=>none
 | _,_=>none
def B0Q(n s:Nat)(bx:Nat->Option Bx):AV->AV->Option (Prop×AV×List (Nat×Bx))
 | x,.int _ m=>match A1j bx (m.toNat*s) x with
  | some (p,r,rd)=>some (p/\0<=m/\m<n,r,rd)
  | none=>none
 | _,_=>none
def B0R(bx:Nat->Option Bx):AV->Option (AV×List (Nat×Bx))
 | .str s=>some (.int .i64 s.length,[])
 | .nils=>some (.int .i64 0,[])
 | .sl xs=>some (.int .i64 xs.length,[])
 | .bsl id _ len=>match bx id with|some b=>some (.int .i64 len,[(id,b)])|none=>none
 | _=>none
def hiT(hi:Nat):Option AV->Option (Prop×Nat)
 | none=>some (True,hi)
 | some (.int _ n)=>some (0<=n/\n<=hi,n.toNat)
 | _=>none
def loT(h:Nat):Option AV->Option (Prop×Nat)
 | none=>some (True,0)
 | some (.int _ n)=>some (0<=n/\n<=h,n.toNat)
 | _=>none
def A0V(bx:Nat->Option Bx):AV->Option (Prop×List AV×List (Nat×Bx))
 | .nils=>some (True,[],[])
 | .sl xs=>some (True,xs,[])
 | .str s=>some (True,s.map fun b=>.int .u8 b.toNat,[])
 | .bsl id off len=>match bx id with
  | some b=>some (off+len<=b.xs.length,(b.xs.drop off).take len,[(id,b)])
  | none=>none
 | _=>none
def C3I(op:BinOp)(k:IntKind)(a b:Int):Option (Prop×AV) :=
 match op with
 | .add=>some (True,.int k (k.wrap (a+b)))
 | .sub=>some (True,.int k (k.wrap (a - b)))
 | .mul=>some (True,.int k (k.wrap (a*b)))
 | .quo=>some (b≠0,.int k (k.wrap (a.tdiv b)))
 | .rem=>some (b≠0,.int k (a.tmod b))
 | .and=>some (True,.int k (bits .and k a b))
 | .or=>some (True,.int k (bits .or k a b))
 | .eql=>some (True,.bool (a==b))
 | .neq=>some (True,.bool (a != b))
 | .lss=>some (True,.bool (decide (a<b)))
 | .leq=>some (True,.bool (decide (a<=b)))
 | .gtr=>some (True,.bool (decide (a>b)))
 | .geq=>some (True,.bool (decide (a>=b)))
 | _=>none
def U9(op:BinOp)(eqs:Option (List Nat))(x y:AV):Option (Prop×AV) :=
 match x,y with
 | .int k a,.int k' b =>
  match op with
  | .shl=>some (0<=b/\b<=k.bits,.int k (k.wrap (a*2 ^ b.toNat)))
  | .shr=>some (0<=b/\b<=k.bits,.int k (a / 2 ^ b.toNat))
  | _=>if k=k' then C3I op k a b else none
 | .str a,.str b =>
  match op with
  | .add=>some (a.length+b.length<=9223372036854775807,.str (a++b))
  | .eql=>some (True,.bool (a==b))
  | .neq=>some (True,.bool (!(a==b)))
  | _=>none
 | .bool a,.bool b =>
  match op,eqs with
  | .eql,some [9]=>some (True,.bool (a==b))
  | .neq,some [9]=>some (True,.bool (!(a==b)))
  | _,_=>none
 | .agg xs,.agg ys =>
  match op,eqs with
  | .eql,some ks=>match A0c ks xs ys with|some b=>some (True,.bool b)|none=>none
  | .neq,some ks=>match A0c ks xs ys with|some b=>some (True,.bool (!b))|none=>none
  | _,_=>none
 | .nils,.nils =>
  match op,eqs with
  | .eql,some [8]=>some (True,.bool true)
  | .neq,some [8]=>some (True,.bool false)
  | _,_=>none
 | .sl (_::_),.nils =>
  match op,eqs with
  | .eql,some [8]=>some (True,.bool false)
  | .neq,some [8]=>some (True,.bool true)
  | _,_=>none
 | .nili,.nili =>
  match op,eqs with
  | .eql,some [7]=>some (True,.bool true)
  | .neq,some [7]=>some (True,.bool false)
  | _,_=>none
 | .iface _ _,.nili =>
  match op,eqs with
  | .eql,some [7]=>some (True,.bool false)
  | .neq,some [7]=>some (True,.bool true)
  | _,_=>none
 | _,_=>none
def C3J(bx:Nat->Option Bx):AV->AV
 | .bsl id off len=>match bx id with
  | some b=>.sl ((b.xs.drop off).take len)
  | none=>.bsl id off len
 | v=>v
def rsv(bx:Nat->Option Bx):AV->AV
 | .agg cs=>.agg (cs.map (C3J bx))
 | .bsl id off len=>C3J bx (.bsl id off len)
 | v=>v
def B1m(d:AV)(bytes:Nat)(bx:Nat->Option Bx)(id:Nat)(x:AV)(ys:List AV):Option (Prop×Rs) :=
 match x with
 | .nils=>some (ys.length*bytes<=140737488355328/\ys.length<=9223372036854775807,⟨.bsl id 0 ys.length,[],[(id,some ⟨ys,d,false,false⟩)]⟩)
 | .bsl i0 off n=>match bx i0 with
  | some b=>some ((off=0/\n=b.xs.length/\b.sz=d.cells.length/\b.ro=false)/\(n+ys.length)*bytes<=140737488355328/\n+ys.length<=9223372036854775807,
    ⟨.bsl id 0 (n+ys.length),[(i0,b)],[(i0,none),(id,some ⟨b.xs++ys,d,false,b.frz⟩)]⟩)
  | none=>none
 | _=>none
section
variable {P:Program} {C:Cx P} {G:Gh} {bx:Nat->Option Bx} {w:World}
theorem A6l{b:Bx}{i:Nat}(h:i<b.xs.length):b.xs[i]?=some (b.el i):=by
 simp[Bx.el,List.getD,zc h]
theorem A4i{x:AV}{p:Prop}{cs:List AV}{rd:List (Nat×Bx)}(h:A1B bx x=some (p,cs,rd))(hp:p):B81 bx x=some (cs,rd):=by
 unfold A1B at h;split at h
 ·simp only[zd,zi] at h;obtain⟨_,rfl,rfl⟩:=h;rfl
 ·split at h
  ·rename_i b hb;simp only[zd,zi] at h;obtain⟨rfl,rfl,rfl⟩:=h;simp only[B81,hb,A6l hp.1,zj hp.2]
  ·cases h
 ·cases h
theorem A98{off:Nat}{x r:AV}{p:Prop}{rd:List (Nat×Bx)}(h:A1j bx off x=some (p,r,rd))(hp:p):A1P bx off x=some r:=by
 unfold A1j at h;split at h
 ·simp only[zd,zi] at h;obtain⟨_,rfl,rfl⟩:=h;rfl
 ·split at h
  ·rename_i b hb;simp only[zd,zi] at h;obtain⟨rfl,rfl,rfl⟩:=h;simp only[A1P,hb,A6l hp]
  ·cases h
 ·cases h
theorem C1E{x r:AV}{rd:List (Nat×Bx)}(h:B0R bx x=some (r,rd)):A1A bx x=some r:=by
 unfold B0R at h;unfold A1A;split at h<;>first
  | (simp only[zd,zi] at h; obtain⟨rfl,rfl⟩:=h; rfl)
  | (split at h
     ·rename_i b hb;simp only[zd,zi] at h; obtain⟨rfl,rfl⟩:=h; simp only[hb]
     ·cases h)
  | cases h
theorem B8B{hi m:Nat}{o:Option AV}{p:Prop}(h:hiT hi o=some (p,m))(hp:p):A7B hi o=some m:=by
 unfold hiT at h;split at h<;>simp only[zd,zi,reduceCtorEq] at h
 ·obtain⟨_,rfl⟩:=h; rfl
 ·obtain⟨rfl,rfl⟩:=h; simp only[A7B,zj hp]
theorem B8C{hi m:Nat}{o:Option AV}{p:Prop}(h:loT hi o=some (p,m))(hp:p):A49 hi o=some m:=by
 unfold loT at h;split at h<;>simp only[zd,zi,reduceCtorEq] at h
 ·obtain⟨_,rfl⟩:=h; rfl
 ·obtain⟨rfl,rfl⟩:=h; simp only[A49,zj hp]
theorem A99{x:AV}{p:Prop}{ys:List AV}{rd:List (Nat×Bx)}(h:A0V bx x=some (p,ys,rd))(hp:p):elems bx x=some ys:=by
 unfold A0V at h;unfold elems;split at h<;>first
  | (simp only[zd,zi] at h; obtain⟨_,rfl,_⟩:=h; rfl)
  | (split at h
     ·rename_i b hb;simp only[zd,zi] at h; obtain⟨rfl,rfl,rfl⟩:=h; simp only[hb,zj hp]
     ·cases h)
  | cases h
theorem C1F{op:BinOp}{eqs:Option (List Nat)}{x y r:AV}{p:Prop}(h:U9 op eqs x y=some (p,r))(hp:p)(hx:∀xs,x≠.agg xs)(hn:y≠.nils)(hn7:y≠.nili):B53 op x y=some r:=by
 unfold U9 at h;unfold B53;split at h
 ·split at h
  ·simp only[zd,zi] at h; obtain⟨rfl,rfl⟩:=h; simp only[zj hp]
  ·simp only[zd,zi] at h; obtain⟨rfl,rfl⟩:=h; simp only[zj hp]
  ·split at h
   ·rename_i hk;simp only[zj hk];unfold C3I at h;unfold C3B;split at h<;>first
     | (simp only[zd,zi] at h; obtain⟨_,rfl⟩:=h; rfl)
     | (simp only[zd,zi] at h; obtain⟨rfl,rfl⟩:=h; simp only[zf hp])
     | cases h
   ·cases h
 ·split at h<;>first
   | (simp only[zd,zi] at h; obtain⟨rfl,rfl⟩:=h; simp only[zj hp])
   | (simp only[zd,zi] at h; obtain⟨_,rfl⟩:=h; rfl)
   | cases h
 ·split at h<;>first
   | (simp only[zd,zi] at h; obtain⟨_,rfl⟩:=h; rfl)
   | cases h
 ·exact (hx _ rfl).elim
 ·exact (hn rfl).elim
 ·exact (hn rfl).elim
 ·exact (hn7 rfl).elim
 ·exact (hn7 rfl).elim
 ·cases h
end
def Gh.keep(G:Gh)(b n:Nat):Gh:={ G with fz:=fun b' o=>G.fz b' o\/(b'=b/\o<n) }
section
variable {P:Program} {C:Cx P} {G:Gh} {bx:Nat->Option Bx} {w:World}
theorem M0.keep(b n:Nat):M0 G w (G.keep b n) w:=⟨fun _ _ h=>.inl h,fun _ _=>rfl,fun _ h=>h,fun _ _=>.inl rfl,fun _ _ h=>h,fun _ _ _ _ _ cur _ h=>⟨cur,h,rfl⟩⟩
theorem RS.freeze(hs:RS C G bx w){id:Nat}{x:Bx}(hx:bx id=some x)(hro:x.ro=false):
  ∃G',RS C G' (U8 bx id (some { x with frz:=true })) w/\M0 G w G' w/\(∀i,G'.used i->G.used i) /\
   ∀off len v,off+len<=x.xs.length->RV G w (.bsl id off len) v->RV G' w (.sl ((x.xs.drop off).take len)) v:=by
 by_cases hn:G.nl id
 ·have h0:=(hs.nil id x hx hn).1;refine⟨G,⟨hs.below,hs.size,hs.fzok,hs.fzold,fun i y hy hn'=>?_,fun i y hy hn'=>?_,hs.nlu,hs.used,hs.inj,hs.rows⟩,M0.refl G w,fun _ h=>h,fun off len v hle h=>?_⟩
  ·have hi:i≠id:=fun hi=>hn' (hi▸hn);rw[B7 _ _ _ hi] at hy;exact hs.box i y hy hn'
  ·by_cases hi:i=id
   ·subst hi;rw[C7] at hy;injection hy with hy
    subst hy;exact⟨h0,hro⟩
   ·rw[B7 _ _ _ hi] at hy;exact hs.nil i y hy hn'
  ·cases h with|bsl _ _ _ _ _ _ _ hnl =>
   obtain⟨rfl,_,rfl⟩:=hnl hn;simp only[List.take_zero];exact .sl [] none 0 0 (fun _ _=>undef) (ya _) (by simp[maxLen]) (fun _=>⟨rfl,rfl⟩) (fun i x hi=>by simp at hi) (fun a i x j y _ hi=>by simp at hi) (fun a i x j y _ hi=>by simp at hi) (fun i x j y hi=>by simp at hi)
 ·obtain⟨b,s,cur,e,h1,h2,h3,⟨h4,h5⟩,h6,h7,h8⟩:=hs.box id x hx hn;have hB:=h3 hro;have ev:M0 G w (G.keep b (x.xs.length*s)) w:=M0.keep b _;refine⟨G.keep b (x.xs.length*s),⟨hs.below,hs.size,fun b' o hf=>?_,fun b' o hf hb=>?_,fun i y hy hn'=>?_,fun i y hy hn'=>?_,hs.nlu,hs.used,hs.inj,hs.rows⟩,ev,fun _ h=>h,fun off len v hle h=>?_⟩
  ·rcases hf with hf|⟨rfl,ho⟩
   ·exact hs.fzok b' o hf
   ·exact⟨_,by rw[E6 h2]; exact zz (by omega)⟩
  ·rcases hf with hf|⟨rfl,ho⟩
   ·exact hs.fzold b' o hf hb
   ·omega
  ·by_cases hi:i=id
   ·subst hi;rw[C7] at hy;injection hy with hy
    subst hy;exact⟨b,s,cur,e,h1,h2,h3,⟨h4,h5⟩,h6.mono ev,fun h=>(by cases h),fun o ho=>ho.elim (h8 o) fun h=>h.2⟩
   ·rw[B7 _ _ _ hi] at hy;obtain⟨b2,s2,cur2,e2,k1,k2,k3,k4,k5,k6,k7⟩:=hs.box i y hy hn';have hne:b2≠b:=fun hbb=>hi (hs.inj i id b2 s2 s k1 (hbb▸h1));exact⟨b2,s2,cur2,e2,k1,k2,k3,k4,k5.mono ev,fun hf o ho=>ho.elim (k6 hf o) fun h=>hne h.1,fun o ho=>ho.elim (k7 o) fun h=>(hne h.1).elim⟩
  ·by_cases hi:i=id
   ·subst hi; exact (hn hn').elim
   ·rw[B7 _ _ _ hi] at hy;exact hs.nil i y hy hn'
  ·cases h with|bsl _ _ _ _ hone hu hbm hnl =>
   obtain⟨c,cur',e',hv,hlc,hcm,hh,hz⟩:=hbm b s h1;subst hv;have hlen:((x.xs.drop off).take len).length=len:=(by simp; omega);have hg:∀i y,((x.xs.drop off).take len)[i]?=some y->x.xs[off+i]?=some y/\i<len:=fun i y hi=>by
    rw[zy] at hi;split at hi
    ·rename_i hil;rw[yc] at hi;exact⟨hi,hil⟩
    ·cases hi
   have hcell:∀i y j z,x.xs[off+i]?=some y->y.cells[j]?=some z->∃u,w.cell? ⟨b,(off+i)*s+j,none⟩=some u/\RV (G.keep b (x.xs.length*s)) w z u:=fun i y j z hi hj=>by
    obtain⟨u,g1,g2⟩:=(h6 _ y hi).2 j z hj;exact⟨u,by rw[E6 h2]; exact g1,g2.mono ev⟩
   have hx':∀ij:Nat×Nat,∃u,∀y z,x.xs[off+ij.1]?=some y->y.cells[ij.2]?=some z->w.cell? ⟨b,(off+ij.1)*s+ij.2,none⟩=some u/\RV (G.keep b (x.xs.length*s)) w z u:=fun⟨i,j⟩=>by
    cases hy:x.xs[off+i]? with
    | none=>exact⟨undef,fun y z h=>by cases h⟩
    | some y =>
     cases hz':y.cells[j]? with
     | none=>exact⟨undef,fun y' z h h'=>by injection h with h; subst h; rw[hz'] at h'; cases h'⟩
     | some z =>
      obtain⟨u,g⟩:=hcell i y j z hy hz';exact⟨u,fun y' z' h h'=>by injection h with h; subst h; rw[hz'] at h'; injection h' with h'; subst h'; exact g⟩
   obtain⟨u,hu'⟩:=ux hx';have hsl:=RV.sl (G:=G.keep b (x.xs.length*s)) (w:=w) ((x.xs.drop off).take len) (some ⟨b,off*s,none⟩) c s (fun i j=>u (i,j)) (by omega) hcm (fun h=>by cases h) (fun i y hi=>(h6 _ y (hg i y hi).1).1)
    (fun a i y j z ha hi hj=>by
     injection ha with ha; subst ha
     obtain⟨g1,g2⟩:=hg i y hi;have hjs:j<s:=(by rw[←(h6 _ y g1).1]; exact (ze.1 hj).1);have:(off+i+1)*s<=x.xs.length*s:=yt _ (by omega);rw[vq,xk] at this;exact .inr ⟨rfl,by show off*s+(i*s+j)<_; omega⟩)
    (fun a i y j z ha hi hj=>by
     injection ha with ha; subst ha
     obtain⟨g1,g2⟩:=hg i y hi;rw[Addr.add_lit,show off*s+(i*s+j)=(off+i)*s+j by rw[xk]; omega];exact (hu' (i,j) y z g1 hj).1)
    (fun i y j z hi hj=>(hu' (i,j) y z (hg i y hi).1 hj).2)
   rwa [hlen] at hsl
end
def s0(bx:Nat->Option Bx):AV->Prop×AV×List (Nat×Bx)
 | .bsl id off len=>match bx id with
  | some b=>(off+len<=b.xs.length/\b.ro=false,.sl ((b.xs.drop off).take len),[(id,b)])
  | none=>(False,.nili,[])
 | v=>(True,v,[])
def A0D(bx:Nat->Option Bx):List AV->Prop×List AV×List (Nat×Bx)
 | []=>(True,[],[])
 | x::r=>((s0 bx x).1/\(A0D bx r).1,(s0 bx x).2.1::(A0D bx r).2.1,(s0 bx x).2.2++(A0D bx r).2.2)
def A1k(bx:Nat->Option Bx):AV->Prop×AV×List (Nat×Bx)
 | .agg cs=>((A0D bx cs).1,.agg (A0D bx cs).2.1,(A0D bx cs).2.2)
 | .tup cs=>((A0D bx cs).1,.tup (A0D bx cs).2.1,(A0D bx cs).2.2)
 | .bsl id off len=>s0 bx (.bsl id off len)
 | v=>(True,v,[])
def N0(bx:Nat->Option Bx):List AV->Prop×List AV×List (Nat×Bx)
 | []=>(True,[],[])
 | x::r=>((A1k bx x).1/\(N0 bx r).1,(A1k bx x).2.1::(N0 bx r).2.1,(A1k bx x).2.2++(N0 bx r).2.2)
def wrF:List (Nat×Bx)->List (Nat×Option Bx)
 | []=>[]
 | (i,b)::r=>(i,some { b with frz:=true })::wrF r
section
variable {P:Program} {C:Cx P} {G:Gh} {bx:Nat->Option Bx} {w:World}
theorem m8(bx:Nat->Option Bx):∀(a b:List (Nat×Option Bx)),F4 bx (a++b)=F4 (F4 bx a) b
 | [],_=>rfl
 | (i,x)::r,b=>m8 (U8 bx i x) r b
def A45(G G':Gh)(w:World)(l:List (Nat×Bx)):Prop:=∀p∈l,∀off len v,off+len<=p.2.xs.length->RV G w (.bsl p.1 off len) v->RV G' w (.sl ((p.2.xs.drop off).take len)) v
theorem A10:∀(l:List (Nat×Bx)) {G:Gh} {bx:Nat->Option Bx},RS C G bx w->(∀p∈l,(bx p.1=some p.2\/bx p.1=some { p.2 with frz:=true })/\p.2.ro=false) ->
  ∃G',RS C G' (F4 bx (wrF l)) w/\M0 G w G' w/\(∀i,G'.used i->G.used i)/\A45 G G' w l
 | [],G,bx,hs,_=>⟨G,hs,M0.refl G w,fun _ h=>h,fun p hp=>by cases hp⟩
 | (i,b)::r,G,bx,hs,hl=>by
  obtain⟨hb,hro⟩:=hl (i,b) (by simp);simp only at hb hro;have key:∃G1,RS C G1 (U8 bx i (some { b with frz:=true })) w/\M0 G w G1 w/\(∀i,G1.used i->G.used i)/\∀off len v,off+len<=b.xs.length->RV G w (.bsl i off len) v->RV G1 w (.sl ((b.xs.drop off).take len)) v:=by
   rcases hb with hb|hb
   ·exact hs.freeze hb hro
   ·exact hs.freeze (x:={ b with frz:=true }) hb hro
  obtain⟨G1,s1,e1,u1,k1⟩:=key;obtain⟨G2,s2,e2,u2,k2⟩:=A10 r s1 fun p hp=>by
   obtain⟨h1,h2⟩:=hl p (by simp[hp]);refine⟨?_,h2⟩;by_cases hi:p.1=i
   ·obtain⟨j,c⟩:=p;simp only at hi h1 h2 ⊢;subst hi;rw[C7];right
    rcases hb with hb|hb<;>rcases h1 with h1|h1<;>rw[hb] at h1<;>injection h1 with h1
    ·rw[h1]
    ·rw[h1]
    ·rw[←h1]
    ·have:b.xs=c.xs/\b.d=c.d/\b.ro=c.ro:=by injection h1 with q1 q2 q3; exact⟨q1,q2,q3⟩
     obtain⟨q1,q2,q3⟩:=this;rw[q1,q2,q3]
   ·rw[B7 _ _ _ hi]; exact h1
  refine⟨G2,s2,e1.trans e2,fun i h=>u1 i (u2 i h),fun p hp off len v hle hv=>?_⟩;rcases zh.1 hp with rfl|hp
  ·exact (k1 off len v hle hv).mono e2
  ·exact k2 p hp off len v hle (hv.mono e1)
theorem A9A{x:AV}(hp:(s0 bx x).1):∀q∈(s0 bx x).2.2,bx q.1=some q.2/\q.2.ro=false:=by
 cases x with
 | bsl id off len =>
  simp only[s0] at hp ⊢;cases hb:bx id with
  | none=>simp only[hb] at hp
  | some b =>
   simp only[hb] at hp;intro q hq;simp only[xq] at hq;subst hq;exact⟨hb,hp.2⟩
 | _=>intro q hq; simp[s0] at hq
theorem A7H:∀{l:List AV},(A0D bx l).1->∀q∈(A0D bx l).2.2,bx q.1=some q.2/\q.2.ro=false
 | [],_,q,hq=>by simp[A0D] at hq
 | x::r,hp,q,hq=>by
  simp only[A0D,zo] at hp hq;exact hq.elim (A9A hp.1 q) (A7H hp.2 q)
theorem B1n{x:AV}(hp:(A1k bx x).1):∀q∈(A1k bx x).2.2,bx q.1=some q.2/\q.2.ro=false:=by
 cases x with
 | agg cs=>exact A7H (l:=cs) hp
 | tup cs=>exact A7H (l:=cs) hp
 | bsl id off len=>exact A9A (x:=.bsl id off len) hp
 | _=>intro q hq; simp[A1k] at hq
theorem A2y:∀{l:List AV},(N0 bx l).1->∀q∈(N0 bx l).2.2,bx q.1=some q.2/\q.2.ro=false
 | [],_,q,hq=>by simp[N0] at hq
 | x::r,hp,q,hq=>by
  simp only[N0,zo] at hp hq;exact hq.elim (B1n hp.1 q) (A2y hp.2 q)
theorem B1o{G':Gh}(e:M0 G w G' w){x:AV}{v:Value}(hp:(s0 bx x).1)(hk:A45 G G' w (s0 bx x).2.2)(h:RV G w x v):RV G' w (s0 bx x).2.1 v:=by
 cases x with
 | bsl id off len =>
  simp only[s0] at hp hk ⊢;cases hb:bx id with
  | none=>simp only[hb] at hp
  | some b =>
   simp only[hb] at hp hk ⊢;exact hk (id,b) (by simp) off len v hp.1 h
 | _=>exact h.mono e
theorem A45.sub{G':Gh}{l l':List (Nat×Bx)}(h:A45 G G' w l)(hs:∀p∈l',p∈l):A45 G G' w l':=fun p hp=>h p (hs p hp)
theorem B0S{G':Gh}(e:M0 G w G' w):∀{l:List AV},(A0D bx l).1->A45 G G' w (A0D bx l).2.2->(A0D bx l).2.1.length=l.length/\∀(u:Nat->Value),(∀(i:Nat) y,l[i]?=some y->RV G w y (u i))->∀(i:Nat) y,(A0D bx l).2.1[i]?=some y->RV G' w y (u i)
 | [],_,_=>⟨rfl,fun u _ i y hy=>by simp[A0D] at hy⟩
 | x::r,hp,hk=>by
  simp only[A0D] at hp hk ⊢;obtain⟨h1,h2⟩:=B0S e hp.2 (hk.sub fun p hp=>by simp[hp]);refine⟨by simp[h1],fun u hu i y hy=>?_⟩;cases i with
  | zero =>
   simp only[yr,zd] at hy;subst hy;exact B1o e hp.1 (hk.sub fun p hp=>by simp[hp]) (hu 0 x rfl)
  | succ i=>exact h2 (fun i=>u (i+1)) (fun i y hy=>hu (i+1) y (by simpa using hy)) i y (by simpa using hy)
theorem B54{G':Gh}(e:M0 G w G' w){x:AV}{v:Value}(hp:(A1k bx x).1)(hk:A45 G G' w (A1k bx x).2.2)(h:RV G w x v):RV G' w (A1k bx x).2.1 v:=by
 cases x with
 | agg cs =>
  cases h with|agg _ vs hl hh =>
  obtain⟨h1,h2⟩:=B0S e (l:=cs) hp hk;exact .agg _ vs (h1.trans hl) (h2 (fun i=>vs.getD i undef) hh)
 | tup cs =>
  cases h with|tup _ vs hl hh =>
  obtain⟨h1,h2⟩:=B0S e (l:=cs) hp hk;exact .tup _ vs (h1.trans hl) (h2 (fun i=>vs.getD i undef) hh)
 | bsl id off len=>exact B1o (x:=.bsl id off len) e hp hk h
 | _=>exact h.mono e
theorem A4j{G':Gh}(e:M0 G w G' w):∀{l:List AV},(N0 bx l).1->A45 G G' w (N0 bx l).2.2->(N0 bx l).2.1.length=l.length/\∀(u:Nat->Value),(∀(i:Nat) y,l[i]?=some y->RV G w y (u i))->∀(i:Nat) y,(N0 bx l).2.1[i]?=some y->RV G' w y (u i)
 | [],_,_=>⟨rfl,fun u _ i y hy=>by simp[N0] at hy⟩
 | x::r,hp,hk=>by
  simp only[N0] at hp hk ⊢;obtain⟨h1,h2⟩:=A4j e hp.2 (hk.sub fun p hp=>by simp[hp]);refine⟨by simp[h1],fun u hu i y hy=>?_⟩;cases i with
  | zero =>
   simp only[yr,zd] at hy;subst hy;exact B54 e hp.1 (hk.sub fun p hp=>by simp[hp]) (hu 0 x rfl)
  | succ i=>exact h2 (fun i=>u (i+1)) (fun i y hy=>hu (i+1) y (by simpa using hy)) i y (by simpa using hy)
end
def AV.isAgg:AV->Bool
 | .agg _=>true
 | _=>false
def AV.isStr:AV->Bool
 | .str _=>true
 | _=>false
def ldT(agg:Bool)(n:Nat):Option (Prop×List AV×List (Nat×Bx))->Option (Prop×Rs)
 | some (p,cs,rd)=>match agg with
  | true=>some (p/\n<=cs.length,⟨.agg (cs.take n),rd,[]⟩)
  | false=>match cs with
   | y::_=>some (p,⟨y,rd,[]⟩)
   | []=>none
 | none=>none
def stT(bx:Nat->Option Bx)(n:Nat)(x v:AV):Option (Prop×Rs) :=
 match x with
 | .ptr j i off=>match bx j with
  | some b=>some ((i<b.xs.length/\off+n<=(b.el i).cells.length/\b.ro=false/\b.frz=false)/\v.cells.length=n/\v.cells.all AV.one=true/\((b.el i).isAgg=true\/n=1),
    ⟨.tup [],[(j,b)],[(j,some { b with xs:=b.xs.set i (B87 (b.el i) off v) })]⟩)
  | none=>none
 | _=>none
def unT(op:UnOp)(x:AV):Option (Prop×AV) :=
 match op,x with
 | .not,.bool b=>some (True,.bool (!b))
 | .neg,.int k n=>some (True,.int k (k.wrap (0 - n)))
 | _,_=>none
def X1(bx:Nat->Option Bx)(k:CK)(x:AV):Option (Prop×Rs) :=
 match k with
 | .same=>some (True,⟨x,[],[]⟩)
 | .mki t=>some (True,⟨.iface t x,[],[]⟩)
 | .rcv f=>some (True,⟨.fnb f [x],[],[]⟩)
 | .fld i=>match x with
  | .agg cs=>match cs[i]? with
   | some v=>some (True,⟨v,[],[]⟩)
   | none=>none
  | _=>none
 | .ta t=>match x with
  | .iface t' v=>if t'=t then some (True,⟨.tup [v,.bool true],[],[]⟩) else none
  | _=>none
 | .int k=>match x with
  | .int _ n=>some (True,⟨.int k (k.wrap n),[],[]⟩)
  | _=>none
 | .bytes=>match x with
  | .str s=>some (s.length<=9223372036854775807,⟨.sl (s.map fun b=>.int .u8 b.toNat),[],[]⟩)
  | _=>none
 | .str=>match x with
  | .str _=>none
  | x=>match A0V bx x with
   | some (p,ys,rd)=>some (p/\ys.all A4e=true,⟨.str (ys.map A5S),rd,[]⟩)
   | none=>none
def B1p(x:AV)(lo hi:Option AV):Option (Prop×Rs) :=
 match x with
 | .str s=>match hiT s.length hi with
  | some (p1,h)=>match loT h lo with
   | some (p2,l)=>some (p1/\p2,⟨.str ((s.take h).drop l),[],[]⟩)
   | none=>none
  | none=>none
 | _=>none
def C1G(bx:Nat->Option Bx)(n:Nat)(x:AV)(lo hi:Option AV):Option (Prop×Rs) :=
 match (A1k bx x).2.1 with
 | .sl xs=>match hiT xs.length hi with
  | some (p1,h)=>match loT h lo with
   | some (p2,l)=>some (((A1k bx x).1/\∀y∈xs,y.cells.length=n)/\p1/\p2,⟨.sl ((xs.take h).drop l),(A1k bx x).2.2,wrF (A1k bx x).2.2⟩)
   | none=>none
  | none=>none
 | _=>none
def mmI(mx:Bool)(a b:Int):Int:=match mx with
 | true=>max a b
 | false=>min a b
def mmT(mx:Bool):AV->AV->Option (Prop×AV)
 | .int k a,.int k' b=>if k=k' then some (True,.int k (mmI mx a b)) else none
 | _,_=>none
def sem(ve:L3->AV)(bx:Nat->Option Bx)(id:Nat):COp->Option (Prop×Rs)
 | .mv x=>some (True,⟨ve x,[],[]⟩)
 | .alloc z=>some (True,⟨.ptr id 0 0,[],[(id,some ⟨[z],z,false,false⟩)]⟩)
 | .box x=>some (True,⟨.ptr id 0 0,[],[(id,some ⟨[ve x],ve x,false,false⟩)]⟩)
 | .build zs ps=>match A2w zs (ps.map fun q=>(q.1,q.2.1,ve q.2.2)) with
  | some r=>some (True,⟨.agg r,[],[]⟩)
  | none=>none
 | .bslice z n ps=>some ((N0 bx (ps.map fun q=>ve q.2)).1/\A44 n z.cells.length ((ps.map (·.1)).zip (N0 bx (ps.map fun q=>ve q.2)).2.1),
   ⟨.bsl id 0 n,(N0 bx (ps.map fun q=>ve q.2)).2.2,wrF (N0 bx (ps.map fun q=>ve q.2)).2.2++[(id,some ⟨j9 (List.replicate n z) ((ps.map (·.1)).zip (N0 bx (ps.map fun q=>ve q.2)).2.1),z,false,false⟩)]⟩)
 | .ld agg n x=>ldT agg n (A1B bx (ve x))
 | .st n x v=>stT bx n (ve x) (ve v)
 | .chk x=>match ve x with
  | .cptr cs=>some (True,⟨.cptr cs,[],[]⟩)
  | .ptr j i off=>match bx j with
   | some b=>some (i<b.xs.length,⟨.ptr j i off,[(j,b)],[]⟩)
   | none=>none
  | .fn f caps=>some (True,⟨.fn f caps,[],[]⟩)
  | _=>none
 | .mm mx x y=>match mmT mx (ve x) (ve y) with
  | some (p,r)=>some (p,⟨r,[],[]⟩)
  | none=>none
 | .bin op eqs x y=>match U9 op eqs (ve x) (ve y) with
  | some (p,r)=>some (p,⟨r,[],[]⟩)
  | none=>none
 | .un op x=>match unT op (ve x) with
  | some (p,r)=>some (p,⟨r,[],[]⟩)
  | none=>none
 | .conv k x=>X1 bx k (ve x)
 | .mkf f caps=>some (True,⟨.fn f (caps.map ve),[],[]⟩)
 | .mks z bytes l c=>match ve l,ve c with
  | .int _ l,.int _ c=>some (0<=l/\l<=c/\(bytes:Int)*c<=281474976710656/\c<=9223372036854775807,⟨.bsl id 0 l.toNat,[],[(id,some ⟨List.replicate l.toNat z,z,false,false⟩)]⟩)
  | _,_=>none
 | .slis x lo hi=>B1p (ve x) (lo.map ve) (hi.map ve)
 | .sli n x lo hi=>C1G bx n (ve x) (lo.map ve) (hi.map ve)
 | .fa off x=>match A1j bx off (ve x) with
  | some (p,r,rd)=>some (p,⟨r,rd,[]⟩)
  | none=>none
 | .ia s z x i=>match A2P s z bx (ve x) (ve i) with
  | some (p,r,rd)=>some (p,⟨r,rd,[]⟩)
  | none=>none
 | .aa n s x i=>match B0Q n s bx (ve x) (ve i) with
  | some (p,r,rd)=>some (p,⟨r,rd,[]⟩)
  | none=>none
 | .ix x i=>match ve x,ve i with
  | .str s,.int _ n=>some (0<=n/\n.toNat<s.length,⟨.int .u8 (s.getD n.toNat 0).toNat,[],[]⟩)
  | _,_=>none
 | .ext x i=>match ve x with
  | .tup vs=>match vs[i]? with
   | some v=>some (True,⟨v,[],[]⟩)
   | none=>none
  | _=>none
 | .len st x=>match B0R bx (ve x) with
  | some (r,rd)=>some ((ve x).isStr=st,⟨r,rd,[]⟩)
  | none=>none
 | .app st z bytes x y=>match A0V bx (ve y) with
  | some (p,ys,rd)=>match B1m z bytes bx id (ve x) ys with
   | some (q,r)=>some ((p/\(ve y).isStr=st/\(∀e∈ys,e.cells.length=z.cells.length/\e.cells.all AV.one=true))/\q,⟨r.v,rd++r.rd,r.wr⟩)
   | none=>none
  | none=>none
 | _=>none
def A1l(P:Program)(t:TypeId):Option AV:=match (P.info? t).map (·.zero) with
 | some (some z)=>ofV z
 | _=>none
def A2p(P:Program)(t:TypeId):Option Nat:=(P.info? t).map (·.size)
def B1q(P:Program)(e:TypeId):Bool:=match P.underlying e with
 | some (.int .u8)=>true
 | _=>false
def z6(P:Program)(fs:Array Field):List (Nat×Operand)->Option (List (Nat×Nat×L3))
 | []=>some []
 | (i,x)::r=>match fs[i]?,opd x,z6 P fs r with
  | some f,some a,some b=>match A2p P f.type with
   | some n=>some ((f.offset,n,a)::b)
   | none=>none
  | _,_,_=>none
def A0j(P:Program)(x:Operand)(t:TypeId):Option COp:=match opd x,P.underlying t with
 | some x,some .string=>some (.len true x)
 | some x,some (.slice _)=>some (.len false x)
 | _,_=>none
def A0k(P:Program)(x y:Operand)(t u:TypeId):Option COp:=match opd x,opd y,P.underlying t,P.underlying u with
 | some x,some y,some (.slice e),some .string=>match A1l P e,P.info? e with
  | some z,some i=>if z.cells.length=i.size/\i.size=1 then some (.app true z i.bytes x y) else none
  | _,_=>none
 | some x,some y,some (.slice e),some (.slice _)=>match A1l P e,P.info? e with
  | some z,some i=>if z.cells.length=i.size then some (.app false z i.bytes x y) else none
  | _,_=>none
 | _,_,_,_=>none
def A1C(mx:Bool)(x y:Operand):Option COp:=match opd x,opd y with
 | some x,some y=>some (.mm mx x y)
 | _,_=>none
def A0l(P:Program)(x y:Operand)(t:TypeId):Option COp:=match opd x,opd y,P.underlying t with
 | some x,some y,some (.slice e)=>if B1q P e=true/\A2p P e=some 1 then some (.cpy x y) else none
 | _,_,_=>none
def A0m(x:Operand)(m:String)(xs:List Operand):Option COp:=match opd x,A6X xs with
 | some x,some xs=>some (.inv m x xs)
 | _,_=>none
def V0(P:Program):Callee->List Operand->List TypeId->Option COp
 | .builtin .len,[x],[t]=>A0j P x t
 | .builtin .append,[x,y],[t,u]=>A0k P x y t u
 | .builtin .min,[x,y],[_,_]=>A1C false x y
 | .builtin .max,[x,y],[_,_]=>A1C true x y
 | .value (.func f),xs,_=>(A6X xs).map (.call f)
 | .value (.tmp t),xs,_=>(A6X xs).map (.callv (.t t))
 | .builtin .copy,[x,y],t::_=>A0l P x y t
 | .invoke x m,xs,_=>A0m x m xs
 | _,_,_=>none
def N5(P:Program):Op->Option COp
 | .move x | .assign x=>(opd x).map .mv
 | .pick c a b=>match opd c,opd a,opd b with
  | some c,some a,some b=>some (.pick c a b)
  | _,_,_=>none
 | .alloc t=>(A1l P t).map .alloc
 | .box _ x=>(opd x).map .box
 | .build t ps=>match P.underlying t,A1l P t with
  | some (.struct fs),some (.agg zs)=>if fs.toList.all fun f=>(A2p P f.type).isSome then (z6 P fs ps.toList).map (.build zs) else none
  | _,_=>none
 | .buildSlice t n ps=>match P.underlying t with
  | some (.slice e)=>match A1l P e,A2p P e,B6M ps.toList with
   | some z,some s,some ps=>if z.cells.length=s/\n*s<=16777216/\n<=16777216 then some (.bslice z n ps) else none
   | _,_,_=>none
  | _=>none
 | .load t x=>match P.underlying t,A2p P t,opd x with
  | some _,some n,some x=>some (.ld (y9 P t) n x)
  | _,_,_=>none
 | .store t x v=>match A2p P t,opd x,opd v with
  | some n,some x,some v=>some (.st n x v)
  | _,_,_=>none
 | .nilCheck x=>(opd x).map .chk
 | .binOp op t x y0 _=>match opd x,opd y0 with
  | some x,some y=>match P.underlying t with
   | some .bool=>some (.bin op (some [9]) x y)
   | some (.struct fs)=>match O7 P fs.toList 0 with
    | some ks=>if P.stoodInHeld t=false/\P.eqGuardType P.depth t=false then some (.bin op (some ks) x y) else none
    | none=>none
   | some (.slice _)=>some (.bin op (some [8]) x y)
   | some (.interface _)=>match y0 with
    | .const _=>some (.bin op (some [7]) x y)
    | _=>some (.bin op none x y)
   | _=>some (.bin op none x y)
  | _,_=>none
 | .unOp op _ x=>(opd x).map (.un op)
 | .convert s d x=>match opd x,P.underlying s,P.underlying d with
  | some x,some (.int _),some (.int k)=>some (.conv (.int k) x)
  | some x,some .string,some (.slice e)=>if B1q P e then some (.conv .bytes x) else none
  | some x,some (.slice e),some .string=>if B1q P e then some (.conv .str x) else none
  | _,_,_=>none
 | .makeFunc (.func f) first caps=>if first.isEmpty then (A6X caps.toList).map (.mkf f) else match first.toList,caps.toList with
  | [x],[]=>(opd x).map (.conv (.rcv f))
  | _,_=>none
 | .typeAssert x _ t true=>match P.underlying t with
  | some (.interface _)=>none
  | some _=>(opd x).map (.conv (.ta t))
  | none=>none
 | .makeSlice t l c=>match P.underlying t with
  | some (.slice e)=>match A1l P e,P.info? e,opd l,opd c with
   | some z,some i,some l,some c=>if z.cells.length=i.size then some (.mks z i.bytes l c) else none
   | _,_,_,_=>none
  | _=>none
 | .slice t x lo hi none=>match opd x,B7z lo,B7z hi,P.underlying t with
  | some x,some lo,some hi,some .string=>some (.slis x lo hi)
  | some x,some lo,some hi,some (.slice e)=>(A2p P e).map fun n=>.sli n x lo hi
  | _,_,_,_=>none
 | .field t x k=>match opd x,P.underlying t with
  | some x,some (.struct fs)=>match fs[k]? with
   | some f=>if (P.underlying f.type).isSome/\y9 P f.type=false then some (.conv (.fld f.offset) x) else none
   | none=>none
  | _,_=>none
 | .fieldAddr t x k=>match opd x,P.underlying t with
  | some x,some (.struct fs)=>match fs[k]? with
   | some f=>match A2p P f.type with
    | some (_+1)=>some (.fa f.offset x)
    | _=>none
   | none=>none
  | _,_=>none
 | .indexAddr t x i=>match opd x,opd i,P.underlying t with
  | some x,some i,some (.slice e)=>match A1l P e,A2p P e with
   | some z,some s=>some (.ia s z x i)
   | _,_=>none
  | some x,some i,some (.array n e)=>match A2p P e with
   | some s=>some (.aa n s x i)
   | none=>none
  | _,_,_=>none
 | .index t x i=>match opd x,opd i,P.underlying t with
  | some x,some i,some .string=>some (.ix x i)
  | _,_,_=>none
 | .extract x i=>(opd x).map (.ext · i)
 | .makeInterface t x=>if P.concrete t then (opd x).map (.conv (.mki t)) else none
 | .panic x=>(opd x).map .pnk
 | .call c=>V0 P c.callee c.args.toList c.argTypes.toList
 | _=>none
section
variable {P:Program} {C:Cx P} {ρ:Operand->Value} {G:Gh} {bx:Nat->Option Bx} {w:World} {id:Nat}
theorem A11{t:TypeId}{z:AV}(h:A1l P t=some z):∃v,(P.info? t).map (·.zero)=some (some v)/\∀(G:Gh) (w:World),RV G w z v:=by
 unfold A1l at h;split at h
 ·rename_i v hv; exact⟨v,hv,fun G w=>B3f h⟩
 ·cases h
theorem O5.made{o:Oper}{x:Sem Value}{r:AV}{rd:List (Nat×Bx)}{wr:List (Nat×Option Bx)}(hx:execOp ρ o=(do pure (.value (←x))))(h:Made P C x G w id r (F4 bx wr)):O5 P C ρ o G bx w id ⟨r,rd,wr⟩:=by
 obtain⟨v,w',G',h1,h2,h3,h4,h5⟩:=h;exact⟨.value v,w',G',v,by rw[hx]; simp only[Sem.run_bind,h1,Result.andThen_ok,Sem.run_pure],.inl rfl,h2,h3,h4,h5⟩
theorem O5.pure{o:Oper}{x:Sem Value}{r:AV}{v:Value}{rd:List (Nat×Bx)}(hs:RS C G bx w)(hx:execOp ρ o=(do pure (.value (←x))))(h:x.run P w = .ok v w)(hv:RV G w r v):O5 P C ρ o G bx w id ⟨r,rd,[]⟩ :=
 ⟨.value v,w,G,v,by rw[hx]; simp only[Sem.run_bind,h,Result.andThen_ok,Sem.run_pure],.inl rfl,hs,M0.refl G w,hv,fun _ h=>.inl h⟩
def B55(G:Gh)(w:World)(ρ:Operand->Value)(ve:L3->AV)(xs:List Operand):Prop:=∀X∈xs,∀x,opd X=some x->RV G w (ve x) (ρ X)
def P7(P:Program)(op:Op):Prop:=∀(C:Cx P) (ρ:Operand->Value) (G:Gh) (bx:Nat->Option Bx) (w:World) (id:Nat) (ve:L3->AV) (o:Oper) (c:COp) (p:Prop) (r:Rs),
 o.op=op->N5 P op=some c->sem ve bx id c=some (p,r)->p->RS C G bx w->¬G.used id->B55 G w ρ ve op.operands.toList->O5 P C ρ o G bx w id r
theorem B3k(x:Operand):P7 P (.move x):=by
 intro C ρ G bx w id ve o c p r ho hc hr hp hs hu hv;simp only[N5,zm] at hc;obtain⟨a,ha,rfl⟩:=hc;simp only[sem,zd,zi] at hr;obtain⟨_,rfl⟩:=hr;exact O5.pure (x:=Pure.pure (ρ x)) hs (by unfold execOp; simp only[ho]; rfl) rfl (hv x (by simp[Op.operands]) a ha)
theorem B0T(x:Operand):P7 P (.assign x):=by
 intro C ρ G bx w id ve o c p r ho hc hr hp hs hu hv;simp only[N5,zm] at hc;obtain⟨a,ha,rfl⟩:=hc;simp only[sem,zd,zi] at hr;obtain⟨_,rfl⟩:=hr;exact O5.pure (x:=Pure.pure (ρ x)) hs (by unfold execOp; simp only[ho]; rfl) rfl (hv x (by simp[Op.operands]) a ha)
theorem B1r(t:TypeId):P7 P (.alloc t):=by
 intro C ρ G bx w id ve o c p r ho hc hr hp hs hu hv;simp only[N5,zm] at hc;obtain⟨a,ha,rfl⟩:=hc;simp only[sem,zd,zi] at hr;obtain⟨_,rfl⟩:=hr;obtain⟨v,h1,h2⟩:=A11 ha;exact O5.made (x:=Instr.alloc t true (.tuple #[])) (by unfold execOp; simp only[ho]) (B8A hs hu h1 (h2 G w))
theorem B6O(t:TypeId)(x:Operand):P7 P (.box t x):=by
 intro C ρ G bx w id ve o c p r ho hc hr hp hs hu hv;simp only[N5,zm] at hc;obtain⟨a,ha,rfl⟩:=hc;simp only[sem,zd,zi] at hr;obtain⟨_,rfl⟩:=hr;exact O5.made (x:=Instr.box t (ρ x)) (by unfold execOp; simp only[ho]) (A96 hs hu (hv x (by simp[Op.operands]) a ha) t)
end
section
variable {P:Program}
theorem At.take{G:Gh}{w:World}{a:Addr}{cs:List AV}(h:At G w a cs)(n:Nat):At G w a (cs.take n):=fun j y hy=>by
 rw[zy] at hy;split at hy
 ·exact h j y hy
 ·cases hy
theorem B3l(t:TypeId)(x:Operand):P7 P (.load t x):=by
 intro C ρ G bx w id ve o c p r ho hc hr hp hs hu hv;simp only[N5] at hc;split at hc
 ·rename_i d n a hd hn ha;injection hc with hc
  subst hc;simp only[sem] at hr;have hx:=hv x (by simp[Op.operands]) a ha;cases hl:A1B bx (ve a) with
  | none=>simp only[hl,ldT,reduceCtorEq] at hr
  | some q =>
   obtain⟨p0,cs,rd⟩:=q;simp only[hl] at hr;have hex:execOp ρ o=(do pure (.value (←Instr.loadAt t (ρ x)))):=(by unfold execOp; simp only[ho]);cases hag:y9 P t with
   | true =>
    simp only[hag,ldT,zd,zi] at hr;obtain⟨rfl,rfl⟩:=hr;obtain⟨addr,hv1,hat⟩:=A6j hs hx (A4i hl hp.1);obtain⟨v,h1,h2⟩:=(hat.take n).load_agg (P:=P) hag hn (by rw[zw]; omega);exact O5.pure (x:=Instr.loadAt t (ρ x)) hs hex (by simp only[hv1,Instr.loadAt,Instr.sureAddr,Sem.run_bind,Sem.run_pure,Result.andThen_ok,h1]) h2
   | false =>
    simp only[hag,ldT] at hr;cases cs with
    | nil=>simp at hr
    | cons y l =>
     simp only[zd,zi] at hr;obtain⟨rfl,rfl⟩:=hr;obtain⟨addr,hv1,hat⟩:=A6j hs hx (A4i hl hp);obtain⟨v,h1,h2⟩:=hat.load_one (P:=P) hd hag rfl;exact O5.pure (x:=Instr.loadAt t (ρ x)) hs hex (by simp only[hv1,Instr.loadAt,Instr.sureAddr,Sem.run_bind,Sem.run_pure,Result.andThen_ok,h1]) h2
 ·cases hc
theorem B8D{y:AV}{n:Nat}(h:(y.isAgg=true\/n=1)):(∀cs,y≠.agg cs)->n=1:=fun hn=>h.elim (fun h=>by
 cases y with
 | agg cs=>exact (hn cs rfl).elim
 | _=>cases h) (fun h=>h)
theorem B1s(t:TypeId)(x v:Operand):P7 P (.store t x v):=by
 intro C ρ G bx w id ve o c p r ho hc hr hp hs hu hv;simp only[N5] at hc;split at hc
 ·rename_i n a b hn ha hb;injection hc with hc
  subst hc;simp only[sem] at hr;have hx:=hv x (by simp[Op.operands]) a ha;have hy:=hv v (by simp[Op.operands]) b hb;unfold stT at hr;split at hr
  ·rename_i j i off hxe;split at hr
   ·rename_i bb hbb;simp only[zd,zi] at hr;obtain⟨rfl,rfl⟩:=hr;obtain⟨⟨q1,q2,q3,q4⟩,q5,q6,q7⟩:=hp;rw[hxe] at hx;obtain⟨w',G',h1,h2,h3,h4⟩:=B88 (P:=P) hs hx hy hbb (A6l q1) q3 q4 q5 q2 (fun c hc=>(xd.1 q6) c hc) (B8D q7) hn;refine⟨.skip,w',G',undef,?_,.inr ⟨rfl,rfl⟩,h2,h3,?_,fun i hi=>.inl (h4 i hi)⟩
    ·unfold execOp;simp only[ho,Sem.run_bind,h1,Result.andThen_ok,Sem.run_pure]
    ·exact .tup [] #[] rfl fun i y hy=>by simp at hy
   ·cases hr
  ·cases hr
 ·cases hc
theorem A6Y(t:TypeId)(x:Operand)(k:Nat):P7 P (.fieldAddr t x k):=by
 intro C ρ G bx w id ve o c p r ho hc hr hp hs hu hv;simp only[N5] at hc;split at hc
 ·rename_i a fs ha ht;split at hc
  ·rename_i f hf;split at hc
   ·rename_i m hm;injection hc with hc
    subst hc;simp only[sem] at hr;have hx:=hv x (by simp[Op.operands]) a ha;split at hr
    ·rename_i p0 r0 rd hft;simp only[zd,zi] at hr;obtain⟨rfl,rfl⟩:=hr;obtain⟨u,h1,h2⟩:=B83 (P:=P) hs hx (A98 hft hp) ht hf rfl hm (by omega);exact O5.pure (x:=Instr.fieldAt t (ρ x) k) hs (by unfold execOp; simp only[ho]) h1 h2
    ·cases hr
   ·cases hc
  ·cases hc
 ·cases hc
theorem B6P{P:Program}{C:Cx P}{G:Gh}{bx:Nat->Option Bx}{w:World}(hs:RS C G bx w){x i r:AV}{v u:Value}(h:RV G w x v)(hi:RV G w i u){s:Nat}{z:AV}{p:Prop}{rd:List (Nat×Bx)}(hr:A2P s z bx x i=some (p,r,rd))(hp:p)
  {t e:TypeId} (ht:P.underlying t=some (.slice e)) (hz:(P.info? e).map (·.size)=some s):∃q,(Instr.indexAt t v u).run P w = .ok q w/\RV G w r q:=by
 unfold A2P at hr;split at hr
 ·rename_i xs k n;simp only[zd,zi] at hr;obtain⟨rfl,rfl,rfl⟩:=hr;obtain⟨q1,q2,q3⟩:=hp;have hg:xs[n.toNat]?=some (xs.getD n.toNat z):=by simp[List.getD,zc q2]
  exact B84 hs h hi (by simp only[A6k,zj q1,hg,zj q3]) ht hz
 ·rename_i j off len k n;split at hr
  ·rename_i b hb;simp only[zd,zi] at hr;obtain⟨rfl,rfl,rfl⟩:=hr;obtain⟨q1,q2,q3⟩:=hp;cases hi
   cases h with|bsl _ _ _ _ hone hu hbm hnl =>
   have hn:¬G.nl j:=fun hn=>by have:=(hnl hn).2.2; omega
   obtain⟨blk,s',cur,e',h1,_,_,h4,_⟩:=hs.box j b hb hn;obtain⟨c,cur',e'',hv,_⟩:=hbm blk s' h1;have hss:s'=s:=h4.1.symm.trans q3;subst hss;subst hv;have he:P.elem t=e:=(by simp[Program.elem,ht]);refine⟨.pointer (some ((⟨blk,off*s',none⟩:Addr).add (n.toNat*s'))),?_,.ptr j _ 0 _ rfl hu fun b' s2 hb'=>?_⟩
   ·rw[run_indexAt_slice w t _ len c k n (by rw[he]; exact ht),zj ⟨q1,q2⟩,he,R5 hz];rfl
   ·rw[h1] at hb';injection hb' with hb'
    injection hb' with e1 e2
    subst e1 e2;rw[Addr.add_lit,xk,vh]
  ·cases hr
 ·cases hr
theorem C1H{P:Program}{C:Cx P}{G:Gh}{bx:Nat->Option Bx}{w:World}(hs:RS C G bx w){x i r:AV}{v u:Value}(h:RV G w x v)(hi:RV G w i u){n s:Nat}{p:Prop}{rd:List (Nat×Bx)}(hr:B0Q n s bx x i=some (p,r,rd))(hp:p)
  {t e:TypeId} (ht:P.underlying t=some (.array n e)) (hz:(P.info? e).map (·.size)=some s):∃q,(Instr.indexAt t v u).run P w = .ok q w/\RV G w r q:=by
 unfold B0Q at hr;split at hr
 ·rename_i k m;split at hr
  ·rename_i p0 r0 rd0 hf;simp only[zd,zi] at hr;obtain⟨rfl,rfl,rfl⟩:=hr;obtain⟨q1,q2,q3⟩:=hp;cases hi
   have key:∀a,v = .pointer (some a)->(Instr.indexAt t v (.int k m)).run P w = .ok (.pointer (some (a.add (m.toNat*s)))) w:=fun a ha=>by
    subst ha;simp[Instr.indexAt,asIntOf,run_underlying ht,Instr.sureAddr,R5 hz,q2,q3]
   exact B6N (F:=fun v=>Instr.indexAt t v (.int k m)) hs h (A98 hf q1) key
  ·cases hr
 ·cases hr
theorem A6Z(t:TypeId)(x i:Operand):P7 P (.indexAddr t x i):=by
 intro C ρ G bx w id ve o c p r ho hc hr hp hs hu hv;simp only[N5] at hc;split at hc
 ·rename_i a b e ha hb ht;split at hc
  ·rename_i z s hz hsz;injection hc with hc
   subst hc;simp only[sem] at hr;split at hr
   ·rename_i p0 r0 rd hit;simp only[zd,zi] at hr;obtain⟨rfl,rfl⟩:=hr;obtain⟨u,h1,h2⟩:=B6P (P:=P) hs (hv x (by simp[Op.operands]) a ha) (hv i (by simp[Op.operands]) b hb) hit hp ht hsz;exact O5.pure (x:=Instr.indexAt t (ρ x) (ρ i)) hs (by unfold execOp; simp only[ho]) h1 h2
   ·cases hr
  ·cases hc
 ·rename_i a b n e ha hb ht;split at hc
  ·rename_i s hsz;injection hc with hc
   subst hc;simp only[sem] at hr;split at hr
   ·rename_i p0 r0 rd hit;simp only[zd,zi] at hr;obtain⟨rfl,rfl⟩:=hr;obtain⟨u,h1,h2⟩:=C1H (P:=P) hs (hv x (by simp[Op.operands]) a ha) (hv i (by simp[Op.operands]) b hb) hit hp ht hsz;exact O5.pure (x:=Instr.indexAt t (ρ x) (ρ i)) hs (by unfold execOp; simp only[ho]) h1 h2
   ·cases hr
  ·cases hc
 ·cases hc
end
section
variable {P:Program}
theorem A4k{fs:Array Field}:∀{l:List (Nat×Operand)} {r:List (Nat×Nat×L3)},z6 P fs l=some r->r.length=l.length /\
  ∀(i:Nat) q u,r[i]?=some q->l[i]?=some u->(∃f,fs[u.1]?=some f/\f.offset=q.1/\A2p P f.type=some q.2.1)/\opd u.2=some q.2.2
 | [],r,h=>by simp[z6] at h; subst h; exact⟨rfl,fun i q u hq=>by simp at hq⟩
 | (i,x)::l,r,h=>by
  simp only[z6] at h;split at h
  ·rename_i f a b hf ha hb;split at h
   ·rename_i n hn;injection h with h
    subst h;obtain⟨h1,h2⟩:=A4k hb;refine⟨by simp[h1],fun j q u hq hu=>?_⟩;cases j with
    | zero =>
     simp only[yr,zd] at hq hu;subst hq hu;exact⟨⟨f,hf,rfl,hn⟩,ha⟩
    | succ j=>exact h2 j q u (by simpa using hq) (by simpa using hu)
   ·cases h
  ·cases h
theorem B0U:∀{l:List (Nat×Operand)} {r:List (Nat×L3)},B6M l=some r->r.length=l.length/\∀(i:Nat) q u,r[i]?=some q->l[i]?=some u->q.1=u.1/\opd u.2=some q.2
 | [],r,h=>by simp[B6M] at h; subst h; exact⟨rfl,fun i q u hq=>by simp at hq⟩
 | (i,x)::l,r,h=>by
  simp only[B6M] at h;split at h
  ·rename_i a b ha hb;injection h with h
   subst h;obtain⟨h1,h2⟩:=B0U hb;refine⟨by simp[h1],fun j q u hq hu=>?_⟩;cases j with
   | zero =>
    simp only[yr,zd] at hq hu;subst hq hu;exact⟨rfl,ha⟩
   | succ j=>exact h2 j q u (by simpa using hq) (by simpa using hu)
  ·cases h
theorem B56:∀{l:List Operand} {r:List L3},A6X l=some r->r.length=l.length/\∀(i:Nat) q u,r[i]?=some q->l[i]?=some u->opd u=some q
 | [],r,h=>by simp[A6X] at h; subst h; exact⟨rfl,fun i q u hq=>by simp at hq⟩
 | x::l,r,h=>by
  simp only[A6X] at h;split at h
  ·rename_i a b ha hb;injection h with h
   subst h;obtain⟨h1,h2⟩:=B56 hb;refine⟨by simp[h1],fun j q u hq hu=>?_⟩;cases j with
   | zero =>
    simp only[yr,zd] at hq hu;subst hq hu;exact ha
   | succ j=>exact h2 j q u (by simpa using hq) (by simpa using hu)
  ·cases h
theorem B1t(t:TypeId)(ps:Array (Nat×Operand)):P7 P (.build t ps):=by
 intro C ρ G bx w id ve o c p r ho hc hr hp hs hu hv;simp only[N5] at hc;split at hc
 ·rename_i fs zs ht hz;split at hc
  ·rename_i hall;simp only[zm] at hc;obtain⟨qs,hqs,rfl⟩:=hc;simp only[sem] at hr;split at hr
   ·rename_i rr hfl;simp only[zd,zi] at hr;obtain⟨rfl,rfl⟩:=hr;obtain⟨v,h1,h2⟩:=A11 hz;obtain⟨l1,l2⟩:=A4k hqs;obtain⟨u,g1,g2⟩:=B86 (P:=P) (w:=w) (vs:=ps.map fun q=>(q.1,ρ q.2)) ht h1 (h2 G w) (fun f hf=>(xd.1 hall) f (by simpa using hf)) hfl (by simp[l1]) fun i q q' hq hq'=>by
     simp only[yi,zm] at hq;obtain⟨a,ha,rfl⟩:=hq;simp only[uz,zm] at hq';obtain⟨b,hb,rfl⟩:=hq';have hb':ps.toList[i]?=some b:=(by simpa using hb);obtain⟨⟨f,k1,k2,k3⟩,k4⟩:=l2 i a b ha hb';refine⟨⟨f,k1,k2,k3⟩,hv b.2 ?_ _ k4⟩;simp only[Op.operands,zu];exact⟨b,zg hb',rfl⟩
    exact O5.pure (x:=Instr.build t (ps.map fun q=>(q.1,ρ q.2))) hs (by unfold execOp; simp only[ho]) g1 g2
   ·cases hr
  ·cases hc
 ·cases hc
theorem A7I(x:Operand):P7 P (.nilCheck x):=by
 intro C ρ G bx w id ve o c p r ho hc hr hp hs hu hv;simp only[N5,zm] at hc;obtain⟨a,ha,rfl⟩:=hc;have hx:=hv x (by simp[Op.operands]) a ha;simp only[sem] at hr;split at hr
 ·rename_i cs he;simp only[zd,zi] at hr;obtain⟨_,rfl⟩:=hr;rw[he] at hx;obtain⟨addr,hv1⟩:∃a,ρ x = .pointer (some a):=by
   generalize ρ x=vx at hx;cases hx with|cptr _ a u h1 h2 h3=>exact⟨a,rfl⟩
  exact O5.still hs (by unfold execOp; simp only[ho,hv1]; rfl) (hv1▸hx) _
 ·rename_i j i off he;split at hr
  ·rename_i b hb;simp only[zd,zi] at hr;obtain⟨rfl,rfl⟩:=hr;rw[he] at hx;obtain⟨blk,s,_,hv1,_⟩:=B82 hs hx hb (A6l hp);exact O5.still hs (by unfold execOp; simp only[ho,hv1]; rfl) (hv1▸hx) _
  ·cases hr
 ·rename_i f caps he;simp only[zd,zi] at hr;obtain⟨_,rfl⟩:=hr;rw[he] at hx;obtain⟨vs,hv1⟩:∃vs,ρ x = .func (.func f) #[] vs:=by
   generalize ρ x=vx at hx;cases hx with|fn _ _ vs h1 h2=>exact⟨vs,rfl⟩
  exact O5.still hs (by unfold execOp; simp only[ho,hv1]; rfl) (hv1▸hx) _
 ·cases hr
theorem B3m(xs ys:List AV):A0c [9] xs ys=none:=by
 match xs,ys with
 | [],[]=>rfl
 | [],_::_=>rfl
 | _::_,[]=>rfl
 | x::r,y::s =>
  have:A1w 9 x y=none:=by cases x<;>cases y<;>simp[A1w]
  simp[A0c,this]
theorem X2:∀{fs:List Field} {off:Nat} {ks:List Nat},O7 P fs off=some ks->∀k∈ks,k<=2
 | [],off,ks,h,k,hk=>by simp only[O7,zd] at h; subst h; cases hk
 | f::r,off,ks,h,k,hk=>by
  simp only[O7] at h;split at h
  ·split at h<;>first
    | (rename_i hr
       injection h with h
       subst h;rcases zh.1 hk with rfl|hk
       ·omega
       ·exact X2 hr k hk)
    | cases h
  ·cases h
theorem B6Q{op:BinOp}{ks:List Nat}{a b:Bool}{x:Prop×AV}(h:U9 op (some ks) (.bool a) (.bool b)=some x):ks=[9]:=by
 simp only[U9] at h;split at h
 ·rename_i heq; injection heq
 ·rename_i heq; injection heq
 ·cases h
theorem B1u(xs ys:List AV):A0c [8] xs ys=none:=by
 match xs,ys with
 | [],[]=>rfl
 | [],_::_=>rfl
 | _::_,[]=>rfl
 | x::r,y::s =>
  have:A1w 8 x y=none:=by cases x<;>cases y<;>simp[A1w]
  simp[A0c,this]
theorem B1v(xs ys:List AV):A0c [7] xs ys=none:=by
 match xs,ys with
 | [],[]=>rfl
 | [],_::_=>rfl
 | _::_,[]=>rfl
 | x::r,y::s =>
  have:A1w 7 x y=none:=by cases x<;>cases y<;>simp[A1w]
  simp[A0c,this]
theorem A1x{op:BinOp}{eqs:Option (List Nat)}{x y:AV}{z:Prop×AV}(h:U9 op eqs x y=some z)(he:eqs≠some [7]):y≠.nili:=by
 intro hy;subst hy;cases x with
 | nili=>simp only[U9] at h; split at h<;>first|exact he rfl|cases h
 | iface t v=>simp only[U9] at h; split at h<;>first|exact he rfl|cases h
 | _=>simp only[U9] at h; cases h
theorem B1w(w:World)(t:TypeId){ms:Array (String×TypeId)}(te:TypeId)(v:Value)(h:P.underlying t=some (.interface ms)):(binOp .eql t (.iface te v) .nilIface).run P w = .ok (.bool false) w:=by
 have h1:∀d:Nat,(Op.equalIn (d+1) t (.iface te v) .nilIface).run P w = .ok false w:=fun d=>by simp[Op.equalIn,run_underlying h]
 simp only[binOp];simp[Op.equal,Op.maxDepth,h1 9999]
theorem B1x(w:World)(t:TypeId){ms:Array (String×TypeId)}(te:TypeId)(v:Value)(h:P.underlying t=some (.interface ms)):(binOp .neq t (.iface te v) .nilIface).run P w = .ok (.bool true) w:=by
 have h1:∀d:Nat,(Op.equalIn (d+1) t (.iface te v) .nilIface).run P w = .ok false w:=fun d=>by simp[Op.equalIn,run_underlying h]
 simp only[binOp];simp[Op.equal,Op.maxDepth,h1 9999]
theorem B0V(w:World)(t:TypeId){ms:Array (String×TypeId)}(h:P.underlying t=some (.interface ms)):(binOp .eql t .nilIface .nilIface).run P w = .ok (.bool true) w:=by
 have h1:∀d:Nat,(Op.equalIn (d+1) t .nilIface .nilIface).run P w = .ok true w:=fun d=>by simp[Op.equalIn,run_underlying h]
 simp only[binOp];simp[Op.equal,Op.maxDepth,h1 9999]
theorem B0W(w:World)(t:TypeId){ms:Array (String×TypeId)}(h:P.underlying t=some (.interface ms)):(binOp .neq t .nilIface .nilIface).run P w = .ok (.bool false) w:=by
 have h1:∀d:Nat,(Op.equalIn (d+1) t .nilIface .nilIface).run P w = .ok true w:=fun d=>by simp[Op.equalIn,run_underlying h]
 simp only[binOp];simp[Op.equal,Op.maxDepth,h1 9999]
theorem A1y{op:BinOp}{eqs:Option (List Nat)}{x y:AV}{z:Prop×AV}(h:U9 op eqs x y=some z)(he:eqs≠some [8]):y≠.nils:=by
 intro hy;subst hy;cases x with
 | nils=>simp only[U9] at h; split at h<;>first|exact he rfl|cases h
 | sl xs =>
  cases xs with
  | nil=>simp only[U9] at h; cases h
  | cons z zs=>simp only[U9] at h; split at h<;>first|exact he rfl|cases h
 | _=>simp only[U9] at h; cases h
theorem B1y(w:World)(t e:TypeId)(a:Option Addr)(n c:Nat)(h:P.underlying t=some (.slice e)):(binOp .eql t (.slice a n c) (.slice none 0 0)).run P w = .ok (.bool a.isNone) w:=by
 simp only[binOp];simp[Op.equal,Op.maxDepth,Lib.run_equalIn_slice_nil w 9999 t e a n c 0 0 h]
theorem C3K{G:Gh}{w:World}{op:BinOp}{x r:AV}{p:Prop}{a b:Value}(hx:RV G w x a)(hy:RV G w .nils b)(h:U9 op (some [8]) x .nils=some (p,r)){t e:TypeId}(ht:P.underlying t=some (.slice e))(X Y:Operand):
  ∃v,(do eqGuard op t X Y a b; binOp op t a b:Sem Value).run P w = .ok v w/\RV G w r v:=by
 have hb:b = .slice none 0 0:=by cases hy; rfl
 subst hb;have key:∀(A:Option Addr) (n c:Nat),a = .slice A n c->((op = .eql/\r = .bool A.isNone)\/(op = .neq/\r = .bool (!A.isNone)))->∃v,(do eqGuard op t X Y a (.slice none 0 0); binOp op t a (.slice none 0 0):Sem Value).run P w = .ok v w/\RV G w r v:=by
  intro A n c ha hr;subst ha;have hg:eqGuard op t X Y (.slice A n c) (.slice none 0 0)=pure ():=by cases op<;>rfl
  rw[hg];rcases hr with⟨rfl,rfl⟩|⟨rfl,rfl⟩
  ·exact⟨_,by simp only[Sem.run_bind,Sem.run_pure,Result.andThen_ok,B1y w t e A n c ht],.bool _⟩
  ·exact⟨_,by simp only[Sem.run_bind,Sem.run_pure,Result.andThen_ok,run_neq_slice_nil_any w t e A n c 0 0 ht],.bool _⟩
 cases hx with
 | nils =>
  refine key none 0 0 rfl ?_;simp only[U9] at h;split at h<;>first
   | (simp only[zd,zi] at h; obtain⟨_,rfl⟩:=h; first|exact .inl ⟨rfl,rfl⟩|exact .inr ⟨rfl,rfl⟩)
   | cases h
 | sl xs A c s u hc hm hn hs h1 h2 h3 =>
  cases xs with
  | nil=>simp only[U9] at h; cases h
  | cons z zs =>
   cases A with
   | none=>have:=(hn rfl).1; cases this
   | some a0 =>
    refine key (some a0) _ c rfl ?_;simp only[U9] at h;split at h<;>first
     | (simp only[zd,zi] at h; obtain⟨_,rfl⟩:=h; first|exact .inl ⟨rfl,rfl⟩|exact .inr ⟨rfl,rfl⟩)
     | cases h
 | _=>simp only[U9] at h; cases h
theorem C3L{G:Gh}{w:World}{op:BinOp}{x r:AV}{p:Prop}{a b:Value}(hx:RV G w x a)(hy:RV G w .nili b)(h:U9 op (some [7]) x .nili=some (p,r)){t:TypeId}{ms:Array (String×TypeId)}(ht:P.underlying t=some (.interface ms))(X:Operand)(cY:Value):
  ∃v,(do eqGuard op t X (.const cY) a b; binOp op t a b:Sem Value).run P w = .ok v w/\RV G w r v:=by
 have hb:b = .nilIface:=by cases hy; rfl
 subst hb;have hg:∀a,eqGuard op t X (.const cY) a .nilIface=pure ():=fun a=>by cases op<;>cases a<;>first|rfl|(simp[eqGuard])
 rw[hg];cases hx with
 | nili =>
  simp only[U9] at h;split at h<;>first
   | (simp only[zd,zi] at h; obtain⟨_,rfl⟩:=h; exact⟨_,by simp only[Sem.run_bind,Sem.run_pure,Result.andThen_ok,B0V w t ht,B0W w t ht],.bool _⟩)
   | cases h
 | iface =>
  simp only[U9] at h;split at h<;>first
   | (simp only[zd,zi] at h; obtain⟨_,rfl⟩:=h; exact⟨_,by simp only[Sem.run_bind,Sem.run_pure,Result.andThen_ok,B1w w t _ _ ht,B1x w t _ _ ht],.bool _⟩)
   | cases h
 | _=>simp only[U9] at h; cases h
theorem B1z(op:BinOp)(t:TypeId)(x y:Operand)(t':TypeId):P7 P (.binOp op t x y t'):=by
 intro C ρ G bx w id ve o c p r ho hc hr hp hs hu hv;simp only[N5] at hc;split at hc
 ·rename_i a b ha hb;have hx:=hv x (by simp[Op.operands]) a ha;have hy:=hv y (by simp[Op.operands]) b hb;have hex:execOp ρ o=(do pure (.value (←(do eqGuard op t x y (ρ x) (ρ y); binOp op t (ρ x) (ρ y):Sem Value)))):=by unfold execOp; simp only[ho]
  have plain:∀(eqs:Option (List Nat)) (r0:AV),U9 op eqs (ve a) (ve b)=some (p,r0)->r=⟨r0,[],[]⟩->(∀xs,ve a≠.agg xs)->((∃q,ve a = .bool q)->P.underlying t=some .bool)->ve b≠.nils->ve b≠.nili->O5 P C ρ o G bx w id r:=fun eqs r0 h1 h2 h3 h4 h5 h6=>by
   subst h2;obtain⟨v,g1,g2⟩:=C3C (P:=P) hx hy (C1F h1 hp h3 h5 h6) t x y h4;exact O5.pure hs hex g1 g2
  have two:∀eqs,(match U9 op eqs (ve a) (ve b) with|some (p,r)=>some (p,⟨r,[],[]⟩)|none=>none)=some (p,r)->∃r0,U9 op eqs (ve a) (ve b)=some (p,r0)/\r=⟨r0,[],[]⟩:=fun eqs h=>by
   split at h
   ·rename_i p0 r0 hb0;simp only[zd,zi] at h;obtain⟨rfl,rfl⟩:=h;exact⟨r0,hb0,rfl⟩
   ·cases h
  split at hc
  ·rename_i ht;injection hc with hc
   subst hc;simp only[sem] at hr;obtain⟨r0,h1,h2⟩:=two _ hr;refine plain _ _ h1 h2 (fun xs hxs=>?_) (fun _=>ht) (A1y h1 (by simp)) (A1x h1 (by simp));unfold U9 at h1;rw[hxs] at h1;cases hb0:ve b<;>rw[hb0] at h1<;>try cases h1
   cases op<;>simp[B3m] at h1
  ·rename_i fs ht;split at hc
   ·rename_i ks hk;split at hc
    ·rename_i hst;injection hc with hc
     subst hc;simp only[sem] at hr;obtain⟨r0,h1,h2⟩:=two _ hr;by_cases hag:∃xs,ve a = .agg xs
     ·obtain⟨xs,hxs⟩:=hag;have h3:=h1;unfold U9 at h3;rw[hxs] at h3;cases hb0:ve b<;>rw[hb0] at h3<;>try cases h3
      rename_i ys;rw[hxs] at hx;rw[hb0] at hy;cases he:A0c ks xs ys with
      | none=>cases op<;>simp[he] at h3
      | some q =>
       have hop:(op = .eql/\r0 = .bool q)\/(op = .neq/\r0 = .bool (!q)):=(by cases op<;>simp[he] at h3<;>simp[h3.2]);have hrun:=C3D (P:=P) ht hk hst.1 hst.2 hx hy he op x y (hop.imp And.left And.left);subst h2;refine O5.pure hs hex hrun ?_;rcases hop with⟨rfl,rfl⟩|⟨rfl,rfl⟩<;>exact .bool _
     ·refine plain _ _ h1 h2 (fun xs h=>hag ⟨xs,h⟩) (fun⟨q,hq⟩=>?_) (A1y h1 fun h8=>by
       have:=X2 hk 8 (by injection h8 with h8; rw[h8]; simp);omega) (A1x h1 fun h8=>by
       have:=X2 hk 7 (by injection h8 with h8; rw[h8]; simp);omega)
      have h9:ks=[9]:=by
       rw[hq] at h1;cases hb0:ve b<;>rw[hb0] at h1<;>first
        | exact B6Q h1
        | (simp only[U9] at h1; cases h1)
      have:=X2 hk 9 (by rw[h9]; simp);omega
    ·cases hc
   ·cases hc
  ·rename_i e8 ht8;injection hc with hc
   subst hc;simp only[sem] at hr;obtain⟨r0,h1,h2⟩:=two _ hr;by_cases hb8:ve b = .nils
   ·rw[hb8] at h1 hy;subst h2;obtain⟨v,g1,g2⟩:=C3K (P:=P) hx hy h1 ht8 x y;exact O5.pure hs hex g1 g2
   refine plain _ _ h1 h2 (fun xs h=>?_) (fun⟨q,hq⟩=>?_) hb8 (A1x h1 (by simp))
   ·unfold U9 at h1;rw[h] at h1;cases hb0:ve b<;>rw[hb0] at h1<;>try cases h1
    cases op<;>simp[B1u] at h1
   ·unfold U9 at h1;rw[hq] at h1;cases hb0:ve b<;>rw[hb0] at h1<;>try cases h1
    cases op<;>simp at h1
  ·rename_i ms7 ht7;split at hc
   ·injection hc with hc
    subst hc;simp only[sem] at hr;obtain⟨r0,h1,h2⟩:=two _ hr;by_cases hb7:ve b = .nili
    ·rw[hb7] at h1 hy;subst h2;obtain⟨v,g1,g2⟩:=C3L (P:=P) hx hy h1 ht7 x _;exact O5.pure hs hex g1 g2
    refine plain _ _ h1 h2 (fun xs h=>?_) (fun⟨q,hq⟩=>?_) (A1y h1 (by simp)) hb7
    ·unfold U9 at h1;rw[h] at h1;cases hb0:ve b<;>rw[hb0] at h1<;>try cases h1
     cases op<;>simp[B1v] at h1
    ·unfold U9 at h1;rw[hq] at h1;cases hb0:ve b<;>rw[hb0] at h1<;>try cases h1
     cases op<;>simp at h1
   ·injection hc with hc
    subst hc;simp only[sem] at hr;obtain⟨r0,h1,h2⟩:=two _ hr;refine plain _ _ h1 h2 (fun xs h=>?_) (fun⟨q,hq⟩=>?_) (A1y h1 (by simp)) (A1x h1 (by simp))
    ·unfold U9 at h1;rw[h] at h1;cases hb0:ve b<;>rw[hb0] at h1<;>try cases h1
     cases op<;>cases h1
    ·unfold U9 at h1;rw[hq] at h1;cases hb0:ve b<;>rw[hb0] at h1<;>try cases h1
     cases op<;>cases h1
  ·injection hc with hc
   subst hc;simp only[sem] at hr;obtain⟨r0,h1,h2⟩:=two _ hr;refine plain _ _ h1 h2 (fun xs h=>?_) (fun⟨q,hq⟩=>?_) (A1y h1 (by simp)) (A1x h1 (by simp))
   ·unfold U9 at h1;rw[h] at h1;cases hb0:ve b<;>rw[hb0] at h1<;>try cases h1
    cases op<;>cases h1
   ·unfold U9 at h1;rw[hq] at h1;cases hb0:ve b<;>rw[hb0] at h1<;>try cases h1
    cases op<;>cases h1
 ·cases hc
end
end Go.Am
