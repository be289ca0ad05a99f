/- Parts of the proof: an abstract machine for Go functions, and what functions of the program give back (Am9, Am10, Am11, Am12, Am13, Am14, Am15, Am16, Am17, Am18, Am19). No condition. -/
import Derived.Test.YtphjabjjnncebaaGreatDoorXA
set_option maxRecDepth 100000
set_option linter.all false
namespace Go.Am
open Go Go.RowKit
def A72(d:AV)(bx:Nat->Option Bx)(id:Nat)(x:AV)(ys:List AV):Option (AV×List (Nat×Bx)×List (Nat×Option Bx)) :=
 match x with
 | .nils=>some (.bsl id 0 ys.length,[],[(id,some ⟨ys,d,false,false⟩)])
 | .bsl i0 off n=>match bx i0 with
  | some b=>if off=0/\n=b.xs.length/\b.sz=d.cells.length/\b.ro=false then some (.bsl id 0 (n+ys.length),[(i0,b)],[(i0,none),(id,some ⟨b.xs++ys,d,false,b.frz⟩)]) else none
  | none=>none
 | _=>none
section
variable {P:Program} {C:Cx P} {G:Gh} {bx:Nat->Option Bx} {w:World}
theorem A84(a b c:Nat)(h:((a:Int)+b)*c<=140737488355328):(a+b)*c<=140737488355328:=by
 have e:((a:Int)+b)*c=(((a+b)*c:Nat):Int):=by rw[qd,Int.natCast_add]
 rw[e] at h;omega
theorem C7j(a:List Value)(z:Array Value):(a++z.toList).toArray=a.toArray++z:=by apply vu; simp
theorem A73{l:List Value}{n k:Nat}(h:k<n):(l.take n)[k]?=l[k]?:=by rw[zz,zj h]
theorem A4X(hs:RS C G bx w){id:Nat}(hu:¬G.used id){ys:List AV}{vy:Value}{s:Nat}(hsz:∀z∈ys,z.cells.length=s){t tx ty e:TypeId}{i:TypeInfo}{z:Value}{news:List Value}(hsrc:Src P s tx vy ys.length news w)
  (hnl:news.length=ys.length*s) (hnf:∀(k:Nat) z,(flat ys)[k]?=some z->∃u,news[k]?=some u/\RV G w z u) (ht:P.underlying t=some (.slice e)) (hi:P.info? e=some i) (hz:i.zero=some z) (hzs:z.cells.size=s) (his:i.size=s)
  (hb1:(0+ys.length)*i.bytes<=140737488355328) (hb2:ys.length<=9223372036854775807) (f:Bool) (d:AV) (hd:d.cells.length=s) :
  Made P C (Builtin.append_ #[t,tx] ty #[.slice none 0 0,vy]) G w id (.bsl id 0 ys.length) (T6 bx id (some ⟨ys,d,false,f⟩)):=by
 subst his;by_cases hem:ys=[]
 ·subst hem;have hn0:news=[]:=wq (v_ hnl);subst hn0;obtain⟨r1,r2,r3⟩:=hs.void hu d f;exact⟨_,w,_,A4V t tx ty e i ht hi vy hsrc,r1,r2,r3,λk hk=>hk.elim .inr .inl⟩
 ·have hpos:0<ys.length:=by
   rcases ys with _|⟨a,l⟩
   ·simp at hem
   ·simp
  have hrun:=run_append_grow_src (P:=P) w t tx ty e i z ht hi hz none 0 0 [] (by simp[Builtin.firstCells]) vy ys.length news hsrc o_ o_ (growslice_fits o_ hb1);have hcap:=grownCap_ge w (0+ys.length) 0 e;have hcm:=grownCap_le_maxLen w (0+ys.length) 0 e (by simp only[maxLen]; omega);simp only[xq] at hrun;have hsize:(news.toArray++Builtin.zeroCells z.cells (grownCap w (0+ys.length) 0 e - (0+ys.length))).size=grownCap w (0+ys.length) 0 e*i.size:=by
   rw[vw,size_zeroCells,hzs,yo,hnl,←xp];congr 1; omega
  have hcont:A03 G w.drew i.size ys (news.toArray++Builtin.zeroCells z.cells (grownCap w (0+ys.length) 0 e - (0+ys.length))):=by
   have:=A6C (G:=G) (w:=w.drew) (xs:=[]) (cur:=#[]) (ys:=ys) (news:=news) (rest:=(Builtin.zeroCells z.cells (grownCap w (0+ys.length) 0 e - (0+ys.length))).toList) (λi y hy=>by simp at hy) s_ hsz
    λk q hq=>let ⟨u,h1,h2⟩:=hnf k q hq; ⟨u,h1,h2.mono hs.drew.2⟩
   rw[C7j] at this;simpa only[List.take_nil,xq] using this
  obtain⟨r1,r2⟩:=hs.drew.1.alloc hu (s:=i.size) ys _ e (by rw[hsize]; exact yr _ o_) hcont d hd;have r1':=r1.reflag f;refine⟨_,_,_,hrun,r1',hs.drew.2.trans r2,?_,λk hk=>hk.elim .inr .inl⟩;refine .bsl id 0 _ _ rfl (.inl rfl) (λb s' hbm=>?_) λhn=>(hu (hs.nlu id hn).1).elim;simp only[Gh.name,C7,zd,zh] at hbm;obtain⟨rfl,rfl⟩:=hbm;exact⟨_,_,e,s_,o_,hcm,heap_alloc_new w.drew _,by rw[hsize]; simp⟩
theorem A6D(hs:RS C G bx w){id:Nat}(hu:¬G.used id){x y r:AV}{vx vy:Value}(hx:RV G w x vx)(hy:RV G w y vy){ys:List AV}(he:elems bx y=some ys){d:AV}{s bytes:Nat}(hsz:∀z∈ys,z.cells.length=s)
  (h1:∀z∈ys,∀c∈z.cells,c.one=true) {rd:List (Nat×Bx)} {wr:List (Nat×Option Bx)} (hr:A72 d bx id x ys=some (r,rd,wr)) (hd:d.cells.length=s) {t tx ty e:TypeId} {i:TypeInfo} {z:Value}
  (hk:((∃t,y = .str t)/\P.underlying tx=some .string/\s=1)\/((∀t,y≠.str t)/\∃e,P.underlying tx=some (.slice e)))
  (ht:P.underlying t=some (.slice e)) (hi:P.info? e=some i) (hz:i.zero=some z) (hzs:z.cells.size=s) (his:i.size=s) (hib:i.bytes=bytes)
  (hb:∀n,A1N bx x=some (.int .i64 n)->(n+ys.length)*bytes<=140737488355328/\n+ys.length<=9223372036854775807) :
  Made P C (Builtin.append_ #[t,tx] ty #[vx,vy]) G w id r (F6 bx wr):=by
 obtain⟨news,hsrc,hnl,hnf⟩:=C62 hs hy he hsz h1 hk;subst his hib;cases x with
 | nils =>
  cases hx
  simp only[A72,zd,zh] at hr;obtain⟨rfl,_,rfl⟩:=hr;have hbd:=hb (0:Nat) (by simp[A1N]);exact A4X hs hu hsz hsrc hnl hnf ht hi hz hzs rfl (A84 0 _ _ hbd.1) (by have:=hbd.2; omega) false d hd
 | bsl i0 off n =>
  simp only[A72] at hr;split at hr
  ·rename_i b hbx;split at hr
   ·rename_i hc;obtain⟨rfl,rfl,hbs',hro⟩:=hc;simp only[zd,zh] at hr;obtain⟨rfl,_,rfl⟩:=hr;cases hx with|bsl _ _ _ _ hone hub hbm hvn =>
    have hbd:=hb b.xs.length (by simp[A1N,hbx]);have hb1:(b.xs.length+ys.length)*i.bytes<=140737488355328:=A84 _ _ _ hbd.1;by_cases hn:G.nl i0
    ·have h0:=(hs.nil i0 b hbx hn).1;obtain⟨hv,_,_⟩:=hvn hn;subst hv;rw[h0] at hbd hb1 ⊢;have:=A4X (hs.weak (bx':=T6 bx i0 none) λj x hx=>by
      by_cases hj:j=i0
      ·subst hj; rw[C7] at hx; cases hx
      ·rwa [B6 _ _ _ hj] at hx) hu hsz hsrc hnl hnf ht hi hz hzs rfl hb1 (by have:=hbd.2; simp at this; omega) b.frz d hd (ty:=ty)
     simpa [F6] using this
    obtain⟨blk,s',cur,el,k1,k2,k3,⟨k4,k5⟩,k6,k7,k8⟩:=hs.box i0 b hbx hn;have hss:s'=i.size:=k4.symm.trans (hbs'.trans hd);subst hss;obtain⟨c,cur',el',hv,hlc,hcm,hh',hsz'⟩:=hbm blk _ k1;rw[k2] at hh';injection hh' with hh'
    injection hh' with q1 q2
    subst q1 q2;simp only[qo,yy] at hv hsz';subst hv;have hne:i0≠id:=λh=>hu (h▸hs.used i0 blk _ k1);by_cases hroom:b.xs.length+ys.length<=c
    ·have hfit:b.xs.length*i.size+news.length<=cur.size:=(by rw[hnl,hsz',←xp]; exact yr _ hroom);have hrun:=c6 (P:=P) t tx ty e i ht hi blk b.xs.length c cur el k2 vy ys.length news hsrc hroom hfit;have hnewh:=setRow_heap w blk cur (cur.toList.take (b.xs.length*i.size)++news++cur.toList.drop (b.xs.length*i.size+news.length)).toArray el (0,0) k2;have hsz2:(cur.toList.take (b.xs.length*i.size)++news++cur.toList.drop (b.xs.length*i.size+news.length)).toArray.size=cur.size:=by
      rw[yo,zu,zu,zy,ya,yz]; omega
     obtain⟨r1,r2⟩:=hs.moved (id0:=i0) (id:=id) (b':=blk) (s:=i.size) (x':=⟨b.xs++ys,d,false,b.frz⟩) (w':=w.setRow blk (cur.toList.take (b.xs.length*i.size)++news++cur.toList.drop (b.xs.length*i.size+news.length)).toArray) hu
      ⟨rfl,rfl,rfl,s_,λk hk=>setRow_other w blk k _ (by have:=k3 hro; omega)⟩
      (λj b2 s2 hj hji=>setRow_other w blk b2 _ λhbb=>hji (hs.inj j i0 b2 s2 i.size hj (hbb▸k1)))
      (λb2 o hf=>by
       by_cases hbb:b2=blk
       ·subst hbb;have ho:=k8 o hf;rw[E4 hnewh,E4 k2,wb,ym,yh m_,A73 ho];simp
       ·exact World.cell?_of_block (w:=w) (setRow_other w blk b2 _ hbb))
      hnewh (k3 hro) (λj s2 hj hjb=>hj (hs.inj j i0 blk s2 i.size hjb k1)) (by rw[hsz2]; simp only[zu,xp]; omega) hd
      (A6C k6 k5 hsz hnf) (λhf o hfz=>k7 hf o hfz) (λo hf=>by have:=k8 o hf; simp only[zu,xp]; omega)
     refine⟨_,_,_,hrun,by simpa [F6] using r1,r2,?_,λk hk=>hk.elim .inr .inl⟩;refine .bsl id 0 _ _ rfl (.inl rfl) (λb' s2 hbm'=>?_) λhn'=>(hu (hs.nlu id hn').1).elim;simp only[Gh.rename,C7,zd,zh] at hbm';obtain⟨rfl,rfl⟩:=hbm';exact⟨c,_,el,s_,hroom,hcm,hnewh,by rw[hsz2,hsz']; simp⟩
    ·have holds:∀(j:Nat) u,(cur.toList.take (b.xs.length*i.size))[j]?=some u->w.drew.cell? ((⟨blk,0,none⟩:Addr).add j)=some u:=λj u hj=>by
      have hjl:j<b.xs.length*i.size:=(by have:=(ze.1 hj).1; simp at this; omega);rw[A73 hjl] at hj;rw[Addr.add_lit,yy,World.cell?_drew,E4 k2];simpa using hj
     have hfirst:(Builtin.firstCells i.size b.xs.length (.slice (some ⟨blk,0,none⟩) b.xs.length c)).run P w.drew = .ok (cur.toList.take (b.xs.length*i.size)).toArray w.drew :=
      run_firstCells_some w.drew i.size b.xs.length ⟨blk,0,none⟩ b.xs.length c _ m_ holds
     have hrun:=run_append_grow_src (P:=P) w t tx ty e i z ht hi hz (some ⟨blk,0,none⟩) b.xs.length c _ hfirst vy ys.length news hsrc o_ (by have:=hbd.2; omega) (growslice_fits o_ hb1);have hcap:=grownCap_ge w (b.xs.length+ys.length) c e;have hcm':=grownCap_le_maxLen w (b.xs.length+ys.length) c e (by simp only[maxLen]; have:=hbd.2; omega);have hsize:((cur.toList.take (b.xs.length*i.size)++news).toArray++Builtin.zeroCells z.cells (grownCap w (b.xs.length+ys.length) c e - (b.xs.length+ys.length))).size=grownCap w (b.xs.length+ys.length) c e*i.size:=by
      rw[vw,size_zeroCells,hzs,yo,zu,hnl,zy,yz,uk k5,←xp,←xp];congr 1; omega
     have hcont:A03 G w i.size (b.xs++ys) ((cur.toList.take (b.xs.length*i.size)++news).toArray++Builtin.zeroCells z.cells (grownCap w (b.xs.length+ys.length) c e - (b.xs.length+ys.length))):=by
      have:=A6C (rest:=(Builtin.zeroCells z.cells (grownCap w (b.xs.length+ys.length) c e - (b.xs.length+ys.length))).toList) k6 k5 hsz hnf;rw[C7j] at this;exact this
     have hold:∀k,k<w.heap.size->(w.drew.alloc (.cells ((cur.toList.take (b.xs.length*i.size)++news).toArray++Builtin.zeroCells z.cells (grownCap w (b.xs.length+ys.length) c e - (b.xs.length+ys.length))) e)).heap[k]?=w.heap[k]?:=λk hk=>Below.heap_alloc w.drew _ k hk;have hnewh:=heap_alloc_new w.drew (.cells ((cur.toList.take (b.xs.length*i.size)++news).toArray++Builtin.zeroCells z.cells (grownCap w (b.xs.length+ys.length) c e - (b.xs.length+ys.length))) e);have hfzlt:∀b2 o,G.fz b2 o->b2<w.heap.size:=λb2 o hf=>let ⟨u,hu⟩:=hs.fzok b2 o hf; Y9 hu;obtain⟨r1,r2⟩:=hs.moved (id0:=i0) (id:=id) (b':=w.heap.size) (s:=i.size) (x':=⟨b.xs++ys,d,false,b.frz⟩) (w':=w.drew.alloc (.cells ((cur.toList.take (b.xs.length*i.size)++news).toArray++Builtin.zeroCells z.cells (grownCap w (b.xs.length+ys.length) c e - (b.xs.length+ys.length))) e)) hu
      ⟨rfl,rfl,rfl,s_,λk hk=>hold k (by have:=hs.size; omega)⟩ (λj b2 s2 hj _=>hold b2 (hs.rows j b2 s2 hj)) (λb2 o hf=>World.cell?_of_block (w:=w) (hold b2 (hfzlt b2 o hf)))
      hnewh hs.size (λj s2 _ hjb=>absurd (hs.rows j _ s2 hjb) (up _)) (by rw[hsize]; exact yr _ m_) hd hcont
      (λ_ o hf=>absurd (hfzlt _ o hf) (up _)) (λo hf=>absurd (hfzlt _ o hf) (up _))
     refine⟨_,_,_,hrun,by simpa [F6] using r1,r2,?_,λk hk=>hk.elim .inr .inl⟩;refine .bsl id 0 _ _ rfl (.inl rfl) (λb' s2 hbm'=>?_) λhn'=>(hu (hs.nlu id hn').1).elim;simp only[Gh.rename,C7,zd,zh] at hbm';obtain⟨rfl,rfl⟩:=hbm';exact⟨_,_,e,s_,o_,hcm',hnewh,by rw[hsize]; simp⟩
   ·cases hr
  ·cases hr
 | _=>cases hr
end
def B9v(y:AV)(off:Nat)(z:AV):AV :=
 match y with
 | .agg cs=>.agg (A0h cs off z.cells)
 | _=>match z.cells with
  | [c]=>c
  | _=>z
def B4y{y z:AV}{off:Nat}(h:off+z.cells.length<=y.cells.length)(h1:∀c∈z.cells,c.one=true)(hy:(∀cs,y≠.agg cs)->z.cells.length=1):(B9v y off z).cells=A0h y.cells off z.cells:=by
 have other:∀y:AV,y.cells=[y]->(∀cs,y≠.agg cs)->off+z.cells.length<=y.cells.length->z.cells.length=1->(match z.cells with|[c]=>c|_=>z).cells=A0h y.cells off z.cells:=by
  intro y hyc _ hl h2;rw[hyc] at hl ⊢;simp only[List.length_singleton] at hl;obtain⟨c,hc⟩:=List.length_eq_one_iff.1 h2;have ho:off=0:=by omega
  subst ho;have hc1:c.one=true:=h1 c (by rw[hc]; simp);simp only[hc,A0h,AV.one_cells hc1];simp
 cases y with
 | agg cs=>rfl
 | _=>exact other _ rfl (λcs h=>by cases h) h (hy λcs h=>by cases h)
section
variable {P:Program} {C:Cx P} {G:Gh} {bx:Nat->Option Bx} {w:World}
def C9A(P:Program)(C:Cx P)(x:Sem Unit)(G:Gh)(w:World)(bx':Nat->Option Bx):Prop :=
 ∃w' G',x.run P w = .ok () w'/\RS C G' bx' w'/\L4 G w G' w'/\(∀i,G'.used i->G.used i)
theorem B9w(hs:RS C G bx w){id i off:Nat}{v vz:Value}(h:RV G w (.ptr id i off) v){z:AV}(hz:RV G w z vz){b:Bx}(hb:bx id=some b){y:AV}(hy:b.xs[i]?=some y)(hro:b.ro=false)(hfr:b.frz=false)
  {n:Nat} (hn:z.cells.length=n) (hle:off+n<=y.cells.length) (h1:∀c∈z.cells,c.one=true) (h2:(∀cs,y≠.agg cs)->n=1) {t:TypeId} (hi:(P.info? t).map (·.size)=some n) :
  C9A P C (Instr.storeAt t v vz) G w (T6 bx id (some { b with xs:=b.xs.set i (B9v y off z) })):=by
 subst hn;obtain⟨blk,s,cur,e,k1,k2,k3,⟨k4,k5⟩,k6,k7⟩:=hs.box id b hb (hs.lies hb hy);cases h with|ptr _ _ _ _ ho hu hbm =>
 have hv:=hbm blk s k1;subst hv;obtain⟨hzl,hzr⟩:=Q7 hz;have hil:i<b.xs.length:=(ze.1 hy).1;have hys:y.cells.length=s:=(k6 i y hy).1;have hfit:i*s+off+0+vz.cells.toList.length<=cur.size:=by
  have:i*s+s<=b.xs.length*s:=by rw[←ub]; exact yr _ hil
  have hlen:vz.cells.toList.length=z.cells.length:=by simp[hzl]
  omega
 have hone:∀u∈vz.cells.toList,u.oneCell'=true:=λu hu=>by
  obtain⟨j,hj⟩:=uw hu;have hjl:j<z.cells.length:=by rw[hzl]; have:=(ze.1 hj).1; simpa using this
  have hc:=zc hjl;obtain⟨u',g1,g2⟩:=(Q7 hz).get hc;have:u=u':=by
   rw[yx,g1] at hj;injection hj with hj
   exact hj.symm
  subst this;exact g2.oneCell (h1 _ (List.getElem_mem hjl))
 have hrun:=run_storeCells_at P blk (i*s+off) e vz.cells.toList 0 cur w k2 hfit hone;simp only[vp] at hrun;have hlen:vz.cells.toList.length=z.cells.length:=by simp[hzl]
 have hget:∀k,(cur.toList.take (i*s+off)++vz.cells.toList++cur.toList.drop (i*s+off+vz.cells.toList.length)).toArray[k]?=if i*s+off<=k/\k<i*s+off+z.cells.length then vz.cells[k - (i*s+off)]? else cur[k]?:=λk=>by
  rw[wb,ym,hlen];have hcs:(cur.toList.take (i*s+off)).length=i*s+off:=by rw[zy,yz]; omega
  by_cases q1:k<i*s+off
  ·rw[zf o_,yh o_,zz,zj q1,yx]
  ·rw[yl o_,hcs];by_cases q2:k<i*s+off+z.cells.length
   ·rw[zj ⟨o_,q2⟩,yh o_,yx]
   ·rw[zf o_,yl o_,yf,yx];congr 1; omega
 obtain⟨r1,r2⟩:=hs.setRow (cur':=(cur.toList.take (i*s+off)++vz.cells.toList++cur.toList.drop (i*s+off+vz.cells.toList.length)).toArray) hb k1 hro hfr k2 (by
  rw[yo,zu,zu,zy,ya,yz]; omega) (b.xs.set i (B9v y off z)) s_ (λk q hq=>by
  have hmc:=B4y (z:=z) hle h1 h2;rw[uq] at hq;split at hq
  ·rename_i hik;subst hik;injection hq with hq
   subst hq;rw[hmc,A4W hle];refine⟨hys,λj c hc=>?_⟩;rw[A4f hle] at hc;by_cases hj:off<=j/\j<off+z.cells.length
   ·rw[zj hj] at hc;obtain⟨u,g1,g2⟩:=(Q7 hz).get hc;refine⟨u,?_,g2⟩;rw[hget,zj o_,show i*s+j - (i*s+off)=j - off by omega];exact g1
   ·rw[zf hj] at hc;obtain⟨u,g1,g2⟩:=(k6 i y hy).2 j c hc;refine⟨u,?_,g2⟩;rw[hget,zf o_];exact g1
  ·rename_i hik;obtain⟨g0,g1⟩:=k6 k q hq;refine⟨g0,λj c hc=>?_⟩;obtain⟨u,g2,g3⟩:=g1 j c hc;refine⟨u,?_,g3⟩;have hjs:j<s:=(by rw[←g0]; exact (ze.1 hc).1);rw[hget,zf]
   ·exact g2
   ·intro ⟨q1,q2⟩;rcases Nat.lt_or_gt_of_ne hik with hlt|hgt
    ·have:(i+1)*s<=k*s:=yr _ hlt;rw[ub] at this;omega
    ·have:(k+1)*s<=i*s:=yr _ hgt;rw[ub] at this;omega)
 refine⟨_,G,?_,r1,r2,λ_ h=>h⟩;simp only[Instr.storeAt,Instr.sureAddr,Sem.run_bind,Sem.run_pure,Result.andThen_ok,storeVar,R9 hi];rw[zf (by rw[←hzl]; simp)];exact hrun
end
def p5(xs:List AV):List (Nat×AV)->List AV
 | []=>xs
 | (i,x)::r=>p5 (xs.set i x) r
def A4Y(len s:Nat):List (Nat×AV)->Prop
 | []=>True
 | (i,x)::r=>i<len/\x.cells.length=s/\A4Y len s r
def A6E:AV->UInt8
 | .int _ n=>UInt8.ofNat n.toNat
 | _=>0
def A5C:AV->Bool
 | .int .u8 _=>true
 | _=>false
section
variable {P:Program} {C:Cx P} {G:Gh} {bx:Nat->Option Bx} {w:World}
theorem A20:∀(ps:List (Nat×AV)) (xs:List AV),(p5 xs ps).length=xs.length
 | [],_=>rfl
 | (i,x)::r,xs=>by simp[p5,A20 r]
theorem A5D{s:Nat}:∀(ps:List (Nat×AV)) (xs:List AV),A4Y xs.length s ps->(∀y∈xs,y.cells.length=s)->∀y∈p5 xs ps,y.cells.length=s
 | [],_,_,h,y,hy=>h y hy
 | (i,x)::r,xs,ho,h,y,hy=>by
  refine A5D r (xs.set i x) (v_ ho.2.2) (λz hz=>?_) y hy;rcases vt hz with h1|h1
  ·exact h z h1
  ·subst h1; exact ho.2.1
theorem B9x{s:Nat}{xs:List AV}(h:∀y∈xs,y.cells.length=s){i:Nat}(hi:i<xs.length){x:AV}(hx:x.cells.length=s):A0h (flat xs) (i*s) x.cells=flat (xs.set i x):=by
 have hle:i*s+x.cells.length<=(flat xs).length:=by
  rw[R3 h,hx,←ub]; exact yr _ hi
 have hset:∀y∈xs.set i x,y.cells.length=s:=λy hy=>by
  rcases vt hy with h1|h1
  ·exact h y h1
  ·subst h1; exact hx
 apply List.ext_getElem?;intro k;rw[A4f hle];rcases yd k (xs.length*s) with hk|hk
 ·have hs0:0<s:=by
   rcases uj s with h0|h0
   ·subst h0; simp at hk
   ·exact h0
  have hkd:k=(k / s)*s+k % s:=by rw[qp]; exact (Nat.div_add_mod k s).symm
  have hm:k % s<s:=Nat.mod_lt _ hs0;have hq:k / s<xs.length:=Nat.div_lt_of_lt_mul (by rw[qp]; exact hk);generalize k / s=q at *;generalize k % s=m at *;subst hkd;rw[A5B hset q m ((xs.set i x)[q]'(v_ hq)) (zc _) hm,A5B h q m xs[q] (zc _) hm];rw[List.getElem_set];by_cases hiq:i=q
  ·subst hiq;rw[zj rfl,zj o_];congr 1; omega
  ·rw[zf hiq,zf];intro ⟨h1,h2⟩;rcases Nat.lt_or_gt_of_ne hiq with hlt|hgt
   ·have:(i+1)*s<=q*s:=yr _ hlt;rw[ub] at this;omega
   ·have:(q+1)*s<=i*s:=yr _ hgt;rw[ub] at this;omega
 ·rw[zf (by rw[R3 h] at hle; omega),wu (by rw[R3 h]; exact hk),wu (by rw[R3 hset]; simpa using hk)]
theorem A85{s:Nat}:∀(ps:List (Nat×AV)) (xs:List AV),(∀y∈xs,y.cells.length=s)->A4Y xs.length s ps->A3M (flat xs) (ps.map λp=>(p.1*s,s,p.2))=some (flat (p5 xs ps))
 | [],_,_,_=>rfl
 | (i,x)::r,xs,h,ho=>by
  obtain⟨h1,h2,h3⟩:=ho;have hle:i*s+s<=(flat xs).length:=by rw[R3 h,←ub]; exact yr _ h1
  simp only[yg,A3M,h2,hle,and_self,if_true,p5];rw[B9x h h1 h2];refine A85 r _ (λy hy=>?_) (v_ h3);rcases vt hy with h4|h4
  ·exact h y h4
  ·subst h4; exact h2
theorem A5E{s:Nat}{xs:List AV}{cur:Array Value}(h:∀y∈xs,y.cells.length=s)(hf:∀(k:Nat) z,(flat xs)[k]?=some z->∃u,cur[k]?=some u/\RV G w z u):A03 G w s xs cur:=λi y hy =>
 ⟨h y (zg hy),λj z hz=>hf _ z (by
  rw[A5B h i j y hy]
  ·exact hz
  ·rw[←h y (zg hy)]; exact (ze.1 hz).1)⟩
theorem A3N{s:Nat}{z:AV}{v:Value}(hz:RV G w z v)(hs:z.cells.length=s)(n m:Nat)(hnm:n<=m):∀(k:Nat) c,(flat (List.replicate n z))[k]?=some c->∃u,(madeCells v.cells (m*s))[k]?=some u/\RV G w c u:=by
 intro k c hc;have hall:∀y∈List.replicate n z,y.cells.length=s:=λy hy=>by rw[(tq.1 hy).2]; exact hs
 obtain⟨i,j,y,h1,h2,h3,h4⟩:=A5A hall k c hc;have hy:y=z:=(tq.1 (zg h3)).2;have hi:i<n:=by have:=(ze.1 h3).1; simpa using this
 subst hy h1;obtain⟨u,g1,g2⟩:=(Q7 hz).get h4;have hsz:v.cells.size=s:=by rw[←(Q7 hz).1]; exact hs
 have hlt:i*s+j<m*s:=by
  have:(i+1)*s<=m*s:=yr _ o_;rw[ub] at this;omega
 refine⟨u,?_,g2⟩;have hm:(i*s+j) % s=j:=by rw[qq,Nat.add_mul_mod_self_right]; exact rq h2
 have hg:v.cells[j]! = u:=by rw[getElem!_def,g1]
 simp[madeCells,hlt,hsz,hm,hg]
theorem A5F{t:TypeId}{z:Value}(hz:(P.info? t).map (·.zero)=some (some z)):(zeroValue t).run P w = .ok z w:=by
 obtain⟨i,h1,h2⟩:=zn.1 hz;simp[zeroValue,typeInfo,h1,h2]
theorem A9u(hs:RS C G bx w){id:Nat}(hu:¬G.used id){t e:TypeId}(ht:P.underlying t=some (.slice e)){s:Nat}(hi:(P.info? e).map (·.size)=some s){zv:Value}(hz:(P.info? e).map (·.zero)=some (some zv)){z:AV}(hzv:RV G w z zv)(hzs:z.cells.length=s)
  {len:Nat} (hlen:len*s<=16777216) (hm:len<=maxLen) {ps:List (Nat×AV)} (ho:A4Y len s ps) {vs:Array (Nat×Value)} (hl:ps.length=vs.size) (hp:∀(i:Nat) p q,ps[i]?=some p->vs[i]?=some q->p.1=q.1/\RV G w p.2 q.2) :
  Made P C (Instr.buildSlice t len vs) G w id (.bsl id 0 len) (T6 bx id (some ⟨p5 (List.replicate len z) ps,z,false,false⟩)):=by
 have hall:∀y∈List.replicate len z,y.cells.length=s:=λy hy=>by rw[(tq.1 hy).2]; exact hzs
 have ho':A4Y (List.replicate len z).length s ps:=by simpa using ho
 have hzsz:zv.cells.size=s:=by rw[←(Q7 hzv).1]; exact hzs
 have hrow:RVs G w (flat (List.replicate len z)) (madeCells zv.cells (len*s)):=by
  refine RVs.of_get (by rw[R3 hall,size_madeCells]; simp) λk c u hc hu'=>?_;obtain⟨u',h1,h2⟩:=A3N hzv hzs len len (zx _) k c hc;rw[h1] at hu';injection hu' with hu'
  subst hu';exact h2
 obtain⟨us,hfill,hus⟩:=B1A (G:=G) (w:=w) (λi=>some (i*s,s)) (ps.map λp=>(p.1*s,s,p.2)) vs.toList _ _ _ hrow (A85 ps _ hall ho') (v_ hl) λi p q hpi hq=>by
  rw[yj,zn] at hpi;obtain⟨p',h1,rfl⟩:=hpi;obtain⟨h2,h3⟩:=hp i p' q h1 (v_ hq);exact⟨by rw[h2],h3⟩
 have hsz:∀y∈p5 (List.replicate len z) ps,y.cells.length=s:=A5D ps _ ho' hall;have hussz:us.size=len*s:=by rw[←hus.1,R3 hsz,A20]; simp
 obtain⟨r1,r2⟩:=hs.alloc hu (s:=s) (p5 (List.replicate len z) ps) us e (by rw[A20,hussz]; simp) (A5E hsz λk c hc=>hus.get hc) z hzs;refine⟨.slice (some ⟨w.heap.size,0,none⟩) len len,_,_,?_,r1,r2,.bsl id 0 len _ rfl (.inl rfl) (λb s' hb=>?_) λhn=>(hu (hs.nlu id hn).1).elim,λi hi=>hi.elim .inr .inl⟩
 ·have hgt:¬(len*s>2 ^ 24):=by omega
  by_cases h0:len*s=0
  ·have e1:∀z':Array Value,(Array.range (len*s)).map (z'[· % z'.size]!)=madeCells zv.cells (len*s):=λz'=>by simp[h0,madeCells]
   simp only[Instr.buildSlice,Sem.run_bind,run_underlying ht,Result.andThen_ok,R9 hi,zf hgt,zj h0,Sem.run_pure,e1,hfill,newRow,run_newObj];rfl
  ·have e1:(Array.range (len*s)).map (zv.cells[· % zv.cells.size]!)=madeCells zv.cells (len*s):=rfl;simp only[Instr.buildSlice,Sem.run_bind,run_underlying ht,Result.andThen_ok,R9 hi,zf hgt,zf h0,Sem.run_pure,A5F hz,e1,hfill,newRow,run_newObj];rfl
 ·simp only[Gh.name,C7,zd,zh] at hb;obtain⟨rfl,rfl⟩:=hb;exact⟨len,us,e,s_,zx _,hm,heap_alloc_new w _,by rw[hussz]; simp⟩
theorem C63(hs:RS C G bx w){id:Nat}(hu:¬G.used id){t e:TypeId}(ht:P.underlying t=some (.slice e)){i:TypeInfo}(hi:P.info? e=some i){zv:Value}(hz:i.zero=some zv){z:AV}(hzv:RV G w z zv){s bytes:Nat}(his:i.size=s)(hib:i.bytes=bytes)(hzs:z.cells.length=s)
  {kl kc:IntKind} {l c:Int} (h0:0<=l) (hlc:l<=c) (hbytes:(bytes:Int)*c<=281474976710656) (h63:c<=9223372036854775807) :
  Made P C (Instr.makeSlice t (.int kl l) (.int kc c)) G w id (.bsl id 0 l.toNat) (T6 bx id (some ⟨List.replicate l.toNat z,z,false,false⟩)):=by
 subst his hib;have hall:∀y∈List.replicate l.toNat z,y.cells.length=i.size:=λy hy=>by rw[(tq.1 hy).2]; exact hzs
 have hrun:=run_make (P:=P) w t e i zv ht hi hz kl kc l c h0 hlc hbytes h63;obtain⟨r1,r2⟩:=hs.alloc hu (s:=i.size) (List.replicate l.toNat z) (madeCells zv.cells (c.toNat*i.size)) e (by rw[size_madeCells]; simp only[List.length_replicate]; exact yr _ o_) (A5E hall (A3N hzv hzs _ _ o_)) z hzs;refine⟨_,_,_,hrun,r1,r2,.bsl id 0 _ _ rfl (.inl rfl) (λb s' hb=>?_) λhn=>(hu (hs.nlu id hn).1).elim,λi hi=>hi.elim .inr .inl⟩;simp only[Gh.name,C7,zd,zh] at hb;obtain⟨rfl,rfl⟩:=hb;exact⟨c.toNat,_,e,s_,o_,by simp only[maxLen]; omega,heap_alloc_new w _,by rw[size_madeCells]; simp⟩
theorem B9y(hs:RS C G bx w){id:Nat}(hu:¬G.used id){t:TypeId}{zv:Value}(hz:(P.info? t).map (·.zero)=some (some zv)){z:AV}(hzv:RV G w z zv):
  Made P C (Instr.alloc t true (.tuple #[])) G w id (.ptr id 0 0) (T6 bx id (some ⟨[z],z,false,false⟩)):=by
 obtain⟨v,w',G',h1,h2⟩:=A9t (P:=P) hs hu hzv t;refine⟨v,w',G',?_,h2⟩;simp only[Instr.alloc,Sem.run_bind,A5F hz,Result.andThen_ok];exact h1
theorem B4z(hs:RS C G bx w){l:List UInt8}{src dst e:TypeId}(h1:P.underlying src=some .string)(h2:P.underlying dst=some (.slice e))(h3:P.underlying e=some (.int .u8))(hl:l.length<=9223372036854775807)(id:Nat):
  Made P C (convert src dst (.string ⟨⟨l⟩⟩)) G w id (.sl (l.map λb=>.int .u8 b.toNat)) bx:=by
 have hrun:=run_bytes_of_string (P:=P) w src dst e ⟨⟨l⟩⟩ h1 h2 h3;have hsz:ByteArray.size ⟨⟨l⟩⟩=l.length:=rfl;rw[hsz] at hrun;have hcap:=grownCap_ge w l.length 0 e;have hcm:=grownCap_le_maxLen w l.length 0 e (by simp only[maxLen]; omega);generalize hc:grownCap w l.length 0 e=c at *;obtain⟨q1,q2⟩:=hs.drew;obtain⟨r1,r2⟩:=q1.allocAny (.cells (bytesRow ⟨⟨l⟩⟩ c) e ((bytesRow ⟨⟨l⟩⟩ c).size,(bytesRow ⟨⟨l⟩⟩ c).size+1));generalize hw:w.drew.alloc (.cells (bytesRow ⟨⟨l⟩⟩ c) e ((bytesRow ⟨⟨l⟩⟩ c).size,(bytesRow ⟨⟨l⟩⟩ c).size+1))=w' at *;have hnew:w'.heap[w.heap.size]?=some (.cells (bytesRow ⟨⟨l⟩⟩ c) e ((bytesRow ⟨⟨l⟩⟩ c).size,(bytesRow ⟨⟨l⟩⟩ c).size+1)):=by rw[←hw]; exact heap_alloc_new w.drew _
 have hcell:∀i b,l[i]?=some b->w'.cell? ⟨w.heap.size,i,none⟩=some (.int .u8 b.toNat):=λi b hb=>by
  rw[E4 hnew];have hil:i<l.length:=(ze.1 hb).1;have hb':=(ze.1 hb).2;simp[bytesRow,hil,Array.getElem?_append,hb']
 have hlt:∀b o,G.fz b o->b<w.heap.size:=λb o hf=>let ⟨u,hu⟩:=hs.fzok b o hf; Y9 hu;let G':Gh:={ G with fz:=λb o=>G.fz b o\/(b=w.heap.size/\o<l.length) }
 have ev:L4 G w G' w':=⟨λ_ _ h=>.inl h,λa ha=>(q2.trans r2).cell a ha,λ_ h=>h,λ_ _=>.inl rfl,λ_ _ h=>h,(q2.trans r2).row⟩;refine⟨_,w',G',hrun,⟨r1.below,r1.size,λb o hf=>?_,λb o hf hb=>?_,λi x hx hn=>?_,r1.nil,r1.nlu,r1.used,r1.inj,r1.rows⟩,ev,?_,λ_ h=>.inl h⟩
 ·rcases hf with hf|⟨rfl,ho⟩
  ·exact r1.fzok b o hf
  ·exact⟨_,hcell o _ (zc ho)⟩
 ·rcases hf with hf|⟨rfl,ho⟩
  ·exact r1.fzold b o hf hb
  ·have:=hs.size; omega
 ·obtain⟨b,s,cur,e',g1,g2,g3,g4,g5,g6,g7⟩:=r1.box i x hx hn;have hbl:b≠w.heap.size:=λh=>by have:=hs.rows i b s g1; omega
  have evG:L4 G w' G' w':=⟨λ_ _ h=>.inl h,λ_ _=>rfl,λ_ h=>h,λ_ _=>.inl rfl,λ_ _ h=>h,λ_ _ _ _ _ cur _ h=>⟨cur,h,rfl⟩⟩;exact⟨b,s,cur,e',g1,g2,g3,g4,g5.mono evG,λhf o ho=>ho.elim (g6 hf o) λh=>hbl h.1,λo ho=>ho.elim (g7 o) λh=>(hbl h.1).elim⟩
 ·have:=RV.sl (G:=G') (w:=w') (l.map λb=>AV.int .u8 b.toNat) (some ⟨w.heap.size,0,none⟩) c 1 (λi _=>.int .u8 (l.getD i 0).toNat) (v_ hcap) hcm (λh=>by cases h) (λi x hx=>by
    rw[yj,zn] at hx; obtain⟨b,_,rfl⟩:=hx; rfl)
   (λa i x j y ha hx hy=>by
    injection ha with ha; subst ha
    rw[yj,zn] at hx; obtain⟨b,hb,rfl⟩:=hx;have hil:i<l.length:=(ze.1 hb).1;have hj:j=0:=(by have:=(ze.1 hy).1; simp[AV.cells] at this; omega);subst hj;exact .inr ⟨rfl,v_ hil⟩)
   (λa i x j y ha hx hy=>by
    injection ha with ha; subst ha
    rw[yj,zn] at hx; obtain⟨b,hb,rfl⟩:=hx;have hj:j=0:=(by have:=(ze.1 hy).1; simp[AV.cells] at this; omega);subst hj;rw[Addr.add_lit,Nat.mul_one,vp,yy,hcell i b hb];simp[List.getD,hb])
   (λi x j y hx hy=>by
    rw[yj,zn] at hx; obtain⟨b,hb,rfl⟩:=hx;have hj:j=0:=(by have:=(ze.1 hy).1; simp[AV.cells] at this; omega);subst hj;simp[AV.cells] at hy;subst hy;simp only[List.getD,hb,vh];exact .int _ _)
  simpa using this
end
def Bx.el(b:Bx)(i:Nat):AV:=b.xs.getD i b.d
def A1O(bx:Nat->Option Bx):AV->Option (Prop×List AV×List (Nat×Bx))
 | .cptr cs=>some (True,cs,[])
 | .ptr id i off=>match bx id with
  | some b=>some (i<b.xs.length/\off<=(b.el i).cells.length,(b.el i).cells.drop off,[(id,b)])
  | none=>none
 | _=>none
def A21(bx:Nat->Option Bx)(off:Nat):AV->Option (Prop×AV×List (Nat×Bx))
 | .cptr cs=>some (True,.cptr (cs.drop off),[])
 | .ptr id i o=>match bx id with
  | some b=>some (i<b.xs.length,.ptr id i (o+off),[(id,b)])
  | none=>none
 | _=>none
def A2k(s:Nat)(z:AV)(bx:Nat->Option Bx):AV->AV->Option (Prop×AV×List (Nat×Bx))
 | .sl xs,.int _ n=>some (0<=n/\n.toNat<xs.length/\(xs.getD n.toNat z).cells.length=s,.cptr (xs.getD n.toNat z).cells,[])
 | .bsl id off len,.int _ n=>match bx id with
  | some b=>some (0<=n/\n<len/\b.sz=s,.ptr id (off+n.toNat) 0,[(id,b)])
  | none=>none
 | _,_=>none
def B1B(n s:Nat)(bx:Nat->Option Bx):AV->AV->Option (Prop×AV×List (Nat×Bx))
 | x,.int _ m=>match A21 bx (m.toNat*s) x with
  | some (p,r,rd)=>some (p/\0<=m/\m<n,r,rd)
  | none=>none
 | _,_=>none
def B1C(bx:Nat->Option Bx):AV->Option (AV×List (Nat×Bx))
 | .str s=>some (.int .i64 s.length,[])
 | .nils=>some (.int .i64 0,[])
 | .sl xs=>some (.int .i64 xs.length,[])
 | .bsl id _ len=>match bx id with|some b=>some (.int .i64 len,[(id,b)])|none=>none
 | _=>none
def hiT(hi:Nat):Option AV->Option (Prop×Nat)
 | none=>some (True,hi)
 | some (.int _ n)=>some (0<=n/\n<=hi,n.toNat)
 | _=>none
def loT(h:Nat):Option AV->Option (Prop×Nat)
 | none=>some (True,0)
 | some (.int _ n)=>some (0<=n/\n<=h,n.toNat)
 | _=>none
def A0i(bx:Nat->Option Bx):AV->Option (Prop×List AV×List (Nat×Bx))
 | .nils=>some (True,[],[])
 | .sl xs=>some (True,xs,[])
 | .str s=>some (True,s.map λb=>.int .u8 b.toNat,[])
 | .bsl id off len=>match bx id with
  | some b=>some (off+len<=b.xs.length,(b.xs.drop off).take len,[(id,b)])
  | none=>none
 | _=>none
def C64(op:BinOp)(k:IntKind)(a b:Int):Option (Prop×AV) :=
 match op with
 | .add=>some (True,.int k (k.wrap (a+b)))
 | .sub=>some (True,.int k (k.wrap (a - b)))
 | .mul=>some (True,.int k (k.wrap (a*b)))
 | .quo=>some (b≠0,.int k (k.wrap (a.tdiv b)))
 | .rem=>some (b≠0,.int k (a.tmod b))
 | .and=>some (True,.int k (bits .and k a b))
 | .or=>some (True,.int k (bits .or k a b))
 | .eql=>some (True,.bool (a==b))
 | .neq=>some (True,.bool (a != b))
 | .lss=>some (True,.bool (decide (a<b)))
 | .leq=>some (True,.bool (decide (a<=b)))
 | .gtr=>some (True,.bool (decide (a>b)))
 | .geq=>some (True,.bool (decide (a>=b)))
 | _=>none
def U5(op:BinOp)(eqs:Option (List Nat))(x y:AV):Option (Prop×AV) :=
 match x,y with
 | .int k a,.int k' b =>
  match op with
  | .shl=>some (0<=b/\b<=k.bits,.int k (k.wrap (a*2 ^ b.toNat)))
  | .shr=>some (0<=b/\b<=k.bits,.int k (a / 2 ^ b.toNat))
  | _=>if k=k' then C64 op k a b else none
 | .str a,.str b =>
  match op with
  | .add=>some (a.length+b.length<=9223372036854775807,.str (a++b))
  | .eql=>some (True,.bool (a==b))
  | .neq=>some (True,.bool (!(a==b)))
  | _=>none
 | .bool a,.bool b =>
  match op,eqs with
  | .eql,some [9]=>some (True,.bool (a==b))
  | .neq,some [9]=>some (True,.bool (!(a==b)))
  | _,_=>none
 | .agg xs,.agg ys =>
  match op,eqs with
  | .eql,some ks=>match A0Q ks xs ys with|some b=>some (True,.bool b)|none=>none
  | .neq,some ks=>match A0Q ks xs ys with|some b=>some (True,.bool (!b))|none=>none
  | _,_=>none
 | .nils,.nils =>
  match op,eqs with
  | .eql,some [8]=>some (True,.bool true)
  | .neq,some [8]=>some (True,.bool false)
  | _,_=>none
 | .sl (_::_),.nils =>
  match op,eqs with
  | .eql,some [8]=>some (True,.bool false)
  | .neq,some [8]=>some (True,.bool true)
  | _,_=>none
 | .nili,.nili =>
  match op,eqs with
  | .eql,some [7]=>some (True,.bool true)
  | .neq,some [7]=>some (True,.bool false)
  | _,_=>none
 | .iface _ _,.nili =>
  match op,eqs with
  | .eql,some [7]=>some (True,.bool false)
  | .neq,some [7]=>some (True,.bool true)
  | _,_=>none
 | _,_=>none
def C65(bx:Nat->Option Bx):AV->AV
 | .bsl id off len=>match bx id with
  | some b=>.sl ((b.xs.drop off).take len)
  | none=>.bsl id off len
 | v=>v
def rsv(bx:Nat->Option Bx):AV->AV
 | .agg cs=>.agg (cs.map (C65 bx))
 | .bsl id off len=>C65 bx (.bsl id off len)
 | v=>v
def B2s(d:AV)(bytes:Nat)(bx:Nat->Option Bx)(id:Nat)(x:AV)(ys:List AV):Option (Prop×Rs) :=
 match x with
 | .nils=>some (ys.length*bytes<=140737488355328/\ys.length<=9223372036854775807,⟨.bsl id 0 ys.length,[],[(id,some ⟨ys,d,false,false⟩)]⟩)
 | .bsl i0 off n=>match bx i0 with
  | some b=>some ((off=0/\n=b.xs.length/\b.sz=d.cells.length/\b.ro=false)/\(n+ys.length)*bytes<=140737488355328/\n+ys.length<=9223372036854775807,
    ⟨.bsl id 0 (n+ys.length),[(i0,b)],[(i0,none),(id,some ⟨b.xs++ys,d,false,b.frz⟩)]⟩)
  | none=>none
 | _=>none
section
variable {P:Program} {C:Cx P} {G:Gh} {bx:Nat->Option Bx} {w:World}
theorem A7d{b:Bx}{i:Nat}(h:i<b.xs.length):b.xs[i]?=some (b.el i):=by
 simp[Bx.el,List.getD,zc h]
theorem A5G{x:AV}{p:Prop}{cs:List AV}{rd:List (Nat×Bx)}(h:A1O bx x=some (p,cs,rd))(hp:p):A2F bx x=some (cs,rd):=by
 unfold A1O at h;split at h
 ·simp only[zd,zh] at h;obtain⟨_,rfl,rfl⟩:=h;rfl
 ·split at h
  ·rename_i b hb;simp only[zd,zh] at h;obtain⟨rfl,rfl,rfl⟩:=h;simp only[A2F,hb,A7d hp.1,zj hp.2]
  ·cases h
 ·cases h
theorem A9v{off:Nat}{x r:AV}{p:Prop}{rd:List (Nat×Bx)}(h:A21 bx off x=some (p,r,rd))(hp:p):A1m bx off x=some r:=by
 unfold A21 at h;split at h
 ·simp only[zd,zh] at h;obtain⟨_,rfl,rfl⟩:=h;rfl
 ·split at h
  ·rename_i b hb;simp only[zd,zh] at h;obtain⟨rfl,rfl,rfl⟩:=h;simp only[A1m,hb,A7d hp]
  ·cases h
 ·cases h
theorem C3Y{x r:AV}{rd:List (Nat×Bx)}(h:B1C bx x=some (r,rd)):A1N bx x=some r:=by
 unfold B1C at h;unfold A1N;split at h<;>first
  | (simp only[zd,zh] at h; obtain⟨rfl,rfl⟩:=h; rfl)
  | (split at h
     ·rename_i b hb;simp only[zd,zh] at h; obtain⟨rfl,rfl⟩:=h; simp only[hb]
     ·cases h)
  | cases h
theorem B9z{hi m:Nat}{o:Option AV}{p:Prop}(h:hiT hi o=some (p,m))(hp:p):A80 hi o=some m:=by
 unfold hiT at h;split at h<;>simp only[zd,zh,reduceCtorEq] at h
 ·obtain⟨_,rfl⟩:=h; rfl
 ·obtain⟨rfl,rfl⟩:=h; simp only[A80,zj hp]
theorem C00{hi m:Nat}{o:Option AV}{p:Prop}(h:loT hi o=some (p,m))(hp:p):A4e hi o=some m:=by
 unfold loT at h;split at h<;>simp only[zd,zh,reduceCtorEq] at h
 ·obtain⟨_,rfl⟩:=h; rfl
 ·obtain⟨rfl,rfl⟩:=h; simp only[A4e,zj hp]
theorem A9w{x:AV}{p:Prop}{ys:List AV}{rd:List (Nat×Bx)}(h:A0i bx x=some (p,ys,rd))(hp:p):elems bx x=some ys:=by
 unfold A0i at h;unfold elems;split at h<;>first
  | (simp only[zd,zh] at h; obtain⟨_,rfl,_⟩:=h; rfl)
  | (split at h
     ·rename_i b hb;simp only[zd,zh] at h; obtain⟨rfl,rfl,rfl⟩:=h; simp only[hb,zj hp]
     ·cases h)
  | cases h
theorem C3Z{op:BinOp}{eqs:Option (List Nat)}{x y r:AV}{p:Prop}(h:U5 op eqs x y=some (p,r))(hp:p)(hx:∀xs,x≠.agg xs)(hn:y≠.nils)(hn7:y≠.nili):B6Q op x y=some r:=by
 unfold U5 at h;unfold B6Q;split at h
 ·split at h
  ·simp only[zd,zh] at h; obtain⟨rfl,rfl⟩:=h; simp only[zj hp]
  ·simp only[zd,zh] at h; obtain⟨rfl,rfl⟩:=h; simp only[zj hp]
  ·split at h
   ·rename_i hk;simp only[zj hk];unfold C64 at h;unfold C5x;split at h<;>first
     | (simp only[zd,zh] at h; obtain⟨_,rfl⟩:=h; rfl)
     | (simp only[zd,zh] at h; obtain⟨rfl,rfl⟩:=h; simp only[zf hp])
     | cases h
   ·cases h
 ·split at h<;>first
   | (simp only[zd,zh] at h; obtain⟨rfl,rfl⟩:=h; simp only[zj hp])
   | (simp only[zd,zh] at h; obtain⟨_,rfl⟩:=h; rfl)
   | cases h
 ·split at h<;>first
   | (simp only[zd,zh] at h; obtain⟨_,rfl⟩:=h; rfl)
   | cases h
 ·exact (hx _ rfl).elim
 ·exact (hn rfl).elim
 ·exact (hn rfl).elim
 ·exact (hn7 rfl).elim
 ·exact (hn7 rfl).elim
 ·cases h
end
def Gh.keep(G:Gh)(b n:Nat):Gh:={ G with fz:=λb' o=>G.fz b' o\/(b'=b/\o<n) }
section
variable {P:Program} {C:Cx P} {G:Gh} {bx:Nat->Option Bx} {w:World}
theorem L4.keep(b n:Nat):L4 G w (G.keep b n) w:=⟨λ_ _ h=>.inl h,λ_ _=>rfl,λ_ h=>h,λ_ _=>.inl rfl,λ_ _ h=>h,λ_ _ _ _ _ cur _ h=>⟨cur,h,rfl⟩⟩
theorem RS.freeze(hs:RS C G bx w){id:Nat}{x:Bx}(hx:bx id=some x)(hro:x.ro=false):
  ∃G',RS C G' (T6 bx id (some { x with frz:=true })) w/\L4 G w G' w/\(∀i,G'.used i->G.used i) /\
   ∀off len v,off+len<=x.xs.length->RV G w (.bsl id off len) v->RV G' w (.sl ((x.xs.drop off).take len)) v:=by
 by_cases hn:G.nl id
 ·have h0:=(hs.nil id x hx hn).1;refine⟨G,⟨hs.below,hs.size,hs.fzok,hs.fzold,λi y hy hn'=>?_,λi y hy hn'=>?_,hs.nlu,hs.used,hs.inj,hs.rows⟩,L4.refl G w,λ_ h=>h,λoff len v hle h=>?_⟩
  ·have hi:i≠id:=λhi=>hn' (hi▸hn);rw[B6 _ _ _ hi] at hy;exact hs.box i y hy hn'
  ·by_cases hi:i=id
   ·subst hi;rw[C7] at hy;injection hy with hy
    subst hy;exact⟨h0,hro⟩
   ·rw[B6 _ _ _ hi] at hy;exact hs.nil i y hy hn'
  ·cases h with|bsl _ _ _ _ _ _ _ hnl =>
   obtain⟨rfl,_,rfl⟩:=hnl hn;simp only[List.take_zero];exact .sl [] none 0 0 (λ_ _=>undef) (zx _) (by simp[maxLen]) (λ_=>⟨rfl,rfl⟩) (λi x hi=>by simp at hi) (λa i x j y _ hi=>by simp at hi) (λa i x j y _ hi=>by simp at hi) (λi x j y hi=>by simp at hi)
 ·obtain⟨b,s,cur,e,h1,h2,h3,⟨h4,h5⟩,h6,h7,h8⟩:=hs.box id x hx hn;have hB:=h3 hro;have ev:L4 G w (G.keep b (x.xs.length*s)) w:=L4.keep b _;refine⟨G.keep b (x.xs.length*s),⟨hs.below,hs.size,λb' o hf=>?_,λb' o hf hb=>?_,λi y hy hn'=>?_,λi y hy hn'=>?_,hs.nlu,hs.used,hs.inj,hs.rows⟩,ev,λ_ h=>h,λoff len v hle h=>?_⟩
  ·rcases hf with hf|⟨rfl,ho⟩
   ·exact hs.fzok b' o hf
   ·exact⟨_,by rw[E4 h2]; exact yb o_⟩
  ·rcases hf with hf|⟨rfl,ho⟩
   ·exact hs.fzold b' o hf hb
   ·omega
  ·by_cases hi:i=id
   ·subst hi;rw[C7] at hy;injection hy with hy
    subst hy;exact⟨b,s,cur,e,h1,h2,h3,⟨h4,h5⟩,h6.mono ev,λh=>(by cases h),λo ho=>ho.elim (h8 o) λh=>h.2⟩
   ·rw[B6 _ _ _ hi] at hy;obtain⟨b2,s2,cur2,e2,k1,k2,k3,k4,k5,k6,k7⟩:=hs.box i y hy hn';have hne:b2≠b:=λhbb=>hi (hs.inj i id b2 s2 s k1 (hbb▸h1));exact⟨b2,s2,cur2,e2,k1,k2,k3,k4,k5.mono ev,λhf o ho=>ho.elim (k6 hf o) λh=>hne h.1,λo ho=>ho.elim (k7 o) λh=>(hne h.1).elim⟩
  ·by_cases hi:i=id
   ·subst hi; exact (hn hn').elim
   ·rw[B6 _ _ _ hi] at hy;exact hs.nil i y hy hn'
  ·cases h with|bsl _ _ _ _ hone hu hbm hnl =>
   obtain⟨c,cur',e',hv,hlc,hcm,hh,hz⟩:=hbm b s h1;subst hv;have hlen:((x.xs.drop off).take len).length=len:=m_;have hg:∀i y,((x.xs.drop off).take len)[i]?=some y->x.xs[off+i]?=some y/\i<len:=λi y hi=>by
    rw[zz] at hi;split at hi
    ·rename_i hil;rw[yf] at hi;exact⟨hi,hil⟩
    ·cases hi
   have hcell:∀i y j z,x.xs[off+i]?=some y->y.cells[j]?=some z->∃u,w.cell? ⟨b,(off+i)*s+j,none⟩=some u/\RV (G.keep b (x.xs.length*s)) w z u:=λi y j z hi hj=>by
    obtain⟨u,g1,g2⟩:=(h6 _ y hi).2 j z hj;exact⟨u,by rw[E4 h2]; exact g1,g2.mono ev⟩
   have hx':∀ij:Nat×Nat,∃u,∀y z,x.xs[off+ij.1]?=some y->y.cells[ij.2]?=some z->w.cell? ⟨b,(off+ij.1)*s+ij.2,none⟩=some u/\RV (G.keep b (x.xs.length*s)) w z u:=λ⟨i,j⟩=>by
    cases hy:x.xs[off+i]? with
    | none=>exact⟨undef,λy z h=>by cases h⟩
    | some y =>
     cases hz':y.cells[j]? with
     | none=>exact⟨undef,λy' z h h'=>by injection h with h; subst h; rw[hz'] at h'; cases h'⟩
     | some z =>
      obtain⟨u,g⟩:=hcell i y j z hy hz';exact⟨u,λy' z' h h'=>by injection h with h; subst h; rw[hz'] at h'; injection h' with h'; subst h'; exact g⟩
   obtain⟨u,hu'⟩:=tp hx';have hsl:=RV.sl (G:=G.keep b (x.xs.length*s)) (w:=w) ((x.xs.drop off).take len) (some ⟨b,off*s,none⟩) c s (λi j=>u (i,j)) o_ hcm (λh=>by cases h) (λi y hi=>(h6 _ y (hg i y hi).1).1)
    (λa i y j z ha hi hj=>by
     injection ha with ha; subst ha
     obtain⟨g1,g2⟩:=hg i y hi;have hjs:j<s:=(by rw[←(h6 _ y g1).1]; exact (ze.1 hj).1);have:(off+i+1)*s<=x.xs.length*s:=yr _ o_;rw[ub,xp] at this;exact .inr ⟨rfl,by show off*s+(i*s+j)<_; omega⟩)
    (λa i y j z ha hi hj=>by
     injection ha with ha; subst ha
     obtain⟨g1,g2⟩:=hg i y hi;rw[Addr.add_lit,show off*s+(i*s+j)=(off+i)*s+j by rw[xp]; omega];exact (hu' (i,j) y z g1 hj).1)
    (λi y j z hi hj=>(hu' (i,j) y z (hg i y hi).1 hj).2)
   rwa [hlen] at hsl
end
def u7(bx:Nat->Option Bx):AV->Prop×AV×List (Nat×Bx)
 | .bsl id off len=>match bx id with
  | some b=>(off+len<=b.xs.length/\b.ro=false,.sl ((b.xs.drop off).take len),[(id,b)])
  | none=>(False,.nili,[])
 | v=>(True,v,[])
def A0R(bx:Nat->Option Bx):List AV->Prop×List AV×List (Nat×Bx)
 | []=>(True,[],[])
 | x::r=>((u7 bx x).1/\(A0R bx r).1,(u7 bx x).2.1::(A0R bx r).2.1,(u7 bx x).2.2++(A0R bx r).2.2)
def A22(bx:Nat->Option Bx):AV->Prop×AV×List (Nat×Bx)
 | .agg cs=>((A0R bx cs).1,.agg (A0R bx cs).2.1,(A0R bx cs).2.2)
 | .tup cs=>((A0R bx cs).1,.tup (A0R bx cs).2.1,(A0R bx cs).2.2)
 | .bsl id off len=>u7 bx (.bsl id off len)
 | v=>(True,v,[])
def N0(bx:Nat->Option Bx):List AV->Prop×List AV×List (Nat×Bx)
 | []=>(True,[],[])
 | x::r=>((A22 bx x).1/\(N0 bx r).1,(A22 bx x).2.1::(N0 bx r).2.1,(A22 bx x).2.2++(N0 bx r).2.2)
def wrF:List (Nat×Bx)->List (Nat×Option Bx)
 | []=>[]
 | (i,b)::r=>(i,some { b with frz:=true })::wrF r
section
variable {P:Program} {C:Cx P} {G:Gh} {bx:Nat->Option Bx} {w:World}
theorem p9(bx:Nat->Option Bx):∀(a b:List (Nat×Option Bx)),F6 bx (a++b)=F6 (F6 bx a) b
 | [],_=>rfl
 | (i,x)::r,b=>p9 (T6 bx i x) r b
def A4Z(G G':Gh)(w:World)(l:List (Nat×Bx)):Prop:=∀p∈l,∀off len v,off+len<=p.2.xs.length->RV G w (.bsl p.1 off len) v->RV G' w (.sl ((p.2.xs.drop off).take len)) v
theorem A1C:∀(l:List (Nat×Bx)) {G:Gh} {bx:Nat->Option Bx},RS C G bx w->(∀p∈l,(bx p.1=some p.2\/bx p.1=some { p.2 with frz:=true })/\p.2.ro=false) ->
  ∃G',RS C G' (F6 bx (wrF l)) w/\L4 G w G' w/\(∀i,G'.used i->G.used i)/\A4Z G G' w l
 | [],G,bx,hs,_=>⟨G,hs,L4.refl G w,λ_ h=>h,λp hp=>by cases hp⟩
 | (i,b)::r,G,bx,hs,hl=>by
  obtain⟨hb,hro⟩:=hl (i,b) s_;simp only at hb hro;have key:∃G1,RS C G1 (T6 bx i (some { b with frz:=true })) w/\L4 G w G1 w/\(∀i,G1.used i->G.used i)/\∀off len v,off+len<=b.xs.length->RV G w (.bsl i off len) v->RV G1 w (.sl ((b.xs.drop off).take len)) v:=by
   rcases hb with hb|hb
   ·exact hs.freeze hb hro
   ·exact hs.freeze (x:={ b with frz:=true }) hb hro
  obtain⟨G1,s1,e1,u1,k1⟩:=key;obtain⟨G2,s2,e2,u2,k2⟩:=A1C r s1 λp hp=>by
   obtain⟨h1,h2⟩:=hl p (t_ hp);refine⟨?_,h2⟩;by_cases hi:p.1=i
   ·obtain⟨j,c⟩:=p;simp only at hi h1 h2 ⊢;subst hi;rw[C7];right
    rcases hb with hb|hb<;>rcases h1 with h1|h1<;>rw[hb] at h1<;>injection h1 with h1
    ·rw[h1]
    ·rw[h1]
    ·rw[←h1]
    ·have:b.xs=c.xs/\b.d=c.d/\b.ro=c.ro:=by injection h1 with q1 q2 q3; exact⟨q1,q2,q3⟩
     obtain⟨q1,q2,q3⟩:=this;rw[q1,q2,q3]
   ·rw[B6 _ _ _ hi]; exact h1
  refine⟨G2,s2,e1.trans e2,λi h=>u1 i (u2 i h),λp hp off len v hle hv=>?_⟩;rcases zi.1 hp with rfl|hp
  ·exact (k1 off len v hle hv).mono e2
  ·exact k2 p hp off len v hle (hv.mono e1)
theorem A9x{x:AV}(hp:(u7 bx x).1):∀q∈(u7 bx x).2.2,bx q.1=some q.2/\q.2.ro=false:=by
 cases x with
 | bsl id off len =>
  simp only[u7] at hp ⊢;cases hb:bx id with
  | none=>simp only[hb] at hp
  | some b =>
   simp only[hb] at hp;intro q hq;simp only[wj] at hq;subst hq;exact⟨hb,hp.2⟩
 | _=>intro q hq; simp[u7] at hq
theorem A86:∀{l:List AV},(A0R bx l).1->∀q∈(A0R bx l).2.2,bx q.1=some q.2/\q.2.ro=false
 | [],_,q,hq=>by simp[A0R] at hq
 | x::r,hp,q,hq=>by
  simp only[A0R,zr] at hp hq;exact hq.elim (A9x hp.1 q) (A86 hp.2 q)
theorem B2t{x:AV}(hp:(A22 bx x).1):∀q∈(A22 bx x).2.2,bx q.1=some q.2/\q.2.ro=false:=by
 cases x with
 | agg cs=>exact A86 (l:=cs) hp
 | tup cs=>exact A86 (l:=cs) hp
 | bsl id off len=>exact A9x (x:=.bsl id off len) hp
 | _=>intro q hq; simp[A22] at hq
theorem A3O:∀{l:List AV},(N0 bx l).1->∀q∈(N0 bx l).2.2,bx q.1=some q.2/\q.2.ro=false
 | [],_,q,hq=>by simp[N0] at hq
 | x::r,hp,q,hq=>by
  simp only[N0,zr] at hp hq;exact hq.elim (B2t hp.1 q) (A3O hp.2 q)
theorem B2u{G':Gh}(e:L4 G w G' w){x:AV}{v:Value}(hp:(u7 bx x).1)(hk:A4Z G G' w (u7 bx x).2.2)(h:RV G w x v):RV G' w (u7 bx x).2.1 v:=by
 cases x with
 | bsl id off len =>
  simp only[u7] at hp hk ⊢;cases hb:bx id with
  | none=>simp only[hb] at hp
  | some b =>
   simp only[hb] at hp hk ⊢;exact hk (id,b) s_ off len v hp.1 h
 | _=>exact h.mono e
theorem A4Z.sub{G':Gh}{l l':List (Nat×Bx)}(h:A4Z G G' w l)(hs:∀p∈l',p∈l):A4Z G G' w l':=λp hp=>h p (hs p hp)
theorem B1D{G':Gh}(e:L4 G w G' w):∀{l:List AV},(A0R bx l).1->A4Z G G' w (A0R bx l).2.2->(A0R bx l).2.1.length=l.length/\∀(u:Nat->Value),(∀(i:Nat) y,l[i]?=some y->RV G w y (u i))->∀(i:Nat) y,(A0R bx l).2.1[i]?=some y->RV G' w y (u i)
 | [],_,_=>⟨rfl,λu _ i y hy=>by simp[A0R] at hy⟩
 | x::r,hp,hk=>by
  simp only[A0R] at hp hk ⊢;obtain⟨h1,h2⟩:=B1D e hp.2 (hk.sub λp hp=>t_ hp);refine⟨t_ h1,λu hu i y hy=>?_⟩;cases i with
  | zero =>
   simp only[yn,zd] at hy;subst hy;exact B2u e hp.1 (hk.sub λp hp=>t_ hp) (hu 0 x rfl)
  | succ i=>exact h2 (λi=>u (i+1)) (λi y hy=>hu (i+1) y (v_ hy)) i y (v_ hy)
theorem B6R{G':Gh}(e:L4 G w G' w){x:AV}{v:Value}(hp:(A22 bx x).1)(hk:A4Z G G' w (A22 bx x).2.2)(h:RV G w x v):RV G' w (A22 bx x).2.1 v:=by
 cases x with
 | agg cs =>
  cases h with|agg _ vs hl hh =>
  obtain⟨h1,h2⟩:=B1D e (l:=cs) hp hk;exact .agg _ vs (h1.trans hl) (h2 (λi=>vs.getD i undef) hh)
 | tup cs =>
  cases h with|tup _ vs hl hh =>
  obtain⟨h1,h2⟩:=B1D e (l:=cs) hp hk;exact .tup _ vs (h1.trans hl) (h2 (λi=>vs.getD i undef) hh)
 | bsl id off len=>exact B2u (x:=.bsl id off len) e hp hk h
 | _=>exact h.mono e
theorem A5H{G':Gh}(e:L4 G w G' w):∀{l:List AV},(N0 bx l).1->A4Z G G' w (N0 bx l).2.2->(N0 bx l).2.1.length=l.length/\∀(u:Nat->Value),(∀(i:Nat) y,l[i]?=some y->RV G w y (u i))->∀(i:Nat) y,(N0 bx l).2.1[i]?=some y->RV G' w y (u i)
 | [],_,_=>⟨rfl,λu _ i y hy=>by simp[N0] at hy⟩
 | x::r,hp,hk=>by
  simp only[N0] at hp hk ⊢;obtain⟨h1,h2⟩:=A5H e hp.2 (hk.sub λp hp=>t_ hp);refine⟨t_ h1,λu hu i y hy=>?_⟩;cases i with
  | zero =>
   simp only[yn,zd] at hy;subst hy;exact B6R e hp.1 (hk.sub λp hp=>t_ hp) (hu 0 x rfl)
  | succ i=>exact h2 (λi=>u (i+1)) (λi y hy=>hu (i+1) y (v_ hy)) i y (v_ hy)
end
def AV.isAgg:AV->Bool
 | .agg _=>true
 | _=>false
def AV.isStr:AV->Bool
 | .str _=>true
 | _=>false
def ldT(agg:Bool)(n:Nat):Option (Prop×List AV×List (Nat×Bx))->Option (Prop×Rs)
 | some (p,cs,rd)=>match agg with
  | true=>some (p/\n<=cs.length,⟨.agg (cs.take n),rd,[]⟩)
  | false=>match cs with
   | y::_=>some (p,⟨y,rd,[]⟩)
   | []=>none
 | none=>none
def stT(bx:Nat->Option Bx)(n:Nat)(x v:AV):Option (Prop×Rs) :=
 match x with
 | .ptr j i off=>match bx j with
  | some b=>some ((i<b.xs.length/\off+n<=(b.el i).cells.length/\b.ro=false/\b.frz=false)/\v.cells.length=n/\v.cells.all AV.one=true/\((b.el i).isAgg=true\/n=1),
    ⟨.tup [],[(j,b)],[(j,some { b with xs:=b.xs.set i (B9v (b.el i) off v) })]⟩)
  | none=>none
 | _=>none
def unT(op:UnOp)(x:AV):Option (Prop×AV) :=
 match op,x with
 | .not,.bool b=>some (True,.bool (!b))
 | .neg,.int k n=>some (True,.int k (k.wrap (0 - n)))
 | _,_=>none
def X4(bx:Nat->Option Bx)(k:CK)(x:AV):Option (Prop×Rs) :=
 match k with
 | .same=>some (True,⟨x,[],[]⟩)
 | .mki t=>some (True,⟨.iface t x,[],[]⟩)
 | .rcv f=>some (True,⟨.fnb f [x],[],[]⟩)
 | .fld i=>match x with
  | .agg cs=>match cs[i]? with
   | some v=>some (True,⟨v,[],[]⟩)
   | none=>none
  | _=>none
 | .ta t=>match x with
  | .iface t' v=>if t'=t then some (True,⟨.tup [v,.bool true],[],[]⟩) else none
  | _=>none
 | .int k=>match x with
  | .int _ n=>some (True,⟨.int k (k.wrap n),[],[]⟩)
  | _=>none
 | .bytes=>match x with
  | .str s=>some (s.length<=9223372036854775807,⟨.sl (s.map λb=>.int .u8 b.toNat),[],[]⟩)
  | _=>none
 | .str=>match x with
  | .str _=>none
  | x=>match A0i bx x with
   | some (p,ys,rd)=>some (p/\ys.all A5C=true,⟨.str (ys.map A6E),rd,[]⟩)
   | none=>none
def B2v(x:AV)(lo hi:Option AV):Option (Prop×Rs) :=
 match x with
 | .str s=>match hiT s.length hi with
  | some (p1,h)=>match loT h lo with
   | some (p2,l)=>some (p1/\p2,⟨.str ((s.take h).drop l),[],[]⟩)
   | none=>none
  | none=>none
 | _=>none
def C3a(bx:Nat->Option Bx)(n:Nat)(x:AV)(lo hi:Option AV):Option (Prop×Rs) :=
 match (A22 bx x).2.1 with
 | .sl xs=>match hiT xs.length hi with
  | some (p1,h)=>match loT h lo with
   | some (p2,l)=>some (((A22 bx x).1/\∀y∈xs,y.cells.length=n)/\p1/\p2,⟨.sl ((xs.take h).drop l),(A22 bx x).2.2,wrF (A22 bx x).2.2⟩)
   | none=>none
  | none=>none
 | _=>none
def mmI(mx:Bool)(a b:Int):Int:=match mx with
 | true=>max a b
 | false=>min a b
def mmT(mx:Bool):AV->AV->Option (Prop×AV)
 | .int k a,.int k' b=>if k=k' then some (True,.int k (mmI mx a b)) else none
 | _,_=>none
def sem(ve:L5->AV)(bx:Nat->Option Bx)(id:Nat):COp->Option (Prop×Rs)
 | .mv x=>some (True,⟨ve x,[],[]⟩)
 | .alloc z=>some (True,⟨.ptr id 0 0,[],[(id,some ⟨[z],z,false,false⟩)]⟩)
 | .box x=>some (True,⟨.ptr id 0 0,[],[(id,some ⟨[ve x],ve x,false,false⟩)]⟩)
 | .build zs ps=>match A3M zs (ps.map λq=>(q.1,q.2.1,ve q.2.2)) with
  | some r=>some (True,⟨.agg r,[],[]⟩)
  | none=>none
 | .bslice z n ps=>some ((N0 bx (ps.map λq=>ve q.2)).1/\A4Y n z.cells.length ((ps.map (·.1)).zip (N0 bx (ps.map λq=>ve q.2)).2.1),
   ⟨.bsl id 0 n,(N0 bx (ps.map λq=>ve q.2)).2.2,wrF (N0 bx (ps.map λq=>ve q.2)).2.2++[(id,some ⟨p5 (List.replicate n z) ((ps.map (·.1)).zip (N0 bx (ps.map λq=>ve q.2)).2.1),z,false,false⟩)]⟩)
 | .ld agg n x=>ldT agg n (A1O bx (ve x))
 | .st n x v=>stT bx n (ve x) (ve v)
 | .chk x=>match ve x with
  | .cptr cs=>some (True,⟨.cptr cs,[],[]⟩)
  | .ptr j i off=>match bx j with
   | some b=>some (i<b.xs.length,⟨.ptr j i off,[(j,b)],[]⟩)
   | none=>none
  | .fn f caps=>some (True,⟨.fn f caps,[],[]⟩)
  | _=>none
 | .mm mx x y=>match mmT mx (ve x) (ve y) with
  | some (p,r)=>some (p,⟨r,[],[]⟩)
  | none=>none
 | .bin op eqs x y=>match U5 op eqs (ve x) (ve y) with
  | some (p,r)=>some (p,⟨r,[],[]⟩)
  | none=>none
 | .un op x=>match unT op (ve x) with
  | some (p,r)=>some (p,⟨r,[],[]⟩)
  | none=>none
 | .conv k x=>X4 bx k (ve x)
 | .mkf f caps=>some (True,⟨.fn f (caps.map ve),[],[]⟩)
 | .mks z bytes l c=>match ve l,ve c with
  | .int _ l,.int _ c=>some (0<=l/\l<=c/\(bytes:Int)*c<=281474976710656/\c<=9223372036854775807,⟨.bsl id 0 l.toNat,[],[(id,some ⟨List.replicate l.toNat z,z,false,false⟩)]⟩)
  | _,_=>none
 | .slis x lo hi=>B2v (ve x) (lo.map ve) (hi.map ve)
 | .sli n x lo hi=>C3a bx n (ve x) (lo.map ve) (hi.map ve)
 | .fa off x=>match A21 bx off (ve x) with
  | some (p,r,rd)=>some (p,⟨r,rd,[]⟩)
  | none=>none
 | .ia s z x i=>match A2k s z bx (ve x) (ve i) with
  | some (p,r,rd)=>some (p,⟨r,rd,[]⟩)
  | none=>none
 | .aa n s x i=>match B1B n s bx (ve x) (ve i) with
  | some (p,r,rd)=>some (p,⟨r,rd,[]⟩)
  | none=>none
 | .ix x i=>match ve x,ve i with
  | .str s,.int _ n=>some (0<=n/\n.toNat<s.length,⟨.int .u8 (s.getD n.toNat 0).toNat,[],[]⟩)
  | _,_=>none
 | .ext x i=>match ve x with
  | .tup vs=>match vs[i]? with
   | some v=>some (True,⟨v,[],[]⟩)
   | none=>none
  | _=>none
 | .len st x=>match B1C bx (ve x) with
  | some (r,rd)=>some ((ve x).isStr=st,⟨r,rd,[]⟩)
  | none=>none
 | .app st z bytes x y=>match A0i bx (ve y) with
  | some (p,ys,rd)=>match B2s z bytes bx id (ve x) ys with
   | some (q,r)=>some ((p/\(ve y).isStr=st/\(∀e∈ys,e.cells.length=z.cells.length/\e.cells.all AV.one=true))/\q,⟨r.v,rd++r.rd,r.wr⟩)
   | none=>none
  | none=>none
 | _=>none
def A23(P:Program)(t:TypeId):Option AV:=match (P.info? t).map (·.zero) with
 | some (some z)=>ofV z
 | _=>none
def A3C(P:Program)(t:TypeId):Option Nat:=(P.info? t).map (·.size)
def B2w(P:Program)(e:TypeId):Bool:=match P.underlying e with
 | some (.int .u8)=>true
 | _=>false
def A2G(P:Program)(fs:Array Field):List (Nat×Operand)->Option (List (Nat×Nat×L5))
 | []=>some []
 | (i,x)::r=>match fs[i]?,opd x,A2G P fs r with
  | some f,some a,some b=>match A3C P f.type with
   | some n=>some ((f.offset,n,a)::b)
   | none=>none
  | _,_,_=>none
def A0t(P:Program)(x:Operand)(t:TypeId):Option COp:=match opd x,P.underlying t with
 | some x,some .string=>some (.len true x)
 | some x,some (.slice _)=>some (.len false x)
 | _,_=>none
def A0u(P:Program)(x y:Operand)(t u:TypeId):Option COp:=match opd x,opd y,P.underlying t,P.underlying u with
 | some x,some y,some (.slice e),some .string=>match A23 P e,P.info? e with
  | some z,some i=>if z.cells.length=i.size/\i.size=1 then some (.app true z i.bytes x y) else none
  | _,_=>none
 | some x,some y,some (.slice e),some (.slice _)=>match A23 P e,P.info? e with
  | some z,some i=>if z.cells.length=i.size then some (.app false z i.bytes x y) else none
  | _,_=>none
 | _,_,_,_=>none
def A1P(mx:Bool)(x y:Operand):Option COp:=match opd x,opd y with
 | some x,some y=>some (.mm mx x y)
 | _,_=>none
def A0v(P:Program)(x y:Operand)(t:TypeId):Option COp:=match opd x,opd y,P.underlying t with
 | some x,some y,some (.slice e)=>if B2w P e=true/\A3C P e=some 1 then some (.cpy x y) else none
 | _,_,_=>none
def A0w(x:Operand)(m:String)(xs:List Operand):Option COp:=match opd x,A7P xs with
 | some x,some xs=>some (.inv m x xs)
 | _,_=>none
def U6(P:Program):Callee->List Operand->List TypeId->Option COp
 | .builtin .len,[x],[t]=>A0t P x t
 | .builtin .append,[x,y],[t,u]=>A0u P x y t u
 | .builtin .min,[x,y],[_,_]=>A1P false x y
 | .builtin .max,[x,y],[_,_]=>A1P true x y
 | .value (.func f),xs,_=>(A7P xs).map (.call f)
 | .value (.tmp t),xs,_=>(A7P xs).map (.callv (.t t))
 | .builtin .copy,[x,y],t::_=>A0v P x y t
 | .invoke x m,xs,_=>A0w x m xs
 | _,_,_=>none
def N5(P:Program):Op->Option COp
 | .move x | .assign x=>(opd x).map .mv
 | .pick c a b=>match opd c,opd a,opd b with
  | some c,some a,some b=>some (.pick c a b)
  | _,_,_=>none
 | .alloc t=>(A23 P t).map .alloc
 | .box _ x=>(opd x).map .box
 | .build t ps=>match P.underlying t,A23 P t with
  | some (.struct fs),some (.agg zs)=>if fs.toList.all λf=>(A3C P f.type).isSome then (A2G P fs ps.toList).map (.build zs) else none
  | _,_=>none
 | .buildSlice t n ps=>match P.underlying t with
  | some (.slice e)=>match A23 P e,A3C P e,B7w ps.toList with
   | some z,some s,some ps=>if z.cells.length=s/\n*s<=16777216/\n<=16777216 then some (.bslice z n ps) else none
   | _,_,_=>none
  | _=>none
 | .load t x=>match P.underlying t,A3C P t,opd x with
  | some _,some n,some x=>some (.ld (A0A P t) n x)
  | _,_,_=>none
 | .store t x v=>match A3C P t,opd x,opd v with
  | some n,some x,some v=>some (.st n x v)
  | _,_,_=>none
 | .nilCheck x=>(opd x).map .chk
 | .binOp op t x y0 _=>match opd x,opd y0 with
  | some x,some y=>match P.underlying t with
   | some .bool=>some (.bin op (some [9]) x y)
   | some (.struct fs)=>match P4 P fs.toList 0 with
    | some ks=>if P.stoodInHeld t=false/\P.eqGuardType P.depth t=false then some (.bin op (some ks) x y) else none
    | none=>none
   | some (.slice _)=>some (.bin op (some [8]) x y)
   | some (.interface _)=>match y0 with
    | .const _=>some (.bin op (some [7]) x y)
    | _=>some (.bin op none x y)
   | _=>some (.bin op none x y)
  | _,_=>none
 | .unOp op _ x=>(opd x).map (.un op)
 | .convert s d x=>match opd x,P.underlying s,P.underlying d with
  | some x,some (.int _),some (.int k)=>some (.conv (.int k) x)
  | some x,some .string,some (.slice e)=>if B2w P e then some (.conv .bytes x) else none
  | some x,some (.slice e),some .string=>if B2w P e then some (.conv .str x) else none
  | _,_,_=>none
 | .makeFunc (.func f) first caps=>if first.isEmpty then (A7P caps.toList).map (.mkf f) else match first.toList,caps.toList with
  | [x],[]=>(opd x).map (.conv (.rcv f))
  | _,_=>none
 | .typeAssert x _ t true=>match P.underlying t with
  | some (.interface _)=>none
  | some _=>(opd x).map (.conv (.ta t))
  | none=>none
 | .makeSlice t l c=>match P.underlying t with
  | some (.slice e)=>match A23 P e,P.info? e,opd l,opd c with
   | some z,some i,some l,some c=>if z.cells.length=i.size then some (.mks z i.bytes l c) else none
   | _,_,_,_=>none
  | _=>none
 | .slice t x lo hi none=>match opd x,B9o lo,B9o hi,P.underlying t with
  | some x,some lo,some hi,some .string=>some (.slis x lo hi)
  | some x,some lo,some hi,some (.slice e)=>(A3C P e).map λn=>.sli n x lo hi
  | _,_,_,_=>none
 | .field t x k=>match opd x,P.underlying t with
  | some x,some (.struct fs)=>match fs[k]? with
   | some f=>if (P.underlying f.type).isSome/\A0A P f.type=false then some (.conv (.fld f.offset) x) else none
   | none=>none
  | _,_=>none
 | .fieldAddr t x k=>match opd x,P.underlying t with
  | some x,some (.struct fs)=>match fs[k]? with
   | some f=>match A3C P f.type with
    | some (_+1)=>some (.fa f.offset x)
    | _=>none
   | none=>none
  | _,_=>none
 | .indexAddr t x i=>match opd x,opd i,P.underlying t with
  | some x,some i,some (.slice e)=>match A23 P e,A3C P e with
   | some z,some s=>some (.ia s z x i)
   | _,_=>none
  | some x,some i,some (.array n e)=>match A3C P e with
   | some s=>some (.aa n s x i)
   | none=>none
  | _,_,_=>none
 | .index t x i=>match opd x,opd i,P.underlying t with
  | some x,some i,some .string=>some (.ix x i)
  | _,_,_=>none
 | .extract x i=>(opd x).map (.ext · i)
 | .makeInterface t x=>if P.concrete t then (opd x).map (.conv (.mki t)) else none
 | .panic x=>(opd x).map .pnk
 | .call c=>U6 P c.callee c.args.toList c.argTypes.toList
 | _=>none
section
variable {P:Program} {C:Cx P} {ρ:Operand->Value} {G:Gh} {bx:Nat->Option Bx} {w:World} {id:Nat}
theorem A1D{t:TypeId}{z:AV}(h:A23 P t=some z):∃v,(P.info? t).map (·.zero)=some (some v)/\∀(G:Gh) (w:World),RV G w z v:=by
 unfold A23 at h;split at h
 ·rename_i v hv; exact⟨v,hv,λG w=>B4v h⟩
 ·cases h
theorem O6.made{o:Oper}{x:Sem Value}{r:AV}{rd:List (Nat×Bx)}{wr:List (Nat×Option Bx)}(hx:execOp ρ o=(do pure (.value (←x))))(h:Made P C x G w id r (F6 bx wr)):O6 P C ρ o G bx w id ⟨r,rd,wr⟩:=by
 obtain⟨v,w',G',h1,h2,h3,h4,h5⟩:=h;exact⟨.value v,w',G',v,by rw[hx]; simp only[Sem.run_bind,h1,Result.andThen_ok,Sem.run_pure],.inl rfl,h2,h3,h4,h5⟩
theorem O6.pure{o:Oper}{x:Sem Value}{r:AV}{v:Value}{rd:List (Nat×Bx)}(hs:RS C G bx w)(hx:execOp ρ o=(do pure (.value (←x))))(h:x.run P w = .ok v w)(hv:RV G w r v):O6 P C ρ o G bx w id ⟨r,rd,[]⟩ :=
 ⟨.value v,w,G,v,by rw[hx]; simp only[Sem.run_bind,h,Result.andThen_ok,Sem.run_pure],.inl rfl,hs,L4.refl G w,hv,λ_ h=>.inl h⟩
def B6S(G:Gh)(w:World)(ρ:Operand->Value)(ve:L5->AV)(xs:List Operand):Prop:=∀X∈xs,∀x,opd X=some x->RV G w (ve x) (ρ X)
def Q3(P:Program)(op:Op):Prop:=∀(C:Cx P) (ρ:Operand->Value) (G:Gh) (bx:Nat->Option Bx) (w:World) (id:Nat) (ve:L5->AV) (o:Oper) (c:COp) (p:Prop) (r:Rs),
 o.op=op->N5 P op=some c->sem ve bx id c=some (p,r)->p->RS C G bx w->¬G.used id->B6S G w ρ ve op.operands.toList->O6 P C ρ o G bx w id r
theorem B50(x:Operand):Q3 P (.move x):=by
 intro C ρ G bx w id ve o c p r ho hc hr hp hs hu hv;simp only[N5,zn] at hc;obtain⟨a,ha,rfl⟩:=hc;simp only[sem,zd,zh] at hr;obtain⟨_,rfl⟩:=hr;exact O6.pure (x:=Pure.pure (ρ x)) hs (by unfold execOp; simp only[ho]; rfl) rfl (hv x (by simp[Op.operands]) a ha)
theorem B1E(x:Operand):Q3 P (.assign x):=by
 intro C ρ G bx w id ve o c p r ho hc hr hp hs hu hv;simp only[N5,zn] at hc;obtain⟨a,ha,rfl⟩:=hc;simp only[sem,zd,zh] at hr;obtain⟨_,rfl⟩:=hr;exact O6.pure (x:=Pure.pure (ρ x)) hs (by unfold execOp; simp only[ho]; rfl) rfl (hv x (by simp[Op.operands]) a ha)
theorem B2x(t:TypeId):Q3 P (.alloc t):=by
 intro C ρ G bx w id ve o c p r ho hc hr hp hs hu hv;simp only[N5,zn] at hc;obtain⟨a,ha,rfl⟩:=hc;simp only[sem,zd,zh] at hr;obtain⟨_,rfl⟩:=hr;obtain⟨v,h1,h2⟩:=A1D ha;exact O6.made (x:=Instr.alloc t true (.tuple #[])) (by unfold execOp; simp only[ho]) (B9y hs hu h1 (h2 G w))
theorem B7y(t:TypeId)(x:Operand):Q3 P (.box t x):=by
 intro C ρ G bx w id ve o c p r ho hc hr hp hs hu hv;simp only[N5,zn] at hc;obtain⟨a,ha,rfl⟩:=hc;simp only[sem,zd,zh] at hr;obtain⟨_,rfl⟩:=hr;exact O6.made (x:=Instr.box t (ρ x)) (by unfold execOp; simp only[ho]) (A9t hs hu (hv x (by simp[Op.operands]) a ha) t)
end
section
variable {P:Program}
theorem At.take{G:Gh}{w:World}{a:Addr}{cs:List AV}(h:At G w a cs)(n:Nat):At G w a (cs.take n):=λj y hy=>by
 rw[zz] at hy;split at hy
 ·exact h j y hy
 ·cases hy
theorem B51(t:TypeId)(x:Operand):Q3 P (.load t x):=by
 intro C ρ G bx w id ve o c p r ho hc hr hp hs hu hv;simp only[N5] at hc;split at hc
 ·rename_i d n a hd hn ha;injection hc with hc
  subst hc;simp only[sem] at hr;have hx:=hv x (by simp[Op.operands]) a ha;cases hl:A1O bx (ve a) with
  | none=>simp only[hl,ldT,reduceCtorEq] at hr
  | some q =>
   obtain⟨p0,cs,rd⟩:=q;simp only[hl] at hr;have hex:execOp ρ o=(do pure (.value (←Instr.loadAt t (ρ x)))):=(by unfold execOp; simp only[ho]);cases hag:A0A P t with
   | true =>
    simp only[hag,ldT,zd,zh] at hr;obtain⟨rfl,rfl⟩:=hr;obtain⟨addr,hv1,hat⟩:=A7b hs hx (A5G hl hp.1);obtain⟨v,h1,h2⟩:=(hat.take n).load_agg (P:=P) hag hn (by rw[zy]; omega);exact O6.pure (x:=Instr.loadAt t (ρ x)) hs hex (by simp only[hv1,Instr.loadAt,Instr.sureAddr,Sem.run_bind,Sem.run_pure,Result.andThen_ok,h1]) h2
   | false =>
    simp only[hag,ldT] at hr;cases cs with
    | nil=>simp at hr
    | cons y l =>
     simp only[zd,zh] at hr;obtain⟨rfl,rfl⟩:=hr;obtain⟨addr,hv1,hat⟩:=A7b hs hx (A5G hl hp);obtain⟨v,h1,h2⟩:=hat.load_one (P:=P) hd hag rfl;exact O6.pure (x:=Instr.loadAt t (ρ x)) hs hex (by simp only[hv1,Instr.loadAt,Instr.sureAddr,Sem.run_bind,Sem.run_pure,Result.andThen_ok,h1]) h2
 ·cases hc
theorem C01{y:AV}{n:Nat}(h:(y.isAgg=true\/n=1)):(∀cs,y≠.agg cs)->n=1:=λhn=>h.elim (λh=>by
 cases y with
 | agg cs=>exact (hn cs rfl).elim
 | _=>cases h) (λh=>h)
theorem B2y(t:TypeId)(x v:Operand):Q3 P (.store t x v):=by
 intro C ρ G bx w id ve o c p r ho hc hr hp hs hu hv;simp only[N5] at hc;split at hc
 ·rename_i n a b hn ha hb;injection hc with hc
  subst hc;simp only[sem] at hr;have hx:=hv x (by simp[Op.operands]) a ha;have hy:=hv v (by simp[Op.operands]) b hb;unfold stT at hr;split at hr
  ·rename_i j i off hxe;split at hr
   ·rename_i bb hbb;simp only[zd,zh] at hr;obtain⟨rfl,rfl⟩:=hr;obtain⟨⟨q1,q2,q3,q4⟩,q5,q6,q7⟩:=hp;rw[hxe] at hx;obtain⟨w',G',h1,h2,h3,h4⟩:=B9w (P:=P) hs hx hy hbb (A7d q1) q3 q4 q5 q2 (λc hc=>(xe.1 q6) c hc) (C01 q7) hn;refine⟨.skip,w',G',undef,?_,.inr ⟨rfl,rfl⟩,h2,h3,?_,λi hi=>.inl (h4 i hi)⟩
    ·unfold execOp;simp only[ho,Sem.run_bind,h1,Result.andThen_ok,Sem.run_pure]
    ·exact .tup [] #[] rfl λi y hy=>by simp at hy
   ·cases hr
  ·cases hr
 ·cases hc
theorem A7Q(t:TypeId)(x:Operand)(k:Nat):Q3 P (.fieldAddr t x k):=by
 intro C ρ G bx w id ve o c p r ho hc hr hp hs hu hv;simp only[N5] at hc;split at hc
 ·rename_i a fs ha ht;split at hc
  ·rename_i f hf;split at hc
   ·rename_i m hm;injection hc with hc
    subst hc;simp only[sem] at hr;have hx:=hv x (by simp[Op.operands]) a ha;split at hr
    ·rename_i p0 r0 rd hft;simp only[zd,zh] at hr;obtain⟨rfl,rfl⟩:=hr;obtain⟨u,h1,h2⟩:=B9r (P:=P) hs hx (A9v hft hp) ht hf rfl hm o_;exact O6.pure (x:=Instr.fieldAt t (ρ x) k) hs (by unfold execOp; simp only[ho]) h1 h2
    ·cases hr
   ·cases hc
  ·cases hc
 ·cases hc
theorem B7z{P:Program}{C:Cx P}{G:Gh}{bx:Nat->Option Bx}{w:World}(hs:RS C G bx w){x i r:AV}{v u:Value}(h:RV G w x v)(hi:RV G w i u){s:Nat}{z:AV}{p:Prop}{rd:List (Nat×Bx)}(hr:A2k s z bx x i=some (p,r,rd))(hp:p)
  {t e:TypeId} (ht:P.underlying t=some (.slice e)) (hz:(P.info? e).map (·.size)=some s):∃q,(Instr.indexAt t v u).run P w = .ok q w/\RV G w r q:=by
 unfold A2k at hr;split at hr
 ·rename_i xs k n;simp only[zd,zh] at hr;obtain⟨rfl,rfl,rfl⟩:=hr;obtain⟨q1,q2,q3⟩:=hp;have hg:xs[n.toNat]?=some (xs.getD n.toNat z):=by simp[List.getD,zc q2]
  exact B9s hs h hi (by simp only[A7c,zj q1,hg,zj q3]) ht hz
 ·rename_i j off len k n;split at hr
  ·rename_i b hb;simp only[zd,zh] at hr;obtain⟨rfl,rfl,rfl⟩:=hr;obtain⟨q1,q2,q3⟩:=hp;cases hi
   cases h with|bsl _ _ _ _ hone hu hbm hnl =>
   have hn:¬G.nl j:=λhn=>by have:=(hnl hn).2.2; omega
   obtain⟨blk,s',cur,e',h1,_,_,h4,_⟩:=hs.box j b hb hn;obtain⟨c,cur',e'',hv,_⟩:=hbm blk s' h1;have hss:s'=s:=h4.1.symm.trans q3;subst hss;subst hv;have he:P.elem t=e:=(by simp[Program.elem,ht]);refine⟨.pointer (some ((⟨blk,off*s',none⟩:Addr).add (n.toNat*s'))),?_,.ptr j _ 0 _ rfl hu λb' s2 hb'=>?_⟩
   ·rw[run_indexAt_slice w t _ len c k n (by rw[he]; exact ht),zj ⟨q1,q2⟩,he,R9 hz];rfl
   ·rw[h1] at hb';injection hb' with hb'
    injection hb' with e1 e2
    subst e1 e2;rw[Addr.add_lit,xp,vp]
  ·cases hr
 ·cases hr
theorem C3b{P:Program}{C:Cx P}{G:Gh}{bx:Nat->Option Bx}{w:World}(hs:RS C G bx w){x i r:AV}{v u:Value}(h:RV G w x v)(hi:RV G w i u){n s:Nat}{p:Prop}{rd:List (Nat×Bx)}(hr:B1B n s bx x i=some (p,r,rd))(hp:p)
  {t e:TypeId} (ht:P.underlying t=some (.array n e)) (hz:(P.info? e).map (·.size)=some s):∃q,(Instr.indexAt t v u).run P w = .ok q w/\RV G w r q:=by
 unfold B1B at hr;split at hr
 ·rename_i k m;split at hr
  ·rename_i p0 r0 rd0 hf;simp only[zd,zh] at hr;obtain⟨rfl,rfl,rfl⟩:=hr;obtain⟨q1,q2,q3⟩:=hp;cases hi
   have key:∀a,v = .pointer (some a)->(Instr.indexAt t v (.int k m)).run P w = .ok (.pointer (some (a.add (m.toNat*s)))) w:=λa ha=>by
    subst ha;simp[Instr.indexAt,asIntOf,run_underlying ht,Instr.sureAddr,R9 hz,q2,q3]
   exact B7x (F:=λv=>Instr.indexAt t v (.int k m)) hs h (A9v hf q1) key
  ·cases hr
 ·cases hr
theorem A7R(t:TypeId)(x i:Operand):Q3 P (.indexAddr t x i):=by
 intro C ρ G bx w id ve o c p r ho hc hr hp hs hu hv;simp only[N5] at hc;split at hc
 ·rename_i a b e ha hb ht;split at hc
  ·rename_i z s hz hsz;injection hc with hc
   subst hc;simp only[sem] at hr;split at hr
   ·rename_i p0 r0 rd hit;simp only[zd,zh] at hr;obtain⟨rfl,rfl⟩:=hr;obtain⟨u,h1,h2⟩:=B7z (P:=P) hs (hv x (by simp[Op.operands]) a ha) (hv i (by simp[Op.operands]) b hb) hit hp ht hsz;exact O6.pure (x:=Instr.indexAt t (ρ x) (ρ i)) hs (by unfold execOp; simp only[ho]) h1 h2
   ·cases hr
  ·cases hc
 ·rename_i a b n e ha hb ht;split at hc
  ·rename_i s hsz;injection hc with hc
   subst hc;simp only[sem] at hr;split at hr
   ·rename_i p0 r0 rd hit;simp only[zd,zh] at hr;obtain⟨rfl,rfl⟩:=hr;obtain⟨u,h1,h2⟩:=C3b (P:=P) hs (hv x (by simp[Op.operands]) a ha) (hv i (by simp[Op.operands]) b hb) hit hp ht hsz;exact O6.pure (x:=Instr.indexAt t (ρ x) (ρ i)) hs (by unfold execOp; simp only[ho]) h1 h2
   ·cases hr
  ·cases hc
 ·cases hc
end
section
variable {P:Program}
theorem A5I{fs:Array Field}:∀{l:List (Nat×Operand)} {r:List (Nat×Nat×L5)},A2G P fs l=some r->r.length=l.length /\
  ∀(i:Nat) q u,r[i]?=some q->l[i]?=some u->(∃f,fs[u.1]?=some f/\f.offset=q.1/\A3C P f.type=some q.2.1)/\opd u.2=some q.2.2
 | [],r,h=>by simp[A2G] at h; subst h; exact⟨rfl,λi q u hq=>by simp at hq⟩
 | (i,x)::l,r,h=>by
  simp only[A2G] at h;split at h
  ·rename_i f a b hf ha hb;split at h
   ·rename_i n hn;injection h with h
    subst h;obtain⟨h1,h2⟩:=A5I hb;refine⟨t_ h1,λj q u hq hu=>?_⟩;cases j with
    | zero =>
     simp only[yn,zd] at hq hu;subst hq hu;exact⟨⟨f,hf,rfl,hn⟩,ha⟩
    | succ j=>exact h2 j q u (v_ hq) (v_ hu)
   ·cases h
  ·cases h
theorem B1F:∀{l:List (Nat×Operand)} {r:List (Nat×L5)},B7w l=some r->r.length=l.length/\∀(i:Nat) q u,r[i]?=some q->l[i]?=some u->q.1=u.1/\opd u.2=some q.2
 | [],r,h=>by simp[B7w] at h; subst h; exact⟨rfl,λi q u hq=>by simp at hq⟩
 | (i,x)::l,r,h=>by
  simp only[B7w] at h;split at h
  ·rename_i a b ha hb;injection h with h
   subst h;obtain⟨h1,h2⟩:=B1F hb;refine⟨t_ h1,λj q u hq hu=>?_⟩;cases j with
   | zero =>
    simp only[yn,zd] at hq hu;subst hq hu;exact⟨rfl,ha⟩
   | succ j=>exact h2 j q u (v_ hq) (v_ hu)
  ·cases h
theorem B6T:∀{l:List Operand} {r:List L5},A7P l=some r->r.length=l.length/\∀(i:Nat) q u,r[i]?=some q->l[i]?=some u->opd u=some q
 | [],r,h=>by simp[A7P] at h; subst h; exact⟨rfl,λi q u hq=>by simp at hq⟩
 | x::l,r,h=>by
  simp only[A7P] at h;split at h
  ·rename_i a b ha hb;injection h with h
   subst h;obtain⟨h1,h2⟩:=B6T hb;refine⟨t_ h1,λj q u hq hu=>?_⟩;cases j with
   | zero =>
    simp only[yn,zd] at hq hu;subst hq hu;exact ha
   | succ j=>exact h2 j q u (v_ hq) (v_ hu)
  ·cases h
theorem B2z(t:TypeId)(ps:Array (Nat×Operand)):Q3 P (.build t ps):=by
 intro C ρ G bx w id ve o c p r ho hc hr hp hs hu hv;simp only[N5] at hc;split at hc
 ·rename_i fs zs ht hz;split at hc
  ·rename_i hall;simp only[zn] at hc;obtain⟨qs,hqs,rfl⟩:=hc;simp only[sem] at hr;split at hr
   ·rename_i rr hfl;simp only[zd,zh] at hr;obtain⟨rfl,rfl⟩:=hr;obtain⟨v,h1,h2⟩:=A1D hz;obtain⟨l1,l2⟩:=A5I hqs;obtain⟨u,g1,g2⟩:=B9u (P:=P) (w:=w) (vs:=ps.map λq=>(q.1,ρ q.2)) ht h1 (h2 G w) (λf hf=>(xe.1 hall) f (v_ hf)) hfl (t_ l1) λi q q' hq hq'=>by
     simp only[yj,zn] at hq;obtain⟨a,ha,rfl⟩:=hq;simp only[tr,zn] at hq';obtain⟨b,hb,rfl⟩:=hq';have hb':ps.toList[i]?=some b:=(v_ hb);obtain⟨⟨f,k1,k2,k3⟩,k4⟩:=l2 i a b ha hb';refine⟨⟨f,k1,k2,k3⟩,hv b.2 ?_ _ k4⟩;simp only[Op.operands,zw];exact⟨b,zg hb',rfl⟩
    exact O6.pure (x:=Instr.build t (ps.map λq=>(q.1,ρ q.2))) hs (by unfold execOp; simp only[ho]) g1 g2
   ·cases hr
  ·cases hc
 ·cases hc
theorem A87(x:Operand):Q3 P (.nilCheck x):=by
 intro C ρ G bx w id ve o c p r ho hc hr hp hs hu hv;simp only[N5,zn] at hc;obtain⟨a,ha,rfl⟩:=hc;have hx:=hv x (by simp[Op.operands]) a ha;simp only[sem] at hr;split at hr
 ·rename_i cs he;simp only[zd,zh] at hr;obtain⟨_,rfl⟩:=hr;rw[he] at hx;obtain⟨addr,hv1⟩:∃a,ρ x = .pointer (some a):=by
   generalize ρ x=vx at hx;cases hx with|cptr _ a u h1 h2 h3=>exact⟨a,rfl⟩
  exact O6.still hs (by unfold execOp; simp only[ho,hv1]; rfl) (hv1▸hx) _
 ·rename_i j i off he;split at hr
  ·rename_i b hb;simp only[zd,zh] at hr;obtain⟨rfl,rfl⟩:=hr;rw[he] at hx;obtain⟨blk,s,_,hv1,_⟩:=B9q hs hx hb (A7d hp);exact O6.still hs (by unfold execOp; simp only[ho,hv1]; rfl) (hv1▸hx) _
  ·cases hr
 ·rename_i f caps he;simp only[zd,zh] at hr;obtain⟨_,rfl⟩:=hr;rw[he] at hx;obtain⟨vs,hv1⟩:∃vs,ρ x = .func (.func f) #[] vs:=by
   generalize ρ x=vx at hx;cases hx with|fn _ _ vs h1 h2=>exact⟨vs,rfl⟩
  exact O6.still hs (by unfold execOp; simp only[ho,hv1]; rfl) (hv1▸hx) _
 ·cases hr
theorem B52(xs ys:List AV):A0Q [9] xs ys=none:=by
 match xs,ys with
 | [],[]=>rfl
 | [],_::_=>rfl
 | _::_,[]=>rfl
 | x::r,y::s =>
  have:A1l 9 x y=none:=by cases x<;>cases y<;>simp[A1l]
  simp[A0Q,this]
theorem X5:∀{fs:List Field} {off:Nat} {ks:List Nat},P4 P fs off=some ks->∀k∈ks,k<=2
 | [],off,ks,h,k,hk=>by simp only[P4,zd] at h; subst h; cases hk
 | f::r,off,ks,h,k,hk=>by
  simp only[P4] at h;split at h
  ·split at h<;>first
    | (rename_i hr
       injection h with h
       subst h;rcases zi.1 hk with rfl|hk
       ·omega
       ·exact X5 hr k hk)
    | cases h
  ·cases h
theorem B80{op:BinOp}{ks:List Nat}{a b:Bool}{x:Prop×AV}(h:U5 op (some ks) (.bool a) (.bool b)=some x):ks=[9]:=by
 simp only[U5] at h;split at h
 ·rename_i heq; injection heq
 ·rename_i heq; injection heq
 ·cases h
theorem B30(xs ys:List AV):A0Q [8] xs ys=none:=by
 match xs,ys with
 | [],[]=>rfl
 | [],_::_=>rfl
 | _::_,[]=>rfl
 | x::r,y::s =>
  have:A1l 8 x y=none:=by cases x<;>cases y<;>simp[A1l]
  simp[A0Q,this]
theorem B31(xs ys:List AV):A0Q [7] xs ys=none:=by
 match xs,ys with
 | [],[]=>rfl
 | [],_::_=>rfl
 | _::_,[]=>rfl
 | x::r,y::s =>
  have:A1l 7 x y=none:=by cases x<;>cases y<;>simp[A1l]
  simp[A0Q,this]
theorem A2H{op:BinOp}{eqs:Option (List Nat)}{x y:AV}{z:Prop×AV}(h:U5 op eqs x y=some z)(he:eqs≠some [7]):y≠.nili:=by
 intro hy;subst hy;cases x with
 | nili=>simp only[U5] at h; split at h<;>first|exact he rfl|cases h
 | iface t v=>simp only[U5] at h; split at h<;>first|exact he rfl|cases h
 | _=>simp only[U5] at h; cases h
theorem B32(w:World)(t:TypeId){ms:Array (String×TypeId)}(te:TypeId)(v:Value)(h:P.underlying t=some (.interface ms)):(binOp .eql t (.iface te v) .nilIface).run P w = .ok (.bool false) w:=by
 have h1:∀d:Nat,(Op.equalIn (d+1) t (.iface te v) .nilIface).run P w = .ok false w:=λd=>by simp[Op.equalIn,run_underlying h]
 simp only[binOp];simp[Op.equal,Op.maxDepth,h1 9999]
theorem B33(w:World)(t:TypeId){ms:Array (String×TypeId)}(te:TypeId)(v:Value)(h:P.underlying t=some (.interface ms)):(binOp .neq t (.iface te v) .nilIface).run P w = .ok (.bool true) w:=by
 have h1:∀d:Nat,(Op.equalIn (d+1) t (.iface te v) .nilIface).run P w = .ok false w:=λd=>by simp[Op.equalIn,run_underlying h]
 simp only[binOp];simp[Op.equal,Op.maxDepth,h1 9999]
theorem B1G(w:World)(t:TypeId){ms:Array (String×TypeId)}(h:P.underlying t=some (.interface ms)):(binOp .eql t .nilIface .nilIface).run P w = .ok (.bool true) w:=by
 have h1:∀d:Nat,(Op.equalIn (d+1) t .nilIface .nilIface).run P w = .ok true w:=λd=>by simp[Op.equalIn,run_underlying h]
 simp only[binOp];simp[Op.equal,Op.maxDepth,h1 9999]
theorem B1H(w:World)(t:TypeId){ms:Array (String×TypeId)}(h:P.underlying t=some (.interface ms)):(binOp .neq t .nilIface .nilIface).run P w = .ok (.bool false) w:=by
 have h1:∀d:Nat,(Op.equalIn (d+1) t .nilIface .nilIface).run P w = .ok true w:=λd=>by simp[Op.equalIn,run_underlying h]
 simp only[binOp];simp[Op.equal,Op.maxDepth,h1 9999]
theorem A2I{op:BinOp}{eqs:Option (List Nat)}{x y:AV}{z:Prop×AV}(h:U5 op eqs x y=some z)(he:eqs≠some [8]):y≠.nils:=by
 intro hy;subst hy;cases x with
 | nils=>simp only[U5] at h; split at h<;>first|exact he rfl|cases h
 | sl xs =>
  cases xs with
  | nil=>simp only[U5] at h; cases h
  | cons z zs=>simp only[U5] at h; split at h<;>first|exact he rfl|cases h
 | _=>simp only[U5] at h; cases h
theorem B34(w:World)(t e:TypeId)(a:Option Addr)(n c:Nat)(h:P.underlying t=some (.slice e)):(binOp .eql t (.slice a n c) (.slice none 0 0)).run P w = .ok (.bool a.isNone) w:=by
 simp only[binOp];simp[Op.equal,Op.maxDepth,Lib.run_equalIn_slice_nil w 9999 t e a n c 0 0 h]
theorem C66{G:Gh}{w:World}{op:BinOp}{x r:AV}{p:Prop}{a b:Value}(hx:RV G w x a)(hy:RV G w .nils b)(h:U5 op (some [8]) x .nils=some (p,r)){t e:TypeId}(ht:P.underlying t=some (.slice e))(X Y:Operand):
  ∃v,(do eqGuard op t X Y a b; binOp op t a b:Sem Value).run P w = .ok v w/\RV G w r v:=by
 have hb:b = .slice none 0 0:=by cases hy; rfl
 subst hb;have key:∀(A:Option Addr) (n c:Nat),a = .slice A n c->((op = .eql/\r = .bool A.isNone)\/(op = .neq/\r = .bool (!A.isNone)))->∃v,(do eqGuard op t X Y a (.slice none 0 0); binOp op t a (.slice none 0 0):Sem Value).run P w = .ok v w/\RV G w r v:=by
  intro A n c ha hr;subst ha;have hg:eqGuard op t X Y (.slice A n c) (.slice none 0 0)=pure ():=by cases op<;>rfl
  rw[hg];rcases hr with⟨rfl,rfl⟩|⟨rfl,rfl⟩
  ·exact⟨_,by simp only[Sem.run_bind,Sem.run_pure,Result.andThen_ok,B34 w t e A n c ht],.bool _⟩
  ·exact⟨_,by simp only[Sem.run_bind,Sem.run_pure,Result.andThen_ok,run_neq_slice_nil_any w t e A n c 0 0 ht],.bool _⟩
 cases hx with
 | nils =>
  refine key none 0 0 rfl ?_;simp only[U5] at h;split at h<;>first
   | (simp only[zd,zh] at h; obtain⟨_,rfl⟩:=h; first|exact .inl ⟨rfl,rfl⟩|exact .inr ⟨rfl,rfl⟩)
   | cases h
 | sl xs A c s u hc hm hn hs h1 h2 h3 =>
  cases xs with
  | nil=>simp only[U5] at h; cases h
  | cons z zs =>
   cases A with
   | none=>have:=(hn rfl).1; cases this
   | some a0 =>
    refine key (some a0) _ c rfl ?_;simp only[U5] at h;split at h<;>first
     | (simp only[zd,zh] at h; obtain⟨_,rfl⟩:=h; first|exact .inl ⟨rfl,rfl⟩|exact .inr ⟨rfl,rfl⟩)
     | cases h
 | _=>simp only[U5] at h; cases h
theorem C67{G:Gh}{w:World}{op:BinOp}{x r:AV}{p:Prop}{a b:Value}(hx:RV G w x a)(hy:RV G w .nili b)(h:U5 op (some [7]) x .nili=some (p,r)){t:TypeId}{ms:Array (String×TypeId)}(ht:P.underlying t=some (.interface ms))(X:Operand)(cY:Value):
  ∃v,(do eqGuard op t X (.const cY) a b; binOp op t a b:Sem Value).run P w = .ok v w/\RV G w r v:=by
 have hb:b = .nilIface:=by cases hy; rfl
 subst hb;have hg:∀a,eqGuard op t X (.const cY) a .nilIface=pure ():=λa=>by cases op<;>cases a<;>first|rfl|(simp[eqGuard])
 rw[hg];cases hx with
 | nili =>
  simp only[U5] at h;split at h<;>first
   | (simp only[zd,zh] at h; obtain⟨_,rfl⟩:=h; exact⟨_,by simp only[Sem.run_bind,Sem.run_pure,Result.andThen_ok,B1G w t ht,B1H w t ht],.bool _⟩)
   | cases h
 | iface =>
  simp only[U5] at h;split at h<;>first
   | (simp only[zd,zh] at h; obtain⟨_,rfl⟩:=h; exact⟨_,by simp only[Sem.run_bind,Sem.run_pure,Result.andThen_ok,B32 w t _ _ ht,B33 w t _ _ ht],.bool _⟩)
   | cases h
 | _=>simp only[U5] at h; cases h
theorem B35(op:BinOp)(t:TypeId)(x y:Operand)(t':TypeId):Q3 P (.binOp op t x y t'):=by
 intro C ρ G bx w id ve o c p r ho hc hr hp hs hu hv;simp only[N5] at hc;split at hc
 ·rename_i a b ha hb;have hx:=hv x (by simp[Op.operands]) a ha;have hy:=hv y (by simp[Op.operands]) b hb;have hex:execOp ρ o=(do pure (.value (←(do eqGuard op t x y (ρ x) (ρ y); binOp op t (ρ x) (ρ y):Sem Value)))):=by unfold execOp; simp only[ho]
  have plain:∀(eqs:Option (List Nat)) (r0:AV),U5 op eqs (ve a) (ve b)=some (p,r0)->r=⟨r0,[],[]⟩->(∀xs,ve a≠.agg xs)->((∃q,ve a = .bool q)->P.underlying t=some .bool)->ve b≠.nils->ve b≠.nili->O6 P C ρ o G bx w id r:=λeqs r0 h1 h2 h3 h4 h5 h6=>by
   subst h2;obtain⟨v,g1,g2⟩:=C5y (P:=P) hx hy (C3Z h1 hp h3 h5 h6) t x y h4;exact O6.pure hs hex g1 g2
  have two:∀eqs,(match U5 op eqs (ve a) (ve b) with|some (p,r)=>some (p,⟨r,[],[]⟩)|none=>none)=some (p,r)->∃r0,U5 op eqs (ve a) (ve b)=some (p,r0)/\r=⟨r0,[],[]⟩:=λeqs h=>by
   split at h
   ·rename_i p0 r0 hb0;simp only[zd,zh] at h;obtain⟨rfl,rfl⟩:=h;exact⟨r0,hb0,rfl⟩
   ·cases h
  split at hc
  ·rename_i ht;injection hc with hc
   subst hc;simp only[sem] at hr;obtain⟨r0,h1,h2⟩:=two _ hr;refine plain _ _ h1 h2 (λxs hxs=>?_) (λ_=>ht) (A2I h1 s_) (A2H h1 s_);unfold U5 at h1;rw[hxs] at h1;cases hb0:ve b<;>rw[hb0] at h1<;>try cases h1
   cases op<;>simp[B52] at h1
  ·rename_i fs ht;split at hc
   ·rename_i ks hk;split at hc
    ·rename_i hst;injection hc with hc
     subst hc;simp only[sem] at hr;obtain⟨r0,h1,h2⟩:=two _ hr;by_cases hag:∃xs,ve a = .agg xs
     ·obtain⟨xs,hxs⟩:=hag;have h3:=h1;unfold U5 at h3;rw[hxs] at h3;cases hb0:ve b<;>rw[hb0] at h3<;>try cases h3
      rename_i ys;rw[hxs] at hx;rw[hb0] at hy;cases he:A0Q ks xs ys with
      | none=>cases op<;>simp[he] at h3
      | some q =>
       have hop:(op = .eql/\r0 = .bool q)\/(op = .neq/\r0 = .bool (!q)):=(by cases op<;>simp[he] at h3<;>simp[h3.2]);have hrun:=C5z (P:=P) ht hk hst.1 hst.2 hx hy he op x y (hop.imp And.left And.left);subst h2;refine O6.pure hs hex hrun ?_;rcases hop with⟨rfl,rfl⟩|⟨rfl,rfl⟩<;>exact .bool _
     ·refine plain _ _ h1 h2 (λxs h=>hag ⟨xs,h⟩) (λ⟨q,hq⟩=>?_) (A2I h1 λh8=>by
       have:=X5 hk 8 (by injection h8 with h8; rw[h8]; simp);omega) (A2H h1 λh8=>by
       have:=X5 hk 7 (by injection h8 with h8; rw[h8]; simp);omega)
      have h9:ks=[9]:=by
       rw[hq] at h1;cases hb0:ve b<;>rw[hb0] at h1<;>first
        | exact B80 h1
        | (simp only[U5] at h1; cases h1)
      have:=X5 hk 9 (by rw[h9]; simp);omega
    ·cases hc
   ·cases hc
  ·rename_i e8 ht8;injection hc with hc
   subst hc;simp only[sem] at hr;obtain⟨r0,h1,h2⟩:=two _ hr;by_cases hb8:ve b = .nils
   ·rw[hb8] at h1 hy;subst h2;obtain⟨v,g1,g2⟩:=C66 (P:=P) hx hy h1 ht8 x y;exact O6.pure hs hex g1 g2
   refine plain _ _ h1 h2 (λxs h=>?_) (λ⟨q,hq⟩=>?_) hb8 (A2H h1 s_)
   ·unfold U5 at h1;rw[h] at h1;cases hb0:ve b<;>rw[hb0] at h1<;>try cases h1
    cases op<;>simp[B30] at h1
   ·unfold U5 at h1;rw[hq] at h1;cases hb0:ve b<;>rw[hb0] at h1<;>try cases h1
    cases op<;>simp at h1
  ·rename_i ms7 ht7;split at hc
   ·injection hc with hc
    subst hc;simp only[sem] at hr;obtain⟨r0,h1,h2⟩:=two _ hr;by_cases hb7:ve b = .nili
    ·rw[hb7] at h1 hy;subst h2;obtain⟨v,g1,g2⟩:=C67 (P:=P) hx hy h1 ht7 x _;exact O6.pure hs hex g1 g2
    refine plain _ _ h1 h2 (λxs h=>?_) (λ⟨q,hq⟩=>?_) (A2I h1 s_) hb7
    ·unfold U5 at h1;rw[h] at h1;cases hb0:ve b<;>rw[hb0] at h1<;>try cases h1
     cases op<;>simp[B31] at h1
    ·unfold U5 at h1;rw[hq] at h1;cases hb0:ve b<;>rw[hb0] at h1<;>try cases h1
     cases op<;>simp at h1
   ·injection hc with hc
    subst hc;simp only[sem] at hr;obtain⟨r0,h1,h2⟩:=two _ hr;refine plain _ _ h1 h2 (λxs h=>?_) (λ⟨q,hq⟩=>?_) (A2I h1 s_) (A2H h1 s_)
    ·unfold U5 at h1;rw[h] at h1;cases hb0:ve b<;>rw[hb0] at h1<;>try cases h1
     cases op<;>cases h1
    ·unfold U5 at h1;rw[hq] at h1;cases hb0:ve b<;>rw[hb0] at h1<;>try cases h1
     cases op<;>cases h1
  ·injection hc with hc
   subst hc;simp only[sem] at hr;obtain⟨r0,h1,h2⟩:=two _ hr;refine plain _ _ h1 h2 (λxs h=>?_) (λ⟨q,hq⟩=>?_) (A2I h1 s_) (A2H h1 s_)
   ·unfold U5 at h1;rw[h] at h1;cases hb0:ve b<;>rw[hb0] at h1<;>try cases h1
    cases op<;>cases h1
   ·unfold U5 at h1;rw[hq] at h1;cases hb0:ve b<;>rw[hb0] at h1<;>try cases h1
    cases op<;>cases h1
 ·cases hc
end
end Go.Am
