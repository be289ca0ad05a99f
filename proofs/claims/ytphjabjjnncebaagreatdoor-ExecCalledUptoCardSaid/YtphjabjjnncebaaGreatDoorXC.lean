/- Parts of the proof: an abstract machine for Go functions, and what functions of the program give back (Am20, Am21, Am22, Am23, Am24, Am25, Am26, Am27, Am28). No condition. -/
import Derived.Test.YtphjabjjnncebaaGreatDoorXB
import Derived.Lib.MinMax
set_option maxRecDepth 100000
set_option linter.all false
namespace Go.Am
open Go Go.RowKit
section
variable {P:Program}
theorem A8B(op:UnOp)(t:TypeId)(x:Operand):K5 P (.unOp op t x):=by
 intro C ρ G bx w id ve o c p r ho hc hr hp hs hu hv;simp only[I3,zj] at hc;obtain⟨a,ha,rfl⟩:=hc;have hx:=hv x (by simp[Op.operands]) a ha;have hex:execOp ρ o=(do pure (.value (←Op.unary op (ρ x)))):=by unfold execOp; simp only[ho]
 simp only[sem] at hr;split at hr
 ·rename_i p0 r0 h0;simp only[zc,zg] at hr;obtain⟨rfl,rfl⟩:=hr;unfold unT at h0;split at h0
  ·rename_i b he;simp only[zc,zg] at h0;obtain⟨_,rfl⟩:=h0;rw[he] at hx;have hv1:ρ x = .bool b:=(by generalize ρ x=vx at hx; cases hx; rfl);exact J0.pure hs hex (by rw[hv1]; simp only[unary_not,Sem.run_pure]) (.bool _)
  ·rename_i k n he;simp only[zc,zg] at h0;obtain⟨_,rfl⟩:=h0;rw[he] at hx;have hv1:ρ x = .int k n:=(by generalize ρ x=vx at hx; cases hx; rfl);exact J0.pure hs hex (by rw[hv1]; simp only[unary_neg,Op.intArith,Sem.run_pure]) (.int _ _)
  ·cases h0
 ·cases hr
theorem A4R(x:Operand)(i:Nat):K5 P (.extract x i):=by
 intro C ρ G bx w id ve o c p r ho hc hr hp hs hu hv;simp only[I3,zj] at hc;obtain⟨a,ha,rfl⟩:=hc;have hx:=hv x (by simp[Op.operands]) a ha;have hex:execOp ρ o=(do pure (.value (←Instr.extract (ρ x) i))):=by unfold execOp; simp only[ho]
 simp only[sem] at hr;split at hr
 ·rename_i vs he;split at hr
  ·rename_i y hy;simp only[zc,zg] at hr;obtain⟨_,rfl⟩:=hr;rw[he] at hx;obtain⟨us,hv1,hus⟩:∃us,ρ x = .tuple us/\j8 G w vs us:=by
    generalize ρ x=vx at hx;cases hx with|tup _ us h1 h2=>exact⟨us,rfl,h1,h2⟩
   obtain⟨u,h1,h2⟩:=hus.get hy;exact J0.pure hs hex (by rw[hv1]; simp only[Instr.extract,h1,Sem.run_pure]) h2
  ·cases hr
 ·cases hr
theorem A6u(t:TypeId)(x i:Operand):K5 P (.index t x i):=by
 intro C ρ G bx w id ve o c p r ho hc hr hp hs hu hv;simp only[I3] at hc;split at hc
 ·rename_i a b ha hb ht;injection hc with hc
  subst hc;have hx:=hv x (by simp[Op.operands]) a ha;have hi:=hv i (by simp[Op.operands]) b hb;simp only[sem] at hr;split at hr
  ·rename_i s k n he hf;simp only[zc,zg] at hr;obtain⟨rfl,rfl⟩:=hr;rw[he] at hx;rw[hf] at hi;have hv1:ρ x = .string ⟨⟨s⟩⟩:=(by generalize ρ x=vx at hx; cases hx; rfl);have hv2:ρ i = .int k n:=(by generalize ρ i=vx at hi; cases hi; rfl);have hg:s[n.toNat]?=some (s.getD n.toNat 0):=(by simp[List.getD,zd hp.2]);exact J0.pure (x:=Instr.index t (ρ x) (ρ i)) hs (by unfold execOp; simp only[ho]) (by rw[hv1,hv2]; exact B5g hp.1 hg ht) (.int _ _)
  ·cases hr
 ·cases hc
theorem A2v(t:TypeId)(l c:Operand):K5 P (.makeSlice t l c):=by
 intro C ρ G bx w id ve o cc p r ho hc hr hp hs hu hv;simp only[I3] at hc;split at hc
 ·rename_i e ht;split at hc
  ·rename_i z i a b hz hi ha hb;split at hc
   ·rename_i hzs;injection hc with hc
    subst hc;have hx:=hv l (by simp[Op.operands]) a ha;have hy:=hv c (by simp[Op.operands]) b hb;simp only[sem] at hr;split at hr
    ·rename_i kl n kc m he hf;simp only[zc,zg] at hr;obtain⟨rfl,rfl⟩:=hr;rw[he] at hx;rw[hf] at hy;have hv1:ρ l = .int kl n:=(by generalize ρ l=vx at hx; cases hx; rfl);have hv2:ρ c = .int kc m:=(by generalize ρ c=vx at hy; cases hy; rfl);obtain⟨zv,h1,h2⟩:=Z9 hz;have hzi:i.zero=some zv:=(by rw[hi] at h1; simpa using h1);exact J0.made (x:=Instr.makeSlice t (ρ l) (ρ c)) (by unfold execOp; simp only[ho]) (by rw[hv1,hv2]; exact B4n hs hu ht hi hzi (h2 G w) rfl rfl hzs hp.1 hp.2.1 hp.2.2.1 hp.2.2.2)
    ·cases hr
   ·cases hc
  ·cases hc
 ·cases hc
theorem W8{G:Gh}{w:World}{ρ:Operand->Value}{ve:G7->AV}{xs:Array Operand}{ys:List G7}(h:A2s xs.toList=some ys)(hv:∀X∈xs.toList,∀x,opd X=some x->RV G w (ve x) (ρ X)):j8 G w (ys.map ve) (xs.map ρ):=by
 obtain⟨h1,h2⟩:=A96 h;refine j8.of_get (by simp[h1]) fun i y u hy hu=>?_;simp only[ye,zj] at hy;obtain⟨a,ha,rfl⟩:=hy;simp only[vi,zj] at hu;obtain⟨b,hb,rfl⟩:=hu;have hb':xs.toList[i]?=some b:=by simpa using hb
 exact hv b (zf hb') a (h2 i a b ha hb')
theorem A3P(f:FuncId)(first caps:Array Operand):K5 P (.makeFunc (.func f) first caps):=by
 intro C ρ G bx w id ve o c p r ho hc hr hp hs hu hv;simp only[I3] at hc;split at hc
 ·rename_i hf;simp only[zj] at hc;obtain⟨ys,hys,rfl⟩:=hc;simp only[sem,zc,zg] at hr;obtain⟨_,rfl⟩:=hr;have hf0:first = #[]:=by simpa using hf
  subst hf0;have hvs:=W8 (G:=G) (w:=w) (ρ:=ρ) hys fun X hX x hx=>hv X (by simp[Op.operands] at hX ⊢; exact hX) x hx;exact J0.pure (x:=Instr.makeFunc (.func f) ((#[]:Array Operand).map ρ) (caps.map ρ)) hs (by unfold execOp; simp only[ho]) (v:=.func (.func f) #[] (caps.map ρ)) (by simp[Instr.makeFunc]) (.fn f _ _ hvs.1 hvs.2)
 ·split at hc
  ·rename_i X h1 h2;simp only[zj] at hc;obtain⟨a,ha,rfl⟩:=hc;simp only[sem,N9,zc,zg] at hr;obtain⟨_,rfl⟩:=hr;have h1':first = #[X]:=(by apply wi; simpa using h1);have h2':caps = #[]:=(by apply wi; simpa using h2);subst h1' h2';exact J0.pure (x:=Instr.makeFunc (.func f) (#[X].map ρ) ((#[]:Array Operand).map ρ)) hs (by unfold execOp; simp only[ho]) (v:=.func (.func f) #[ρ X] #[]) (by simp[Instr.makeFunc]) (.fnb f _ _ rfl fun i y hy=>by
    match i,hy with
    | 0,hy=>simp at hy; subst hy; simpa using hv X (by simp[Op.operands]) a ha
    | i+1,hy=>simp at hy)
  ·cases hc
theorem B17(x:Operand)(u t:TypeId)(b:Bool):K5 P (.typeAssert x u t b):=by
 intro C ρ G bx w id ve o c p r ho hc hr hp hs hu hv;cases b with
 | false=>simp[I3] at hc
 | true =>
  have hex:execOp ρ o=(do pure (.value (←Instr.typeAssert (ρ x) u t true))):=by unfold execOp; simp only[ho]
  simp only[I3] at hc;split at hc
  ·cases hc
  ·rename_i z hz0 hz;simp only[zj] at hc;obtain⟨a,ha,rfl⟩:=hc;simp only[sem,N9] at hr;split at hr
   ·rename_i t' v he;split at hr
    ·rename_i ht;subst ht;simp only[zc,zg] at hr;obtain⟨_,rfl⟩:=hr;have hx:=hv x (by simp[Op.operands]) a ha;rw[he] at hx;obtain⟨y,e1,e2⟩:∃y,ρ x = .iface t' y/\RV G w v y:=by
      generalize ρ x=q at hx;cases hx with|iface _ _ y h=>exact⟨y,rfl,h⟩
     refine J0.pure hs hex (v:=.tuple #[y,.bool true]) ?_ (.tup _ _ rfl fun i q hq=>by
      match i,hq with
      | 0,hq=>simp at hq; subst hq; simpa using e2
      | 1,hq=>simp at hq; subst hq; simpa using RV.bool true
      | i+2,hq=>simp at hq)
     rw[e1];unfold Instr.typeAssert;simp only[Sem.run_bind,run_underlying hz,Result.andThen_ok];cases z<;>first|(exact (hz0 _ rfl).elim)|simp
    ·cases hr
   ·cases hr
  ·cases hc
theorem A6v(t:TypeId)(x:Operand)(k:Nat):K5 P (.field t x k):=by
 intro C ρ G bx w id ve o c p r ho hc hr hp hs hu hv;have hex:execOp ρ o=(do pure (.value (←Instr.field t (ρ x) k))):=by unfold execOp; simp only[ho]
 simp only[I3] at hc;split at hc
 ·rename_i a fs ha hu2;split at hc
  ·rename_i f hf;split at hc
   ·rename_i hg;injection hc with hc
    subst hc;obtain⟨d,hd⟩:=wj.1 hg.1;simp only[sem,N9] at hr;split at hr
    ·rename_i cs he;split at hr
     ·rename_i v hcv;simp only[zc,zg] at hr;obtain⟨_,rfl⟩:=hr;have hx:=hv x (by simp[Op.operands]) a ha;rw[he] at hx;obtain⟨vs,e1,e2,e3⟩:∃vs,ρ x = .agg vs/\cs.length=vs.size/\RV G w v (vs.getD f.offset undef):=by
       generalize ρ x=q at hx;cases hx with|agg _ vs hl h=>exact⟨vs,rfl,hl,h _ _ hcv⟩
      have hlt:f.offset<vs.size:=by
       rw[←e2];exact (ze.1 hcv).1
      have e4:vs[f.offset]?=some (vs.getD f.offset undef):=by
       rw[zl,zy hlt]; rfl
      refine J0.pure hs hex (v:=vs.getD f.offset undef) ?_ e3;rw[e1];unfold Instr.field part;simp only[Sem.run_bind,run_underlying hu2,Result.andThen_ok,hf,asAgg,A1x hd,hg.2];rw[show Sem.run P (pure vs) w = .ok vs w from rfl];simp only[Result.andThen_ok,xt,if_false,e4];rfl
     ·cases hr
    ·cases hr
   ·cases hc
  ·cases hc
 ·cases hc
end
section
variable {P:Program}
theorem A37{G:Gh}{w:World}{ρ:Operand->Value}{ve:G7->AV}{x:Option Operand}{y:Option G7}(h:A6e x=some y)(hv:∀X,x=some X->∀z,opd X=some z->RV G w (ve z) (ρ X)):RVo G w (y.map ve) (x.map ρ):=by
 cases x with
 | none=>simp only[A6e,zc] at h; subst h; trivial
 | some X =>
  simp only[A6e,zj] at h;obtain⟨z,hz,rfl⟩:=h;exact hv X rfl z hz
theorem A6w(t:TypeId)(x:Operand)(lo hi:Option Operand):K5 P (.slice t x lo hi none):=by
 intro C ρ G bx w id ve o c p r ho hc hr hp hs hu hv;simp only[I3] at hc;have hex:execOp ρ o=(do pure (.value (←Instr.sliceAt t (ρ x) (lo.map ρ) (hi.map ρ) none))):=by unfold execOp; simp only[ho]; rfl
 have hlo:∀X,lo=some X->X∈(Op.slice t x lo hi none).operands.toList:=fun X h=>by subst h; simp[Op.operands]
 have hhi:∀X,hi=some X->X∈(Op.slice t x lo hi none).operands.toList:=fun X h=>by subst h; simp[Op.operands]
 split at hc
 ·rename_i a l h ha hl hh ht;injection hc with hc
  subst hc;have hx:=hv x (by simp[Op.operands]) a ha;simp only[sem,A6j] at hr;split at hr
  ·rename_i s he;split at hr
   ·rename_i p1 m1 e1;split at hr
    ·rename_i p2 m2 e2;simp only[zc,zg] at hr;obtain⟨rfl,rfl⟩:=hr;rw[he] at hx;have hv1:ρ x = .string ⟨⟨s⟩⟩:=(by generalize ρ x=vx at hx; cases hx; rfl);obtain⟨u,g1,g2⟩:=B3H (P:=P) (B14 e1 hp.1) (B15 e2 hp.2) (A37 hl fun X hX=>hv X (hlo X hX)) (A37 hh fun X hX=>hv X (hhi X hX)) ht;exact J0.pure hs hex (by rw[hv1]; exact g1) g2
    ·cases hr
   ·cases hr
  ·cases hr
 ·rename_i a l h e ha hl hh ht;simp only[zj] at hc;obtain⟨n,hn,rfl⟩:=hc;have hx:=hv x (by simp[Op.operands]) a ha;simp only[sem,B3K] at hr;split at hr
  ·rename_i xs he;split at hr
   ·rename_i p1 m1 e1;split at hr
    ·rename_i p2 m2 e2;simp only[zc,zg] at hr;obtain⟨rfl,rfl⟩:=hr;obtain⟨⟨q1,q2⟩,q3,q4⟩:=hp;obtain⟨G',s1,ev,us,st⟩:=u4 _ hs fun q hq=>let h:=A6h q1 q hq; ⟨.inl h.1,h.2⟩;have hx':=A94 ev q1 st hx;rw[he] at hx';obtain⟨u,g1,g2⟩:=B4l (P:=P) hx' (B14 e1 q3) (B15 e2 q4) (A37 hl fun X hX z hz=>(hv X (hlo X hX) z hz).mono ev) (A37 hh fun X hX z hz=>(hv X (hhi X hX) z hz).mono ev) ht hn q2;exact⟨.value u,w,G',u,by rw[hex]; simp only[Sem.run_bind,g1,Result.andThen_ok,Sem.run_pure],.inl rfl,s1,ev,g2,fun i hi=>.inl (us i hi)⟩
    ·cases hr
   ·cases hr
  ·cases hr
 ·cases hc
theorem A3Q{x:AV}(h:x.isStr=true):∃s,x = .str s:=by cases x<;>first|exact⟨_,rfl⟩|cases h
theorem A6x{x:AV}(h:x.isStr=false):∀s,x≠.str s:=fun s hs=>by subst hs; cases h
theorem A5u(t:TypeId)(n:Nat)(ps:Array (Nat×Operand)):K5 P (.buildSlice t n ps):=by
 intro C ρ G bx w id ve o c p r ho hc hr hp hs hu hv;simp only[I3] at hc;split at hc
 ·rename_i e ht;split at hc
  ·rename_i z s qs hz hsz hqs;split at hc
   ·rename_i hcond;injection hc with hc
    subst hc;simp only[sem,zc,zg] at hr;obtain⟨rfl,rfl⟩:=hr;obtain⟨q1,q2⟩:=hp;obtain⟨c1,c2,c3⟩:=hcond;obtain⟨zv,z1,z2⟩:=Z9 hz;obtain⟨l1,l2⟩:=A5r hqs;obtain⟨G',s1,ev,us,st⟩:=u4 _ hs fun q hq=>let h:=A1W q1 q hq; ⟨.inl h.1,h.2⟩;obtain⟨m1,m2⟩:=A36 ev q1 st;have hlen:(K1 bx (qs.map fun q=>ve q.2)).2.1.length=qs.length:=(by rw[m1]; simp);have hmade:=A4p (P:=P) s1 (fun h=>hu (us id h)) ht hsz z1 (z2 G' w) c1 (len:=n) c2 (by simp only[maxLen]; omega) (by rw[←c1]; exact q2) (vs:=ps.map fun q=>(q.1,ρ q.2)) (by simp[hlen,l1]) fun i q q' hq hq'=>by
     simp only[vi,zj] at hq';obtain⟨b,hb,rfl⟩:=hq';have hb':ps.toList[i]?=some b:=(by simpa using hb);obtain⟨k,y⟩:=q;rw[List.getElem?_zip_eq_some] at hq;obtain⟨g1,g2⟩:=hq;simp only[ye,zj] at g1;obtain⟨a,ha,rfl⟩:=g1;obtain⟨k1,k2⟩:=l2 i a b ha hb';refine⟨k1,?_⟩;refine m2 (fun i=>ρ ((ps.toList.getD i (0,.const undef)).2)) (fun j y' hy'=>?_) i y g2 |> fun h=>by simpa [List.getD,hb] using h
     simp only[ye,zj] at hy';obtain⟨a',ha',rfl⟩:=hy';have hj:j<ps.toList.length:=(by rw[←l1]; exact (ze.1 ha').1);have hg:=zd hj;have:=hv (ps.toList[j]).2 (by simp only[Op.operands,yi]; exact⟨_,List.getElem_mem hj,rfl⟩) _ (l2 j a' _ ha' hg).2;simpa [List.getD,hg] using this
    obtain⟨v,w',G2,h1,h2,h3,h4,h5⟩:=hmade;refine⟨.value v,w',G2,v,?_,.inl rfl,?_,ev.trans h3,h4,fun i hi=>(h5 i hi).imp (us i) (fun h=>h)⟩
    ·unfold execOp;simp only[ho,Sem.run_bind,h1,Result.andThen_ok,Sem.run_pure]
    ·rw[R8]; exact h2
   ·cases hc
  ·cases hc
 ·cases hc
end
section
variable {P:Program}
theorem B18{ρ:Operand->Value}{o:Oper}{xs:Array Operand}{ts:Array TypeId}(ho:o.op = .call ⟨.builtin .len,xs,ts⟩):execOp ρ o=(do pure (.value (←Builtin.len_ ts o.type (xs.map ρ)))):=by
 unfold execOp;simp only[ho,resolve,invoke,builtin,pure_bind]
theorem A6y{ρ:Operand->Value}{o:Oper}{xs:Array Operand}{ts:Array TypeId}(ho:o.op = .call ⟨.builtin .append,xs,ts⟩):execOp ρ o=(do pure (.value (←Builtin.append_ ts o.type (xs.map ρ)))):=by
 unfold execOp;simp only[ho,resolve,invoke,builtin,pure_bind]
theorem B19{ρ:Operand->Value}{o:Oper}{xs:Array Operand}{ts:Array TypeId}(ho:o.op = .call ⟨.builtin .min,xs,ts⟩):execOp ρ o=(do pure (.value (←Builtin.min_ ts o.type (xs.map ρ)))):=by
 unfold execOp;simp only[ho,resolve,invoke,builtin,pure_bind]
theorem B1A{ρ:Operand->Value}{o:Oper}{xs:Array Operand}{ts:Array TypeId}(ho:o.op = .call ⟨.builtin .max,xs,ts⟩):execOp ρ o=(do pure (.value (←Builtin.max_ ts o.type (xs.map ρ)))):=by
 unfold execOp;simp only[ho,resolve,invoke,builtin,pure_bind]
theorem B1B(mx:Bool)(x y:Operand)(t u:TypeId):K5 P (.call ⟨.builtin (match mx with|true=>.max|false=>.min),#[x,y],#[t,u]⟩):=by
 intro C ρ G bx w id ve o c p r ho hc hr hp hs hu hv;have hc':Y2 mx x y=some c:=by cases mx<;>exact hc
 unfold Y2 at hc';split at hc'
 ·rename_i a b ha hb;injection hc' with hc'
  subst hc';have hx:=hv x (by simp[Op.operands,Call.operands]) a ha;have hy:=hv y (by simp[Op.operands,Call.operands]) b hb;simp only[sem] at hr;cases hxa:ve a<;>cases hyb:ve b<;>rw[hxa,hyb] at hr<;>simp only[mmT] at hr<;>try cases hr
  rename_i k m k' n;split at hr
  ·rename_i q r0 he;split at he
   ·rename_i hk;simp only[zc,zg] at hr he;obtain⟨rfl,rfl⟩:=hr;obtain⟨rfl,rfl⟩:=he;subst hk;rw[hxa] at hx;rw[hyb] at hy;have ex:ρ x = .int k m:=(by generalize ρ x=v at hx; cases hx; rfl);have ey:ρ y = .int k n:=(by generalize ρ y=v at hy; cases hy; rfl);cases mx with
    | true=>exact J0.pure hs (B1A ho) (by simp only[List.map_toArray,yd,ww,ex,ey]; exact Go.Lib.run_max_ints w _ _ k k m n) (.int k _)
    | false=>exact J0.pure hs (B19 ho) (by simp only[List.map_toArray,yd,ww,ex,ey]; exact Go.Lib.run_min_ints w _ _ k k m n) (.int k _)
   ·cases he
  ·cases hr
 ·cases hc'
theorem A9p(x:Operand)(t:TypeId):K5 P (.call ⟨.builtin .len,#[x],#[t]⟩):=by
 intro C ρ G bx w id ve o c p r ho hc hr hp hs hu hv;simp only[I3,L8] at hc;have hop:∀a,opd x=some a->RV G w (ve a) (ρ x):=fun a ha=>hv x (by simp[Op.operands,Call.operands]) a ha;have fin:∀(a:G7) (st:Bool),opd x=some a->(st=true↔P.underlying t=some .string)->(P.underlying t=some .string\/∃e,P.underlying t=some (.slice e))->sem ve bx id (.len st a)=some (p,r)->J0 P C ρ o G bx w id r:=by
  intro a st ha hst ht hr;simp only[sem] at hr;split at hr
  ·rename_i r0 rd hl;simp only[zc,zg] at hr;obtain⟨rfl,rfl⟩:=hr;obtain⟨z,h1,h2⟩:=B4k (P:=P) hs (hop a ha) (B3I hl) ht ⟨fun⟨s,h⟩=>hst.1 (by rw[←hp,h]; rfl),fun h=>A3Q (by rw[hp]; exact hst.2 h)⟩ o.type;exact J0.pure hs (B18 ho) (by simpa using h1) h2
  ·cases hr
 simp only[V7] at hc;split at hc
 ·rename_i a ha ht;injection hc with hc
  subst hc;exact fin a true ha (by simp[ht]) (.inl ht) hr
 ·rename_i a e ha ht;injection hc with hc
  subst hc;exact fin a false ha (by simp[ht]) (.inr ⟨e,ht⟩) hr
 ·cases hc
theorem A5v(x y:Operand)(t u:TypeId):K5 P (.call ⟨.builtin .append,#[x,y],#[t,u]⟩):=by
 intro C ρ G bx w id ve o c p r ho hc hr hp hs hu hv;simp only[I3,L8] at hc;have hx:∀a,opd x=some a->RV G w (ve a) (ρ x):=fun a ha=>hv x (by simp[Op.operands,Call.operands]) a ha;have hy:∀a,opd y=some a->RV G w (ve a) (ρ y):=fun a ha=>hv y (by simp[Op.operands,Call.operands]) a ha;have fin:∀(a b:G7) (st:Bool) (e:TypeId) (z:AV) (i:TypeInfo),opd x=some a->opd y=some b->P.underlying t=some (.slice e)->r9 P e=some z->P.info? e=some i->z.cells.length=i.size ->
   ((st=true/\P.underlying u=some .string/\i.size=1)\/(st=false/\∃e,P.underlying u=some (.slice e)))->sem ve bx id (.app st z i.bytes a b)=some (p,r)->J0 P C ρ o G bx w id r:=by
  intro a b st e z i ha hb ht hz hi hzi hst hr;simp only[sem] at hr;split at hr
  ·rename_i p0 ys rd he;split at hr
   ·rename_i q0 r0 hap;simp only[zc,zg] at hr;obtain⟨rfl,rfl⟩:=hr;obtain⟨⟨q1,q2,q3⟩,q4⟩:=hp;obtain⟨zv,z1,z2⟩:=Z9 hz;have hzz:i.zero=some zv:=(by rw[hi] at z1; simpa using z1);have hzs:zv.cells.size=i.size:=(by rw[←(K6 (z2 G w)).1]; exact hzi);have hk:((∃t,ve b = .str t)/\P.underlying u=some .string/\i.size=1)\/((∀t,ve b≠.str t)/\∃e,P.underlying u=some (.slice e)) :=
     hst.imp (fun h=>⟨A3Q (by rw[q2]; exact h.1),h.2⟩) (fun h=>⟨A6x (by rw[q2]; exact h.1),h.2⟩)
    have key:∀rd',A2X z bx id (ve a) ys=some (r0.v,rd',r0.wr)->(∀n,e7 bx (ve a)=some (.int .i64 n)->(n+ys.length)*i.bytes<=140737488355328/\n+ys.length<=9223372036854775807)->J0 P C ρ o G bx w id ⟨r0.v,rd++r0.rd,r0.wr⟩:=fun rd' h1 h2 =>
     J0.made (A6y ho) (by
      have:=A1z (P:=P) (ty:=o.type) hs hu (hx a ha) (hy b hb) (A4r he q1) (fun e he=>(q3 e he).1.trans hzi) (fun e he c hc=>(yq.1 (q3 e he).2) c hc) h1 hzi hk ht hi hzz hzs rfl rfl h2;simpa using this)
    unfold A6g at hap;split at hap
    ·rename_i hn;simp only[zc,zg] at hap;obtain⟨rfl,rfl⟩:=hap;refine key [] (by simp only[hn,A2X]) fun n hn'=>?_;simp only[hn,e7,zc,AV.int.injEq,true_and] at hn';subst hn';refine⟨?_,by have:=q4.2; omega⟩;have:=q4.1;rw[Int.zero_add,←uv];omega
    ·rename_i i0 off n hn;split at hap
     ·rename_i bb hbb;simp only[zc,zg] at hap;obtain⟨rfl,rfl⟩:=hap;obtain⟨q5,q6,q7⟩:=q4;refine key [(i0,bb)] (by simp only[hn,A2X,hbb,zk q5]) fun m hm=>?_;simp only[hn,e7,hbb,zc,AV.int.injEq,true_and] at hm;subst hm;refine⟨?_,by omega⟩;rw[←Int.natCast_add,←uv];omega
     ·cases hap
    ·cases hap
   ·cases hr
  ·cases hr
 simp only[V8] at hc;split at hc
 ·rename_i a b e ha hb ht hu';split at hc
  ·rename_i z i hz hi;split at hc
   ·rename_i hc2;injection hc with hc
    subst hc;exact fin a b true e z i ha hb ht hz hi hc2.1 (.inl ⟨rfl,hu',hc2.2⟩) hr
   ·cases hc
  ·cases hc
 ·rename_i a b e e' ha hb ht hu';split at hc
  ·rename_i z i hz hi;split at hc
   ·rename_i hc2;injection hc with hc
    subst hc;exact fin a b false e z i ha hb ht hz hi hc2 (.inr ⟨rfl,e',hu'⟩) hr
   ·cases hc
  ·cases hc
 ·cases hc
end
section
variable {P:Program}
theorem B1C{P:Program}{C:Cx P}{G:Gh}{bx:Nat->Option Bx}{w:World}(hs:RS C G bx w){x:AV}{v:Value}(h:RV G w x v)(hx:∀s,x≠.str s){ys:List AV}(he:elems bx x=some ys)(hu:ys.all A4Q=true):
  (∃n c,v = .slice none n c/\ys=[])\/∃a c,v = .slice (some a) ys.length c/\∀(i:Nat) y,ys[i]?=some y->w.cell? (a.add i)=some (.int .u8 (match y with | .int _ n=>n|_=>0)):=by
 have hone:∀(y:AV) (u:Value),A4Q y=true->RV G w y u->u = .int .u8 (match y with | .int _ n=>n|_=>0):=fun y u hy hr=>by
  cases hr<;>first|(simp[A4Q] at hy; done)|skip
  rename_i k n;cases k<;>first|rfl|(simp[A4Q] at hy)
 have hcells:∀y∈ys,y.cells=[y]:=fun y hy=>by
  have:=(yq.1 hu) y hy;cases y<;>first|rfl|(simp[A4Q] at this)
 cases x with
 | nils =>
  simp only[elems,zc] at he;cases h
  exact .inl ⟨0,0,rfl,he.symm⟩
 | sl xs =>
  simp only[elems,zc] at he;subst he;cases h with|sl _ A c s u hc hm hn hs' h1 h2 h3 =>
  cases A with
  | none=>exact .inl ⟨_,_,rfl,(hn rfl).1⟩
  | some a =>
   refine .inr ⟨a,c,rfl,fun i y hy=>?_⟩;have hyc:=hcells y (zf hy);have hs1:s=1:=(by rw[←hs' i y hy,hyc]; rfl);have g2:=h2 a i y 0 y rfl hy (by rw[hyc]; rfl);rw[hs1,Nat.mul_one,wh] at g2;rw[g2,hone y (u i 0) ((yq.1 hu) y (zf hy)) (h3 i y 0 y hy (by rw[hyc]; rfl))]
 | bsl id off len =>
  simp only[elems] at he;split at he
  ·rename_i b hb;split at he
   ·rename_i hle;injection he with he
    cases h with|bsl _ _ _ _ hone' hub hbm hnl =>
    by_cases hn:G.nl id
    ·obtain⟨hv,_,hl⟩:=hnl hn;refine .inl ⟨_,_,hv,?_⟩;rw[←he,hl]; simp
    ·obtain⟨blk,s',cur,e',h1',h2',_,_,h5,_⟩:=hs.box id b hb hn;obtain⟨c,cur',e'',hv,_⟩:=hbm blk s' h1';have hlen:ys.length=len:=(by rw[←he]; simp; omega);refine .inr ⟨_,c,by rw[hlen]; exact hv,fun i y hy=>?_⟩;have hyc:=hcells y (zf hy);have hi':b.xs[off+i]?=some y:=by
      rw[←he,zr] at hy;split at hy
      ·rwa [zw] at hy
      ·cases hy
     obtain⟨g1,g2⟩:=h5 _ y hi';have hs1:s'=1:=(by rw[←g1,hyc]; rfl);obtain⟨u,hu1,hu2⟩:=g2 0 y (by rw[hyc]; rfl);subst hs1;rw[Addr.add_lit,C1 h2',show off*1+i=(off+i)*1+0 by omega,hu1,hone y u ((yq.1 hu) y (zf hy)) hu2]
   ·cases he
  ·cases he
 | str s=>exact (hx s rfl).elim
 | _=>cases he
theorem A9q(t:TypeId)(x:Operand):K5 P (.makeInterface t x):=by
 intro C ρ G bx w id ve o c p r ho hc hr hp hs hu hv;have hex:execOp ρ o=(do pure (.value (←Instr.makeInterface t (ρ x)))):=by unfold execOp; simp only[ho]
 simp only[I3] at hc;split at hc
 ·rename_i ht;obtain⟨a,ha,rfl⟩:=zj.1 hc;simp only[sem,N9,zc,zg] at hr;obtain⟨_,rfl⟩:=hr;exact J0.pure hs hex (run_makeInterface (P:=P) w t (ρ x) ht) (.iface t _ _ (hv x (by simp[Op.operands]) a ha))
 ·cases hc
theorem A4S(s d:TypeId)(x:Operand):K5 P (.convert s d x):=by
 intro C ρ G bx w id ve o c p r ho hc hr hp hs hu hv;have hex:execOp ρ o=(do pure (.value (←convert s d (ρ x)))):=by unfold execOp; simp only[ho]
 simp only[I3] at hc;split at hc
 ·rename_i a ks kd ha h1 h2;injection hc with hc
  subst hc;have hx:=hv x (by simp[Op.operands]) a ha;simp only[sem,N9] at hr;split at hr
  ·rename_i k n he;simp only[zc,zg] at hr;obtain⟨_,rfl⟩:=hr;rw[he] at hx;have hv1:ρ x = .int k n:=(by generalize ρ x=vx at hx; cases hx; rfl);have hk:P.intKind d=kd:=(by simp[Program.intKind,h2]);have:=run_convert_int (P:=P) w s d k n (by simp[h1]) (by rw[hk]; exact h2);rw[hk] at this;exact J0.pure hs hex (by rw[hv1]; exact this) (.int _ _)
  ·cases hr
 ·rename_i a e ha h1 h2;split at hc
  ·rename_i he8;injection hc with hc
   subst hc;have hx:=hv x (by simp[Op.operands]) a ha;simp only[sem,N9] at hr;split at hr
   ·rename_i l he;simp only[zc,zg] at hr;obtain⟨rfl,rfl⟩:=hr;rw[he] at hx;have hv1:ρ x = .string ⟨⟨l⟩⟩:=(by generalize ρ x=vx at hx; cases hx; rfl);have h3:P.underlying e=some (.int .u8):=by
     unfold A6k at he8;split at he8
     ·assumption
     ·cases he8
    exact J0.made hex (by rw[hv1]; exact A87 hs h1 h2 h3 hp id)
   ·cases hr
  ·cases hc
 ·rename_i a e ha h1 h2;split at hc
  ·rename_i he8;injection hc with hc
   subst hc;have hx:=hv x (by simp[Op.operands]) a ha;have h3:P.underlying e=some (.int .u8):=by
    unfold A6k at he8;split at he8
    ·assumption
    ·cases he8
   simp only[sem,N9] at hr;split at hr
   ·cases hr
   ·rename_i hns;split at hr
    ·rename_i p0 ys rd hel;simp only[zc,zg] at hr;obtain⟨rfl,rfl⟩:=hr;rcases B1C hs hx (fun s h=>hns s h) (A4r hel hp.1) hp.2 with⟨n,c,hv1,hy⟩|⟨ad,c,hv1,hcell⟩
     ·subst hy;exact J0.pure hs hex (by rw[hv1]; exact run_convert_bytes_nil (P:=P) w s e h1 h3 n c d h2) (.str [])
     ·have hl:=run_loadCells_list (P:=P) w ad ((ys.map fun y=>(match y with | .int _ n=>n|_=>0:Int)).map (Value.int .u8)) (fun j v hj=>by
       simp only[ye,zj] at hj;obtain⟨_,⟨y,hy,rfl⟩,rfl⟩:=hj;exact hcell j y hy)
      simp only[xd] at hl;have hpush:∀(l:List AV) (r:ByteArray),l.all A4Q=true->(l.map fun y=>(match y with | .int _ n=>n|_=>0:Int)).foldl (fun r n=>r.push (UInt8.ofNat n.toNat)) r=⟨r.data++(l.map A4P).toArray⟩:=by
       intro l;induction l with
       | nil=>intro r _; simp
       | cons y l ih =>
        intro r hall;simp only[List.all_cons,yh] at hall;simp only[yd,wv];rw[ih _ hall.2];cases y<;>simp[A4Q] at hall
        simp[ByteArray.push,A4P]
      have hrun:(convert s d (ρ x)).run P w = .ok (.string ⟨⟨ys.map A4P⟩⟩) w:=by
       rw[hv1,run_convert_bytes_string w s d e _ _ _ h1 h3 h2,run_bytesToString w ad ys.length c _ hl,hpush ys _ hp.2];have he0:ByteArray.empty.data = #[]:=rfl;rw[he0];simp
      exact J0.pure hs hex hrun (.str _)
    ·cases hr
  ·cases hc
 ·cases hc
end
section
variable {P:Program}
theorem A19{op:Op}(h:I3 P op=none):K5 P op:=by
 intro C ρ G bx w id ve o c p r ho hc;rw[h] at hc; cases hc
theorem A8C(c a b:Operand):K5 P (.pick c a b):=by
 intro C ρ G bx w id ve o cc p r ho hc hr;simp only[I3] at hc;split at hc
 ·injection hc with hc
  subst hc;simp[sem] at hr
 ·cases hc
theorem A6z(x:Operand):K5 P (.panic x):=by
 intro C ρ G bx w id ve o cc p r ho hc hr;simp only[I3,zj] at hc;obtain⟨a,_,rfl⟩:=hc;simp[sem] at hr
theorem A5w{ca:Callee}{xs:List Operand}{ts:List TypeId}{c:W6}(h:L8 P ca xs ts=some c):(∃x t,ca = .builtin .len/\xs=[x]/\ts=[t])\/(∃x y t u,ca = .builtin .append/\xs=[x,y]/\ts=[t,u])\/(∃(mx:Bool) (x y:Operand) (t u:TypeId),ca = .builtin (match mx with|true=>.max|false=>.min)/\xs=[x,y]/\ts=[t,u])\/∀ve bx id,sem ve bx id c=none:=by
 unfold L8 at h;split at h
 ·exact .inl ⟨_,_,rfl,rfl,rfl⟩
 ·exact .inr (.inl ⟨_,_,_,_,rfl,rfl,rfl⟩)
 ·exact .inr (.inr (.inl ⟨false,_,_,_,_,rfl,rfl,rfl⟩))
 ·exact .inr (.inr (.inl ⟨true,_,_,_,_,rfl,rfl,rfl⟩))
 ·simp only[zj] at h;obtain⟨ys,_,rfl⟩:=h;exact .inr (.inr (.inr fun _ _ _=>rfl))
 ·simp only[zj] at h;obtain⟨ys,_,rfl⟩:=h;exact .inr (.inr (.inr fun _ _ _=>rfl))
 ·unfold V9 at h;split at h
  ·split at h
   ·injection h with h; subst h; exact .inr (.inr (.inr fun _ _ _=>rfl))
   ·cases h
  ·cases h
 ·unfold W3 at h;split at h
  ·injection h with h; subst h; exact .inr (.inr (.inr fun _ _ _=>rfl))
  ·cases h
 ·cases h
theorem A8D(c:Call):K5 P (.call c):=by
 intro C ρ G bx w id ve o cc p r ho hc hr hp hs hu hv;have hc':=hc;simp only[I3] at hc';obtain⟨ca,xs,ts⟩:=c;rcases A5w hc' with⟨x,t,h1,h2,h3⟩|⟨x,y,t,u,h1,h2,h3⟩|⟨mx,x,y,t,u,h1,h2,h3⟩|h
 ·simp only at h1 h2 h3;have h2':xs = #[x]:=by apply wi; simpa using h2
  have h3':ts = #[t]:=by apply wi; simpa using h3
  subst h1 h2' h3';exact A9p x t C ρ G bx w id ve o cc p r ho hc hr hp hs hu hv
 ·simp only at h1 h2 h3;have h2':xs = #[x,y]:=by apply wi; simpa using h2
  have h3':ts = #[t,u]:=by apply wi; simpa using h3
  subst h1 h2' h3';exact A5v x y t u C ρ G bx w id ve o cc p r ho hc hr hp hs hu hv
 ·simp only at h1 h2 h3;have h2':xs = #[x,y]:=by apply wi; simpa using h2
  have h3':ts = #[t,u]:=by apply wi; simpa using h3
  subst h1 h2' h3';exact B1B mx x y t u C ρ G bx w id ve o cc p r ho hc hr hp hs hu hv
 ·rw[h] at hr; cases hr
theorem A9r(op:Op):K5 P op:=by
 cases op with
 | move x=>exact A88 x
 | assign x=>exact A5q x
 | pick c a b=>exact A8C c a b
 | alloc t=>exact A6l t
 | box t x=>exact A9m t x
 | build t ps=>exact A6n t ps
 | buildSlice t n ps=>exact A5u t n ps
 | load t x=>exact A89 t x
 | store t x v=>exact A6m t x v
 | nilCheck x=>exact A3O x
 | binOp op t x y u=>exact A6t op t x y u
 | unOp op t x=>exact A8B op t x
 | convert s d x=>exact A4S s d x
 | makeFunc fn first caps =>
  cases fn with
  | func f=>exact A3P f first caps
  | _=>exact A19 rfl
 | makeSlice t l c=>exact A2v t l c
 | slice t x lo hi m =>
  cases m with
  | none=>exact A6w t x lo hi
  | some m=>exact A19 rfl
 | fieldAddr t x k=>exact A2t t x k
 | indexAddr t x i=>exact A2u t x i
 | index t x i=>exact A6u t x i
 | extract x i=>exact A4R x i
 | call c=>exact A8D c
 | makeInterface t x=>exact A9q t x
 | field t x k=>exact A6v t x k
 | typeAssert x u t b=>exact B17 x u t b
 | panic x=>exact A6z x
 | _=>exact A19 rfl
end
def G8(bx:Nat->Option Bx)(rd:List (Nat×Bx)):Prop:=∀q∈rd,bx q.1=some q.2
theorem G8.nil{bx:Nat->Option Bx}:G8 bx []:=fun q hq=>by cases hq
theorem G8.left{bx:Nat->Option Bx}{a b:List (Nat×Bx)}(h:G8 bx (a++b)):G8 bx a:=fun q hq=>h q (by simp[hq])
theorem G8.right{bx:Nat->Option Bx}{a b:List (Nat×Bx)}(h:G8 bx (a++b)):G8 bx b:=fun q hq=>h q (by simp[hq])
theorem G8.app{bx:Nat->Option Bx}{a b:List (Nat×Bx)}(h:G8 bx a)(k:G8 bx b):G8 bx (a++b):=fun q hq=>(zo.1 hq).elim (h q) (k q)
theorem G8.one{bx:Nat->Option Bx}{i:Nat}{b:Bx}(h:bx i=some b):G8 bx [(i,b)]:=fun q hq=>by simp only[xm] at hq; subst hq; exact h
theorem G8.get{bx:Nat->Option Bx}{i:Nat}{b:Bx}(h:G8 bx [(i,b)]):bx i=some b:=h (i,b) (by simp)
section
variable {bx bx':Nat->Option Bx}
theorem A70{x:AV}{p:Prop}{cs:List AV}{rd:List (Nat×Bx)}(h:e9 bx x=some (p,cs,rd)):G8 bx rd/\(G8 bx' rd->e9 bx' x=some (p,cs,rd)):=by
 unfold e9 at h;split at h
 ·simp only[zc,zg] at h;obtain⟨rfl,rfl,rfl⟩:=h;exact⟨G8.nil,fun _=>rfl⟩
 ·split at h
  ·rename_i b hb;simp only[zc,zg] at h;obtain⟨rfl,rfl,rfl⟩:=h;exact⟨G8.one hb,fun hx=>by simp only[e9,hx.get]⟩
  ·cases h
 ·cases h
theorem A1Y{off:Nat}{x r:AV}{p:Prop}{rd:List (Nat×Bx)}(h:q9 bx off x=some (p,r,rd)):G8 bx rd/\(G8 bx' rd->q9 bx' off x=some (p,r,rd)):=by
 unfold q9 at h;split at h
 ·simp only[zc,zg] at h;obtain⟨rfl,rfl,rfl⟩:=h;exact⟨G8.nil,fun _=>rfl⟩
 ·split at h
  ·rename_i b hb;simp only[zc,zg] at h;obtain⟨rfl,rfl,rfl⟩:=h;exact⟨G8.one hb,fun hx=>by simp only[q9,hx.get]⟩
  ·cases h
 ·cases h
theorem A5x{s:Nat}{z x i r:AV}{p:Prop}{rd:List (Nat×Bx)}(h:z7 s z bx x i=some (p,r,rd)):G8 bx rd/\(G8 bx' rd->z7 s z bx' x i=some (p,r,rd)):=by
 unfold z7 at h;split at h
 ·simp only[zc,zg] at h;obtain⟨rfl,rfl,rfl⟩:=h;exact⟨G8.nil,fun _=>rfl⟩
 ·split at h
  ·rename_i b hb;simp only[zc,zg] at h;obtain⟨rfl,rfl,rfl⟩:=h;exact⟨G8.one hb,fun hx=>by simp only[z7,hx.get]⟩
  ·cases h
 ·cases h
theorem A8E{x r:AV}{rd:List (Nat×Bx)}(h:A5o bx x=some (r,rd)):G8 bx rd/\(G8 bx' rd->A5o bx' x=some (r,rd)):=by
 unfold A5o at h;split at h<;>first
  | (simp only[zc,zg] at h; obtain⟨rfl,rfl⟩:=h; exact⟨G8.nil,fun _=>rfl⟩)
  | (split at h
     ·rename_i b hb;simp only[zc,zg] at h; obtain⟨rfl,rfl⟩:=h;exact⟨G8.one hb,fun hx=>by simp only[A5o,hx.get]⟩
     ·cases h)
  | cases h
theorem A1Z{x:AV}{p:Prop}{ys:List AV}{rd:List (Nat×Bx)}(h:Y1 bx x=some (p,ys,rd)):G8 bx rd/\(G8 bx' rd->Y1 bx' x=some (p,ys,rd)):=by
 unfold Y1 at h;split at h<;>first
  | (simp only[zc,zg] at h; obtain⟨rfl,rfl,rfl⟩:=h; exact⟨G8.nil,fun _=>rfl⟩)
  | (split at h
     ·rename_i b hb;simp only[zc,zg] at h; obtain⟨rfl,rfl,rfl⟩:=h;exact⟨G8.one hb,fun hx=>by simp only[Y1,hx.get]⟩
     ·cases h)
  | cases h
theorem A2Z{x:AV}(hp:(S6 bx x).1):G8 bx (S6 bx x).2.2/\(G8 bx' (S6 bx x).2.2->S6 bx' x=S6 bx x):=by
 cases x with
 | bsl id off len =>
  simp only[S6] at hp ⊢;cases hb:bx id with
  | none=>simp only[hb] at hp
  | some b =>
   simp only;exact⟨G8.one hb,fun hx=>by simp only[hx.get]⟩
 | _=>exact⟨G8.nil,fun _=>rfl⟩
theorem A1A:∀{l:List AV},(W7 bx l).1->G8 bx (W7 bx l).2.2/\(G8 bx' (W7 bx l).2.2->W7 bx' l=W7 bx l)
 | [],_=>⟨G8.nil,fun _=>rfl⟩
 | x::r,hp=>by
  simp only[W7] at hp ⊢;obtain⟨h1,h2⟩:=A2Z (bx':=bx') hp.1;obtain⟨h3,h4⟩:=A1A (l:=r) hp.2;exact⟨h1.app h3,fun hx=>by rw[h2 hx.left,h4 hx.right]⟩
theorem A3R{x:AV}(hp:(r8 bx x).1):G8 bx (r8 bx x).2.2/\(G8 bx' (r8 bx x).2.2->r8 bx' x=r8 bx x):=by
 cases x with
 | agg cs =>
  obtain⟨h1,h2⟩:=A1A (bx':=bx') (l:=cs) hp;exact⟨h1,fun hx=>by simp only[r8]; rw[h2 hx]⟩
 | tup cs =>
  obtain⟨h1,h2⟩:=A1A (bx':=bx') (l:=cs) hp;exact⟨h1,fun hx=>by simp only[r8]; rw[h2 hx]⟩
 | bsl id off len=>exact A2Z (bx':=bx') (x:=.bsl id off len) hp
 | _=>exact⟨G8.nil,fun _=>rfl⟩
theorem f6:∀{l:List AV},(K1 bx l).1->G8 bx (K1 bx l).2.2/\(G8 bx' (K1 bx l).2.2->K1 bx' l=K1 bx l)
 | [],_=>⟨G8.nil,fun _=>rfl⟩
 | x::r,hp=>by
  simp only[K1] at hp ⊢;obtain⟨h1,h2⟩:=A3R (bx':=bx') hp.1;obtain⟨h3,h4⟩:=f6 (l:=r) hp.2;exact⟨h1.app h3,fun hx=>by rw[h2 hx.left,h4 hx.right]⟩
end
section
variable {bx bx':Nat->Option Bx}
theorem A4t{agg:Bool}{n:Nat}{x:AV}{p:Prop}{r:Rs}(h:ldT agg n (e9 bx x)=some (p,r)):G8 bx r.rd/\(G8 bx' r.rd->ldT agg n (e9 bx' x)=some (p,r)):=by
 cases hl:e9 bx x with
 | none=>rw[hl] at h; cases h
 | some q =>
  obtain⟨p0,cs,rd⟩:=q;rw[hl] at h;obtain⟨h1,h2⟩:=A70 (bx':=bx') hl;have hrd:r.rd=rd:=by
   unfold ldT at h;cases agg with
   | true=>simp only[zc,zg] at h; rw[←h.2]
   | false=>cases cs<;>simp only[zc,zg,reduceCtorEq] at h; rw[←h.2]
  rw[hrd];exact⟨h1,fun hx=>by rw[h2 hx]; exact h⟩
theorem A9s{n:Nat}{x v:AV}{p:Prop}{r:Rs}(h:stT bx n x v=some (p,r)):G8 bx r.rd/\(G8 bx' r.rd->stT bx' n x v=some (p,r)):=by
 unfold stT at h;split at h
 ·split at h
  ·rename_i b hb;simp only[zc,zg] at h;obtain⟨rfl,rfl⟩:=h;exact⟨G8.one hb,fun hx=>by simp only[stT,hx.get]⟩
  ·cases h
 ·cases h
theorem A8F{d:AV}{bytes id:Nat}{x:AV}{ys:List AV}{p:Prop}{r:Rs}(h:A6g d bytes bx id x ys=some (p,r)):G8 bx r.rd/\(G8 bx' r.rd->A6g d bytes bx' id x ys=some (p,r)):=by
 unfold A6g at h;split at h
 ·simp only[zc,zg] at h;obtain⟨rfl,rfl⟩:=h;exact⟨G8.nil,fun _=>rfl⟩
 ·split at h
  ·rename_i b hb;simp only[zc,zg] at h;obtain⟨rfl,rfl⟩:=h;exact⟨G8.one hb,fun hx=>by simp only[A6g,hx.get]⟩
  ·cases h
 ·cases h
theorem A71{k:CK}{x:AV}{p:Prop}{r:Rs}(h:N9 bx k x=some (p,r)):G8 bx r.rd/\(G8 bx' r.rd->N9 bx' k x=some (p,r)):=by
 cases k with
 | same=>simp only[N9,zc,zg] at h; obtain⟨rfl,rfl⟩:=h; exact⟨G8.nil,fun _=>rfl⟩
 | mki t=>simp only[N9,zc,zg] at h; obtain⟨rfl,rfl⟩:=h; exact⟨G8.nil,fun _=>rfl⟩
 | rcv t=>simp only[N9,zc,zg] at h; obtain⟨rfl,rfl⟩:=h; exact⟨G8.nil,fun _=>rfl⟩
 | fld i =>
  simp only[N9] at h;split at h
  ·split at h
   ·rename_i hq;simp only[zc,zg] at h;obtain⟨rfl,rfl⟩:=h;exact⟨G8.nil,fun _=>by simp only[N9,hq]⟩
   ·cases h
  ·cases h
 | ta t=>simp only[N9] at h; split at h<;>first|(split at h<;>first|(simp only[zc,zg] at h; obtain⟨rfl,rfl⟩:=h; exact⟨G8.nil,fun _=>by simp_all[N9]⟩)|cases h)|cases h
 | int k=>simp only[N9] at h; split at h<;>first|(simp only[zc,zg] at h; obtain⟨rfl,rfl⟩:=h; exact⟨G8.nil,fun _=>rfl⟩)|cases h
 | bytes=>simp only[N9] at h; split at h<;>first|(simp only[zc,zg] at h; obtain⟨rfl,rfl⟩:=h; exact⟨G8.nil,fun _=>rfl⟩)|cases h
 | str =>
  have hs:∀s,x≠.str s:=fun s hs=>by subst hs; simp[N9] at h
  have key:∀b:Nat->Option Bx,N9 b .str x=match Y1 b x with
   | some (p,ys,rd)=>some (p/\ys.all A4Q=true,⟨.str (ys.map A4P),rd,[]⟩)
   | none=>none:=fun b=>by
   cases x<;>first|rfl|exact (hs _ rfl).elim
  rw[key] at h;cases he:Y1 bx x with
  | none=>rw[he] at h; cases h
  | some q =>
   obtain⟨p0,ys,rd⟩:=q;rw[he] at h;simp only[zc,zg] at h;obtain⟨rfl,rfl⟩:=h;obtain⟨h1,h2⟩:=A1Z (bx':=bx') he;exact⟨h1,fun hx=>by rw[key,h2 hx]⟩
theorem A8G{n s:Nat}{x i r:AV}{p:Prop}{rd:List (Nat×Bx)}(h:A5n n s bx x i=some (p,r,rd)):G8 bx rd/\(G8 bx' rd->A5n n s bx' x i=some (p,r,rd)):=by
 unfold A5n at h;split at h
 ·rename_i k m;split at h
  ·rename_i p0 r0 rd0 hf;simp only[zc,zg] at h;obtain⟨rfl,rfl,rfl⟩:=h;obtain⟨h1,h2⟩:=A1Y (bx':=bx') hf;exact⟨h1,fun hx=>by simp only[A5n,h2 hx]⟩
  ·cases h
 ·cases h
theorem A4u{ve:G7->AV}{id:Nat}{c:W6}{p:Prop}{r:Rs}(h:sem ve bx id c=some (p,r))(hp:p):G8 bx r.rd/\(G8 bx' r.rd->sem ve bx' id c=some (p,r)):=by
 have plain:r.rd=[]->(∀b,sem ve b id c=sem ve bx id c)->G8 bx r.rd/\(G8 bx' r.rd->sem ve bx' id c=some (p,r)):=fun h1 h2=>⟨by rw[h1]; exact G8.nil,fun _=>by rw[h2]; exact h⟩;have keep:∀(q:Option (Prop×AV)),(match q with|some (p,r)=>some (p,(⟨r,[],[]⟩:Rs))|none=>none)=some (p,r)->r.rd=[]:=fun q hq=>by
  cases q with
  | none=>cases hq
  | some q=>simp only[zc,zg] at hq; rw[←hq.2]
 have named:∀(f:(Nat->Option Bx)->Option (Prop×AV×List (Nat×Bx))),(∀p0 r0 rd,f bx=some (p0,r0,rd)->G8 bx rd/\(G8 bx' rd->f bx'=some (p0,r0,rd))) ->
   (match f bx with|some (p,r,rd)=>some (p,(⟨r,rd,[]⟩:Rs))|none=>none)=some (p,r)->G8 bx r.rd/\(G8 bx' r.rd->(match f bx' with|some (p,r,rd)=>some (p,(⟨r,rd,[]⟩:Rs))|none=>none)=some (p,r)):=fun f hf hq=>by
  cases he:f bx with
  | none=>rw[he] at hq; cases hq
  | some q =>
   obtain⟨p0,r0,rd⟩:=q;rw[he] at hq;simp only[zc,zg] at hq;obtain⟨rfl,rfl⟩:=hq;obtain⟨h1,h2⟩:=hf _ _ _ he;exact⟨h1,fun hx=>by rw[h2 hx]⟩
 cases c with
 | ld agg n x=>exact A4t h
 | st n x v=>exact A9s h
 | conv k x=>exact A71 h
 | mv x=>exact plain (by simp only[sem,zc,zg] at h; rw[←h.2]) fun b=>rfl
 | alloc z=>exact plain (by simp only[sem,zc,zg] at h; rw[←h.2]) fun b=>rfl
 | box x=>exact plain (by simp only[sem,zc,zg] at h; rw[←h.2]) fun b=>rfl
 | mkf f caps=>exact plain (by simp only[sem,zc,zg] at h; rw[←h.2]) fun b=>rfl
 | pick c a b=>cases h
 | call f xs=>cases h
 | callv x xs=>cases h
 | pnk x=>cases h
 | cpy x y=>cases h
 | inv m x xs=>cases h
 | aa n s x i=>exact named (fun b=>A5n n s b (ve x) (ve i)) (fun _ _ _ h=>A8G h) h
 | build zs ps =>
  refine plain ?_ fun b=>rfl;simp only[sem] at h;split at h
  ·simp only[zc,zg] at h; rw[←h.2]
  ·cases h
 | bin op eqs x y=>exact plain (keep _ h) fun b=>rfl
 | mm mx x y=>exact plain (keep _ h) fun b=>rfl
 | un op x=>exact plain (keep _ h) fun b=>rfl
 | mks z bytes l c =>
  refine plain ?_ fun b=>rfl;simp only[sem] at h;split at h
  ·simp only[zc,zg] at h; rw[←h.2]
  ·cases h
 | ix x i =>
  refine plain ?_ fun b=>rfl;simp only[sem] at h;split at h
  ·simp only[zc,zg] at h; rw[←h.2]
  ·cases h
 | ext x i =>
  refine plain ?_ fun b=>rfl;simp only[sem] at h;split at h
  ·split at h
   ·simp only[zc,zg] at h; rw[←h.2]
   ·cases h
  ·cases h
 | slis x lo hi =>
  refine plain ?_ fun b=>rfl;simp only[sem,A6j] at h;split at h
  ·split at h
   ·split at h
    ·simp only[zc,zg] at h; rw[←h.2]
    ·cases h
   ·cases h
  ·cases h
 | fa off x=>exact named (fun b=>q9 b off (ve x)) (fun _ _ _ h=>A1Y h) h
 | ia s z x i=>exact named (fun b=>z7 s z b (ve x) (ve i)) (fun _ _ _ h=>A5x h) h
 | len st x =>
  simp only[sem] at h ⊢;cases he:A5o bx (ve x) with
  | none=>rw[he] at h; cases h
  | some q =>
   obtain⟨r0,rd⟩:=q;rw[he] at h;simp only[zc,zg] at h;obtain⟨rfl,rfl⟩:=h;obtain⟨h1,h2⟩:=A8E (bx':=bx') he;exact⟨h1,fun hx=>by rw[h2 hx]⟩
 | chk x =>
  simp only[sem] at h ⊢;cases hv:ve x<;>rw[hv] at h<;>simp only at h⊢<;> try cases h
  ·rename_i j i off;cases hb:bx j with
   | none=>rw[hb] at h; cases h
   | some b =>
    rw[hb] at h;simp only[zc,zg] at h;obtain⟨rfl,rfl⟩:=h;exact⟨G8.one hb,fun hx=>by rw[hx.get]⟩
  ·exact⟨G8.nil,fun _=>rfl⟩
  ·exact⟨G8.nil,fun _=>rfl⟩
 | bslice z n ps =>
  simp only[sem,zc,zg] at h;obtain⟨rfl,rfl⟩:=h;obtain⟨h1,h2⟩:=f6 (bx':=bx') hp.1;exact⟨h1,fun hx=>by simp only[sem]; rw[h2 hx]⟩
 | sli n x lo hi =>
  simp only[sem,B3K] at h ⊢;split at h
  ·rename_i xs he;split at h
   ·split at h
    ·simp only[zc,zg] at h;obtain⟨rfl,rfl⟩:=h;obtain⟨h1,h2⟩:=A3R (bx':=bx') hp.1.1;refine⟨h1,fun hx=>?_⟩;rw[h2 hx];simp[*]
    ·cases h
   ·cases h
  ·cases h
 | app st z bytes x y =>
  simp only[sem] at h ⊢;cases he:Y1 bx (ve y) with
  | none=>rw[he] at h; cases h
  | some q =>
   obtain⟨p0,ys,rd⟩:=q;rw[he] at h;simp only at h;cases ha:A6g z bytes bx id (ve x) ys with
   | none=>rw[ha] at h; cases h
   | some q =>
    obtain⟨q0,r0⟩:=q;rw[ha] at h;simp only[zc,zg] at h;obtain⟨rfl,rfl⟩:=h;obtain⟨h1,h2⟩:=A1Z (bx':=bx') he;obtain⟨h3,h4⟩:=A8F (bx':=bx') ha;exact⟨h1.app h3,fun hx=>by rw[h2 hx.left]; simp only; rw[h4 hx.right]⟩
end
def Q7 (P : Program) (f : Nat) : Prop := ∃ fn, P.funcs[f]? = some fn /\ (fn.name == "runtime.NumGoroutine") = false /\ fn.body.isNone = false
def A2(P:Program)(f:Nat)(args:List AV)(rd:List (Nat×Bx))(id:Nat)(res:AV)(wr:List (Nat×Option Bx)):Prop :=
 Q7 P f/\∀(C:Cx P) (G:Gh) (bx:Nat->Option Bx) (w:World) (vs:Array Value) (nb:Nat),RS C G bx w->j8 G w args vs->G8 bx rd->(∀x,nb<=x->¬G.used x)->(∀x,id<=x->x<id+1024->¬G.used x) ->
  Calls P f vs w fun e w'=>∃v G',e = .returned v/\RS C G' (D8 bx wr) w'/\I9 G w G' w'/\RV G' w' res v/\∀x,G'.used x->G.used x\/(id<=x/\x<id+1024)
def goL:List (Nat×Bx)->List (Nat×Option Bx)
 | []=>[]
 | (i,_)::l=>(i,none)::goL l
def B5i(P:Program)(f:Nat)(args:List AV)(rd:List (Nat×Bx))(id:Nat)(pv:AV):Prop :=
 Q7 P f/\∀(C:Cx P) (G:Gh) (bx:Nat->Option Bx) (w:World) (vs:Array Value) (nb:Nat),RS C G bx w->j8 G w args vs->G8 bx rd->(∀x,nb<=x->¬G.used x)->(∀x,id<=x->x<id+1024->¬G.used x) ->
  Calls P f vs w fun e w'=>∃v G',e = .panicked [{ v:=v,recovered:=false }]/\RS C G' (D8 bx (goL rd)) w'/\I9 G w G' w'/\RV G' w' pv v/\∀x,G'.used x->G.used x\/(id<=x/\x<id+1024)
def u9(P:Program)(f:Nat)(args:List AV)(rd:List (Nat×Bx))(id:Nat):Except AV (AV×List (Nat×Option Bx))->Prop
 | .ok (v,wr)=>A2 P f args rd id v wr
 | .error pv=>B5i P f args rd id pv
abbrev Fr:=Nat->Option (Bool×AV)
def H9(F:Fr):G7->AV
 | .t n=>match F n with
  | some (_,v)=>v
  | none=>.nili
 | .c v=>v
 | .f n=>.fn n []
def ceF(F:Fr)(n:Nat):Bool:=match F n with
 | some (c,_)=>c
 | none=>false
def ceO(F:Fr):G7->Bool
 | .t n=>ceF F n
 | _=>true
structure E0{P:Program}(C:Cx P)(N:Nat)(D:List Deferred)(n0:Nat)(G0:Gh)(w0:World)(F:Fr)(B:Nat->Option Bx)(U:Nat->Prop)(G:Gh)(a:Act)(w:World):Prop where
 ev:I9 G0 w0 G w
 rs:RS C G B w
 used:∀id,G.used id->U id
 old:∀id,id<n0->G.used id->G0.used id
 fr:∀n c v,F n=some (c,v)->(c=true->RV G w v (a.tmps.getD n undef))/\(c=false->a.tmps.getD n undef=undef)
 size:a.tmps.size=N
 defers:a.defers=D
structure CR where
 dst:Option Nat
 g:Option (Nat×Bool)
 us:List Nat
 op:W6
 deriving Inhabited
structure RR where
 c:Bool
 v:AV
 rd:List (Nat×Bx)
 wr:List (Nat×Option Bx)
def AV.isBoolB:AV->Bool
 | .bool _=>true
 | _=>false
def AV.isT:AV->Bool
 | .bool b=>b
 | _=>false
def Q8(F:Fr):Option (Nat×Bool)->Bool
 | none=>true
 | some (s,want)=>ceF F s&&((H9 F (.t s)).isT==want)
def A0Q(F:Fr):Option (Nat×Bool)->Prop
 | none=>True
 | some (s,_)=>(F s).isSome=true/\(ceF F s=true->(H9 F (.t s)).isBoolB=true)
def A4v(c a b:Bool):Bool:=(c&&a)||(!c&&b)
def Q0(K:List AV->List (Nat×Bx)->List (Nat×Option Bx)->Prop)(B:Nat->Option Bx)(args:List AV)(r:RR):Prop :=
 (K args r.rd r.wr/\G8 B r.rd) \/
 (∃rd wr,(K1 B args).1/\K (K1 B args).2.1 rd wr/\G8 B rd/\(∀q∈rd,∀q1∈(K1 B args).2.2,q.1≠q1.1)/\r.rd=(K1 B args).2.2++rd/\r.wr=wrF (K1 B args).2.2++wr)
def A72(P:Program)(id:Nat)(B:Nat->Option Bx)(f:Nat)(args:List AV)(r:RR):Prop:=Q0 (fun as rd wr=>A2 P f as rd id r.v wr) B args r
def A97(P:Program)(id:Nat)(B:Nat->Option Bx)(f:Nat)(args:List AV)(pv:AV)(r:RR):Prop:=Q0 (fun as rd wr=>B5i P f as rd id pv/\wr=goL rd) B args r
def W6.args:W6->List G7
 | .call _ xs=>xs
 | .cpy x y=>[x,y]
 | .sli _ x lo hi=>x::(lo.toList++hi.toList)
 | _=>[]
def W6.isRaw:W6->Bool
 | .call _ _ | .cpy _ _ | .sli _ _ _ _=>true
 | _=>false
def B1D(P:Program)(c:W6)(args:List AV)(rd:List (Nat×Bx))(id:Nat)(v:AV)(wr:List (Nat×Option Bx)):Prop :=
 ∀(op:Op),I3 P op=some c->∀(C:Cx P) (ρ:Operand->Value) (G:Gh) (bx:Nat->Option Bx) (w:World) (ve:G7->AV) (o:Oper),(∀f,ρ (.func f) = .func (.func f) #[] #[])->o.op=op->c.args.map ve=args->RS C G bx w->G8 bx rd->¬G.used id->A95 G w ρ ve op.operands.toList->J0 P C ρ o G bx w id ⟨v,rd,wr⟩
def B1E(P:Program)(t:Nat)(m:String)(f:Nat):Prop:=∀(a:Addr) (w:World),(Go.method (P.types.size+Made.depth) t (.pointer (some a)) m).run P w = .ok (f,.pointer (some a)) w
inductive ExR(P:Program)(us:List Nat)(id:Nat)(F:Fr)(B:Nat->Option Bx):W6->RR->Prop
 | pick (k:Bool) (c a b:G7) (h1:ceO F c=true) (h2:(H9 F c).isBoolB=true) (h3:(H9 F c).isT=true->ceO F a=true/\(H9 F a).isBoolB=true) (h4:(H9 F c).isT=false->ceO F b=true/\(H9 F b).isBoolB=true) :
   ExR P us id F B (.pick c a b) ⟨k,.bool (A4v (H9 F c).isT (H9 F a).isT (H9 F b).isT),[],[]⟩
 | call (f:Nat) (xs:List G7) (r:RR) (hu:us.all (ceF F)=true) (h:A72 P id B f (xs.map (H9 F)) r):ExR P us id F B (.call f xs) r
 | callv (x:G7) (xs:List G7) (f:Nat) (caps:List AV) (r:RR) (hu:us.all (ceF F)=true) (hx:H9 F x = .fn f caps) (h:A72 P id B f (xs.map (H9 F)++caps) r):ExR P us id F B (.callv x xs) r
 | callb (x:G7) (xs:List G7) (f:Nat) (caps:List AV) (r:RR) (hu:us.all (ceF F)=true) (hx:H9 F x = .fnb f caps) (h:A72 P id B f (caps++xs.map (H9 F)) r):ExR P us id F B (.callv x xs) r
 | sem (k:Bool) (op:W6) (p:Prop) (v:AV) (rd:List (Nat×Bx)) (wr:List (Nat×Option Bx)) (hu:us.all (ceF F)=true) (h:Am.sem (H9 F) B id op=some (p,⟨v,rd,wr⟩)) (hp:p):ExR P us id F B op ⟨k,v,rd,wr⟩
 | raw (op:W6) (r:RR) (hk:op.isRaw=true) (hu:us.all (ceF F)=true) (h:B1D P op (op.args.map (H9 F)) r.rd id r.v r.wr) (hB:G8 B r.rd):ExR P us id F B op r
 | inv (m:String) (x:G7) (xs:List G7) (t f J:Nat) (r:RR) (hu:us.all (ceF F)=true) (hx:H9 F x = .iface t (.ptr J 0 0)) (hm:B1E P t m f) (hJ:∃b y,(J,b)∈r.rd/\b.xs[0]?=some y) (h:A72 P id B f (.ptr J 0 0::xs.map (H9 F)) r):ExR P us id F B (.inv m x xs) r
 | keep (k:Bool) (z:AV) (n:Nat) (ps:List (Nat×G7)) (hu:us.all (ceF F)=true) (ho:A13 n z.cells.length (ps.map fun q=>(q.1,H9 F q.2))) :
   ExR P us id F B (.bslice z n ps) ⟨k,.bsl id 0 n,[],[(id,some ⟨Q6 (List.replicate n z) (ps.map fun q=>(q.1,H9 F q.2)),z,false,false⟩)]⟩
inductive PaR(P:Program)(us:List Nat)(id:Nat)(F:Fr)(B:Nat->Option Bx):W6->AV->RR->Prop
 | call (f:Nat) (xs:List G7) (pv:AV) (r:RR) (hu:us.all (ceF F)=true) (h:A97 P id B f (xs.map (H9 F)) pv r):PaR P us id F B (.call f xs) pv r
 | callv (x:G7) (xs:List G7) (f:Nat) (caps:List AV) (pv:AV) (r:RR) (hu:us.all (ceF F)=true) (hx:H9 F x = .fn f caps) (h:A97 P id B f (xs.map (H9 F)++caps) pv r):PaR P us id F B (.callv x xs) pv r
 | callb (x:G7) (xs:List G7) (f:Nat) (caps:List AV) (pv:AV) (r:RR) (hu:us.all (ceF F)=true) (hx:H9 F x = .fnb f caps) (h:A97 P id B f (caps++xs.map (H9 F)) pv r):PaR P us id F B (.callv x xs) pv r
 | pnk (x:G7) (t:Nat) (v:AV) (k:Bool) (y:AV) (hu:us.all (ceF F)=true) (hx:H9 F x = .iface t v):PaR P us id F B (.pnk x) (.iface t v) ⟨k,y,[],[]⟩
def OpP(P:Program)(cr:CR)(id:Nat)(F:Fr)(B:Nat->Option Bx)(pv:AV)(r:RR):Prop :=
 A0Q F cr.g/\Q8 F cr.g=true/\PaR P cr.us id F B cr.op pv r
def OpR(P:Program)(cr:CR)(id:Nat)(F:Fr)(B:Nat->Option Bx)(r:RR):Prop :=
 A0Q F cr.g/\r.c=Q8 F cr.g/\(r.c=true->ExR P cr.us id F B cr.op r)/\(r.c=false->r.wr=[])
/-! ### An operation hangs on what it names alone -/
def G7.slots:G7->List Nat
 | .t n=>[n]
 | _=>[]
def A20:Option G7->List Nat
 | some x=>x.slots
 | none=>[]
def W6.slots:W6->List Nat
 | .mv x=>x.slots
 | .pick c a b=>c.slots++(a.slots++b.slots)
 | .alloc _=>[]
 | .box x=>x.slots
 | .build _ ps=>ps.flatMap fun q=>q.2.2.slots
 | .bslice _ _ ps=>ps.flatMap fun q=>q.2.slots
 | .ld _ _ x=>x.slots
 | .st _ x v=>x.slots++v.slots
 | .chk x=>x.slots
 | .bin _ _ x y=>x.slots++y.slots
 | .mm _ x y=>x.slots++y.slots
 | .un _ x=>x.slots
 | .conv _ x=>x.slots
 | .mkf _ caps=>caps.flatMap G7.slots
 | .mks _ _ l c=>l.slots++c.slots
 | .slis x lo hi=>x.slots++(A20 lo++A20 hi)
 | .sli _ x lo hi=>x.slots++(A20 lo++A20 hi)
 | .fa _ x=>x.slots
 | .ia _ _ x i=>x.slots++i.slots
 | .ix x i=>x.slots++i.slots
 | .ext x _=>x.slots
 | .len _ x=>x.slots
 | .app _ _ _ x y=>x.slots++y.slots
 | .call _ args=>args.flatMap G7.slots
 | .callv x args=>x.slots++args.flatMap G7.slots
 | .pnk x=>x.slots
 | .aa _ _ x i=>x.slots++i.slots
 | .cpy x y=>x.slots++y.slots
 | .inv _ x args=>x.slots++args.flatMap G7.slots
theorem W6.args_sub(c:W6):∀n∈c.args.flatMap G7.slots,n∈c.slots:=fun n hn=>by
 cases c<;>simp only[W6.args,List.flatMap_nil,ym] at hn
 all_goals first|exact hn|(simpa [W6.slots] using hn)|skip
 rename_i k x lo hi;simp only[W6.slots,zo];cases lo<;>cases hi<;>simpa [A20] using hn
section
variable {F F':Fr}
theorem F6{x:G7}(h:∀n∈x.slots,F n=F' n):H9 F x=H9 F' x:=by
 cases x with
 | t n=>simp only[H9,h n (by simp[G7.slots])]
 | _=>rfl
theorem A21{x:G7}(h:∀n∈x.slots,F n=F' n):ceO F x=ceO F' x:=by
 cases x with
 | t n=>simp only[ceO,ceF,h n (by simp[G7.slots])]
 | _=>rfl
theorem A0m{x:Option G7}(h:∀n∈A20 x,F n=F' n):x.map (H9 F)=x.map (H9 F'):=by
 cases x with
 | none=>rfl
 | some x=>simp only[vf,F6 (x:=x) h]
theorem P1{xs:List G7}(h:∀n∈xs.flatMap G7.slots,F n=F' n):xs.map (H9 F)=xs.map (H9 F') :=
 wd fun x hx=>F6 fun n hn=>h n (xq.2 ⟨x,hx,hn⟩)
theorem A9t{B:Nat->Option Bx}{id:Nat}{c:W6}(h:∀n∈c.slots,F n=F' n):sem (H9 F) B id c=sem (H9 F') B id c:=by
 cases c with
 | alloc z=>rfl
 | build zs ps =>
  have:(ps.map fun q=>(q.1,q.2.1,H9 F q.2.2))=ps.map fun q=>(q.1,q.2.1,H9 F' q.2.2):=wd fun q hq=>by
   rw[F6 fun n hn=>h n (xq.2 ⟨q,hq,hn⟩)]
  simp only[sem,this]
 | bslice z n ps =>
  have:(ps.map fun q=>H9 F q.2)=ps.map fun q=>H9 F' q.2:=wd fun q hq=>by
   rw[F6 fun n hn=>h n (xq.2 ⟨q,hq,hn⟩)]
  simp only[sem,this]
 | mkf f caps=>simp only[sem,P1 (xs:=caps) h]
 | slis x lo hi =>
  simp only[W6.slots,zo] at h;simp only[sem,F6 fun n hn=>h n (.inl hn),A0m fun n hn=>h n (.inr (.inl hn)),A0m fun n hn=>h n (.inr (.inr hn))]
 | sli k x lo hi =>
  simp only[W6.slots,zo] at h;simp only[sem,F6 fun n hn=>h n (.inl hn),A0m fun n hn=>h n (.inr (.inl hn)),A0m fun n hn=>h n (.inr (.inr hn))]
 | st n x y|bin op eqs x y|mm mx x y|mks z b x y|ia s z x y|ix x y|app s z b x y|aa n s x y =>
  simp only[W6.slots,zo] at h;simp only[sem,F6 fun n hn=>h n (.inl hn),F6 fun n hn=>h n (.inr hn)]
 | call f xs=>rfl
 | callv x xs=>rfl
 | pick a b c=>rfl
 | pnk x=>rfl
 | cpy x y=>rfl
 | inv m x xs=>rfl
 | mv x|box x|ld a n x|chk x|un op x|conv k x|fa off x|ext x i|len s x=>simp only[sem,F6 (x:=x) h]
theorem A3S{g:Option (Nat×Bool)}(h:∀s want,g=some (s,want)->F s=F' s):Q8 F g=Q8 F' g:=by
 cases g with
 | none=>rfl
 | some q=>obtain⟨s,want⟩:=q; simp only[Q8,ceF,H9,h s want rfl]
theorem A3T{g:Option (Nat×Bool)}(h:∀s want,g=some (s,want)->F s=F' s):A0Q F g->A0Q F' g:=by
 cases g with
 | none=>exact id
 | some q=>obtain⟨s,want⟩:=q; simp only[A0Q,ceF,H9,h s want rfl]; exact id
theorem O1{us:List Nat}(h:∀n∈us,F n=F' n)(hu:us.all (ceF F)=true):us.all (ceF F')=true:=by
 rw[yq] at hu ⊢;intro n hn;have:=hu n hn;simp only[ceF,h n hn] at this ⊢;exact this
theorem Q0.local{K:List AV->List (Nat×Bx)->List (Nat×Option Bx)->Prop}{B B':Nat->Option Bx}{args:List AV}{r:RR}(h:Q0 K B args r)(hB:G8 B' r.rd):Q0 K B' args r:=by
 rcases h with⟨h1,h2⟩|⟨rd,wr,h1,h2,h3,h4,h5,h6⟩
 ·exact .inl ⟨h1,hB⟩
 ·rw[h5] at hB;have e:=(f6 (bx':=B') h1).2 hB.left;refine .inr ⟨rd,wr,?_⟩;rw[e];exact⟨h1,h2,hB.right,h4,h5,h6⟩
theorem Q0.has{K:List AV->List (Nat×Bx)->List (Nat×Option Bx)->Prop}{B:Nat->Option Bx}{args:List AV}{r:RR}(h:Q0 K B args r):G8 B r.rd:=by
 rcases h with⟨_,h2⟩|⟨rd,wr,h1,h2,h3,h4,h5,h6⟩
 ·exact h2
 ·rw[h5]; exact (f6 (bx':=B) h1).1.app h3
theorem ExR.local{P:Program}{us:List Nat}{id:Nat}{B B':Nat->Option Bx}{op:W6}{r:RR}(h:ExR P us id F B op r)(hF:∀n∈op.slots,F n=F' n)(hu:∀n∈us,F n=F' n)(hB:G8 B' r.rd):ExR P us id F' B' op r:=by
 cases h with
 | pick k c a b h1 h2 h3 h4 =>
  simp only[W6.slots,zo] at hF;have ec:=F6 (F:=F) (F':=F') (x:=c) fun n hn=>hF n (.inl hn);have ea:=F6 (F:=F) (F':=F') (x:=a) fun n hn=>hF n (.inr (.inl hn));have eb:=F6 (F:=F) (F':=F') (x:=b) fun n hn=>hF n (.inr (.inr hn));have oc:=A21 (F:=F) (F':=F') (x:=c) fun n hn=>hF n (.inl hn);have oa:=A21 (F:=F) (F':=F') (x:=a) fun n hn=>hF n (.inr (.inl hn));have ob:=A21 (F:=F) (F':=F') (x:=b) fun n hn=>hF n (.inr (.inr hn));rw[ec,ea,eb];rw[ec] at h2 h3 h4;rw[oc] at h1;rw[ea,oa] at h3;rw[eb,ob] at h4;exact .pick k c a b h1 h2 h3 h4
 | call f xs r hu' h=>exact .call f xs r (O1 hu hu') (by rw[←P1 (xs:=xs) hF]; exact Q0.local h hB)
 | callv x xs f caps r hu' hx h =>
  simp only[W6.slots,zo] at hF;exact .callv x xs f caps r (O1 hu hu') (by rw[←F6 fun n hn=>hF n (.inl hn)]; exact hx) (by rw[←P1 (xs:=xs) fun n hn=>hF n (.inr hn)]; exact Q0.local h hB)
 | callb x xs f caps r hu' hx h =>
  simp only[W6.slots,zo] at hF;exact .callb x xs f caps r (O1 hu hu') (by rw[←F6 fun n hn=>hF n (.inl hn)]; exact hx) (by rw[←P1 (xs:=xs) fun n hn=>hF n (.inr hn)]; exact Q0.local h hB)
 | raw op r hk hu' h hB'=>exact .raw op r hk (O1 hu hu') (by rw[←P1 (xs:=op.args) fun n hn=>hF n (W6.args_sub op n hn)]; exact h) hB
 | inv m x xs t f J r hu' hx hm hJ h =>
  simp only[W6.slots,zo] at hF;exact .inv m x xs t f J r (O1 hu hu') (by rw[←F6 fun n hn=>hF n (.inl hn)]; exact hx) hm hJ (by rw[←P1 (xs:=xs) fun n hn=>hF n (.inr hn)]; exact Q0.local h hB)
 | sem k op p v rd wr hu' h hp =>
  refine .sem k op p v rd wr (O1 hu hu') ?_ hp;rw[←A9t hF];exact (A4u (bx':=B') h hp).2 hB
 | keep k z n ps hu' ho =>
  have e:(ps.map fun q=>(q.1,H9 F q.2))=ps.map fun q=>(q.1,H9 F' q.2):=wd fun q hq=>by
   rw[F6 fun n hn=>hF n (xq.2 ⟨q,hq,hn⟩)]
  rw[e] at ho ⊢;exact .keep k z n ps (O1 hu hu') ho
theorem OpR.local{P:Program}{cr:CR}{id:Nat}{B B':Nat->Option Bx}{r:RR}(h:OpR P cr id F B r)(hF:∀n∈cr.op.slots,F n=F' n)(hu:∀n∈cr.us,F n=F' n)(hg:∀s want,cr.g=some (s,want)->F s=F' s)(hB:r.c=true->G8 B' r.rd):OpR P cr id F' B' r:=by
 obtain⟨h1,h2,h3,h4⟩:=h;exact⟨A3T hg h1,h2.trans (A3S hg),fun hc=>(h3 hc).local hF hu (hB hc),h4⟩
theorem OpP.local{P:Program}{cr:CR}{id:Nat}{B B':Nat->Option Bx}{pv:AV}{r:RR}(h:OpP P cr id F B pv r)(hF:∀n∈cr.op.slots,F n=F' n)(hu:∀n∈cr.us,F n=F' n)(hg:∀s want,cr.g=some (s,want)->F s=F' s)(hB:G8 B' r.rd):OpP P cr id F' B' pv r:=by
 obtain⟨h1,h2,h3⟩:=h;refine⟨A3T hg h1,(A3S hg).symm.trans h2,?_⟩;obtain⟨dst,g,us,op⟩:=cr;cases h3 with
 | call f xs pv r hu' h=>exact .call f xs pv r (O1 hu hu') (by rw[←P1 (xs:=xs) hF]; exact Q0.local h hB)
 | callv x xs f caps pv r hu' hx h =>
  simp only[W6.slots,zo] at hF;exact .callv x xs f caps pv r (O1 hu hu') (by rw[←F6 fun n hn=>hF n (.inl hn)]; exact hx) (by rw[←P1 (xs:=xs) fun n hn=>hF n (.inr hn)]; exact Q0.local h hB)
 | callb x xs f caps pv r hu' hx h =>
  simp only[W6.slots,zo] at hF;exact .callb x xs f caps pv r (O1 hu hu') (by rw[←F6 fun n hn=>hF n (.inl hn)]; exact hx) (by rw[←P1 (xs:=xs) fun n hn=>hF n (.inr hn)]; exact Q0.local h hB)
 | pnk x t v k y hu' hx=>exact .pnk x t v k y (O1 hu hu') (by rw[←F6 hF]; exact hx)
theorem OpP.has{P:Program}{cr:CR}{id:Nat}{B:Nat->Option Bx}{pv:AV}{r:RR}(h:OpP P cr id F B pv r):G8 B r.rd:=by
 obtain⟨dst,g,us,op⟩:=cr;cases h.2.2 with
 | call f xs pv r hu' h|callv x xs f caps pv r hu' hx h|callb x xs f caps pv r hu' hx h=>exact Q0.has h
 | pnk=>exact G8.nil
theorem ExR.has{P:Program}{us:List Nat}{id:Nat}{B:Nat->Option Bx}{op:W6}{r:RR}(h:ExR P us id F B op r):G8 B r.rd:=by
 cases h with
 | pick=>exact G8.nil
 | call f xs r hu' h|callv x xs f caps r hu' hx h|callb x xs f caps r hu' hx h|inv m x xs t f J r hu' hx hm hJ h=>exact Q0.has h
 | raw op r hk hu' h hB'=>exact hB'
 | sem k op p v rd wr hu' h hp=>exact (A4u (bx':=B) h hp).1
 | keep=>exact G8.nil
end
def B4s(ops:Array Oper)(j:Nat):Option Nat:=(ops[j]?).bind (·.dst)
def A38(ops:Array Oper):Option (Nat×Bool)->Option (Option (Nat×Bool))
 | none=>some none
 | some (j,want)=>(B4s ops j).map fun s=>some (s,want)
def A1B(o:Op):List Nat:=o.operands.toList.filterMap fun | .tmp t=>some t|_=>none
def l9(P:Program)(N:Nat)(ops:Array Oper)(o:Oper):Option CR:=match I3 P o.op,A38 ops o.guard with
 | some c,some g=>if o.dst.all (decide<|· < N)&&c.slots.all ((A1B o.op).contains ·) then some ⟨o.dst,g,A1B o.op,c⟩ else none
 | _,_=>none
def z8(F:Fr)(dst:Option Nat)(r:RR):Fr:=match dst with
 | none=>F
 | some d=>P9 F d (some (r.c,r.v))
section
variable {P:Program} {C:Cx P} {N:Nat} {D:List Deferred} {n0:Nat} {G0:Gh} {w0:World} {F:Fr} {B:Nat->Option Bx} {U:Nat->Prop} {G:Gh} {a:Act} {w:World} {ops:Array Oper} {Q:Exit->Act->World->Prop}
theorem B1F(tm:Array Value)(d:Nat)(v:Value)(n:Nat)(hd:d<tm.size):(tm.setIfInBounds d v).getD n undef=if n=d then v else tm.getD n undef:=by
 simp only[zl,wt];by_cases h:d=n
 ·subst h; simp[hd]
 ·rw[zh h,zh (fun e=>h e.symm)]
theorem E0.put(h:E0 C N D n0 G0 w0 F B U G a w){dst:Option Nat}(hd:∀d,dst=some d->d<N){r:RR}{u:Value}(h1:r.c=true->RV G w r.v u)(h2:r.c=false->u=undef):E0 C N D n0 G0 w0 (z8 F dst r) B U G (a.put dst u) w:=by
 cases dst with
 | none=>exact h
 | some d =>
  refine⟨h.ev,h.rs,h.used,h.old,fun n c' v' hl=>?_,by simp[Act.put,h.size],h.defers⟩;simp only[Act.put];rw[B1F _ _ _ _ (by rw[h.size]; exact hd d rfl)];simp only[z8] at hl;by_cases hn:n=d
  ·subst hn;rw[B5,zc,zg] at hl;obtain⟨rfl,rfl⟩:=hl;rw[zk rfl];exact⟨h1,h2⟩
  ·rw[A7 _ _ _ hn] at hl;rw[zh hn];exact h.fr n c' v' hl
theorem E0.step(h:E0 C N D n0 G0 w0 F B U G a w){B':Nat->Option Bx}{U':Nat->Prop}{G':Gh}{w':World}(hr:RS C G' B' w')(e:I9 G w G' w')(hf:∀id,G'.used id->U' id)(ho:∀id,id<n0->G'.used id->G.used id):
  E0 C N D n0 G0 w0 F B' U' G' a w' :=
 ⟨h.ev.trans e,hr,hf,fun id hi hu=>h.old id hi (ho id hi hu),fun n c v hl=>⟨fun hc=>((h.fr n c v hl).1 hc).mono e,(h.fr n c v hl).2⟩,h.size,h.defers⟩
theorem E0.weak(h:E0 C N D n0 G0 w0 F B U G a w){U':Nat->Prop}(hU:∀id,U id->U' id):E0 C N D n0 G0 w0 F B U' G a w :=
 ⟨h.ev,h.rs,fun id hi=>hU id (h.used id hi),h.old,h.fr,h.size,h.defers⟩
theorem E0.opd(h:E0 C N D n0 G0 w0 F B U G a w){X:Operand}{x:G7}(hx:opd X=some x)(hc:∀n,X = .tmp n->ceF F n=true):RV G w (H9 F x) (a.eval X):=by
 cases X with
 | tmp n =>
  simp only[Am.opd,zc] at hx;subst hx;have:=hc n rfl;simp only[ceF] at this;simp only[H9,Act.eval];split at this
  ·rename_i c v hl;subst this;exact (h.fr n true v hl).1 rfl
  ·cases this
 | const v =>
  simp only[Am.opd,zj] at hx;obtain⟨x',h1,rfl⟩:=hx;exact A83 h1
 | func f =>
  simp only[Am.opd,zc] at hx;subst hx;exact .fn f [] #[] rfl fun i y hy=>by simp at hy
 | global g=>cases hx
theorem A3U(hd:E0 C N D n0 G0 w0 F B U G a w){o:Oper}{g:Option (Nat×Bool)}(hg:A38 ops o.guard=some g)(h:A0Q F g):Region.wanted o (yielded ops a.tmps)=Q8 F g:=by
 unfold Region.wanted;cases ho:o.guard with
 | none =>
  rw[ho] at hg;simp only[A38,zc] at hg;subst hg;rfl
 | some q =>
  obtain⟨j,want⟩:=q;rw[ho] at hg;simp only[A38,zj] at hg;obtain⟨s,hs,rfl⟩:=hg;obtain⟨h1,h2⟩:=h;simp only[Q8,ceF,H9] at h1 h2 ⊢;obtain⟨⟨c,v⟩,hl⟩:=wj.1 h1;rw[hl] at h2 ⊢;simp only at h2 ⊢;have hf:=hd.fr s c v hl;have hs':((ops[j]?).bind (·.dst))=some s:=hs;unfold yielded;rw[hs'];simp only[ua];cases c with
  | true =>
   have hv:=h2 rfl;have hrv:=hf.1 rfl;cases v<;>simp only[AV.isBoolB,xt] at hv
   rename_i b;rw[zl] at hrv;cases hg:a.tmps[s]? with
   | none=>rw[hg] at hrv; cases hrv
   | some u =>
    rw[hg] at hrv;simp only[wg] at hrv;cases hrv
    simp only[AV.isT,uc];cases b<;>cases want<;>rfl
  | false =>
   have hu:=hf.2 rfl;rw[zl] at hu;cases hg:a.tmps[s]? with
   | none=>rfl
   | some u =>
    rw[hg] at hu;simp only[wg] at hu;subst hu;rfl
theorem W9(h:E0 C N D n0 G0 w0 F B U G a w){op:Op}(hu:(A1B op).all (ceF F)=true):A95 G w a.eval (H9 F) op.operands.toList:=fun X hX x hx=>h.opd hx fun n hn=>by
 subst hn;refine (yq.1 hu) n ?_;exact List.mem_filterMap.2 ⟨.tmp n,hX,rfl⟩
theorem A9u{i:Nat}{o:Oper}{Kc:Act->World->Prop}(ho:ops[i]?=some o)(hw:Region.wanted o (yielded ops a.tmps)=false)(h:Kc (a.put o.dst undef) w):wpOp P ops Q i Kc a w:=by
 unfold wpOp;rw[ho];simp only[hw,xt,if_false];exact h
theorem A3V{i:Nat}{o:Oper}{Kc:Act->World->Prop}(ho:ops[i]?=some o)(hw:Region.wanted o (yielded ops a.tmps)=true)(h:o.wp P a w Kc Q):wpOp P ops Q i Kc a w:=by
 unfold wpOp;rw[ho];simp only[hw,if_true];exact .inl h
theorem A3W{o:Oper}{Kc:Act->World->Prop}{bx:Nat->Option Bx}{id:Nat}{r:Rs}(h:J0 P C a.eval o G bx w id r)
  (hK:∀u w' G',RS C G' (D8 bx r.wr) w'->I9 G w G' w'->RV G' w' r.v u->(∀x,G'.used x->G.used x\/x=id)->Kc (a.put o.dst u) w'):o.wp P a w Kc Q:=by
 obtain⟨nx,w',G',v,h1,h2,h3,h4,h5,h6⟩:=h;unfold Oper.wp;rw[h1];rcases h2 with rfl|⟨rfl,rfl⟩
 ·exact hK v w' G' h3 h4 h5 h6
 ·exact hK undef w' G' h3 h4 h5 h6
theorem Z3{f:Nat}(h:Q7 P f)(vs:Array Value)(w:World):(callFunc f vs).run P w = .ok (.enter f vs) w:=by
 obtain⟨fn,h1,h2,h3⟩:=h;have h2' : ¬ fn.name = "runtime.NumGoroutine" := by simpa using h2
 have h3':fn.body≠none:=fun h=>by rw[h] at h3; cases h3
 simp[callFunc,h1,h2',h3']
theorem A1C{xs ys:List AV}{us vs:Array Value}(h:j8 G w xs us)(k:j8 G w ys vs):j8 G w (xs++ys) (us++vs):=by
 refine j8.of_get (by simp[h.1,k.1]) fun i y u hy hu=>?_;by_cases hi:i<xs.length
 ·rw[zz hi] at hy;rw[xn (by rw[←h.1]; exact hi)] at hu;obtain⟨u',h1,h2⟩:=h.get hy;rw[h1] at hu; injection hu with hu; subst hu; exact h2
 ·rw[ya (by omega)] at hy;rw[Array.getElem?_append_right (by have:=h.1; omega),←h.1] at hu;obtain⟨u',h1,h2⟩:=k.get hy;rw[h1] at hu; injection hu with hu; subst hu; exact h2
theorem Q0.enter{K:List AV->List (Nat×Bx)->List (Nat×Option Bx)->Prop}{args:List AV}{vs:Array Value}{r:RR}(h:Q0 K B args r)(hs:RS C G B w)(hv:j8 G w args vs):
  ∃G1 as rd wr B1,K as rd wr/\RS C G1 B1 w/\j8 G1 w as vs/\G8 B1 rd/\(∀x,G1.used x->G.used x)/\I9 G w G1 w/\D8 B1 wr=D8 B r.wr:=by
 rcases h with⟨h1,h2⟩|⟨rd,wr,h1,h2,h3,h4,h5,h6⟩
 ·exact⟨G,args,r.rd,r.wr,B,h1,hs,hv,h2,fun _ h=>h,I9.refl _ _,rfl⟩
 ·obtain⟨G1,s1,e1,u1,st⟩:=u4 (K1 B args).2.2 hs fun q hq=>let ⟨q1,q2⟩:=A1W h1 q hq; ⟨.inl q1,q2⟩;obtain⟨l1,l2⟩:=A36 e1 h1 st;refine⟨G1,(K1 B args).2.1,rd,wr,_,h2,s1,⟨l1.trans hv.1,l2 (fun i=>vs.getD i undef) hv.2⟩,fun q hq=>?_,u1,e1,by rw[h6,R8]⟩;have key:∀(l:List (Nat×Bx)) (B:Nat->Option Bx),(∀q1∈l,q.1≠q1.1)->D8 B (wrF l) q.1=B q.1:=fun l=>by
   induction l with
   | nil=>intro B _; rfl
   | cons p l ih =>
    intro B hl;obtain⟨i,b⟩:=p;simp only[wrF,D8];rw[ih _ fun q1 hq1=>hl q1 (by simp[hq1]),A7 _ _ _ (hl (i,b) (by simp))]
  rw[key _ B (h4 q hq)];exact h3 q hq
theorem A39{o:Oper}{Kc:Act->World->Prop}{f:Nat}{args:List AV}{vs:Array Value}{r:RR}(hrun:Q7 P f->(execOp a.eval o).run P w = .ok (.enter f vs) w)(hs:RS C G B w)(hv:j8 G w args vs){id:Nat}(h:A72 P id B f args r){nb:Nat}(hnb:∀x,nb<=x->¬G.used x)(hid:∀x,id<=x->x<id+1024->¬G.used x)
  (hK:∀u w' G',RS C G' (D8 B r.wr) w'->I9 G w G' w'->RV G' w' r.v u->(∀x,G'.used x->G.used x\/(id<=x/\x<id+1024))->Kc (a.put o.dst u) w'):o.wp P a w Kc Q:=by
 obtain⟨G1,as,rd,wr,B1,⟨hp,h2⟩,s1,hv1,hh,u1,e1,ea⟩:=Q0.enter h hs hv;unfold Oper.wp;rw[hrun hp,Oper.upon_enter];refine Calls.mono (h2 C G1 B1 w vs nb s1 hv1 hh (fun x hx hu=>hnb x hx (u1 x hu)) fun x hx hx' hu=>hid x hx hx' (u1 x hu)) fun e w' he=>?_;obtain⟨v,G',rfl,k1,k2,k3,k4⟩:=he;exact hK v w' G' (by rw[←ea]; exact k1) (e1.trans k2) k3 fun x hx=>(k4 x hx).imp (u1 x) _root_.id
theorem A3X{o:Oper}{Kc:Act->World->Prop}{f:Nat}{args:List AV}{vs:Array Value}{pv:AV}{r:RR}(hrun:Q7 P f->(execOp a.eval o).run P w = .ok (.enter f vs) w)(hs:RS C G B w)(hv:j8 G w args vs){id:Nat}(h:A97 P id B f args pv r){nb:Nat}(hnb:∀x,nb<=x->¬G.used x)(hid:∀x,id<=x->x<id+1024->¬G.used x)
  (hK:∀u w' G',RS C G' (D8 B r.wr) w'->I9 G w G' w'->RV G' w' pv u->(∀x,G'.used x->G.used x\/(id<=x/\x<id+1024))->Q (.panic [{ v:=u,recovered:=false }]) a w'):o.wp P a w Kc Q:=by
 obtain⟨G1,as,rd,wr,B1,⟨⟨hp,h2⟩,hwr⟩,s1,hv1,hh,u1,e1,ea⟩:=Q0.enter h hs hv;unfold Oper.wp;rw[hrun hp,Oper.upon_enter];refine Calls.mono (h2 C G1 B1 w vs nb s1 hv1 hh (fun x hx hu=>hnb x hx (u1 x hu)) fun x hx hx' hu=>hid x hx hx' (u1 x hu)) fun e w' he=>?_;obtain⟨v,G',rfl,k1,k2,k3,k4⟩:=he;exact hK v w' G' (by rw[←ea,hwr]; exact k1) (e1.trans k2) k3 fun x hx=>(k4 x hx).imp (u1 x) _root_.id
theorem A0R{α:Type}{x:Option α}{f:α->W6}{c:W6}(h:x.map f=some c)(hf:∀a,f a≠c):False:=by
 obtain⟨a,_,h2⟩:=zj.1 h;exact hf a h2
theorem A9v{op:Op}{x y z:G7}(h:I3 P op=some (.pick x y z)):∃c a b,op = .pick c a b/\opd c=some x/\opd a=some y/\opd b=some z:=by
 unfold I3 at h;split at h
 case h_3 c a b =>
  split at h
  ·rename_i h1 h2 h3;injection h with h
   injection h with e1 e2 e3
   subst e1 e2 e3;exact⟨c,a,b,rfl,h1,h2,h3⟩
  ·cases h
 all_goals try simp only[L8,V7,V8,Y2,V9,W3] at h
 all_goals repeat' split at h
 all_goals first|cases h; done|(refine (A0R h ?_).elim; intro a h; cases h; done)
theorem A9w{op:Op}{f:Nat}{xs:List G7}(h:I3 P op=some (.call f xs)):∃c:Call,op = .call c/\c.callee = .value (.func f)/\A2s c.args.toList=some xs:=by
 unfold I3 at h;split at h
 all_goals try simp only[L8,V7,V8,Y2,V9,W3] at h
 all_goals repeat' split at h
 all_goals first|cases h; done|(refine (A0R h ?_).elim; intro a h; cases h; done)|skip
 rename_i c _ _ _ g hc;obtain⟨a,h1,h2⟩:=zj.1 h;injection h2 with e1 e2
 subst e1 e2;exact⟨c,rfl,hc,h1⟩
theorem A3Y{op:Op}{x:G7}{xs:List G7}(h:I3 P op=some (.callv x xs)):∃(c:Call) (t:Nat),op = .call c/\x = .t t/\c.callee = .value (.tmp t)/\A2s c.args.toList=some xs:=by
 unfold I3 at h;split at h
 all_goals try simp only[L8,V7,V8,Y2,V9,W3] at h
 all_goals repeat' split at h
 all_goals first|cases h; done|(refine (A0R h ?_).elim; intro a h; cases h; done)|skip
 rename_i c _ _ _ t hc;obtain⟨a,h1,h2⟩:=zj.1 h;injection h2 with e1 e2
 subst e1 e2;exact⟨c,t,rfl,rfl,hc,h1⟩
theorem B1G{op:Op}{m:String}{x:G7}{xs:List G7}(h:I3 P op=some (.inv m x xs)):∃(c:Call) (X:Operand),op = .call c/\c.callee = .invoke X m/\opd X=some x/\A2s c.args.toList=some xs:=by
 unfold I3 at h;split at h
 all_goals try simp only[L8,V7,V8,Y2,V9] at h
 all_goals repeat' split at h
 all_goals first|cases h; done|(refine (A0R h ?_).elim; intro a h; cases h; done)|skip
 rename_i c _ _ _ X m' hc;unfold W3 at h;split at h
 ·rename_i x' xs' h1 h2;injection h with h
  injection h with e1 e2 e3
  subst e1 e2 e3;exact⟨c,X,rfl,hc,h1,h2⟩
 ·cases h
theorem B1H{op:Op}{x:G7}(h:I3 P op=some (.pnk x)):∃X,op = .panic X/\opd X=some x:=by
 unfold I3 at h;split at h
 all_goals try simp only[L8,V7,V8,Y2,V9,W3] at h
 all_goals repeat' split at h
 all_goals first|cases h; done|(refine (A0R h ?_).elim; intro a h; cases h; done)|skip
 obtain⟨a,h1,h2⟩:=zj.1 h;injection h2 with h2
 subst h2;exact⟨_,rfl,h1⟩
theorem A73{op:Op}{z:AV}{n:Nat}{ps:List (Nat×G7)}(h:I3 P op=some (.bslice z n ps)):∃(t:TypeId) (qs:Array (Nat×Operand)),op = .buildSlice t n qs/\A9k qs.toList=some ps:=by
 unfold I3 at h;split at h
 all_goals try simp only[L8,V7,V8,Y2,V9,W3,U6] at h
 all_goals repeat' split at h
 all_goals first|cases h; done|(refine (A0R h ?_).elim; intro a h; cases h; done)|skip
 all_goals injection h with h
 all_goals injection h with h1 h2 h3
 all_goals subst h1 h2 h3
 all_goals exact⟨_,_,rfl,by assumption⟩
theorem B3M{ρ:Operand->Value}{o:Oper}{bx:Nat->Option Bx}{id:Nat}{ve:G7->AV}{P:Program}{C:Cx P}{G:Gh}{w:World}(hs:RS C G bx w)(hu:¬G.used id){t:TypeId}{n:Nat}{ps:Array (Nat×Operand)}(ho:o.op = .buildSlice t n ps){z:AV}{qs:List (Nat×G7)}(hc:I3 P (.buildSlice t n ps)=some (.bslice z n qs))
  (hso:A13 n z.cells.length (qs.map fun q=>(q.1,ve q.2))) (hv:A95 G w ρ ve (Op.buildSlice t n ps).operands.toList):J0 P C ρ o G bx w id ⟨.bsl id 0 n,[],[(id,some ⟨Q6 (List.replicate n z) (qs.map fun q=>(q.1,ve q.2)),z,false,false⟩)]⟩:=by
 simp only[I3] at hc;split at hc
 ·rename_i e ht;split at hc
  ·rename_i z' s qs' hz hsz hqs;split at hc
   ·rename_i hcond;injection hc with hc
    injection hc with e1 e2 e3
    subst e1 e3;obtain⟨c1,c2,c3⟩:=hcond;obtain⟨zv,z1,z2⟩:=Z9 hz;obtain⟨l1,l2⟩:=A5r hqs;have hmade:=A4p (P:=P) hs hu ht hsz z1 (z2 G w) c1 (len:=n) c2 (by simp only[maxLen]; omega) (by rw[←c1]; exact hso) (vs:=ps.map fun q=>(q.1,ρ q.2)) (by simp[l1]) fun i q q' hq hq'=>by
     simp only[vi,zj] at hq';obtain⟨b,hb,rfl⟩:=hq';have hb':ps.toList[i]?=some b:=(by simpa using hb);simp only[ye,zj] at hq;obtain⟨a,ha,rfl⟩:=hq;obtain⟨k1,k2⟩:=l2 i a b ha hb';refine⟨k1,?_⟩;exact hv b.2 (by simp only[Op.operands,yi,Array.toList_map]; exact⟨b,zf hb',rfl⟩) _ k2
    obtain⟨v,w',G2,h1,h2,h3,h4,h5⟩:=hmade;refine⟨.value v,w',G2,v,?_,.inl rfl,h2,h3,h4,h5⟩;unfold execOp;simp only[ho,Sem.run_bind,h1,Result.andThen_ok,Sem.run_pure]
   ·cases hc
  ·cases hc
 ·cases hc
theorem A74(hd:E0 C N D n0 G0 w0 F B U G a w){o:Oper}{f:Nat}{xs:List G7}(hcomp:I3 P o.op=some (.call f xs))(hu:(A1B o.op).all (ceF F)=true):∃vs,(Q7 P f->(execOp a.eval o).run P w = .ok (.enter f vs) w)/\j8 G w (xs.map (H9 F)) vs:=by
 obtain⟨c,hop,hcal,hxs⟩:=A9w hcomp;refine⟨c.args.map a.eval,fun hp=>?_,W8 hxs fun X hX x hx=>W9 hd hu X (by rw[hop]; simp[Op.operands,Call.operands]; exact .inr (by simpa using hX)) x hx⟩;unfold execOp;simp only[hop,resolve,hcal,Act.eval,Deferred.ofValue,Sem.run_bind,Sem.run_pure,Result.andThen_ok,invoke];rw[Z3 hp];simp
theorem A4w(hd:E0 C N D n0 G0 w0 F B U G a w){o:Oper}{f:Nat}{x:G7}{xs:List G7}{caps:List AV}(hcomp:I3 P o.op=some (.callv x xs))(hu:(A1B o.op).all (ceF F)=true)(hx:H9 F x = .fn f caps):∃vs,(Q7 P f->(execOp a.eval o).run P w = .ok (.enter f vs) w)/\j8 G w (xs.map (H9 F)++caps) vs:=by
 obtain⟨c,t,hop,rfl,hcal,hxs⟩:=A3Y hcomp;have hr:=W9 hd hu;have hfv:RV G w (H9 F (.t t)) (a.eval (.tmp t)):=hr (.tmp t) (by rw[hop]; simp[Op.operands,Call.operands,hcal]) (.t t) rfl;rw[hx] at hfv;obtain⟨us,e1,e2⟩:∃us,a.eval (.tmp t) = .func (.func f) #[] us/\j8 G w caps us:=by
  generalize a.eval (.tmp t)=u at hfv;cases hfv with|fn _ _ vs hl hh=>exact⟨vs,rfl,hl,hh⟩
 have e3:j8 G w (xs.map (H9 F)) (c.args.map a.eval):=W8 hxs fun X hX x hx=>hr X (by rw[hop]; simp[Op.operands,Call.operands]; exact .inr (by simpa using hX)) x hx;refine⟨c.args.map a.eval++us,fun hp=>?_,A1C e3 e2⟩;unfold execOp;simp only[hop,resolve,hcal,e1,Deferred.ofValue,Sem.run_bind,Sem.run_pure,Result.andThen_ok,invoke];rw[Z3 hp];simp
theorem A4x(hd:E0 C N D n0 G0 w0 F B U G a w){o:Oper}{f:Nat}{x:G7}{xs:List G7}{caps:List AV}(hcomp:I3 P o.op=some (.callv x xs))(hu:(A1B o.op).all (ceF F)=true)(hx:H9 F x = .fnb f caps):∃vs,(Q7 P f->(execOp a.eval o).run P w = .ok (.enter f vs) w)/\j8 G w (caps++xs.map (H9 F)) vs:=by
 obtain⟨c,t,hop,rfl,hcal,hxs⟩:=A3Y hcomp;have hr:=W9 hd hu;have hfv:RV G w (H9 F (.t t)) (a.eval (.tmp t)):=hr (.tmp t) (by rw[hop]; simp[Op.operands,Call.operands,hcal]) (.t t) rfl;rw[hx] at hfv;obtain⟨us,e1,e2⟩:∃us,a.eval (.tmp t) = .func (.func f) us #[]/\j8 G w caps us:=by
  generalize a.eval (.tmp t)=u at hfv;cases hfv with|fnb _ _ vs hl hh=>exact⟨vs,rfl,hl,hh⟩
 have e3:j8 G w (xs.map (H9 F)) (c.args.map a.eval):=W8 hxs fun X hX x hx=>hr X (by rw[hop]; simp[Op.operands,Call.operands]; exact .inr (by simpa using hX)) x hx;refine⟨us++c.args.map a.eval,fun hp=>?_,A1C e2 e3⟩;unfold execOp;simp only[hop,resolve,hcal,e1,Deferred.ofValue,Sem.run_bind,Sem.run_pure,Result.andThen_ok,invoke];rw[Z3 hp];simp
theorem B3N(hd:E0 C N D n0 G0 w0 F B U G a w){o:Oper}{m:String}{t f J:Nat}{x:G7}{xs:List G7}(hcomp:I3 P o.op=some (.inv m x xs))(hu:(A1B o.op).all (ceF F)=true)(hx:H9 F x = .iface t (.ptr J 0 0))(hm:B1E P t m f){b:Bx}{y:AV}(hb:B J=some b)(hy:b.xs[0]?=some y):∃vs,(Q7 P f->(execOp a.eval o).run P w = .ok (.enter f vs) w)/\j8 G w (.ptr J 0 0::xs.map (H9 F)) vs:=by
 obtain⟨c,X,hop,hcal,hX,hxs⟩:=B1G hcomp;have hr:=W9 hd hu;have hfv:RV G w (H9 F x) (a.eval X):=hr X (by rw[hop]; simp[Op.operands,Call.operands,hcal]) x hX;rw[hx] at hfv;obtain⟨u,e1,e2⟩:∃u,a.eval X = .iface t u/\RV G w (.ptr J 0 0) u:=by
  generalize a.eval X=z at hfv;cases hfv with|iface _ _ u h=>exact⟨u,rfl,h⟩
 obtain⟨ad,rfl⟩:∃ad,u = .pointer (some ad):=by
  obtain⟨blk,s,cur,e,h1,_⟩:=hd.rs.box J b hb (hd.rs.lies hb hy);cases e2 with|ptr _ _ _ _ hone hu hbm=>exact⟨_,hbm blk s h1⟩
 have e3:j8 G w (xs.map (H9 F)) (c.args.map a.eval):=W8 hxs fun X hX x hx=>hr X (by rw[hop]; simp[Op.operands,Call.operands]; exact .inr (by simpa using hX)) x hx;refine⟨#[.pointer (some ad)]++c.args.map a.eval,fun hp=>?_,A1C (xs:=[.ptr J 0 0]) ⟨rfl,fun i y hy=>?_⟩ e3⟩
 ·unfold execOp;simp only[hop,resolve,hcal,e1,Sem.run_bind,Sem.run_pure,Result.andThen_ok,invoke];have e4:(#[Value.iface t (.pointer (some ad))]++c.args.map a.eval)[0]?=some (.iface t (.pointer (some ad))):=by rw[xn (by simp)]; rfl
  have e5:(#[Value.iface t (.pointer (some ad))]++c.args.map a.eval).extract 1 (#[Value.iface t (.pointer (some ad))]++c.args.map a.eval).size=c.args.map a.eval:=by
   apply wi;simp;exact zn (by simp)
  have e6:(program:Sem Program).run P w = .ok P w:=rfl;simp only[e4,e5,callMethod,Sem.run_bind,e6,Result.andThen_ok,hm ad w,Z3 hp]
 ·cases i with
  | zero =>
   simp only[yb,zc] at hy;subst hy;exact e2
  | succ i=>simp at hy
theorem A75(hd:E0 C N D n0 G0 w0 F B U G a w){j:Nat}{o:Oper}(ho:ops[j]?=some o){cr:CR}(hc:l9 P N ops o=some cr){id:Nat}{r:RR}(h:OpR P cr id F B r)(hid:∀x,id<=x->x<id+1024->¬G.used x)(hn:n0<=id){nb:Nat}(hnb:∀x,nb<=x->¬G.used x){Kc:Act->World->Prop}
  (hK:∀G' u w',E0 C N D n0 G0 w0 (z8 F cr.dst r) (D8 B r.wr) (fun x=>G.used x\/(id<=x/\x<id+1024)) G' (a.put o.dst u) w'->Kc (a.put o.dst u) w'):wpOp P ops Q j Kc a w:=by
 unfold l9 at hc;split at hc
 ·rename_i c g hcomp hg;split at hc
  ·rename_i hdst;injection hc with hc
   subst hc;simp only[yh] at hdst;obtain⟨hdst,-⟩:=hdst;have hd':∀d,o.dst=some d->d<N:=fun d hd=>by rw[hd] at hdst; simpa using hdst
   obtain⟨h1,h2,h3,h4⟩:=h;simp only at h1 h2 h3 hK;have hw:=A3U hd (o:=o) hg h1;rw[←h2] at hw;cases hrc:r.c with
   | false =>
    rw[hrc] at hw;have hwr:=h4 hrc;refine A9u ho hw (hK G undef w ?_);rw[hwr];exact E0.put (hd.step hd.rs (I9.refl _ _) (fun x hx=>.inl hx) fun _ _ h=>h) hd' (fun hc=>by rw[hrc] at hc; cases hc) fun _=>rfl
   | true =>
    rw[hrc] at hw;refine A3V ho hw ?_;have fin:∀u w' G',RS C G' (D8 B r.wr) w'->I9 G w G' w'->RV G' w' r.v u->(∀x,G'.used x->G.used x\/(id<=x/\x<id+1024))->Kc (a.put o.dst u) w':=fun u w' G' k1 k2 k3 k4 =>
     hK G' u w' (E0.put (hd.step k1 k2 (fun x hx=>k4 x hx) fun x hx hu=>(k4 x hu).resolve_right (by omega)) hd' (fun _=>k3) fun hc=>by rw[hrc] at hc; cases hc)
    cases h3 hrc with
    | pick k x y z p1 p2 p3 p4 =>
     obtain⟨c,x',y',hop,e1,e2,e3⟩:=A9v hcomp;have rd:∀{X:Operand} {x:G7},opd X=some x->ceO F x=true->RV G w (H9 F x) (a.eval X):=fun {X x} hX hx=>hd.opd hX fun n hn=>by
      subst hn;simp only[Am.opd,zc] at hX;subst hX;exact hx
     have rb:∀{X:Operand} {x:G7},opd X=some x->ceO F x=true->(H9 F x).isBoolB=true->a.eval X = .bool (H9 F x).isT:=fun {X x} hX hx hb=>by
      have h:=rd hX hx;generalize a.eval X=u at h;generalize H9 F x=v at h hb;cases h<;>simp[AV.isBoolB] at hb
      rfl
     have hc:=rb e1 p1 p2;unfold Oper.wp;have hrun:(execOp a.eval o).run P w = .ok (.value (if (H9 F x).isT then a.eval x' else a.eval y')) w:=by
      unfold execOp;simp only[hop,hc,asBool,Sem.run_bind,Sem.run_pure,Result.andThen_ok]
     rw[hrun,Oper.upon_value];refine fin _ w G hd.rs (I9.refl _ _) ?_ fun x hx=>.inl hx;cases ht:(H9 F x).isT with
     | true =>
      obtain⟨q1,q2⟩:=p3 ht;simp only[if_true,rb e2 q1 q2,A4v,uc,Bool.not_true,uk,ti];exact .bool _
     | false =>
      obtain⟨q1,q2⟩:=p4 ht;simp only[xt,if_false,rb e3 q1 q2,A4v,uk,Bool.not_false,uc,Bool.false_or];exact .bool _
    | call f xs r hu hcall =>
     obtain⟨vs,e1,e2⟩:=A74 hd hcomp hu (o:=o);exact A39 e1 hd.rs e2 hcall hnb hid fun u w' G' k1 k2 k3 k4=>fin u w' G' k1 k2 k3 k4
    | callv x xs f caps r hu hx hcall =>
     obtain⟨vs,e1,e2⟩:=A4w hd hcomp hu hx (o:=o);exact A39 e1 hd.rs e2 hcall hnb hid fun u w' G' k1 k2 k3 k4=>fin u w' G' k1 k2 k3 k4
    | callb x xs f caps r hu hx hcall =>
     obtain⟨vs,e1,e2⟩:=A4x hd hcomp hu hx (o:=o);exact A39 e1 hd.rs e2 hcall hnb hid fun u w' G' k1 k2 k3 k4=>fin u w' G' k1 k2 k3 k4
    | inv m x xs t f J r hu hx hm hJ hcall =>
     obtain⟨bb,y,hb,hy⟩:=hJ;obtain⟨vs,e1,e2⟩:=B3N hd hcomp hu hx hm (Q0.has hcall _ hb) hy (o:=o);exact A39 e1 hd.rs e2 hcall hnb hid fun u w' G' k1 k2 k3 k4=>fin u w' G' k1 k2 k3 k4
    | raw op r hk hu hraw hB =>
     exact A3W (hraw o.op hcomp C a.eval G B w (H9 F) o (fun _=>rfl) rfl rfl hd.rs hB (hid id (yg _) (by omega)) (W9 hd hu)) fun u w' G' k1 k2 k3 k4=>fin u w' G' k1 k2 k3 fun x hx=>(k4 x hx).imp _root_.id fun h=>by omega
    | keep k z n ps hu hso =>
     obtain⟨t,qs,hop,hqs⟩:=A73 hcomp;rw[hop] at hcomp;refine A3W (B3M hd.rs (hid id (yg _) (by omega)) hop hcomp hso (by rw[←hop]; exact W9 hd hu)) fun u w' G' k1 k2 k3 k4=>fin u w' G' k1 k2 k3 fun x hx=>(k4 x hx).imp _root_.id fun h=>by omega
    | sem k op p v rd wr hu hsem hp =>
     refine A3W (A9r o.op C a.eval G B w id (H9 F) o c p ⟨v,rd,wr⟩ rfl hcomp hsem hp hd.rs (hid id (yg _) (by omega)) (W9 hd hu)) fun u w' G' k1 k2 k3 k4=>fin u w' G' k1 k2 k3 fun x hx=>(k4 x hx).imp _root_.id fun h=>by omega
  ·cases hc
 ·cases hc
theorem B1I(hd:E0 C N D n0 G0 w0 F B U G a w){j:Nat}{o:Oper}(ho:ops[j]?=some o){cr:CR}(hc:l9 P N ops o=some cr){id:Nat}{pv:AV}{r:RR}(h:OpP P cr id F B pv r)(hid:∀x,id<=x->x<id+1024->¬G.used x)(hn:n0<=id){nb:Nat}(hnb:∀x,nb<=x->¬G.used x){Kc:Act->World->Prop}
  (hK:∀G' u w',E0 C N D n0 G0 w0 F (D8 B r.wr) (fun x=>G.used x\/(id<=x/\x<id+1024)) G' a w'->RV G' w' pv u->Q (.panic [{ v:=u,recovered:=false }]) a w'):wpOp P ops Q j Kc a w:=by
 unfold l9 at hc;split at hc
 ·rename_i c g hcomp hg;split at hc
  ·injection hc with hc
   subst hc;obtain⟨h1,h2,h3⟩:=h;simp only at h1 h2 h3;have hw:=A3U hd (o:=o) hg h1;rw[h2] at hw;refine A3V ho hw ?_;have fin:∀u w' G',RS C G' (D8 B r.wr) w'->I9 G w G' w'->RV G' w' pv u->(∀x,G'.used x->G.used x\/(id<=x/\x<id+1024))->Q (.panic [{ v:=u,recovered:=false }]) a w':=fun u w' G' k1 k2 k3 k4 =>
    hK G' u w' (hd.step k1 k2 (fun x hx=>k4 x hx) fun x hx hu=>(k4 x hu).resolve_right (by omega)) k3
   cases h3 with
   | call f xs pv r hu hcall =>
    obtain⟨vs,e1,e2⟩:=A74 hd hcomp hu (o:=o);exact A3X e1 hd.rs e2 hcall hnb hid fun u w' G' k1 k2 k3 k4=>fin u w' G' k1 k2 k3 k4
   | callv x xs f caps pv r hu hx hcall =>
    obtain⟨vs,e1,e2⟩:=A4w hd hcomp hu hx (o:=o);exact A3X e1 hd.rs e2 hcall hnb hid fun u w' G' k1 k2 k3 k4=>fin u w' G' k1 k2 k3 k4
   | callb x xs f caps pv r hu hx hcall =>
    obtain⟨vs,e1,e2⟩:=A4x hd hcomp hu hx (o:=o);exact A3X e1 hd.rs e2 hcall hnb hid fun u w' G' k1 k2 k3 k4=>fin u w' G' k1 k2 k3 k4
   | pnk x t v k y hu hx =>
    obtain⟨X,hop,hX⟩:=B1H hcomp;have hr:=W9 hd hu X (by rw[hop]; simp[Op.operands]) x hX;rw[hx] at hr;obtain⟨u,e1,e2⟩:∃u,a.eval X = .iface t u/\RV G w v u:=by
     generalize a.eval X=z at hr;cases hr with|iface _ _ u h=>exact⟨u,rfl,h⟩
    have hrun:(execOp a.eval o).run P w = .halt (.panic (.iface t u)) w:=by
     unfold execOp;simp only[hop,e1];rfl
    unfold Oper.wp;rw[hrun,Oper.upon_panic];exact fin _ w G hd.rs (I9.refl _ _) (.iface t v u e2) fun x hx=>.inl hx
  ·cases hc
 ·cases hc
end
end Go.Am
