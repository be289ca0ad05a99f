/- Parts of the proof: an abstract machine for Go functions, and what functions of the program give back (Am20, Am21, Am22, Am23, Am24, Am25, Am26, Am27, Am28). No condition. -/
import Derived.Test.YtphjabjjnncebaaGreatDoorXB
import Derived.Lib.MinMax
set_option maxRecDepth 100000
set_option linter.all false
namespace Go.Am
open Go Go.RowKit
section
variable {P:Program}
theorem B53(op:UnOp)(t:TypeId)(x:Operand):Q3 P (.unOp op t x):=by
 intro C ρ G bx w id ve o c p r ho hc hr hp hs hu hv;simp only[N5,zn] at hc;obtain⟨a,ha,rfl⟩:=hc;have hx:=hv x (by simp[Op.operands]) a ha;have hex:execOp ρ o=(do pure (.value (←Op.unary op (ρ x)))):=by unfold execOp; simp only[ho]
 simp only[sem] at hr;split at hr
 ·rename_i p0 r0 h0;simp only[zd,zh] at hr;obtain⟨rfl,rfl⟩:=hr;unfold unT at h0;split at h0
  ·rename_i b he;simp only[zd,zh] at h0;obtain⟨_,rfl⟩:=h0;rw[he] at hx;have hv1:ρ x = .bool b:=(by generalize ρ x=vx at hx; cases hx; rfl);exact O6.pure hs hex (by rw[hv1]; simp only[unary_not,Sem.run_pure]) (.bool _)
  ·rename_i k n he;simp only[zd,zh] at h0;obtain⟨_,rfl⟩:=h0;rw[he] at hx;have hv1:ρ x = .int k n:=(by generalize ρ x=vx at hx; cases hx; rfl);exact O6.pure hs hex (by rw[hv1]; simp only[unary_neg,Op.intArith,Sem.run_pure]) (.int _ _)
  ·cases h0
 ·cases hr
theorem A9b(x:Operand)(i:Nat):Q3 P (.extract x i):=by
 intro C ρ G bx w id ve o c p r ho hc hr hp hs hu hv;simp only[N5,zn] at hc;obtain⟨a,ha,rfl⟩:=hc;have hx:=hv x (by simp[Op.operands]) a ha;have hex:execOp ρ o=(do pure (.value (←Instr.extract (ρ x) i))):=by unfold execOp; simp only[ho]
 simp only[sem] at hr;split at hr
 ·rename_i vs he;split at hr
  ·rename_i y hy;simp only[zd,zh] at hr;obtain⟨_,rfl⟩:=hr;rw[he] at hx;obtain⟨us,hv1,hus⟩:∃us,ρ x = .tuple us/\RVs G w vs us:=by
    generalize ρ x=vx at hx;cases hx with|tup _ us h1 h2=>exact⟨us,rfl,h1,h2⟩
   obtain⟨u,h1,h2⟩:=hus.get hy;exact O6.pure hs hex (by rw[hv1]; simp only[Instr.extract,h1,Sem.run_pure]) h2
  ·cases hr
 ·cases hr
theorem B36(t:TypeId)(x i:Operand):Q3 P (.index t x i):=by
 intro C ρ G bx w id ve o c p r ho hc hr hp hs hu hv;simp only[N5] at hc;split at hc
 ·rename_i a b ha hb ht;injection hc with hc
  subst hc;have hx:=hv x (by simp[Op.operands]) a ha;have hi:=hv i (by simp[Op.operands]) b hb;simp only[sem] at hr;split at hr
  ·rename_i s k n he hf;simp only[zd,zh] at hr;obtain⟨rfl,rfl⟩:=hr;rw[he] at hx;rw[hf] at hi;have hv1:ρ x = .string ⟨⟨s⟩⟩:=(by generalize ρ x=vx at hx; cases hx; rfl);have hv2:ρ i = .int k n:=(by generalize ρ i=vx at hi; cases hi; rfl);have hg:s[n.toNat]?=some (s.getD n.toNat 0):=(by simp[List.getD,zc hp.2]);exact O6.pure (x:=Instr.index t (ρ x) (ρ i)) hs (by unfold execOp; simp only[ho]) (by rw[hv1,hv2]; exact C7i hp.1 hg ht) (.int _ _)
  ·cases hr
 ·cases hc
theorem A7S(t:TypeId)(l c:Operand):Q3 P (.makeSlice t l c):=by
 intro C ρ G bx w id ve o cc p r ho hc hr hp hs hu hv;simp only[N5] at hc;split at hc
 ·rename_i e ht;split at hc
  ·rename_i z i a b hz hi ha hb;split at hc
   ·rename_i hzs;injection hc with hc
    subst hc;have hx:=hv l (by simp[Op.operands]) a ha;have hy:=hv c (by simp[Op.operands]) b hb;simp only[sem] at hr;split at hr
    ·rename_i kl n kc m he hf;simp only[zd,zh] at hr;obtain⟨rfl,rfl⟩:=hr;rw[he] at hx;rw[hf] at hy;have hv1:ρ l = .int kl n:=(by generalize ρ l=vx at hx; cases hx; rfl);have hv2:ρ c = .int kc m:=(by generalize ρ c=vx at hy; cases hy; rfl);obtain⟨zv,h1,h2⟩:=A1D hz;have hzi:i.zero=some zv:=(by rw[hi] at h1; simpa using h1);exact O6.made (x:=Instr.makeSlice t (ρ l) (ρ c)) (by unfold execOp; simp only[ho]) (by rw[hv1,hv2]; exact C63 hs hu ht hi hzi (h2 G w) rfl rfl hzs hp.1 hp.2.1 hp.2.2.1 hp.2.2.2)
    ·cases hr
   ·cases hc
  ·cases hc
 ·cases hc
theorem A0S{G:Gh}{w:World}{ρ:Operand->Value}{ve:L5->AV}{xs:Array Operand}{ys:List L5}(h:A7P xs.toList=some ys)(hv:∀X∈xs.toList,∀x,opd X=some x->RV G w (ve x) (ρ X)):RVs G w (ys.map ve) (xs.map ρ):=by
 obtain⟨h1,h2⟩:=B6T h;refine RVs.of_get (t_ h1) λi y u hy hu=>?_;simp only[yj,zn] at hy;obtain⟨a,ha,rfl⟩:=hy;simp only[tr,zn] at hu;obtain⟨b,hb,rfl⟩:=hu;have hb':xs.toList[i]?=some b:=by simpa using hb
 exact hv b (zg hb') a (h2 i a b ha hb')
theorem A88(f:FuncId)(first caps:Array Operand):Q3 P (.makeFunc (.func f) first caps):=by
 intro C ρ G bx w id ve o c p r ho hc hr hp hs hu hv;simp only[N5] at hc;split at hc
 ·rename_i hf;simp only[zn] at hc;obtain⟨ys,hys,rfl⟩:=hc;simp only[sem,zd,zh] at hr;obtain⟨_,rfl⟩:=hr;have hf0:first = #[]:=by simpa using hf
  subst hf0;have hvs:=A0S (G:=G) (w:=w) (ρ:=ρ) hys λX hX x hx=>hv X (by simp[Op.operands] at hX ⊢; exact hX) x hx;exact O6.pure (x:=Instr.makeFunc (.func f) ((#[]:Array Operand).map ρ) (caps.map ρ)) hs (by unfold execOp; simp only[ho]) (v:=.func (.func f) #[] (caps.map ρ)) (by simp[Instr.makeFunc]) (.fn f _ _ hvs.1 hvs.2)
 ·split at hc
  ·rename_i X h1 h2;simp only[zn] at hc;obtain⟨a,ha,rfl⟩:=hc;simp only[sem,X4,zd,zh] at hr;obtain⟨_,rfl⟩:=hr;have h1':first = #[X]:=(by apply vu; simpa using h1);have h2':caps = #[]:=(by apply vu; simpa using h2);subst h1' h2';exact O6.pure (x:=Instr.makeFunc (.func f) (#[X].map ρ) ((#[]:Array Operand).map ρ)) hs (by unfold execOp; simp only[ho]) (v:=.func (.func f) #[ρ X] #[]) (by simp[Instr.makeFunc]) (.fnb f _ _ rfl λi y hy=>by
    match i,hy with
    | 0,hy=>simp at hy; subst hy; simpa using hv X (by simp[Op.operands]) a ha
    | i+1,hy=>simp at hy)
  ·cases hc
theorem C02(x:Operand)(u t:TypeId)(b:Bool):Q3 P (.typeAssert x u t b):=by
 intro C ρ G bx w id ve o c p r ho hc hr hp hs hu hv;cases b with
 | false=>simp[N5] at hc
 | true =>
  have hex:execOp ρ o=(do pure (.value (←Instr.typeAssert (ρ x) u t true))):=by unfold execOp; simp only[ho]
  simp only[N5] at hc;split at hc
  ·cases hc
  ·rename_i z hz0 hz;simp only[zn] at hc;obtain⟨a,ha,rfl⟩:=hc;simp only[sem,X4] at hr;split at hr
   ·rename_i t' v he;split at hr
    ·rename_i ht;subst ht;simp only[zd,zh] at hr;obtain⟨_,rfl⟩:=hr;have hx:=hv x (by simp[Op.operands]) a ha;rw[he] at hx;obtain⟨y,e1,e2⟩:∃y,ρ x = .iface t' y/\RV G w v y:=by
      generalize ρ x=q at hx;cases hx with|iface _ _ y h=>exact⟨y,rfl,h⟩
     refine O6.pure hs hex (v:=.tuple #[y,.bool true]) ?_ (.tup _ _ rfl λi q hq=>by
      match i,hq with
      | 0,hq=>simp at hq; subst hq; simpa using e2
      | 1,hq=>simp at hq; subst hq; simpa using RV.bool true
      | i+2,hq=>simp at hq)
     rw[e1];unfold Instr.typeAssert;simp only[Sem.run_bind,run_underlying hz,Result.andThen_ok];cases z<;>first|(exact (hz0 _ rfl).elim)|simp
    ·cases hr
   ·cases hr
  ·cases hc
theorem B37(t:TypeId)(x:Operand)(k:Nat):Q3 P (.field t x k):=by
 intro C ρ G bx w id ve o c p r ho hc hr hp hs hu hv;have hex:execOp ρ o=(do pure (.value (←Instr.field t (ρ x) k))):=by unfold execOp; simp only[ho]
 simp only[N5] at hc;split at hc
 ·rename_i a fs ha hu2;split at hc
  ·rename_i f hf;split at hc
   ·rename_i hg;injection hc with hc
    subst hc;obtain⟨d,hd⟩:=vv.1 hg.1;simp only[sem,X4] at hr;split at hr
    ·rename_i cs he;split at hr
     ·rename_i v hcv;simp only[zd,zh] at hr;obtain⟨_,rfl⟩:=hr;have hx:=hv x (by simp[Op.operands]) a ha;rw[he] at hx;obtain⟨vs,e1,e2,e3⟩:∃vs,ρ x = .agg vs/\cs.length=vs.size/\RV G w v (vs.getD f.offset undef):=by
       generalize ρ x=q at hx;cases hx with|agg _ vs hl h=>exact⟨vs,rfl,hl,h _ _ hcv⟩
      have hlt:f.offset<vs.size:=by
       rw[←e2];exact (ze.1 hcv).1
      have e4:vs[f.offset]?=some (vs.getD f.offset undef):=by
       rw[zl,yb hlt]; rfl
      refine O6.pure hs hex (v:=vs.getD f.offset undef) ?_ e3;rw[e1];unfold Instr.field part;simp only[Sem.run_bind,run_underlying hu2,Result.andThen_ok,hf,asAgg,A6B hd,hg.2];rw[show Sem.run P (pure vs) w = .ok vs w from rfl];simp only[Result.andThen_ok,xm,if_false,e4];rfl
     ·cases hr
    ·cases hr
   ·cases hc
  ·cases hc
 ·cases hc
end
section
variable {P:Program}
theorem A7e{G:Gh}{w:World}{ρ:Operand->Value}{ve:L5->AV}{x:Option Operand}{y:Option L5}(h:B9o x=some y)(hv:∀X,x=some X->∀z,opd X=some z->RV G w (ve z) (ρ X)):RVo G w (y.map ve) (x.map ρ):=by
 cases x with
 | none=>simp only[B9o,zd] at h; subst h; trivial
 | some X =>
  simp only[B9o,zn] at h;obtain⟨z,hz,rfl⟩:=h;exact hv X rfl z hz
theorem B38(t:TypeId)(x:Operand)(lo hi:Option Operand):Q3 P (.slice t x lo hi none):=by
 intro C ρ G bx w id ve o c p r ho hc hr hp hs hu hv;simp only[N5] at hc;have hex:execOp ρ o=(do pure (.value (←Instr.sliceAt t (ρ x) (lo.map ρ) (hi.map ρ) none))):=by unfold execOp; simp only[ho]; rfl
 have hlo:∀X,lo=some X->X∈(Op.slice t x lo hi none).operands.toList:=λX h=>by subst h; simp[Op.operands]
 have hhi:∀X,hi=some X->X∈(Op.slice t x lo hi none).operands.toList:=λX h=>by subst h; simp[Op.operands]
 split at hc
 ·rename_i a l h ha hl hh ht;injection hc with hc
  subst hc;have hx:=hv x (by simp[Op.operands]) a ha;simp only[sem,B2v] at hr;split at hr
  ·rename_i s he;split at hr
   ·rename_i p1 m1 e1;split at hr
    ·rename_i p2 m2 e2;simp only[zd,zh] at hr;obtain⟨rfl,rfl⟩:=hr;rw[he] at hx;have hv1:ρ x = .string ⟨⟨s⟩⟩:=(by generalize ρ x=vx at hx; cases hx; rfl);obtain⟨u,g1,g2⟩:=C3X (P:=P) (B9z e1 hp.1) (C00 e2 hp.2) (A7e hl λX hX=>hv X (hlo X hX)) (A7e hh λX hX=>hv X (hhi X hX)) ht;exact O6.pure hs hex (by rw[hv1]; exact g1) g2
    ·cases hr
   ·cases hr
  ·cases hr
 ·rename_i a l h e ha hl hh ht;simp only[zn] at hc;obtain⟨n,hn,rfl⟩:=hc;have hx:=hv x (by simp[Op.operands]) a ha;simp only[sem,C3a] at hr;split at hr
  ·rename_i xs he;split at hr
   ·rename_i p1 m1 e1;split at hr
    ·rename_i p2 m2 e2;simp only[zd,zh] at hr;obtain⟨rfl,rfl⟩:=hr;obtain⟨⟨q1,q2⟩,q3,q4⟩:=hp;obtain⟨G',s1,ev,us,st⟩:=A1C _ hs λq hq=>let h:=B2t q1 q hq; ⟨.inl h.1,h.2⟩;have hx':=B6R ev q1 st hx;rw[he] at hx';obtain⟨u,g1,g2⟩:=C61 (P:=P) hx' (B9z e1 q3) (C00 e2 q4) (A7e hl λX hX z hz=>(hv X (hlo X hX) z hz).mono ev) (A7e hh λX hX z hz=>(hv X (hhi X hX) z hz).mono ev) ht hn q2;exact⟨.value u,w,G',u,by rw[hex]; simp only[Sem.run_bind,g1,Result.andThen_ok,Sem.run_pure],.inl rfl,s1,ev,g2,λi hi=>.inl (us i hi)⟩
    ·cases hr
   ·cases hr
  ·cases hr
 ·cases hc
theorem A89{x:AV}(h:x.isStr=true):∃s,x = .str s:=by cases x<;>first|exact⟨_,rfl⟩|cases h
theorem B39{x:AV}(h:x.isStr=false):∀s,x≠.str s:=λs hs=>by subst hs; cases h
theorem B1I(t:TypeId)(n:Nat)(ps:Array (Nat×Operand)):Q3 P (.buildSlice t n ps):=by
 intro C ρ G bx w id ve o c p r ho hc hr hp hs hu hv;simp only[N5] at hc;split at hc
 ·rename_i e ht;split at hc
  ·rename_i z s qs hz hsz hqs;split at hc
   ·rename_i hcond;injection hc with hc
    subst hc;simp only[sem,zd,zh] at hr;obtain⟨rfl,rfl⟩:=hr;obtain⟨q1,q2⟩:=hp;obtain⟨c1,c2,c3⟩:=hcond;obtain⟨zv,z1,z2⟩:=A1D hz;obtain⟨l1,l2⟩:=B1F hqs;obtain⟨G',s1,ev,us,st⟩:=A1C _ hs λq hq=>let h:=A3O q1 q hq; ⟨.inl h.1,h.2⟩;obtain⟨m1,m2⟩:=A5H ev q1 st;have hlen:(N0 bx (qs.map λq=>ve q.2)).2.1.length=qs.length:=(by rw[m1]; simp);have hmade:=A9u (P:=P) s1 (λh=>hu (us id h)) ht hsz z1 (z2 G' w) c1 (len:=n) c2 (by simp only[maxLen]; omega) (by rw[←c1]; exact q2) (vs:=ps.map λq=>(q.1,ρ q.2)) (by simp[hlen,l1]) λi q q' hq hq'=>by
     simp only[tr,zn] at hq';obtain⟨b,hb,rfl⟩:=hq';have hb':ps.toList[i]?=some b:=(v_ hb);obtain⟨k,y⟩:=q;rw[List.getElem?_zip_eq_some] at hq;obtain⟨g1,g2⟩:=hq;simp only[yj,zn] at g1;obtain⟨a,ha,rfl⟩:=g1;obtain⟨k1,k2⟩:=l2 i a b ha hb';refine⟨k1,?_⟩;refine m2 (λi=>ρ ((ps.toList.getD i (0,.const undef)).2)) (λj y' hy'=>?_) i y g2 |> λh=>by simpa [List.getD,hb] using h
     simp only[yj,zn] at hy';obtain⟨a',ha',rfl⟩:=hy';have hj:j<ps.toList.length:=(by rw[←l1]; exact (ze.1 ha').1);have hg:=zc hj;have:=hv (ps.toList[j]).2 (by simp only[Op.operands,zw]; exact⟨_,List.getElem_mem hj,rfl⟩) _ (l2 j a' _ ha' hg).2;simpa [List.getD,hg] using this
    obtain⟨v,w',G2,h1,h2,h3,h4,h5⟩:=hmade;refine⟨.value v,w',G2,v,?_,.inl rfl,?_,ev.trans h3,h4,λi hi=>(h5 i hi).imp (us i) (λh=>h)⟩
    ·unfold execOp;simp only[ho,Sem.run_bind,h1,Result.andThen_ok,Sem.run_pure]
    ·rw[p9]; exact h2
   ·cases hc
  ·cases hc
 ·cases hc
end
section
variable {P:Program}
theorem C03{ρ:Operand->Value}{o:Oper}{xs:Array Operand}{ts:Array TypeId}(ho:o.op = .call ⟨.builtin .len,xs,ts⟩):execOp ρ o=(do pure (.value (←Builtin.len_ ts o.type (xs.map ρ)))):=by
 unfold execOp;simp only[ho,resolve,invoke,builtin,pure_bind]
theorem B3A{ρ:Operand->Value}{o:Oper}{xs:Array Operand}{ts:Array TypeId}(ho:o.op = .call ⟨.builtin .append,xs,ts⟩):execOp ρ o=(do pure (.value (←Builtin.append_ ts o.type (xs.map ρ)))):=by
 unfold execOp;simp only[ho,resolve,invoke,builtin,pure_bind]
theorem C04{ρ:Operand->Value}{o:Oper}{xs:Array Operand}{ts:Array TypeId}(ho:o.op = .call ⟨.builtin .min,xs,ts⟩):execOp ρ o=(do pure (.value (←Builtin.min_ ts o.type (xs.map ρ)))):=by
 unfold execOp;simp only[ho,resolve,invoke,builtin,pure_bind]
theorem C05{ρ:Operand->Value}{o:Oper}{xs:Array Operand}{ts:Array TypeId}(ho:o.op = .call ⟨.builtin .max,xs,ts⟩):execOp ρ o=(do pure (.value (←Builtin.max_ ts o.type (xs.map ρ)))):=by
 unfold execOp;simp only[ho,resolve,invoke,builtin,pure_bind]
theorem C06(mx:Bool)(x y:Operand)(t u:TypeId):Q3 P (.call ⟨.builtin (match mx with|true=>.max|false=>.min),#[x,y],#[t,u]⟩):=by
 intro C ρ G bx w id ve o c p r ho hc hr hp hs hu hv;have hc':A1P mx x y=some c:=by cases mx<;>exact hc
 unfold A1P at hc';split at hc'
 ·rename_i a b ha hb;injection hc' with hc'
  subst hc';have hx:=hv x (by simp[Op.operands,Call.operands]) a ha;have hy:=hv y (by simp[Op.operands,Call.operands]) b hb;simp only[sem] at hr;cases hxa:ve a<;>cases hyb:ve b<;>rw[hxa,hyb] at hr<;>simp only[mmT] at hr<;>try cases hr
  rename_i k m k' n;split at hr
  ·rename_i q r0 he;split at he
   ·rename_i hk;simp only[zd,zh] at hr he;obtain⟨rfl,rfl⟩:=hr;obtain⟨rfl,rfl⟩:=he;subst hk;rw[hxa] at hx;rw[hyb] at hy;have ex:ρ x = .int k m:=(by generalize ρ x=v at hx; cases hx; rfl);have ey:ρ y = .int k n:=(by generalize ρ y=v at hy; cases hy; rfl);cases mx with
    | true=>exact O6.pure hs (C05 ho) (by simp only[List.map_toArray,yg,uc,ex,ey]; exact Go.Lib.run_max_ints w _ _ k k m n) (.int k _)
    | false=>exact O6.pure hs (C04 ho) (by simp only[List.map_toArray,yg,uc,ex,ey]; exact Go.Lib.run_min_ints w _ _ k k m n) (.int k _)
   ·cases he
  ·cases hr
 ·cases hc'
theorem B81(x:Operand)(t:TypeId):Q3 P (.call ⟨.builtin .len,#[x],#[t]⟩):=by
 intro C ρ G bx w id ve o c p r ho hc hr hp hs hu hv;simp only[N5,U6] at hc;have hop:∀a,opd x=some a->RV G w (ve a) (ρ x):=λa ha=>hv x (by simp[Op.operands,Call.operands]) a ha;have fin:∀(a:L5) (st:Bool),opd x=some a->(st=true↔P.underlying t=some .string)->(P.underlying t=some .string\/∃e,P.underlying t=some (.slice e))->sem ve bx id (.len st a)=some (p,r)->O6 P C ρ o G bx w id r:=by
  intro a st ha hst ht hr;simp only[sem] at hr;split at hr
  ·rename_i r0 rd hl;simp only[zd,zh] at hr;obtain⟨rfl,rfl⟩:=hr;obtain⟨z,h1,h2⟩:=C60 (P:=P) hs (hop a ha) (C3Y hl) ht ⟨λ⟨s,h⟩=>hst.1 (by rw[←hp,h]; rfl),λh=>A89 (by rw[hp]; exact hst.2 h)⟩ o.type;exact O6.pure hs (C03 ho) (v_ h1) h2
  ·cases hr
 simp only[A0t] at hc;split at hc
 ·rename_i a ha ht;injection hc with hc
  subst hc;exact fin a true ha (t_ ht) (.inl ht) hr
 ·rename_i a e ha ht;injection hc with hc
  subst hc;exact fin a false ha (t_ ht) (.inr ⟨e,ht⟩) hr
 ·cases hc
theorem B1J(x y:Operand)(t u:TypeId):Q3 P (.call ⟨.builtin .append,#[x,y],#[t,u]⟩):=by
 intro C ρ G bx w id ve o c p r ho hc hr hp hs hu hv;simp only[N5,U6] at hc;have hx:∀a,opd x=some a->RV G w (ve a) (ρ x):=λa ha=>hv x (by simp[Op.operands,Call.operands]) a ha;have hy:∀a,opd y=some a->RV G w (ve a) (ρ y):=λa ha=>hv y (by simp[Op.operands,Call.operands]) a ha;have fin:∀(a b:L5) (st:Bool) (e:TypeId) (z:AV) (i:TypeInfo),opd x=some a->opd y=some b->P.underlying t=some (.slice e)->A23 P e=some z->P.info? e=some i->z.cells.length=i.size ->
   ((st=true/\P.underlying u=some .string/\i.size=1)\/(st=false/\∃e,P.underlying u=some (.slice e)))->sem ve bx id (.app st z i.bytes a b)=some (p,r)->O6 P C ρ o G bx w id r:=by
  intro a b st e z i ha hb ht hz hi hzi hst hr;simp only[sem] at hr;split at hr
  ·rename_i p0 ys rd he;split at hr
   ·rename_i q0 r0 hap;simp only[zd,zh] at hr;obtain⟨rfl,rfl⟩:=hr;obtain⟨⟨q1,q2,q3⟩,q4⟩:=hp;obtain⟨zv,z1,z2⟩:=A1D hz;have hzz:i.zero=some zv:=(by rw[hi] at z1; simpa using z1);have hzs:zv.cells.size=i.size:=(by rw[←(Q7 (z2 G w)).1]; exact hzi);have hk:((∃t,ve b = .str t)/\P.underlying u=some .string/\i.size=1)\/((∀t,ve b≠.str t)/\∃e,P.underlying u=some (.slice e)) :=
     hst.imp (λh=>⟨A89 (by rw[q2]; exact h.1),h.2⟩) (λh=>⟨B39 (by rw[q2]; exact h.1),h.2⟩)
    have key:∀rd',A72 z bx id (ve a) ys=some (r0.v,rd',r0.wr)->(∀n,A1N bx (ve a)=some (.int .i64 n)->(n+ys.length)*i.bytes<=140737488355328/\n+ys.length<=9223372036854775807)->O6 P C ρ o G bx w id ⟨r0.v,rd++r0.rd,r0.wr⟩:=λrd' h1 h2 =>
     O6.made (B3A ho) (by
      have:=A6D (P:=P) (ty:=o.type) hs hu (hx a ha) (hy b hb) (A9w he q1) (λe he=>(q3 e he).1.trans hzi) (λe he c hc=>(xe.1 (q3 e he).2) c hc) h1 hzi hk ht hi hzz hzs rfl rfl h2;simpa using this)
    unfold B2s at hap;split at hap
    ·rename_i hn;simp only[zd,zh] at hap;obtain⟨rfl,rfl⟩:=hap;refine key [] (by simp only[hn,A72]) λn hn'=>?_;simp only[hn,A1N,zd,AV.int.injEq,true_and] at hn';subst hn';refine⟨?_,by have:=q4.2; omega⟩;have:=q4.1;rw[Int.zero_add,←qd];omega
    ·rename_i i0 off n hn;split at hap
     ·rename_i bb hbb;simp only[zd,zh] at hap;obtain⟨rfl,rfl⟩:=hap;obtain⟨q5,q6,q7⟩:=q4;refine key [(i0,bb)] (by simp only[hn,A72,hbb,zj q5]) λm hm=>?_;simp only[hn,A1N,hbb,zd,AV.int.injEq,true_and] at hm;subst hm;refine⟨?_,o_⟩;rw[←Int.natCast_add,←qd];omega
     ·cases hap
    ·cases hap
   ·cases hr
  ·cases hr
 simp only[A0u] at hc;split at hc
 ·rename_i a b e ha hb ht hu';split at hc
  ·rename_i z i hz hi;split at hc
   ·rename_i hc2;injection hc with hc
    subst hc;exact fin a b true e z i ha hb ht hz hi hc2.1 (.inl ⟨rfl,hu',hc2.2⟩) hr
   ·cases hc
  ·cases hc
 ·rename_i a b e e' ha hb ht hu';split at hc
  ·rename_i z i hz hi;split at hc
   ·rename_i hc2;injection hc with hc
    subst hc;exact fin a b false e z i ha hb ht hz hi hc2 (.inr ⟨rfl,e',hu'⟩) hr
   ·cases hc
  ·cases hc
 ·cases hc
end
section
variable {P:Program}
theorem C07{P:Program}{C:Cx P}{G:Gh}{bx:Nat->Option Bx}{w:World}(hs:RS C G bx w){x:AV}{v:Value}(h:RV G w x v)(hx:∀s,x≠.str s){ys:List AV}(he:elems bx x=some ys)(hu:ys.all A5C=true):
  (∃n c,v = .slice none n c/\ys=[])\/∃a c,v = .slice (some a) ys.length c/\∀(i:Nat) y,ys[i]?=some y->w.cell? (a.add i)=some (.int .u8 (match y with | .int _ n=>n|_=>0)):=by
 have hone:∀(y:AV) (u:Value),A5C y=true->RV G w y u->u = .int .u8 (match y with | .int _ n=>n|_=>0):=λy u hy hr=>by
  cases hr<;>first|(simp[A5C] at hy; done)|skip
  rename_i k n;cases k<;>first|rfl|(simp[A5C] at hy)
 have hcells:∀y∈ys,y.cells=[y]:=λy hy=>by
  have:=(xe.1 hu) y hy;cases y<;>first|rfl|(simp[A5C] at this)
 cases x with
 | nils =>
  simp only[elems,zd] at he;cases h
  exact .inl ⟨0,0,rfl,he.symm⟩
 | sl xs =>
  simp only[elems,zd] at he;subst he;cases h with|sl _ A c s u hc hm hn hs' h1 h2 h3 =>
  cases A with
  | none=>exact .inl ⟨_,_,rfl,(hn rfl).1⟩
  | some a =>
   refine .inr ⟨a,c,rfl,λi y hy=>?_⟩;have hyc:=hcells y (zg hy);have hs1:s=1:=(by rw[←hs' i y hy,hyc]; rfl);have g2:=h2 a i y 0 y rfl hy (by rw[hyc]; rfl);rw[hs1,Nat.mul_one,vp] at g2;rw[g2,hone y (u i 0) ((xe.1 hu) y (zg hy)) (h3 i y 0 y hy (by rw[hyc]; rfl))]
 | bsl id off len =>
  simp only[elems] at he;split at he
  ·rename_i b hb;split at he
   ·rename_i hle;injection he with he
    cases h with|bsl _ _ _ _ hone' hub hbm hnl =>
    by_cases hn:G.nl id
    ·obtain⟨hv,_,hl⟩:=hnl hn;refine .inl ⟨_,_,hv,?_⟩;rw[←he,hl]; simp
    ·obtain⟨blk,s',cur,e',h1',h2',_,_,h5,_⟩:=hs.box id b hb hn;obtain⟨c,cur',e'',hv,_⟩:=hbm blk s' h1';have hlen:ys.length=len:=(by rw[←he]; simp; omega);refine .inr ⟨_,c,by rw[hlen]; exact hv,λi y hy=>?_⟩;have hyc:=hcells y (zg hy);have hi':b.xs[off+i]?=some y:=by
      rw[←he,zz] at hy;split at hy
      ·rwa [yf] at hy
      ·cases hy
     obtain⟨g1,g2⟩:=h5 _ y hi';have hs1:s'=1:=(by rw[←g1,hyc]; rfl);obtain⟨u,hu1,hu2⟩:=g2 0 y (by rw[hyc]; rfl);subst hs1;rw[Addr.add_lit,E4 h2',show off*1+i=(off+i)*1+0 by omega,hu1,hone y u ((xe.1 hu) y (zg hy)) hu2]
   ·cases he
  ·cases he
 | str s=>exact (hx s rfl).elim
 | _=>cases he
theorem B82(t:TypeId)(x:Operand):Q3 P (.makeInterface t x):=by
 intro C ρ G bx w id ve o c p r ho hc hr hp hs hu hv;have hex:execOp ρ o=(do pure (.value (←Instr.makeInterface t (ρ x)))):=by unfold execOp; simp only[ho]
 simp only[N5] at hc;split at hc
 ·rename_i ht;obtain⟨a,ha,rfl⟩:=zn.1 hc;simp only[sem,X4,zd,zh] at hr;obtain⟨_,rfl⟩:=hr;exact O6.pure hs hex (run_makeInterface (P:=P) w t (ρ x) ht) (.iface t _ _ (hv x (by simp[Op.operands]) a ha))
 ·cases hc
theorem A9c(s d:TypeId)(x:Operand):Q3 P (.convert s d x):=by
 intro C ρ G bx w id ve o c p r ho hc hr hp hs hu hv;have hex:execOp ρ o=(do pure (.value (←convert s d (ρ x)))):=by unfold execOp; simp only[ho]
 simp only[N5] at hc;split at hc
 ·rename_i a ks kd ha h1 h2;injection hc with hc
  subst hc;have hx:=hv x (by simp[Op.operands]) a ha;simp only[sem,X4] at hr;split at hr
  ·rename_i k n he;simp only[zd,zh] at hr;obtain⟨_,rfl⟩:=hr;rw[he] at hx;have hv1:ρ x = .int k n:=(by generalize ρ x=vx at hx; cases hx; rfl);have hk:P.intKind d=kd:=(by simp[Program.intKind,h2]);have:=run_convert_int (P:=P) w s d k n (t_ h1) (by rw[hk]; exact h2);rw[hk] at this;exact O6.pure hs hex (by rw[hv1]; exact this) (.int _ _)
  ·cases hr
 ·rename_i a e ha h1 h2;split at hc
  ·rename_i he8;injection hc with hc
   subst hc;have hx:=hv x (by simp[Op.operands]) a ha;simp only[sem,X4] at hr;split at hr
   ·rename_i l he;simp only[zd,zh] at hr;obtain⟨rfl,rfl⟩:=hr;rw[he] at hx;have hv1:ρ x = .string ⟨⟨l⟩⟩:=(by generalize ρ x=vx at hx; cases hx; rfl);have h3:P.underlying e=some (.int .u8):=by
     unfold B2w at he8;split at he8
     ·assumption
     ·cases he8
    exact O6.made hex (by rw[hv1]; exact B4z hs h1 h2 h3 hp id)
   ·cases hr
  ·cases hc
 ·rename_i a e ha h1 h2;split at hc
  ·rename_i he8;injection hc with hc
   subst hc;have hx:=hv x (by simp[Op.operands]) a ha;have h3:P.underlying e=some (.int .u8):=by
    unfold B2w at he8;split at he8
    ·assumption
    ·cases he8
   simp only[sem,X4] at hr;split at hr
   ·cases hr
   ·rename_i hns;split at hr
    ·rename_i p0 ys rd hel;simp only[zd,zh] at hr;obtain⟨rfl,rfl⟩:=hr;rcases C07 hs hx (λs h=>hns s h) (A9w hel hp.1) hp.2 with⟨n,c,hv1,hy⟩|⟨ad,c,hv1,hcell⟩
     ·subst hy;exact O6.pure hs hex (by rw[hv1]; exact run_convert_bytes_nil (P:=P) w s e h1 h3 n c d h2) (.str [])
     ·have hl:=run_loadCells_list (P:=P) w ad ((ys.map λy=>(match y with | .int _ n=>n|_=>0:Int)).map (Value.int .u8)) (λj v hj=>by
       simp only[yj,zn] at hj;obtain⟨_,⟨y,hy,rfl⟩,rfl⟩:=hj;exact hcell j y hy)
      simp only[xf] at hl;have hpush:∀(l:List AV) (r:ByteArray),l.all A5C=true->(l.map λy=>(match y with | .int _ n=>n|_=>0:Int)).foldl (λr n=>r.push (UInt8.ofNat n.toNat)) r=⟨r.data++(l.map A6E).toArray⟩:=by
       intro l;induction l with
       | nil=>intro r _; simp
       | cons y l ih =>
        intro r hall;simp only[List.all_cons,yk] at hall;simp only[yg,wc];rw[ih _ hall.2];cases y<;>simp[A5C] at hall
        simp[ByteArray.push,A6E]
      have hrun:(convert s d (ρ x)).run P w = .ok (.string ⟨⟨ys.map A6E⟩⟩) w:=by
       rw[hv1,run_convert_bytes_string w s d e _ _ _ h1 h3 h2,run_bytesToString w ad ys.length c _ hl,hpush ys _ hp.2];have he0:ByteArray.empty.data = #[]:=rfl;rw[he0];simp
      exact O6.pure hs hex hrun (.str _)
    ·cases hr
  ·cases hc
 ·cases hc
end
section
variable {P:Program}
theorem A4g{op:Op}(h:N5 P op=none):Q3 P op:=by
 intro C ρ G bx w id ve o c p r ho hc;rw[h] at hc; cases hc
theorem B54(c a b:Operand):Q3 P (.pick c a b):=by
 intro C ρ G bx w id ve o cc p r ho hc hr;simp only[N5] at hc;split at hc
 ·injection hc with hc
  subst hc;simp[sem] at hr
 ·cases hc
theorem B3B(x:Operand):Q3 P (.panic x):=by
 intro C ρ G bx w id ve o cc p r ho hc hr;simp only[N5,zn] at hc;obtain⟨a,_,rfl⟩:=hc;simp[sem] at hr
theorem B1K{ca:Callee}{xs:List Operand}{ts:List TypeId}{c:COp}(h:U6 P ca xs ts=some c):(∃x t,ca = .builtin .len/\xs=[x]/\ts=[t])\/(∃x y t u,ca = .builtin .append/\xs=[x,y]/\ts=[t,u])\/(∃(mx:Bool) (x y:Operand) (t u:TypeId),ca = .builtin (match mx with|true=>.max|false=>.min)/\xs=[x,y]/\ts=[t,u])\/∀ve bx id,sem ve bx id c=none:=by
 unfold U6 at h;split at h
 ·exact .inl ⟨_,_,rfl,rfl,rfl⟩
 ·exact .inr (.inl ⟨_,_,_,_,rfl,rfl,rfl⟩)
 ·exact .inr (.inr (.inl ⟨false,_,_,_,_,rfl,rfl,rfl⟩))
 ·exact .inr (.inr (.inl ⟨true,_,_,_,_,rfl,rfl,rfl⟩))
 ·simp only[zn] at h;obtain⟨ys,_,rfl⟩:=h;exact .inr (.inr (.inr λ_ _ _=>rfl))
 ·simp only[zn] at h;obtain⟨ys,_,rfl⟩:=h;exact .inr (.inr (.inr λ_ _ _=>rfl))
 ·unfold A0v at h;split at h
  ·split at h
   ·injection h with h; subst h; exact .inr (.inr (.inr λ_ _ _=>rfl))
   ·cases h
  ·cases h
 ·unfold A0w at h;split at h
  ·injection h with h; subst h; exact .inr (.inr (.inr λ_ _ _=>rfl))
  ·cases h
 ·cases h
theorem B55(c:Call):Q3 P (.call c):=by
 intro C ρ G bx w id ve o cc p r ho hc hr hp hs hu hv;have hc':=hc;simp only[N5] at hc';obtain⟨ca,xs,ts⟩:=c;rcases B1K hc' with⟨x,t,h1,h2,h3⟩|⟨x,y,t,u,h1,h2,h3⟩|⟨mx,x,y,t,u,h1,h2,h3⟩|h
 ·simp only at h1 h2 h3;have h2':xs = #[x]:=by apply vu; simpa using h2
  have h3':ts = #[t]:=by apply vu; simpa using h3
  subst h1 h2' h3';exact B81 x t C ρ G bx w id ve o cc p r ho hc hr hp hs hu hv
 ·simp only at h1 h2 h3;have h2':xs = #[x,y]:=by apply vu; simpa using h2
  have h3':ts = #[t,u]:=by apply vu; simpa using h3
  subst h1 h2' h3';exact B1J x y t u C ρ G bx w id ve o cc p r ho hc hr hp hs hu hv
 ·simp only at h1 h2 h3;have h2':xs = #[x,y]:=by apply vu; simpa using h2
  have h3':ts = #[t,u]:=by apply vu; simpa using h3
  subst h1 h2' h3';exact C06 mx x y t u C ρ G bx w id ve o cc p r ho hc hr hp hs hu hv
 ·rw[h] at hr; cases hr
theorem B83(op:Op):Q3 P op:=by
 cases op with
 | move x=>exact B50 x
 | assign x=>exact B1E x
 | pick c a b=>exact B54 c a b
 | alloc t=>exact B2x t
 | box t x=>exact B7y t x
 | build t ps=>exact B2z t ps
 | buildSlice t n ps=>exact B1I t n ps
 | load t x=>exact B51 t x
 | store t x v=>exact B2y t x v
 | nilCheck x=>exact A87 x
 | binOp op t x y u=>exact B35 op t x y u
 | unOp op t x=>exact B53 op t x
 | convert s d x=>exact A9c s d x
 | makeFunc fn first caps =>
  cases fn with
  | func f=>exact A88 f first caps
  | _=>exact A4g rfl
 | makeSlice t l c=>exact A7S t l c
 | slice t x lo hi m =>
  cases m with
  | none=>exact B38 t x lo hi
  | some m=>exact A4g rfl
 | fieldAddr t x k=>exact A7Q t x k
 | indexAddr t x i=>exact A7R t x i
 | index t x i=>exact B36 t x i
 | extract x i=>exact A9b x i
 | call c=>exact B55 c
 | makeInterface t x=>exact B82 t x
 | field t x k=>exact B37 t x k
 | typeAssert x u t b=>exact C02 x u t b
 | panic x=>exact B3B x
 | _=>exact A4g rfl
end
def K8(bx:Nat->Option Bx)(rd:List (Nat×Bx)):Prop:=∀q∈rd,bx q.1=some q.2
def K8.nil{bx:Nat->Option Bx}:K8 bx []:=λq hq=>by cases hq
def K8.left{bx:Nat->Option Bx}{a b:List (Nat×Bx)}(h:K8 bx (a++b)):K8 bx a:=λq hq=>h q (t_ hq)
def K8.right{bx:Nat->Option Bx}{a b:List (Nat×Bx)}(h:K8 bx (a++b)):K8 bx b:=λq hq=>h q (t_ hq)
def K8.app{bx:Nat->Option Bx}{a b:List (Nat×Bx)}(h:K8 bx a)(k:K8 bx b):K8 bx (a++b):=λq hq=>(zr.1 hq).elim (h q) (k q)
def K8.one{bx:Nat->Option Bx}{i:Nat}{b:Bx}(h:bx i=some b):K8 bx [(i,b)]:=λq hq=>by simp only[wj] at hq; subst hq; exact h
def K8.get{bx:Nat->Option Bx}{i:Nat}{b:Bx}(h:K8 bx [(i,b)]):bx i=some b:=h (i,b) s_
section
variable {bx bx':Nat->Option Bx}
theorem B3C{x:AV}{p:Prop}{cs:List AV}{rd:List (Nat×Bx)}(h:A1O bx x=some (p,cs,rd)):K8 bx rd/\(K8 bx' rd->A1O bx' x=some (p,cs,rd)):=by
 unfold A1O at h;split at h
 ·simp only[zd,zh] at h;obtain⟨rfl,rfl,rfl⟩:=h;exact⟨K8.nil,λ_=>rfl⟩
 ·split at h
  ·rename_i b hb;simp only[zd,zh] at h;obtain⟨rfl,rfl,rfl⟩:=h;exact⟨K8.one hb,λhx=>by simp only[A1O,hx.get]⟩
  ·cases h
 ·cases h
theorem A5J{off:Nat}{x r:AV}{p:Prop}{rd:List (Nat×Bx)}(h:A21 bx off x=some (p,r,rd)):K8 bx rd/\(K8 bx' rd->A21 bx' off x=some (p,r,rd)):=by
 unfold A21 at h;split at h
 ·simp only[zd,zh] at h;obtain⟨rfl,rfl,rfl⟩:=h;exact⟨K8.nil,λ_=>rfl⟩
 ·split at h
  ·rename_i b hb;simp only[zd,zh] at h;obtain⟨rfl,rfl,rfl⟩:=h;exact⟨K8.one hb,λhx=>by simp only[A21,hx.get]⟩
  ·cases h
 ·cases h
theorem B1L{s:Nat}{z x i r:AV}{p:Prop}{rd:List (Nat×Bx)}(h:A2k s z bx x i=some (p,r,rd)):K8 bx rd/\(K8 bx' rd->A2k s z bx' x i=some (p,r,rd)):=by
 unfold A2k at h;split at h
 ·simp only[zd,zh] at h;obtain⟨rfl,rfl,rfl⟩:=h;exact⟨K8.nil,λ_=>rfl⟩
 ·split at h
  ·rename_i b hb;simp only[zd,zh] at h;obtain⟨rfl,rfl,rfl⟩:=h;exact⟨K8.one hb,λhx=>by simp only[A2k,hx.get]⟩
  ·cases h
 ·cases h
theorem B56{x r:AV}{rd:List (Nat×Bx)}(h:B1C bx x=some (r,rd)):K8 bx rd/\(K8 bx' rd->B1C bx' x=some (r,rd)):=by
 unfold B1C at h;split at h<;>first
  | (simp only[zd,zh] at h; obtain⟨rfl,rfl⟩:=h; exact⟨K8.nil,λ_=>rfl⟩)
  | (split at h
     ·rename_i b hb;simp only[zd,zh] at h; obtain⟨rfl,rfl⟩:=h;exact⟨K8.one hb,λhx=>by simp only[B1C,hx.get]⟩
     ·cases h)
  | cases h
theorem A5K{x:AV}{p:Prop}{ys:List AV}{rd:List (Nat×Bx)}(h:A0i bx x=some (p,ys,rd)):K8 bx rd/\(K8 bx' rd->A0i bx' x=some (p,ys,rd)):=by
 unfold A0i at h;split at h<;>first
  | (simp only[zd,zh] at h; obtain⟨rfl,rfl,rfl⟩:=h; exact⟨K8.nil,λ_=>rfl⟩)
  | (split at h
     ·rename_i b hb;simp only[zd,zh] at h; obtain⟨rfl,rfl,rfl⟩:=h;exact⟨K8.one hb,λhx=>by simp only[A0i,hx.get]⟩
     ·cases h)
  | cases h
theorem A74{x:AV}(hp:(u7 bx x).1):K8 bx (u7 bx x).2.2/\(K8 bx' (u7 bx x).2.2->u7 bx' x=u7 bx x):=by
 cases x with
 | bsl id off len =>
  simp only[u7] at hp ⊢;cases hb:bx id with
  | none=>simp only[hb] at hp
  | some b =>
   simp only;exact⟨K8.one hb,λhx=>by simp only[hx.get]⟩
 | _=>exact⟨K8.nil,λ_=>rfl⟩
theorem A4h:∀{l:List AV},(A0R bx l).1->K8 bx (A0R bx l).2.2/\(K8 bx' (A0R bx l).2.2->A0R bx' l=A0R bx l)
 | [],_=>⟨K8.nil,λ_=>rfl⟩
 | x::r,hp=>by
  simp only[A0R] at hp ⊢;obtain⟨h1,h2⟩:=A74 (bx':=bx') hp.1;obtain⟨h3,h4⟩:=A4h (l:=r) hp.2;exact⟨h1.app h3,λhx=>by rw[h2 hx.left,h4 hx.right]⟩
theorem A8A{x:AV}(hp:(A22 bx x).1):K8 bx (A22 bx x).2.2/\(K8 bx' (A22 bx x).2.2->A22 bx' x=A22 bx x):=by
 cases x with
 | agg cs =>
  obtain⟨h1,h2⟩:=A4h (bx':=bx') (l:=cs) hp;exact⟨h1,λhx=>by simp only[A22]; rw[h2 hx]⟩
 | tup cs =>
  obtain⟨h1,h2⟩:=A4h (bx':=bx') (l:=cs) hp;exact⟨h1,λhx=>by simp only[A22]; rw[h2 hx]⟩
 | bsl id off len=>exact A74 (bx':=bx') (x:=.bsl id off len) hp
 | _=>exact⟨K8.nil,λ_=>rfl⟩
theorem A0B:∀{l:List AV},(N0 bx l).1->K8 bx (N0 bx l).2.2/\(K8 bx' (N0 bx l).2.2->N0 bx' l=N0 bx l)
 | [],_=>⟨K8.nil,λ_=>rfl⟩
 | x::r,hp=>by
  simp only[N0] at hp ⊢;obtain⟨h1,h2⟩:=A8A (bx':=bx') hp.1;obtain⟨h3,h4⟩:=A0B (l:=r) hp.2;exact⟨h1.app h3,λhx=>by rw[h2 hx.left,h4 hx.right]⟩
end
section
variable {bx bx':Nat->Option Bx}
theorem A9y{agg:Bool}{n:Nat}{x:AV}{p:Prop}{r:Rs}(h:ldT agg n (A1O bx x)=some (p,r)):K8 bx r.rd/\(K8 bx' r.rd->ldT agg n (A1O bx' x)=some (p,r)):=by
 cases hl:A1O bx x with
 | none=>rw[hl] at h; cases h
 | some q =>
  obtain⟨p0,cs,rd⟩:=q;rw[hl] at h;obtain⟨h1,h2⟩:=B3C (bx':=bx') hl;have hrd:r.rd=rd:=by
   unfold ldT at h;cases agg with
   | true=>simp only[zd,zh] at h; rw[←h.2]
   | false=>cases cs<;>simp only[zd,zh,reduceCtorEq] at h; rw[←h.2]
  rw[hrd];exact⟨h1,λhx=>by rw[h2 hx]; exact h⟩
theorem B84{n:Nat}{x v:AV}{p:Prop}{r:Rs}(h:stT bx n x v=some (p,r)):K8 bx r.rd/\(K8 bx' r.rd->stT bx' n x v=some (p,r)):=by
 unfold stT at h;split at h
 ·split at h
  ·rename_i b hb;simp only[zd,zh] at h;obtain⟨rfl,rfl⟩:=h;exact⟨K8.one hb,λhx=>by simp only[stT,hx.get]⟩
  ·cases h
 ·cases h
theorem B57{d:AV}{bytes id:Nat}{x:AV}{ys:List AV}{p:Prop}{r:Rs}(h:B2s d bytes bx id x ys=some (p,r)):K8 bx r.rd/\(K8 bx' r.rd->B2s d bytes bx' id x ys=some (p,r)):=by
 unfold B2s at h;split at h
 ·simp only[zd,zh] at h;obtain⟨rfl,rfl⟩:=h;exact⟨K8.nil,λ_=>rfl⟩
 ·split at h
  ·rename_i b hb;simp only[zd,zh] at h;obtain⟨rfl,rfl⟩:=h;exact⟨K8.one hb,λhx=>by simp only[B2s,hx.get]⟩
  ·cases h
 ·cases h
theorem B3D{k:CK}{x:AV}{p:Prop}{r:Rs}(h:X4 bx k x=some (p,r)):K8 bx r.rd/\(K8 bx' r.rd->X4 bx' k x=some (p,r)):=by
 cases k with
 | same=>simp only[X4,zd,zh] at h; obtain⟨rfl,rfl⟩:=h; exact⟨K8.nil,λ_=>rfl⟩
 | mki t=>simp only[X4,zd,zh] at h; obtain⟨rfl,rfl⟩:=h; exact⟨K8.nil,λ_=>rfl⟩
 | rcv t=>simp only[X4,zd,zh] at h; obtain⟨rfl,rfl⟩:=h; exact⟨K8.nil,λ_=>rfl⟩
 | fld i =>
  simp only[X4] at h;split at h
  ·split at h
   ·rename_i hq;simp only[zd,zh] at h;obtain⟨rfl,rfl⟩:=h;exact⟨K8.nil,λ_=>by simp only[X4,hq]⟩
   ·cases h
  ·cases h
 | ta t=>simp only[X4] at h; split at h<;>first|(split at h<;>first|(simp only[zd,zh] at h; obtain⟨rfl,rfl⟩:=h; exact⟨K8.nil,λ_=>by simp_all[X4]⟩)|cases h)|cases h
 | int k=>simp only[X4] at h; split at h<;>first|(simp only[zd,zh] at h; obtain⟨rfl,rfl⟩:=h; exact⟨K8.nil,λ_=>rfl⟩)|cases h
 | bytes=>simp only[X4] at h; split at h<;>first|(simp only[zd,zh] at h; obtain⟨rfl,rfl⟩:=h; exact⟨K8.nil,λ_=>rfl⟩)|cases h
 | str =>
  have hs:∀s,x≠.str s:=λs hs=>by subst hs; simp[X4] at h
  have key:∀b:Nat->Option Bx,X4 b .str x=match A0i b x with
   | some (p,ys,rd)=>some (p/\ys.all A5C=true,⟨.str (ys.map A6E),rd,[]⟩)
   | none=>none:=λb=>by
   cases x<;>first|rfl|exact (hs _ rfl).elim
  rw[key] at h;cases he:A0i bx x with
  | none=>rw[he] at h; cases h
  | some q =>
   obtain⟨p0,ys,rd⟩:=q;rw[he] at h;simp only[zd,zh] at h;obtain⟨rfl,rfl⟩:=h;obtain⟨h1,h2⟩:=A5K (bx':=bx') he;exact⟨h1,λhx=>by rw[key,h2 hx]⟩
theorem B58{n s:Nat}{x i r:AV}{p:Prop}{rd:List (Nat×Bx)}(h:B1B n s bx x i=some (p,r,rd)):K8 bx rd/\(K8 bx' rd->B1B n s bx' x i=some (p,r,rd)):=by
 unfold B1B at h;split at h
 ·rename_i k m;split at h
  ·rename_i p0 r0 rd0 hf;simp only[zd,zh] at h;obtain⟨rfl,rfl,rfl⟩:=h;obtain⟨h1,h2⟩:=A5J (bx':=bx') hf;exact⟨h1,λhx=>by simp only[B1B,h2 hx]⟩
  ·cases h
 ·cases h
theorem A9z{ve:L5->AV}{id:Nat}{c:COp}{p:Prop}{r:Rs}(h:sem ve bx id c=some (p,r))(hp:p):K8 bx r.rd/\(K8 bx' r.rd->sem ve bx' id c=some (p,r)):=by
 have plain:r.rd=[]->(∀b,sem ve b id c=sem ve bx id c)->K8 bx r.rd/\(K8 bx' r.rd->sem ve bx' id c=some (p,r)):=λh1 h2=>⟨by rw[h1]; exact K8.nil,λ_=>by rw[h2]; exact h⟩;have keep:∀(q:Option (Prop×AV)),(match q with|some (p,r)=>some (p,(⟨r,[],[]⟩:Rs))|none=>none)=some (p,r)->r.rd=[]:=λq hq=>by
  cases q with
  | none=>cases hq
  | some q=>simp only[zd,zh] at hq; rw[←hq.2]
 have named:∀(f:(Nat->Option Bx)->Option (Prop×AV×List (Nat×Bx))),(∀p0 r0 rd,f bx=some (p0,r0,rd)->K8 bx rd/\(K8 bx' rd->f bx'=some (p0,r0,rd))) ->
   (match f bx with|some (p,r,rd)=>some (p,(⟨r,rd,[]⟩:Rs))|none=>none)=some (p,r)->K8 bx r.rd/\(K8 bx' r.rd->(match f bx' with|some (p,r,rd)=>some (p,(⟨r,rd,[]⟩:Rs))|none=>none)=some (p,r)):=λf hf hq=>by
  cases he:f bx with
  | none=>rw[he] at hq; cases hq
  | some q =>
   obtain⟨p0,r0,rd⟩:=q;rw[he] at hq;simp only[zd,zh] at hq;obtain⟨rfl,rfl⟩:=hq;obtain⟨h1,h2⟩:=hf _ _ _ he;exact⟨h1,λhx=>by rw[h2 hx]⟩
 cases c with
 | ld agg n x=>exact A9y h
 | st n x v=>exact B84 h
 | conv k x=>exact B3D h
 | mv x=>exact plain (by simp only[sem,zd,zh] at h; rw[←h.2]) λb=>rfl
 | alloc z=>exact plain (by simp only[sem,zd,zh] at h; rw[←h.2]) λb=>rfl
 | box x=>exact plain (by simp only[sem,zd,zh] at h; rw[←h.2]) λb=>rfl
 | mkf f caps=>exact plain (by simp only[sem,zd,zh] at h; rw[←h.2]) λb=>rfl
 | pick c a b=>cases h
 | call f xs=>cases h
 | callv x xs=>cases h
 | pnk x=>cases h
 | cpy x y=>cases h
 | inv m x xs=>cases h
 | aa n s x i=>exact named (λb=>B1B n s b (ve x) (ve i)) (λ_ _ _ h=>B58 h) h
 | build zs ps =>
  refine plain ?_ λb=>rfl;simp only[sem] at h;split at h
  ·simp only[zd,zh] at h; rw[←h.2]
  ·cases h
 | bin op eqs x y=>exact plain (keep _ h) λb=>rfl
 | mm mx x y=>exact plain (keep _ h) λb=>rfl
 | un op x=>exact plain (keep _ h) λb=>rfl
 | mks z bytes l c =>
  refine plain ?_ λb=>rfl;simp only[sem] at h;split at h
  ·simp only[zd,zh] at h; rw[←h.2]
  ·cases h
 | ix x i =>
  refine plain ?_ λb=>rfl;simp only[sem] at h;split at h
  ·simp only[zd,zh] at h; rw[←h.2]
  ·cases h
 | ext x i =>
  refine plain ?_ λb=>rfl;simp only[sem] at h;split at h
  ·split at h
   ·simp only[zd,zh] at h; rw[←h.2]
   ·cases h
  ·cases h
 | slis x lo hi =>
  refine plain ?_ λb=>rfl;simp only[sem,B2v] at h;split at h
  ·split at h
   ·split at h
    ·simp only[zd,zh] at h; rw[←h.2]
    ·cases h
   ·cases h
  ·cases h
 | fa off x=>exact named (λb=>A21 b off (ve x)) (λ_ _ _ h=>A5J h) h
 | ia s z x i=>exact named (λb=>A2k s z b (ve x) (ve i)) (λ_ _ _ h=>B1L h) h
 | len st x =>
  simp only[sem] at h ⊢;cases he:B1C bx (ve x) with
  | none=>rw[he] at h; cases h
  | some q =>
   obtain⟨r0,rd⟩:=q;rw[he] at h;simp only[zd,zh] at h;obtain⟨rfl,rfl⟩:=h;obtain⟨h1,h2⟩:=B56 (bx':=bx') he;exact⟨h1,λhx=>by rw[h2 hx]⟩
 | chk x =>
  simp only[sem] at h ⊢;cases hv:ve x<;>rw[hv] at h<;>simp only at h⊢<;> try cases h
  ·rename_i j i off;cases hb:bx j with
   | none=>rw[hb] at h; cases h
   | some b =>
    rw[hb] at h;simp only[zd,zh] at h;obtain⟨rfl,rfl⟩:=h;exact⟨K8.one hb,λhx=>by rw[hx.get]⟩
  ·exact⟨K8.nil,λ_=>rfl⟩
  ·exact⟨K8.nil,λ_=>rfl⟩
 | bslice z n ps =>
  simp only[sem,zd,zh] at h;obtain⟨rfl,rfl⟩:=h;obtain⟨h1,h2⟩:=A0B (bx':=bx') hp.1;exact⟨h1,λhx=>by simp only[sem]; rw[h2 hx]⟩
 | sli n x lo hi =>
  simp only[sem,C3a] at h ⊢;split at h
  ·rename_i xs he;split at h
   ·split at h
    ·simp only[zd,zh] at h;obtain⟨rfl,rfl⟩:=h;obtain⟨h1,h2⟩:=A8A (bx':=bx') hp.1.1;refine⟨h1,λhx=>?_⟩;rw[h2 hx];simp[*]
    ·cases h
   ·cases h
  ·cases h
 | app st z bytes x y =>
  simp only[sem] at h ⊢;cases he:A0i bx (ve y) with
  | none=>rw[he] at h; cases h
  | some q =>
   obtain⟨p0,ys,rd⟩:=q;rw[he] at h;simp only at h;cases ha:B2s z bytes bx id (ve x) ys with
   | none=>rw[ha] at h; cases h
   | some q =>
    obtain⟨q0,r0⟩:=q;rw[ha] at h;simp only[zd,zh] at h;obtain⟨rfl,rfl⟩:=h;obtain⟨h1,h2⟩:=A5K (bx':=bx') he;obtain⟨h3,h4⟩:=B57 (bx':=bx') ha;exact⟨h1.app h3,λhx=>by rw[h2 hx.left]; simp only; rw[h4 hx.right]⟩
end
def X6 (P : Program) (f : Nat) : Prop := ∃ fn, P.funcs[f]? = some fn /\ (fn.name == "runtime.NumGoroutine") = false /\ fn.body.isNone = false
def A2(P:Program)(f:Nat)(args:List AV)(rd:List (Nat×Bx))(id:Nat)(res:AV)(wr:List (Nat×Option Bx)):Prop :=
 X6 P f/\∀(C:Cx P) (G:Gh) (bx:Nat->Option Bx) (w:World) (vs:Array Value) (nb:Nat),RS C G bx w->RVs G w args vs->K8 bx rd->(∀x,nb<=x->¬G.used x)->(∀x,id<=x->x<id+1024->¬G.used x) ->
  Calls P f vs w λe w'=>∃v G',e = .returned v/\RS C G' (F6 bx wr) w'/\L4 G w G' w'/\RV G' w' res v/\∀x,G'.used x->G.used x\/(id<=x/\x<id+1024)
def goL:List (Nat×Bx)->List (Nat×Option Bx)
 | []=>[]
 | (i,_)::l=>(i,none)::goL l
def C3c(P:Program)(f:Nat)(args:List AV)(rd:List (Nat×Bx))(id:Nat)(pv:AV):Prop :=
 X6 P f/\∀(C:Cx P) (G:Gh) (bx:Nat->Option Bx) (w:World) (vs:Array Value) (nb:Nat),RS C G bx w->RVs G w args vs->K8 bx rd->(∀x,nb<=x->¬G.used x)->(∀x,id<=x->x<id+1024->¬G.used x) ->
  Calls P f vs w λe w'=>∃v G',e = .panicked [{ v:=v,recovered:=false }]/\RS C G' (F6 bx (goL rd)) w'/\L4 G w G' w'/\RV G' w' pv v/\∀x,G'.used x->G.used x\/(id<=x/\x<id+1024)
def Z0(P:Program)(f:Nat)(args:List AV)(rd:List (Nat×Bx))(id:Nat):Except AV (AV×List (Nat×Option Bx))->Prop
 | .ok (v,wr)=>A2 P f args rd id v wr
 | .error pv=>C3c P f args rd id pv
abbrev Fr:=Nat->Option (Bool×AV)
def M2(F:Fr):L5->AV
 | .t n=>match F n with
  | some (_,v)=>v
  | none=>.nili
 | .c v=>v
 | .f n=>.fn n []
def ceF(F:Fr)(n:Nat):Bool:=match F n with
 | some (c,_)=>c
 | none=>false
def ceO(F:Fr):L5->Bool
 | .t n=>ceF F n
 | _=>true
structure F9{P:Program}(C:Cx P)(N:Nat)(D:List Deferred)(n0:Nat)(G0:Gh)(w0:World)(F:Fr)(B:Nat->Option Bx)(U:Nat->Prop)(G:Gh)(a:Act)(w:World):Prop where
 ev:L4 G0 w0 G w
 rs:RS C G B w
 used:∀id,G.used id->U id
 old:∀id,id<n0->G.used id->G0.used id
 fr:∀n c v,F n=some (c,v)->(c=true->RV G w v (a.tmps.getD n undef))/\(c=false->a.tmps.getD n undef=undef)
 size:a.tmps.size=N
 defers:a.defers=D
structure CR where
 dst:Option Nat
 g:Option (Nat×Bool)
 us:List Nat
 op:COp
 deriving Inhabited
structure RR where
 c:Bool
 v:AV
 rd:List (Nat×Bx)
 wr:List (Nat×Option Bx)
def AV.isBoolB:AV->Bool
 | .bool _=>true
 | _=>false
def AV.isT:AV->Bool
 | .bool b=>b
 | _=>false
def Z1(F:Fr):Option (Nat×Bool)->Bool
 | none=>true
 | some (s,want)=>ceF F s&&((M2 F (.t s)).isT==want)
def A3P(F:Fr):Option (Nat×Bool)->Prop
 | none=>True
 | some (s,_)=>(F s).isSome=true/\(ceF F s=true->(M2 F (.t s)).isBoolB=true)
def B00(c a b:Bool):Bool:=(c&&a)||(!c&&b)
def l8(K:List AV->List (Nat×Bx)->List (Nat×Option Bx)->Prop)(B:Nat->Option Bx)(args:List AV)(r:RR):Prop :=
 (K args r.rd r.wr/\K8 B r.rd) \/
 (∃rd wr,(N0 B args).1/\K (N0 B args).2.1 rd wr/\K8 B rd/\(∀q∈rd,∀q1∈(N0 B args).2.2,q.1≠q1.1)/\r.rd=(N0 B args).2.2++rd/\r.wr=wrF (N0 B args).2.2++wr)
def B3E(P:Program)(id:Nat)(B:Nat->Option Bx)(f:Nat)(args:List AV)(r:RR):Prop:=l8 (λas rd wr=>A2 P f as rd id r.v wr) B args r
def B6U(P:Program)(id:Nat)(B:Nat->Option Bx)(f:Nat)(args:List AV)(pv:AV)(r:RR):Prop:=l8 (λas rd wr=>C3c P f as rd id pv/\wr=goL rd) B args r
def COp.args:COp->List L5
 | .call _ xs=>xs
 | .cpy x y=>[x,y]
 | .sli _ x lo hi=>x::(lo.toList++hi.toList)
 | _=>[]
def COp.isRaw:COp->Bool
 | .call _ _ | .cpy _ _ | .sli _ _ _ _=>true
 | _=>false
def C7k(P:Program)(c:COp)(args:List AV)(rd:List (Nat×Bx))(id:Nat)(v:AV)(wr:List (Nat×Option Bx)):Prop :=
 ∀(op:Op),N5 P op=some c->∀(C:Cx P) (ρ:Operand->Value) (G:Gh) (bx:Nat->Option Bx) (w:World) (ve:L5->AV) (o:Oper),(∀f,ρ (.func f) = .func (.func f) #[] #[])->o.op=op->c.args.map ve=args->RS C G bx w->K8 bx rd->¬G.used id->B6S G w ρ ve op.operands.toList->O6 P C ρ o G bx w id ⟨v,rd,wr⟩
def C08(P:Program)(t:Nat)(m:String)(f:Nat):Prop:=∀(a:Addr) (w:World),(Go.method (P.types.size+Made.depth) t (.pointer (some a)) m).run P w = .ok (f,.pointer (some a)) w
inductive ExR(P:Program)(us:List Nat)(id:Nat)(F:Fr)(B:Nat->Option Bx):COp->RR->Prop
 | pick (k:Bool) (c a b:L5) (h1:ceO F c=true) (h2:(M2 F c).isBoolB=true) (h3:(M2 F c).isT=true->ceO F a=true/\(M2 F a).isBoolB=true) (h4:(M2 F c).isT=false->ceO F b=true/\(M2 F b).isBoolB=true) :
   ExR P us id F B (.pick c a b) ⟨k,.bool (B00 (M2 F c).isT (M2 F a).isT (M2 F b).isT),[],[]⟩
 | call (f:Nat) (xs:List L5) (r:RR) (hu:us.all (ceF F)=true) (h:B3E P id B f (xs.map (M2 F)) r):ExR P us id F B (.call f xs) r
 | callv (x:L5) (xs:List L5) (f:Nat) (caps:List AV) (r:RR) (hu:us.all (ceF F)=true) (hx:M2 F x = .fn f caps) (h:B3E P id B f (xs.map (M2 F)++caps) r):ExR P us id F B (.callv x xs) r
 | callb (x:L5) (xs:List L5) (f:Nat) (caps:List AV) (r:RR) (hu:us.all (ceF F)=true) (hx:M2 F x = .fnb f caps) (h:B3E P id B f (caps++xs.map (M2 F)) r):ExR P us id F B (.callv x xs) r
 | sem (k:Bool) (op:COp) (p:Prop) (v:AV) (rd:List (Nat×Bx)) (wr:List (Nat×Option Bx)) (hu:us.all (ceF F)=true) (h:Am.sem (M2 F) B id op=some (p,⟨v,rd,wr⟩)) (hp:p):ExR P us id F B op ⟨k,v,rd,wr⟩
 | raw (op:COp) (r:RR) (hk:op.isRaw=true) (hu:us.all (ceF F)=true) (h:C7k P op (op.args.map (M2 F)) r.rd id r.v r.wr) (hB:K8 B r.rd):ExR P us id F B op r
 | inv (m:String) (x:L5) (xs:List L5) (t f J:Nat) (r:RR) (hu:us.all (ceF F)=true) (hx:M2 F x = .iface t (.ptr J 0 0)) (hm:C08 P t m f) (hJ:∃b y,(J,b)∈r.rd/\b.xs[0]?=some y) (h:B3E P id B f (.ptr J 0 0::xs.map (M2 F)) r):ExR P us id F B (.inv m x xs) r
 | keep (k:Bool) (z:AV) (n:Nat) (ps:List (Nat×L5)) (hu:us.all (ceF F)=true) (ho:A4Y n z.cells.length (ps.map fun q=>(q.1,M2 F q.2))) :
   ExR P us id F B (.bslice z n ps) ⟨k,.bsl id 0 n,[],[(id,some ⟨p5 (List.replicate n z) (ps.map fun q=>(q.1,M2 F q.2)),z,false,false⟩)]⟩
inductive PaR(P:Program)(us:List Nat)(id:Nat)(F:Fr)(B:Nat->Option Bx):COp->AV->RR->Prop
 | call (f:Nat) (xs:List L5) (pv:AV) (r:RR) (hu:us.all (ceF F)=true) (h:B6U P id B f (xs.map (M2 F)) pv r):PaR P us id F B (.call f xs) pv r
 | callv (x:L5) (xs:List L5) (f:Nat) (caps:List AV) (pv:AV) (r:RR) (hu:us.all (ceF F)=true) (hx:M2 F x = .fn f caps) (h:B6U P id B f (xs.map (M2 F)++caps) pv r):PaR P us id F B (.callv x xs) pv r
 | callb (x:L5) (xs:List L5) (f:Nat) (caps:List AV) (pv:AV) (r:RR) (hu:us.all (ceF F)=true) (hx:M2 F x = .fnb f caps) (h:B6U P id B f (caps++xs.map (M2 F)) pv r):PaR P us id F B (.callv x xs) pv r
 | pnk (x:L5) (t:Nat) (v:AV) (k:Bool) (y:AV) (hu:us.all (ceF F)=true) (hx:M2 F x = .iface t v):PaR P us id F B (.pnk x) (.iface t v) ⟨k,y,[],[]⟩
def OpP(P:Program)(cr:CR)(id:Nat)(F:Fr)(B:Nat->Option Bx)(pv:AV)(r:RR):Prop :=
 A3P F cr.g/\Z1 F cr.g=true/\PaR P cr.us id F B cr.op pv r
def OpR(P:Program)(cr:CR)(id:Nat)(F:Fr)(B:Nat->Option Bx)(r:RR):Prop :=
 A3P F cr.g/\r.c=Z1 F cr.g/\(r.c=true->ExR P cr.us id F B cr.op r)/\(r.c=false->r.wr=[])
/-! ### An operation hangs on what it names alone -/
def L5.slots:L5->List Nat
 | .t n=>[n]
 | _=>[]
def A6F:Option L5->List Nat
 | some x=>x.slots
 | none=>[]
def COp.slots:COp->List Nat
 | .mv x=>x.slots
 | .pick c a b=>c.slots++(a.slots++b.slots)
 | .alloc _=>[]
 | .box x=>x.slots
 | .build _ ps=>ps.flatMap λq=>q.2.2.slots
 | .bslice _ _ ps=>ps.flatMap λq=>q.2.slots
 | .ld _ _ x=>x.slots
 | .st _ x v=>x.slots++v.slots
 | .chk x=>x.slots
 | .bin _ _ x y=>x.slots++y.slots
 | .mm _ x y=>x.slots++y.slots
 | .un _ x=>x.slots
 | .conv _ x=>x.slots
 | .mkf _ caps=>caps.flatMap L5.slots
 | .mks _ _ l c=>l.slots++c.slots
 | .slis x lo hi=>x.slots++(A6F lo++A6F hi)
 | .sli _ x lo hi=>x.slots++(A6F lo++A6F hi)
 | .fa _ x=>x.slots
 | .ia _ _ x i=>x.slots++i.slots
 | .ix x i=>x.slots++i.slots
 | .ext x _=>x.slots
 | .len _ x=>x.slots
 | .app _ _ _ x y=>x.slots++y.slots
 | .call _ args=>args.flatMap L5.slots
 | .callv x args=>x.slots++args.flatMap L5.slots
 | .pnk x=>x.slots
 | .aa _ _ x i=>x.slots++i.slots
 | .cpy x y=>x.slots++y.slots
 | .inv _ x args=>x.slots++args.flatMap L5.slots
def COp.args_sub(c:COp):∀n∈c.args.flatMap L5.slots,n∈c.slots:=λn hn=>by
 cases c<;>simp only[COp.args,List.flatMap_nil,yp] at hn
 all_goals first|exact hn|(simpa [COp.slots] using hn)|skip
 rename_i k x lo hi;simp only[COp.slots,zr];cases lo<;>cases hi<;>simpa [A6F] using hn
section
variable {F F':Fr}
theorem K9{x:L5}(h:∀n∈x.slots,F n=F' n):M2 F x=M2 F' x:=by
 cases x with
 | t n=>simp only[M2,h n (by simp[L5.slots])]
 | _=>rfl
theorem A6G{x:L5}(h:∀n∈x.slots,F n=F' n):ceO F x=ceO F' x:=by
 cases x with
 | t n=>simp only[ceO,ceF,h n (by simp[L5.slots])]
 | _=>rfl
theorem A46{x:Option L5}(h:∀n∈A6F x,F n=F' n):x.map (M2 F)=x.map (M2 F'):=by
 cases x with
 | none=>rfl
 | some x=>simp only[vd,K9 (x:=x) h]
theorem Z2{xs:List L5}(h:∀n∈xs.flatMap L5.slots,F n=F' n):xs.map (M2 F)=xs.map (M2 F') :=
 ud λx hx=>K9 λn hn=>h n (xz.2 ⟨x,hx,hn⟩)
theorem B85{B:Nat->Option Bx}{id:Nat}{c:COp}(h:∀n∈c.slots,F n=F' n):sem (M2 F) B id c=sem (M2 F') B id c:=by
 cases c with
 | alloc z=>rfl
 | build zs ps =>
  have:(ps.map λq=>(q.1,q.2.1,M2 F q.2.2))=ps.map λq=>(q.1,q.2.1,M2 F' q.2.2):=ud λq hq=>by
   rw[K9 λn hn=>h n (xz.2 ⟨q,hq,hn⟩)]
  simp only[sem,this]
 | bslice z n ps =>
  have:(ps.map λq=>M2 F q.2)=ps.map λq=>M2 F' q.2:=ud λq hq=>by
   rw[K9 λn hn=>h n (xz.2 ⟨q,hq,hn⟩)]
  simp only[sem,this]
 | mkf f caps=>simp only[sem,Z2 (xs:=caps) h]
 | slis x lo hi =>
  simp only[COp.slots,zr] at h;simp only[sem,K9 λn hn=>h n (.inl hn),A46 λn hn=>h n (.inr (.inl hn)),A46 λn hn=>h n (.inr (.inr hn))]
 | sli k x lo hi =>
  simp only[COp.slots,zr] at h;simp only[sem,K9 λn hn=>h n (.inl hn),A46 λn hn=>h n (.inr (.inl hn)),A46 λn hn=>h n (.inr (.inr hn))]
 | st n x y|bin op eqs x y|mm mx x y|mks z b x y|ia s z x y|ix x y|app s z b x y|aa n s x y =>
  simp only[COp.slots,zr] at h;simp only[sem,K9 λn hn=>h n (.inl hn),K9 λn hn=>h n (.inr hn)]
 | call f xs=>rfl
 | callv x xs=>rfl
 | pick a b c=>rfl
 | pnk x=>rfl
 | cpy x y=>rfl
 | inv m x xs=>rfl
 | mv x|box x|ld a n x|chk x|un op x|conv k x|fa off x|ext x i|len s x=>simp only[sem,K9 (x:=x) h]
theorem A8B{g:Option (Nat×Bool)}(h:∀s want,g=some (s,want)->F s=F' s):Z1 F g=Z1 F' g:=by
 cases g with
 | none=>rfl
 | some q=>obtain⟨s,want⟩:=q; simp only[Z1,ceF,M2,h s want rfl]
theorem A8C{g:Option (Nat×Bool)}(h:∀s want,g=some (s,want)->F s=F' s):A3P F g->A3P F' g:=by
 cases g with
 | none=>exact id
 | some q=>obtain⟨s,want⟩:=q; simp only[A3P,ceF,M2,h s want rfl]; exact id
theorem X7{us:List Nat}(h:∀n∈us,F n=F' n)(hu:us.all (ceF F)=true):us.all (ceF F')=true:=by
 rw[xe] at hu ⊢;intro n hn;have:=hu n hn;simp only[ceF,h n hn] at this ⊢;exact this
theorem l8.local{K:List AV->List (Nat×Bx)->List (Nat×Option Bx)->Prop}{B B':Nat->Option Bx}{args:List AV}{r:RR}(h:l8 K B args r)(hB:K8 B' r.rd):l8 K B' args r:=by
 rcases h with⟨h1,h2⟩|⟨rd,wr,h1,h2,h3,h4,h5,h6⟩
 ·exact .inl ⟨h1,hB⟩
 ·rw[h5] at hB;have e:=(A0B (bx':=B') h1).2 hB.left;refine .inr ⟨rd,wr,?_⟩;rw[e];exact⟨h1,h2,hB.right,h4,h5,h6⟩
theorem l8.has{K:List AV->List (Nat×Bx)->List (Nat×Option Bx)->Prop}{B:Nat->Option Bx}{args:List AV}{r:RR}(h:l8 K B args r):K8 B r.rd:=by
 rcases h with⟨_,h2⟩|⟨rd,wr,h1,h2,h3,h4,h5,h6⟩
 ·exact h2
 ·rw[h5]; exact (A0B (bx':=B) h1).1.app h3
theorem ExR.local{P:Program}{us:List Nat}{id:Nat}{B B':Nat->Option Bx}{op:COp}{r:RR}(h:ExR P us id F B op r)(hF:∀n∈op.slots,F n=F' n)(hu:∀n∈us,F n=F' n)(hB:K8 B' r.rd):ExR P us id F' B' op r:=by
 cases h with
 | pick k c a b h1 h2 h3 h4 =>
  simp only[COp.slots,zr] at hF;have ec:=K9 (F:=F) (F':=F') (x:=c) λn hn=>hF n (.inl hn);have ea:=K9 (F:=F) (F':=F') (x:=a) λn hn=>hF n (.inr (.inl hn));have eb:=K9 (F:=F) (F':=F') (x:=b) λn hn=>hF n (.inr (.inr hn));have oc:=A6G (F:=F) (F':=F') (x:=c) λn hn=>hF n (.inl hn);have oa:=A6G (F:=F) (F':=F') (x:=a) λn hn=>hF n (.inr (.inl hn));have ob:=A6G (F:=F) (F':=F') (x:=b) λn hn=>hF n (.inr (.inr hn));rw[ec,ea,eb];rw[ec] at h2 h3 h4;rw[oc] at h1;rw[ea,oa] at h3;rw[eb,ob] at h4;exact .pick k c a b h1 h2 h3 h4
 | call f xs r hu' h=>exact .call f xs r (X7 hu hu') (by rw[←Z2 (xs:=xs) hF]; exact l8.local h hB)
 | callv x xs f caps r hu' hx h =>
  simp only[COp.slots,zr] at hF;exact .callv x xs f caps r (X7 hu hu') (by rw[←K9 λn hn=>hF n (.inl hn)]; exact hx) (by rw[←Z2 (xs:=xs) λn hn=>hF n (.inr hn)]; exact l8.local h hB)
 | callb x xs f caps r hu' hx h =>
  simp only[COp.slots,zr] at hF;exact .callb x xs f caps r (X7 hu hu') (by rw[←K9 λn hn=>hF n (.inl hn)]; exact hx) (by rw[←Z2 (xs:=xs) λn hn=>hF n (.inr hn)]; exact l8.local h hB)
 | raw op r hk hu' h hB'=>exact .raw op r hk (X7 hu hu') (by rw[←Z2 (xs:=op.args) λn hn=>hF n (COp.args_sub op n hn)]; exact h) hB
 | inv m x xs t f J r hu' hx hm hJ h =>
  simp only[COp.slots,zr] at hF;exact .inv m x xs t f J r (X7 hu hu') (by rw[←K9 λn hn=>hF n (.inl hn)]; exact hx) hm hJ (by rw[←Z2 (xs:=xs) λn hn=>hF n (.inr hn)]; exact l8.local h hB)
 | sem k op p v rd wr hu' h hp =>
  refine .sem k op p v rd wr (X7 hu hu') ?_ hp;rw[←B85 hF];exact (A9z (bx':=B') h hp).2 hB
 | keep k z n ps hu' ho =>
  have e:(ps.map λq=>(q.1,M2 F q.2))=ps.map λq=>(q.1,M2 F' q.2):=ud λq hq=>by
   rw[K9 λn hn=>hF n (xz.2 ⟨q,hq,hn⟩)]
  rw[e] at ho ⊢;exact .keep k z n ps (X7 hu hu') ho
theorem OpR.local{P:Program}{cr:CR}{id:Nat}{B B':Nat->Option Bx}{r:RR}(h:OpR P cr id F B r)(hF:∀n∈cr.op.slots,F n=F' n)(hu:∀n∈cr.us,F n=F' n)(hg:∀s want,cr.g=some (s,want)->F s=F' s)(hB:r.c=true->K8 B' r.rd):OpR P cr id F' B' r:=by
 obtain⟨h1,h2,h3,h4⟩:=h;exact⟨A8C hg h1,h2.trans (A8B hg),λhc=>(h3 hc).local hF hu (hB hc),h4⟩
theorem OpP.local{P:Program}{cr:CR}{id:Nat}{B B':Nat->Option Bx}{pv:AV}{r:RR}(h:OpP P cr id F B pv r)(hF:∀n∈cr.op.slots,F n=F' n)(hu:∀n∈cr.us,F n=F' n)(hg:∀s want,cr.g=some (s,want)->F s=F' s)(hB:K8 B' r.rd):OpP P cr id F' B' pv r:=by
 obtain⟨h1,h2,h3⟩:=h;refine⟨A8C hg h1,(A8B hg).symm.trans h2,?_⟩;obtain⟨dst,g,us,op⟩:=cr;cases h3 with
 | call f xs pv r hu' h=>exact .call f xs pv r (X7 hu hu') (by rw[←Z2 (xs:=xs) hF]; exact l8.local h hB)
 | callv x xs f caps pv r hu' hx h =>
  simp only[COp.slots,zr] at hF;exact .callv x xs f caps pv r (X7 hu hu') (by rw[←K9 λn hn=>hF n (.inl hn)]; exact hx) (by rw[←Z2 (xs:=xs) λn hn=>hF n (.inr hn)]; exact l8.local h hB)
 | callb x xs f caps pv r hu' hx h =>
  simp only[COp.slots,zr] at hF;exact .callb x xs f caps pv r (X7 hu hu') (by rw[←K9 λn hn=>hF n (.inl hn)]; exact hx) (by rw[←Z2 (xs:=xs) λn hn=>hF n (.inr hn)]; exact l8.local h hB)
 | pnk x t v k y hu' hx=>exact .pnk x t v k y (X7 hu hu') (by rw[←K9 hF]; exact hx)
theorem OpP.has{P:Program}{cr:CR}{id:Nat}{B:Nat->Option Bx}{pv:AV}{r:RR}(h:OpP P cr id F B pv r):K8 B r.rd:=by
 obtain⟨dst,g,us,op⟩:=cr;cases h.2.2 with
 | call f xs pv r hu' h|callv x xs f caps pv r hu' hx h|callb x xs f caps pv r hu' hx h=>exact l8.has h
 | pnk=>exact K8.nil
theorem ExR.has{P:Program}{us:List Nat}{id:Nat}{B:Nat->Option Bx}{op:COp}{r:RR}(h:ExR P us id F B op r):K8 B r.rd:=by
 cases h with
 | pick=>exact K8.nil
 | call f xs r hu' h|callv x xs f caps r hu' hx h|callb x xs f caps r hu' hx h|inv m x xs t f J r hu' hx hm hJ h=>exact l8.has h
 | raw op r hk hu' h hB'=>exact hB'
 | sem k op p v rd wr hu' h hp=>exact (A9z (bx':=B) h hp).1
 | keep=>exact K8.nil
end
def C68(ops:Array Oper)(j:Nat):Option Nat:=(ops[j]?).bind (·.dst)
def A7f(ops:Array Oper):Option (Nat×Bool)->Option (Option (Nat×Bool))
 | none=>some none
 | some (j,want)=>(C68 ops j).map λs=>some (s,want)
def A4i(o:Op):List Nat:=o.operands.toList.filterMap λ| .tmp t=>some t|_=>none
def A0n(P:Program)(N:Nat)(ops:Array Oper)(o:Oper):Option CR:=match N5 P o.op,A7f ops o.guard with
 | some c,some g=>if o.dst.all (decide<|· < N)&&c.slots.all ((A4i o.op).contains ·) then some ⟨o.dst,g,A4i o.op,c⟩ else none
 | _,_=>none
def A24(F:Fr)(dst:Option Nat)(r:RR):Fr:=match dst with
 | none=>F
 | some d=>T6 F d (some (r.c,r.v))
section
variable {P:Program} {C:Cx P} {N:Nat} {D:List Deferred} {n0:Nat} {G0:Gh} {w0:World} {F:Fr} {B:Nat->Option Bx} {U:Nat->Prop} {G:Gh} {a:Act} {w:World} {ops:Array Oper} {Q:Exit->Act->World->Prop}
theorem C09(tm:Array Value)(d:Nat)(v:Value)(n:Nat)(hd:d<tm.size):(tm.setIfInBounds d v).getD n undef=if n=d then v else tm.getD n undef:=by
 simp only[zl,vj];by_cases h:d=n
 ·subst h; simp[hd]
 ·rw[zf h,zf (λe=>h e.symm)]
theorem F9.put(h:F9 C N D n0 G0 w0 F B U G a w){dst:Option Nat}(hd:∀d,dst=some d->d<N){r:RR}{u:Value}(h1:r.c=true->RV G w r.v u)(h2:r.c=false->u=undef):F9 C N D n0 G0 w0 (A24 F dst r) B U G (a.put dst u) w:=by
 cases dst with
 | none=>exact h
 | some d =>
  refine⟨h.ev,h.rs,h.used,h.old,λn c' v' hl=>?_,by simp[Act.put,h.size],h.defers⟩;simp only[Act.put];rw[C09 _ _ _ _ (by rw[h.size]; exact hd d rfl)];simp only[A24] at hl;by_cases hn:n=d
  ·subst hn;rw[C7,zd,zh] at hl;obtain⟨rfl,rfl⟩:=hl;rw[zj rfl];exact⟨h1,h2⟩
  ·rw[B6 _ _ _ hn] at hl;rw[zf hn];exact h.fr n c' v' hl
theorem F9.step(h:F9 C N D n0 G0 w0 F B U G a w){B':Nat->Option Bx}{U':Nat->Prop}{G':Gh}{w':World}(hr:RS C G' B' w')(e:L4 G w G' w')(hf:∀id,G'.used id->U' id)(ho:∀id,id<n0->G'.used id->G.used id):
  F9 C N D n0 G0 w0 F B' U' G' a w' :=
 ⟨h.ev.trans e,hr,hf,λid hi hu=>h.old id hi (ho id hi hu),λn c v hl=>⟨λhc=>((h.fr n c v hl).1 hc).mono e,(h.fr n c v hl).2⟩,h.size,h.defers⟩
theorem F9.weak(h:F9 C N D n0 G0 w0 F B U G a w){U':Nat->Prop}(hU:∀id,U id->U' id):F9 C N D n0 G0 w0 F B U' G a w :=
 ⟨h.ev,h.rs,λid hi=>hU id (h.used id hi),h.old,h.fr,h.size,h.defers⟩
theorem F9.opd(h:F9 C N D n0 G0 w0 F B U G a w){X:Operand}{x:L5}(hx:opd X=some x)(hc:∀n,X = .tmp n->ceF F n=true):RV G w (M2 F x) (a.eval X):=by
 cases X with
 | tmp n =>
  simp only[Am.opd,zd] at hx;subst hx;have:=hc n rfl;simp only[ceF] at this;simp only[M2,Act.eval];split at this
  ·rename_i c v hl;subst this;exact (h.fr n true v hl).1 rfl
  ·cases this
 | const v =>
  simp only[Am.opd,zn] at hx;obtain⟨x',h1,rfl⟩:=hx;exact B4v h1
 | func f =>
  simp only[Am.opd,zd] at hx;subst hx;exact .fn f [] #[] rfl λi y hy=>by simp at hy
 | global g=>cases hx
theorem A8D(hd:F9 C N D n0 G0 w0 F B U G a w){o:Oper}{g:Option (Nat×Bool)}(hg:A7f ops o.guard=some g)(h:A3P F g):Region.wanted o (yielded ops a.tmps)=Z1 F g:=by
 unfold Region.wanted;cases ho:o.guard with
 | none =>
  rw[ho] at hg;simp only[A7f,zd] at hg;subst hg;rfl
 | some q =>
  obtain⟨j,want⟩:=q;rw[ho] at hg;simp only[A7f,zn] at hg;obtain⟨s,hs,rfl⟩:=hg;obtain⟨h1,h2⟩:=h;simp only[Z1,ceF,M2] at h1 h2 ⊢;obtain⟨⟨c,v⟩,hl⟩:=vv.1 h1;rw[hl] at h2 ⊢;simp only at h2 ⊢;have hf:=hd.fr s c v hl;have hs':((ops[j]?).bind (·.dst))=some s:=hs;unfold yielded;rw[hs'];simp only[td];cases c with
  | true =>
   have hv:=h2 rfl;have hrv:=hf.1 rfl;cases v<;>simp only[AV.isBoolB,xm] at hv
   rename_i b;rw[zl] at hrv;cases hg:a.tmps[s]? with
   | none=>rw[hg] at hrv; cases hrv
   | some u =>
    rw[hg] at hrv;simp only[vh] at hrv;cases hrv
    simp only[AV.isT,ue];cases b<;>cases want<;>rfl
  | false =>
   have hu:=hf.2 rfl;rw[zl] at hu;cases hg:a.tmps[s]? with
   | none=>rfl
   | some u =>
    rw[hg] at hu;simp only[vh] at hu;subst hu;rfl
theorem A0T(h:F9 C N D n0 G0 w0 F B U G a w){op:Op}(hu:(A4i op).all (ceF F)=true):B6S G w a.eval (M2 F) op.operands.toList:=λX hX x hx=>h.opd hx λn hn=>by
 subst hn;refine (xe.1 hu) n ?_;exact List.mem_filterMap.2 ⟨.tmp n,hX,rfl⟩
theorem B86{i:Nat}{o:Oper}{Kc:Act->World->Prop}(ho:ops[i]?=some o)(hw:Region.wanted o (yielded ops a.tmps)=false)(h:Kc (a.put o.dst undef) w):wpOp P ops Q i Kc a w:=by
 unfold wpOp;rw[ho];simp only[hw,xm,if_false];exact h
theorem A8E{i:Nat}{o:Oper}{Kc:Act->World->Prop}(ho:ops[i]?=some o)(hw:Region.wanted o (yielded ops a.tmps)=true)(h:o.wp P a w Kc Q):wpOp P ops Q i Kc a w:=by
 unfold wpOp;rw[ho];simp only[hw,if_true];exact .inl h
theorem A8F{o:Oper}{Kc:Act->World->Prop}{bx:Nat->Option Bx}{id:Nat}{r:Rs}(h:O6 P C a.eval o G bx w id r)
  (hK:∀u w' G',RS C G' (F6 bx r.wr) w'->L4 G w G' w'->RV G' w' r.v u->(∀x,G'.used x->G.used x\/x=id)->Kc (a.put o.dst u) w'):o.wp P a w Kc Q:=by
 obtain⟨nx,w',G',v,h1,h2,h3,h4,h5,h6⟩:=h;unfold Oper.wp;rw[h1];rcases h2 with rfl|⟨rfl,rfl⟩
 ·exact hK v w' G' h3 h4 h5 h6
 ·exact hK undef w' G' h3 h4 h5 h6
theorem A0x{f:Nat}(h:X6 P f)(vs:Array Value)(w:World):(callFunc f vs).run P w = .ok (.enter f vs) w:=by
 obtain⟨fn,h1,h2,h3⟩:=h;have h2' : ¬ fn.name = "runtime.NumGoroutine" := by simpa using h2
 have h3':fn.body≠none:=λh=>by rw[h] at h3; cases h3
 simp[callFunc,h1,h2',h3']
theorem A4j{xs ys:List AV}{us vs:Array Value}(h:RVs G w xs us)(k:RVs G w ys vs):RVs G w (xs++ys) (us++vs):=by
 refine RVs.of_get (by simp[h.1,k.1]) λi y u hy hu=>?_;by_cases hi:i<xs.length
 ·rw[yh hi] at hy;rw[xu (by rw[←h.1]; exact hi)] at hu;obtain⟨u',h1,h2⟩:=h.get hy;rw[h1] at hu; injection hu with hu; subst hu; exact h2
 ·rw[yl o_] at hy;rw[Array.getElem?_append_right (by have:=h.1; omega),←h.1] at hu;obtain⟨u',h1,h2⟩:=k.get hy;rw[h1] at hu; injection hu with hu; subst hu; exact h2
theorem l8.enter{K:List AV->List (Nat×Bx)->List (Nat×Option Bx)->Prop}{args:List AV}{vs:Array Value}{r:RR}(h:l8 K B args r)(hs:RS C G B w)(hv:RVs G w args vs):
  ∃G1 as rd wr B1,K as rd wr/\RS C G1 B1 w/\RVs G1 w as vs/\K8 B1 rd/\(∀x,G1.used x->G.used x)/\L4 G w G1 w/\F6 B1 wr=F6 B r.wr:=by
 rcases h with⟨h1,h2⟩|⟨rd,wr,h1,h2,h3,h4,h5,h6⟩
 ·exact⟨G,args,r.rd,r.wr,B,h1,hs,hv,h2,λ_ h=>h,L4.refl _ _,rfl⟩
 ·obtain⟨G1,s1,e1,u1,st⟩:=A1C (N0 B args).2.2 hs λq hq=>let ⟨q1,q2⟩:=A3O h1 q hq; ⟨.inl q1,q2⟩;obtain⟨l1,l2⟩:=A5H e1 h1 st;refine⟨G1,(N0 B args).2.1,rd,wr,_,h2,s1,⟨l1.trans hv.1,l2 (λi=>vs.getD i undef) hv.2⟩,λq hq=>?_,u1,e1,by rw[h6,p9]⟩;have key:∀(l:List (Nat×Bx)) (B:Nat->Option Bx),(∀q1∈l,q.1≠q1.1)->F6 B (wrF l) q.1=B q.1:=λl=>by
   induction l with
   | nil=>intro B _; rfl
   | cons p l ih =>
    intro B hl;obtain⟨i,b⟩:=p;simp only[wrF,F6];rw[ih _ λq1 hq1=>hl q1 (t_ hq1),B6 _ _ _ (hl (i,b) s_)]
  rw[key _ B (h4 q hq)];exact h3 q hq
theorem A7g{o:Oper}{Kc:Act->World->Prop}{f:Nat}{args:List AV}{vs:Array Value}{r:RR}(hrun:X6 P f->(execOp a.eval o).run P w = .ok (.enter f vs) w)(hs:RS C G B w)(hv:RVs G w args vs){id:Nat}(h:B3E P id B f args r){nb:Nat}(hnb:∀x,nb<=x->¬G.used x)(hid:∀x,id<=x->x<id+1024->¬G.used x)
  (hK:∀u w' G',RS C G' (F6 B r.wr) w'->L4 G w G' w'->RV G' w' r.v u->(∀x,G'.used x->G.used x\/(id<=x/\x<id+1024))->Kc (a.put o.dst u) w'):o.wp P a w Kc Q:=by
 obtain⟨G1,as,rd,wr,B1,⟨hp,h2⟩,s1,hv1,hh,u1,e1,ea⟩:=l8.enter h hs hv;unfold Oper.wp;rw[hrun hp,Oper.upon_enter];refine Calls.mono (h2 C G1 B1 w vs nb s1 hv1 hh (λx hx hu=>hnb x hx (u1 x hu)) λx hx hx' hu=>hid x hx hx' (u1 x hu)) λe w' he=>?_;obtain⟨v,G',rfl,k1,k2,k3,k4⟩:=he;exact hK v w' G' (by rw[←ea]; exact k1) (e1.trans k2) k3 λx hx=>(k4 x hx).imp (u1 x) _root_.id
theorem A8G{o:Oper}{Kc:Act->World->Prop}{f:Nat}{args:List AV}{vs:Array Value}{pv:AV}{r:RR}(hrun:X6 P f->(execOp a.eval o).run P w = .ok (.enter f vs) w)(hs:RS C G B w)(hv:RVs G w args vs){id:Nat}(h:B6U P id B f args pv r){nb:Nat}(hnb:∀x,nb<=x->¬G.used x)(hid:∀x,id<=x->x<id+1024->¬G.used x)
  (hK:∀u w' G',RS C G' (F6 B r.wr) w'->L4 G w G' w'->RV G' w' pv u->(∀x,G'.used x->G.used x\/(id<=x/\x<id+1024))->Q (.panic [{ v:=u,recovered:=false }]) a w'):o.wp P a w Kc Q:=by
 obtain⟨G1,as,rd,wr,B1,⟨⟨hp,h2⟩,hwr⟩,s1,hv1,hh,u1,e1,ea⟩:=l8.enter h hs hv;unfold Oper.wp;rw[hrun hp,Oper.upon_enter];refine Calls.mono (h2 C G1 B1 w vs nb s1 hv1 hh (λx hx hu=>hnb x hx (u1 x hu)) λx hx hx' hu=>hid x hx hx' (u1 x hu)) λe w' he=>?_;obtain⟨v,G',rfl,k1,k2,k3,k4⟩:=he;exact hK v w' G' (by rw[←ea,hwr]; exact k1) (e1.trans k2) k3 λx hx=>(k4 x hx).imp (u1 x) _root_.id
theorem A4k{α:Type}{x:Option α}{f:α->COp}{c:COp}(h:x.map f=some c)(hf:∀a,f a≠c):False:=by
 obtain⟨a,_,h2⟩:=zn.1 h;exact hf a h2
theorem B87{op:Op}{x y z:L5}(h:N5 P op=some (.pick x y z)):∃c a b,op = .pick c a b/\opd c=some x/\opd a=some y/\opd b=some z:=by
 unfold N5 at h;split at h
 case h_3 c a b =>
  split at h
  ·rename_i h1 h2 h3;injection h with h
   injection h with e1 e2 e3
   subst e1 e2 e3;exact⟨c,a,b,rfl,h1,h2,h3⟩
  ·cases h
 all_goals try simp only[U6,A0t,A0u,A1P,A0v,A0w] at h
 all_goals repeat' split at h
 all_goals first|cases h; done|(refine (A4k h ?_).elim; intro a h; cases h; done)
theorem B88{op:Op}{f:Nat}{xs:List L5}(h:N5 P op=some (.call f xs)):∃c:Call,op = .call c/\c.callee = .value (.func f)/\A7P c.args.toList=some xs:=by
 unfold N5 at h;split at h
 all_goals try simp only[U6,A0t,A0u,A1P,A0v,A0w] at h
 all_goals repeat' split at h
 all_goals first|cases h; done|(refine (A4k h ?_).elim; intro a h; cases h; done)|skip
 rename_i c _ _ _ g hc;obtain⟨a,h1,h2⟩:=zn.1 h;injection h2 with e1 e2
 subst e1 e2;exact⟨c,rfl,hc,h1⟩
theorem A8H{op:Op}{x:L5}{xs:List L5}(h:N5 P op=some (.callv x xs)):∃(c:Call) (t:Nat),op = .call c/\x = .t t/\c.callee = .value (.tmp t)/\A7P c.args.toList=some xs:=by
 unfold N5 at h;split at h
 all_goals try simp only[U6,A0t,A0u,A1P,A0v,A0w] at h
 all_goals repeat' split at h
 all_goals first|cases h; done|(refine (A4k h ?_).elim; intro a h; cases h; done)|skip
 rename_i c _ _ _ t hc;obtain⟨a,h1,h2⟩:=zn.1 h;injection h2 with e1 e2
 subst e1 e2;exact⟨c,t,rfl,rfl,hc,h1⟩
theorem C0A{op:Op}{m:String}{x:L5}{xs:List L5}(h:N5 P op=some (.inv m x xs)):∃(c:Call) (X:Operand),op = .call c/\c.callee = .invoke X m/\opd X=some x/\A7P c.args.toList=some xs:=by
 unfold N5 at h;split at h
 all_goals try simp only[U6,A0t,A0u,A1P,A0v] at h
 all_goals repeat' split at h
 all_goals first|cases h; done|(refine (A4k h ?_).elim; intro a h; cases h; done)|skip
 rename_i c _ _ _ X m' hc;unfold A0w at h;split at h
 ·rename_i x' xs' h1 h2;injection h with h
  injection h with e1 e2 e3
  subst e1 e2 e3;exact⟨c,X,rfl,hc,h1,h2⟩
 ·cases h
theorem C0B{op:Op}{x:L5}(h:N5 P op=some (.pnk x)):∃X,op = .panic X/\opd X=some x:=by
 unfold N5 at h;split at h
 all_goals try simp only[U6,A0t,A0u,A1P,A0v,A0w] at h
 all_goals repeat' split at h
 all_goals first|cases h; done|(refine (A4k h ?_).elim; intro a h; cases h; done)|skip
 obtain⟨a,h1,h2⟩:=zn.1 h;injection h2 with h2
 subst h2;exact⟨_,rfl,h1⟩
theorem B3F{op:Op}{z:AV}{n:Nat}{ps:List (Nat×L5)}(h:N5 P op=some (.bslice z n ps)):∃(t:TypeId) (qs:Array (Nat×Operand)),op = .buildSlice t n qs/\B7w qs.toList=some ps:=by
 unfold N5 at h;split at h
 all_goals try simp only[U6,A0t,A0u,A1P,A0v,A0w] at h
 all_goals repeat' split at h
 all_goals first|cases h; done|(refine (A4k h ?_).elim; intro a h; cases h; done)|skip
 all_goals injection h with h
 all_goals injection h with h1 h2 h3
 all_goals subst h1 h2 h3
 all_goals exact⟨_,_,rfl,by assumption⟩
theorem C3d{ρ:Operand->Value}{o:Oper}{bx:Nat->Option Bx}{id:Nat}{ve:L5->AV}{P:Program}{C:Cx P}{G:Gh}{w:World}(hs:RS C G bx w)(hu:¬G.used id){t:TypeId}{n:Nat}{ps:Array (Nat×Operand)}(ho:o.op = .buildSlice t n ps){z:AV}{qs:List (Nat×L5)}(hc:N5 P (.buildSlice t n ps)=some (.bslice z n qs))
  (hso:A4Y n z.cells.length (qs.map λq=>(q.1,ve q.2))) (hv:B6S G w ρ ve (Op.buildSlice t n ps).operands.toList):O6 P C ρ o G bx w id ⟨.bsl id 0 n,[],[(id,some ⟨p5 (List.replicate n z) (qs.map λq=>(q.1,ve q.2)),z,false,false⟩)]⟩:=by
 simp only[N5] at hc;split at hc
 ·rename_i e ht;split at hc
  ·rename_i z' s qs' hz hsz hqs;split at hc
   ·rename_i hcond;injection hc with hc
    injection hc with e1 e2 e3
    subst e1 e3;obtain⟨c1,c2,c3⟩:=hcond;obtain⟨zv,z1,z2⟩:=A1D hz;obtain⟨l1,l2⟩:=B1F hqs;have hmade:=A9u (P:=P) hs hu ht hsz z1 (z2 G w) c1 (len:=n) c2 (by simp only[maxLen]; omega) (by rw[←c1]; exact hso) (vs:=ps.map λq=>(q.1,ρ q.2)) (t_ l1) λi q q' hq hq'=>by
     simp only[tr,zn] at hq';obtain⟨b,hb,rfl⟩:=hq';have hb':ps.toList[i]?=some b:=(v_ hb);simp only[yj,zn] at hq;obtain⟨a,ha,rfl⟩:=hq;obtain⟨k1,k2⟩:=l2 i a b ha hb';refine⟨k1,?_⟩;exact hv b.2 (by simp only[Op.operands,zw]; exact⟨b,zg hb',rfl⟩) _ k2
    obtain⟨v,w',G2,h1,h2,h3,h4,h5⟩:=hmade;refine⟨.value v,w',G2,v,?_,.inl rfl,h2,h3,h4,h5⟩;unfold execOp;simp only[ho,Sem.run_bind,h1,Result.andThen_ok,Sem.run_pure]
   ·cases hc
  ·cases hc
 ·cases hc
theorem B3G(hd:F9 C N D n0 G0 w0 F B U G a w){o:Oper}{f:Nat}{xs:List L5}(hcomp:N5 P o.op=some (.call f xs))(hu:(A4i o.op).all (ceF F)=true):∃vs,(X6 P f->(execOp a.eval o).run P w = .ok (.enter f vs) w)/\RVs G w (xs.map (M2 F)) vs:=by
 obtain⟨c,hop,hcal,hxs⟩:=B88 hcomp;refine⟨c.args.map a.eval,λhp=>?_,A0S hxs λX hX x hx=>A0T hd hu X (by rw[hop]; simp[Op.operands,Call.operands]; exact .inr (v_ hX)) x hx⟩;unfold execOp;simp only[hop,resolve,hcal,Act.eval,Deferred.ofValue,Sem.run_bind,Sem.run_pure,Result.andThen_ok,invoke];rw[A0x hp];simp
theorem B01(hd:F9 C N D n0 G0 w0 F B U G a w){o:Oper}{f:Nat}{x:L5}{xs:List L5}{caps:List AV}(hcomp:N5 P o.op=some (.callv x xs))(hu:(A4i o.op).all (ceF F)=true)(hx:M2 F x = .fn f caps):∃vs,(X6 P f->(execOp a.eval o).run P w = .ok (.enter f vs) w)/\RVs G w (xs.map (M2 F)++caps) vs:=by
 obtain⟨c,t,hop,rfl,hcal,hxs⟩:=A8H hcomp;have hr:=A0T hd hu;have hfv:RV G w (M2 F (.t t)) (a.eval (.tmp t)):=hr (.tmp t) (by rw[hop]; simp[Op.operands,Call.operands,hcal]) (.t t) rfl;rw[hx] at hfv;obtain⟨us,e1,e2⟩:∃us,a.eval (.tmp t) = .func (.func f) #[] us/\RVs G w caps us:=by
  generalize a.eval (.tmp t)=u at hfv;cases hfv with|fn _ _ vs hl hh=>exact⟨vs,rfl,hl,hh⟩
 have e3:RVs G w (xs.map (M2 F)) (c.args.map a.eval):=A0S hxs λX hX x hx=>hr X (by rw[hop]; simp[Op.operands,Call.operands]; exact .inr (v_ hX)) x hx;refine⟨c.args.map a.eval++us,λhp=>?_,A4j e3 e2⟩;unfold execOp;simp only[hop,resolve,hcal,e1,Deferred.ofValue,Sem.run_bind,Sem.run_pure,Result.andThen_ok,invoke];rw[A0x hp];simp
theorem B02(hd:F9 C N D n0 G0 w0 F B U G a w){o:Oper}{f:Nat}{x:L5}{xs:List L5}{caps:List AV}(hcomp:N5 P o.op=some (.callv x xs))(hu:(A4i o.op).all (ceF F)=true)(hx:M2 F x = .fnb f caps):∃vs,(X6 P f->(execOp a.eval o).run P w = .ok (.enter f vs) w)/\RVs G w (caps++xs.map (M2 F)) vs:=by
 obtain⟨c,t,hop,rfl,hcal,hxs⟩:=A8H hcomp;have hr:=A0T hd hu;have hfv:RV G w (M2 F (.t t)) (a.eval (.tmp t)):=hr (.tmp t) (by rw[hop]; simp[Op.operands,Call.operands,hcal]) (.t t) rfl;rw[hx] at hfv;obtain⟨us,e1,e2⟩:∃us,a.eval (.tmp t) = .func (.func f) us #[]/\RVs G w caps us:=by
  generalize a.eval (.tmp t)=u at hfv;cases hfv with|fnb _ _ vs hl hh=>exact⟨vs,rfl,hl,hh⟩
 have e3:RVs G w (xs.map (M2 F)) (c.args.map a.eval):=A0S hxs λX hX x hx=>hr X (by rw[hop]; simp[Op.operands,Call.operands]; exact .inr (v_ hX)) x hx;refine⟨us++c.args.map a.eval,λhp=>?_,A4j e2 e3⟩;unfold execOp;simp only[hop,resolve,hcal,e1,Deferred.ofValue,Sem.run_bind,Sem.run_pure,Result.andThen_ok,invoke];rw[A0x hp];simp
theorem C3e(hd:F9 C N D n0 G0 w0 F B U G a w){o:Oper}{m:String}{t f J:Nat}{x:L5}{xs:List L5}(hcomp:N5 P o.op=some (.inv m x xs))(hu:(A4i o.op).all (ceF F)=true)(hx:M2 F x = .iface t (.ptr J 0 0))(hm:C08 P t m f){b:Bx}{y:AV}(hb:B J=some b)(hy:b.xs[0]?=some y):∃vs,(X6 P f->(execOp a.eval o).run P w = .ok (.enter f vs) w)/\RVs G w (.ptr J 0 0::xs.map (M2 F)) vs:=by
 obtain⟨c,X,hop,hcal,hX,hxs⟩:=C0A hcomp;have hr:=A0T hd hu;have hfv:RV G w (M2 F x) (a.eval X):=hr X (by rw[hop]; simp[Op.operands,Call.operands,hcal]) x hX;rw[hx] at hfv;obtain⟨u,e1,e2⟩:∃u,a.eval X = .iface t u/\RV G w (.ptr J 0 0) u:=by
  generalize a.eval X=z at hfv;cases hfv with|iface _ _ u h=>exact⟨u,rfl,h⟩
 obtain⟨ad,rfl⟩:∃ad,u = .pointer (some ad):=by
  obtain⟨blk,s,cur,e,h1,_⟩:=hd.rs.box J b hb (hd.rs.lies hb hy);cases e2 with|ptr _ _ _ _ hone hu hbm=>exact⟨_,hbm blk s h1⟩
 have e3:RVs G w (xs.map (M2 F)) (c.args.map a.eval):=A0S hxs λX hX x hx=>hr X (by rw[hop]; simp[Op.operands,Call.operands]; exact .inr (v_ hX)) x hx;refine⟨#[.pointer (some ad)]++c.args.map a.eval,λhp=>?_,A4j (xs:=[.ptr J 0 0]) ⟨rfl,λi y hy=>?_⟩ e3⟩
 ·unfold execOp;simp only[hop,resolve,hcal,e1,Sem.run_bind,Sem.run_pure,Result.andThen_ok,invoke];have e4:(#[Value.iface t (.pointer (some ad))]++c.args.map a.eval)[0]?=some (.iface t (.pointer (some ad))):=by rw[xu s_]; rfl
  have e5:(#[Value.iface t (.pointer (some ad))]++c.args.map a.eval).extract 1 (#[Value.iface t (.pointer (some ad))]++c.args.map a.eval).size=c.args.map a.eval:=by
   apply vu;simp;exact zm s_
  have e6:(program:Sem Program).run P w = .ok P w:=rfl;simp only[e4,e5,callMethod,Sem.run_bind,e6,Result.andThen_ok,hm ad w,A0x hp]
 ·cases i with
  | zero =>
   simp only[yn,zd] at hy;subst hy;exact e2
  | succ i=>simp at hy
theorem B03(hd:F9 C N D n0 G0 w0 F B U G a w){j:Nat}{o:Oper}(ho:ops[j]?=some o){cr:CR}(hc:A0n P N ops o=some cr){id:Nat}{r:RR}(h:OpR P cr id F B r)(hid:∀x,id<=x->x<id+1024->¬G.used x)(hn:n0<=id){nb:Nat}(hnb:∀x,nb<=x->¬G.used x){Kc:Act->World->Prop}
  (hK:∀G' u w',F9 C N D n0 G0 w0 (A24 F cr.dst r) (F6 B r.wr) (λx=>G.used x\/(id<=x/\x<id+1024)) G' (a.put o.dst u) w'->Kc (a.put o.dst u) w'):wpOp P ops Q j Kc a w:=by
 unfold A0n at hc;split at hc
 ·rename_i c g hcomp hg;split at hc
  ·rename_i hdst;injection hc with hc
   subst hc;simp only[yk] at hdst;obtain⟨hdst,-⟩:=hdst;have hd':∀d,o.dst=some d->d<N:=λd hd=>by rw[hd] at hdst; simpa using hdst
   obtain⟨h1,h2,h3,h4⟩:=h;simp only at h1 h2 h3 hK;have hw:=A8D hd (o:=o) hg h1;rw[←h2] at hw;cases hrc:r.c with
   | false =>
    rw[hrc] at hw;have hwr:=h4 hrc;refine B86 ho hw (hK G undef w ?_);rw[hwr];exact F9.put (hd.step hd.rs (L4.refl _ _) (λx hx=>.inl hx) λ_ _ h=>h) hd' (λhc=>by rw[hrc] at hc; cases hc) λ_=>rfl
   | true =>
    rw[hrc] at hw;refine A8E ho hw ?_;have fin:∀u w' G',RS C G' (F6 B r.wr) w'->L4 G w G' w'->RV G' w' r.v u->(∀x,G'.used x->G.used x\/(id<=x/\x<id+1024))->Kc (a.put o.dst u) w':=λu w' G' k1 k2 k3 k4 =>
     hK G' u w' (F9.put (hd.step k1 k2 (λx hx=>k4 x hx) λx hx hu=>(k4 x hu).resolve_right o_) hd' (λ_=>k3) λhc=>by rw[hrc] at hc; cases hc)
    cases h3 hrc with
    | pick k x y z p1 p2 p3 p4 =>
     obtain⟨c,x',y',hop,e1,e2,e3⟩:=B87 hcomp;have rd:∀{X:Operand} {x:L5},opd X=some x->ceO F x=true->RV G w (M2 F x) (a.eval X):=λ{X x} hX hx=>hd.opd hX λn hn=>by
      subst hn;simp only[Am.opd,zd] at hX;subst hX;exact hx
     have rb:∀{X:Operand} {x:L5},opd X=some x->ceO F x=true->(M2 F x).isBoolB=true->a.eval X = .bool (M2 F x).isT:=λ{X x} hX hx hb=>by
      have h:=rd hX hx;generalize a.eval X=u at h;generalize M2 F x=v at h hb;cases h<;>simp[AV.isBoolB] at hb
      rfl
     have hc:=rb e1 p1 p2;unfold Oper.wp;have hrun:(execOp a.eval o).run P w = .ok (.value (if (M2 F x).isT then a.eval x' else a.eval y')) w:=by
      unfold execOp;simp only[hop,hc,asBool,Sem.run_bind,Sem.run_pure,Result.andThen_ok]
     rw[hrun,Oper.upon_value];refine fin _ w G hd.rs (L4.refl _ _) ?_ λx hx=>.inl hx;cases ht:(M2 F x).isT with
     | true =>
      obtain⟨q1,q2⟩:=p3 ht;simp only[if_true,rb e2 q1 q2,B00,ue,qm,tc,ur];exact .bool _
     | false =>
      obtain⟨q1,q2⟩:=p4 ht;simp only[xm,if_false,rb e3 q1 q2,B00,tc,qk,ue,Bool.false_or];exact .bool _
    | call f xs r hu hcall =>
     obtain⟨vs,e1,e2⟩:=B3G hd hcomp hu (o:=o);exact A7g e1 hd.rs e2 hcall hnb hid λu w' G' k1 k2 k3 k4=>fin u w' G' k1 k2 k3 k4
    | callv x xs f caps r hu hx hcall =>
     obtain⟨vs,e1,e2⟩:=B01 hd hcomp hu hx (o:=o);exact A7g e1 hd.rs e2 hcall hnb hid λu w' G' k1 k2 k3 k4=>fin u w' G' k1 k2 k3 k4
    | callb x xs f caps r hu hx hcall =>
     obtain⟨vs,e1,e2⟩:=B02 hd hcomp hu hx (o:=o);exact A7g e1 hd.rs e2 hcall hnb hid λu w' G' k1 k2 k3 k4=>fin u w' G' k1 k2 k3 k4
    | inv m x xs t f J r hu hx hm hJ hcall =>
     obtain⟨bb,y,hb,hy⟩:=hJ;obtain⟨vs,e1,e2⟩:=C3e hd hcomp hu hx hm (l8.has hcall _ hb) hy (o:=o);exact A7g e1 hd.rs e2 hcall hnb hid λu w' G' k1 k2 k3 k4=>fin u w' G' k1 k2 k3 k4
    | raw op r hk hu hraw hB =>
     exact A8F (hraw o.op hcomp C a.eval G B w (M2 F) o (λ_=>rfl) rfl rfl hd.rs hB (hid id (zx _) o_) (A0T hd hu)) λu w' G' k1 k2 k3 k4=>fin u w' G' k1 k2 k3 λx hx=>(k4 x hx).imp _root_.id λh=>by omega
    | keep k z n ps hu hso =>
     obtain⟨t,qs,hop,hqs⟩:=B3F hcomp;rw[hop] at hcomp;refine A8F (C3d hd.rs (hid id (zx _) o_) hop hcomp hso (by rw[←hop]; exact A0T hd hu)) λu w' G' k1 k2 k3 k4=>fin u w' G' k1 k2 k3 λx hx=>(k4 x hx).imp _root_.id λh=>by omega
    | sem k op p v rd wr hu hsem hp =>
     refine A8F (B83 o.op C a.eval G B w id (M2 F) o c p ⟨v,rd,wr⟩ rfl hcomp hsem hp hd.rs (hid id (zx _) o_) (A0T hd hu)) λu w' G' k1 k2 k3 k4=>fin u w' G' k1 k2 k3 λx hx=>(k4 x hx).imp _root_.id λh=>by omega
  ·cases hc
 ·cases hc
theorem B6V(hd:F9 C N D n0 G0 w0 F B U G a w){j:Nat}{o:Oper}(ho:ops[j]?=some o){cr:CR}(hc:A0n P N ops o=some cr){id:Nat}{pv:AV}{r:RR}(h:OpP P cr id F B pv r)(hid:∀x,id<=x->x<id+1024->¬G.used x)(hn:n0<=id){nb:Nat}(hnb:∀x,nb<=x->¬G.used x){Kc:Act->World->Prop}
  (hK:∀G' u w',F9 C N D n0 G0 w0 F (F6 B r.wr) (λx=>G.used x\/(id<=x/\x<id+1024)) G' a w'->RV G' w' pv u->Q (.panic [{ v:=u,recovered:=false }]) a w'):wpOp P ops Q j Kc a w:=by
 unfold A0n at hc;split at hc
 ·rename_i c g hcomp hg;split at hc
  ·injection hc with hc
   subst hc;obtain⟨h1,h2,h3⟩:=h;simp only at h1 h2 h3;have hw:=A8D hd (o:=o) hg h1;rw[h2] at hw;refine A8E ho hw ?_;have fin:∀u w' G',RS C G' (F6 B r.wr) w'->L4 G w G' w'->RV G' w' pv u->(∀x,G'.used x->G.used x\/(id<=x/\x<id+1024))->Q (.panic [{ v:=u,recovered:=false }]) a w':=λu w' G' k1 k2 k3 k4 =>
    hK G' u w' (hd.step k1 k2 (λx hx=>k4 x hx) λx hx hu=>(k4 x hu).resolve_right o_) k3
   cases h3 with
   | call f xs pv r hu hcall =>
    obtain⟨vs,e1,e2⟩:=B3G hd hcomp hu (o:=o);exact A8G e1 hd.rs e2 hcall hnb hid λu w' G' k1 k2 k3 k4=>fin u w' G' k1 k2 k3 k4
   | callv x xs f caps pv r hu hx hcall =>
    obtain⟨vs,e1,e2⟩:=B01 hd hcomp hu hx (o:=o);exact A8G e1 hd.rs e2 hcall hnb hid λu w' G' k1 k2 k3 k4=>fin u w' G' k1 k2 k3 k4
   | callb x xs f caps pv r hu hx hcall =>
    obtain⟨vs,e1,e2⟩:=B02 hd hcomp hu hx (o:=o);exact A8G e1 hd.rs e2 hcall hnb hid λu w' G' k1 k2 k3 k4=>fin u w' G' k1 k2 k3 k4
   | pnk x t v k y hu hx =>
    obtain⟨X,hop,hX⟩:=C0B hcomp;have hr:=A0T hd hu X (by rw[hop]; simp[Op.operands]) x hX;rw[hx] at hr;obtain⟨u,e1,e2⟩:∃u,a.eval X = .iface t u/\RV G w v u:=by
     generalize a.eval X=z at hr;cases hr with|iface _ _ u h=>exact⟨u,rfl,h⟩
    have hrun:(execOp a.eval o).run P w = .halt (.panic (.iface t u)) w:=by
     unfold execOp;simp only[hop,e1];rfl
    unfold Oper.wp;rw[hrun,Oper.upon_panic];exact fin _ w G hd.rs (L4.refl _ _) (.iface t v u e2) λx hx=>.inl hx
  ·cases hc
 ·cases hc
end
end Go.Am
