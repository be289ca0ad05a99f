/- Parts of the proof: an abstract machine for Go functions, and what functions of the program give back (Am57, Am58, Am59, Am60, Am61, Am66, Ck, Am62, Am63, CcA1, CcA2, CcA3, CcA4, CcB, CcD, Bt1, Bt2, Bt3, Bt4, Bt5, Bt6, Bt7). No condition. -/
import Derived.Test.YtphjabjjnncebaaGreatDoorXF
import Derived.KernelRfl
import Derived.Test.YtphjabjjnncebaaGreatDoorXE
import Derived.Test.YtphjabjjnncebaaGreatDoorProg
set_option maxRecDepth 100000
set_option linter.all false
set_option maxHeartbeats 4000000
namespace Go.Am
open Go Go.RowKit Go.Proofs.Tryz
section
variable {E:O8} {σ:St} {k:List Itm} {P:Program}
end
section
variable {E:O8} {σ:St} {k:List Itm} {P:Program}
theorem yC{dst:Option Nat}{us:List Nat}{f:Nat}{xs:List L5}{l:List CR}{j:Nat}{acc:List RR}{ps:List (Nat×Nat)}{args:List AV}{rd:List (Nat×Bx)}{v:AV}{wr:List (Nat×Option Bx)}
  (ha:xs.map (M2 (lk σ.fr))=args) (hc:A2 P f args rd (E.n0+(σ.k+1024*j)) v wr) (h:A28 (lk σ.fr) us/\A04 (bk σ.bx) rd/\go E 4000 (.ops l (j+1) (A1R ps ⟨true,v,rd,wr⟩ acc) ps::k) (σ.app dst ⟨true,v,rd,wr⟩)) (hP:E.P=P:=by assumption) :
  Wk E (.ops (⟨dst,none,us,.call f xs⟩::l) j acc ps::k) σ:=E5 hP ha hc h.1 h.2.1 (A3 4000 h.2.2)
theorem yH{dst:Option Nat}{us:List Nat}{f:Nat}{xs:List L5}{l:List CR}{j:Nat}{acc:List RR}{ps:List (Nat×Nat)}{args:List AV}{rd:List (Nat×Bx)}{v:AV}{wr:List (Nat×Option Bx)}
  (ha:xs.map (M2 (lk σ.fr))=args) (hc:A2 P f args rd (E.n0+(σ.k+1024*j)) v wr) (h:go E 4000 (.ops l (j+1) (A1R ps ⟨true,v,rd,wr⟩ acc) ps::k) (σ.app dst ⟨true,v,rd,wr⟩)) (hu:A28 (lk σ.fr) us:=s_) (hh:A04 (bk σ.bx) rd:=f_) (hP:E.P=P:=by assumption) :
  Wk E (.ops (⟨dst,none,us,.call f xs⟩::l) j acc ps::k) σ:=E5 hP ha hc hu hh (A3 4000 h)
theorem yG{dst:Option Nat}{g:Option (Nat×Bool)}{us:List Nat}{f:Nat}{xs:List L5}{l:List CR}{j:Nat}{acc:List RR}{ps:List (Nat×Nat)}{args:List AV}{rd:List (Nat×Bx)}{v:AV}
  (ha:xs.map (M2 (lk σ.fr))=args) (hc:A2 P f args rd (E.n0+(σ.k+1024*j)) v []) (h:go E 4000 (.ops l (j+1) (A1R ps ⟨Z1 (lk σ.fr) g,v,rd,[]⟩ acc) ps::k) (σ.app dst ⟨Z1 (lk σ.fr) g,v,rd,[]⟩))
  (hg:A3P (lk σ.fr) g:=s_) (hu:Z1 (lk σ.fr) g=true->A28 (lk σ.fr) us:=by intro hc; revert hc; simp; try grind) (hh:A04 (bk σ.bx) rd:=s_) (hP:E.P=P:=by assumption) :
  Wk E (.ops (⟨dst,g,us,.call f xs⟩::l) j acc ps::k) σ:=H5 hP hg ha (λhq=>⟨hc,hu hq,hh⟩) (A3 4000 h)
theorem yR{dst:Option Nat}{us:List Nat}{f:Nat}{xs:List L5}{l:List CR}{j:Nat}{acc:List RR}{ps:List (Nat×Nat)}{args args':List AV}{fz rd:List (Nat×Bx)}{v:AV}{wr:List (Nat×Option Bx)}
  (ha:xs.map (M2 (lk σ.fr))=args) (hc:A2 P f args' rd (E.n0+(σ.k+1024*j)) v wr) (h:go E 4000 (.ops l (j+1) (A1R ps ⟨true,v,fz++rd,wrF fz++wr⟩ acc) ps::k) (σ.app dst ⟨true,v,fz++rd,wrF fz++wr⟩))
  (hr:A8N (bk σ.bx) args args' fz:=f_) (hu:A28 (lk σ.fr) us:=s_) (hh:A04 (bk σ.bx) rd:=f_) (hd:p6 (U7 rd) (U7 fz):=s_) (hP:E.P=P:=by assumption) :
  Wk E (.ops (⟨dst,none,us,.call f xs⟩::l) j acc ps::k) σ:=A0z hP ha hc hr hu hh hd (A3 4000 h)
theorem yP{n0 id:Nat}{S:Nat->Prop}{crs:List t8}{res:AV}{vs:List AV}(hR:E.Rt=A27 n0 id S crs [] res [])(h:A5O (lk σ.fr) (bk σ.bx) crs vs:=f_)(h1:tupOf vs=res:=s_)(h2:res.pureB=true:=s_)(h3:I8 n0 [] σ.bx:=s_):E.Rt σ:=by
 rw[hR]; exact F5 h [] trivial (S9 h1 h2 h3)
theorem yE{n0 id:Nat}{S:Nat->Prop}{crs:List t8}{rd:List (Nat×Bx)}{res:AV}{wr:List (Nat×Option Bx)}{vs:List AV}(hR:E.Rt=A27 n0 id S crs rd res wr)(rn:List (Nat×Nat))(hrn:F7 rn)(he:∀hrn:F7 rn,B1Q n0 id S rd res wr vs σ.bx rn hrn)(h:A5O (lk σ.fr) (bk σ.bx) crs vs:=f_):E.Rt σ:=by
 rw[hR]; exact F5 h rn hrn (he hrn)
end
def yV{E:O8}{σ σ':St}(l:List (Nat×Nat))(hl:F7 l)(h:∀hl:F7 l,A4a E.n0 (E.n0+σ'.k) l/\B1O (P2 E.n0 l hl) E.G0.used σ.fr σ'.fr/\A6K (P2 E.n0 l hl) E.G0.used σ.bx σ'.bx/\I8 E.n0 σ'.bx σ.bx/\A25 E.n0 σ'.bx l):D9 E σ σ' :=
 let ⟨h1,h2,h3,h4,h5⟩:=h hl; D9.sub l hl h1 h2 h3 h4 h5
def yO{E:O8}{id:Nat}(hu:∀z,E.G0.used z->z<id\/id+1024<=z){n:Nat}{rn:List (Nat×Nat)}{hrn:F7 rn}{l:List AV}(h:∀x∈l,B2 E.G0.used x)(hk:∀z,z<E.n0->(z<id\/id+1024<=z)->lkN rn z=none:=by first|(intro z h1 h2; (try simp[lkN]); (try omega); done)|(intro z h1 h2; rfl)):N8 (P2 n rn hrn) E.G0.used l l:=m8 hu hk h
section
variable {n0 id i:Nat} {a b c d e f:Nat×Bx} {r:List (Nat×Bx)} {x:Bx}
end
structure FeH(P:Program)(f:Nat)(cc:CC)(crs:List t8)(N:Nat):Prop where
 a:∀{args:List AV} {rd:List (Nat×Bx)} {id:Nat} {res:AV} {wr:List (Nat×Option Bx)}
  (h:∀E:O8,E.P=P->E.Rt=A27 E.n0 id E.G0.used crs rd res wr->(∀q∈rd,q.1<E.n0/\(q.1<id\/id+1024<=q.1))->id+1024<=E.n0->go E 4000 [.code cc] ⟨A1g 0 args,D4 rd,0⟩) (hN:args.length<=N:=by exact sg rfl),A2 P f args rd id res wr
structure FbH(P:Program)(f:Nat)(cc:CC)(crs:List t8)(N:Nat):Prop where
 a:∀{args:List AV} {rd:List (Nat×Bx)} {id:Nat} {res:AV} {wr:List (Nat×Option Bx)}
  (h:∀E:O8,E.P=P->E.Rt=A27 E.n0 id E.G0.used crs rd res wr->(∀q∈rd,q.1<E.n0/\(q.1<id\/id+1024<=q.1))->id+1024<=E.n0->K8 E.β rd->(∀z,E.G0.used z->z<id\/id+1024<=z)->go E 4000 [.code cc] ⟨A1g 0 args,D4 rd,0⟩) (hN:args.length<=N:=by exact sg rfl),A2 P f args rd id res wr
structure FxH(P:Program)(f:Nat)(cc:CC)(crs:List t8)(N:Nat):Prop where
 a:∀{args:List AV} {rd:List (Nat×Bx)} {id:Nat} {o:Except AV (AV×List (Nat×Option Bx))}
  (h:∀E:O8,E.P=P->(∀v wr σ,o = .ok (v,wr)->A27 E.n0 id E.G0.used crs rd v wr σ->E.Rt σ)->(∀pv σ,o = .error pv->pv.pureB=true->I8 E.n0 (D4 rd) σ.bx->E.Pn pv σ)->(∀q∈rd,q.1<E.n0/\(q.1<id\/id+1024<=q.1))->id+1024<=E.n0->K8 E.β rd->(∀z,E.G0.used z->z<id\/id+1024<=z)->go E 4000 [.code cc] ⟨A1g 0 args,D4 rd,0⟩) (hN:args.length<=N:=by exact sg rfl),Z0 P f args rd id o
section
variable {P : Program} {f : Nat} {fn : Func} {cc : CC} {crs : List t8} (hf : P.funcs[f]? = some fn) (hcc : fn.body.map (C9 P fn.ntmps) = some cc) (hrs : N9 P fn.results.toList = some crs) (hnm : (fn.name == "runtime.NumGoroutine") = false)
include hf hcc hrs hnm
theorem C7t:FeH P f cc crs fn.ntmps:=⟨λh hN=>A4p hf hcc hnm hrs hN λE h1 h2 h3 h4=>A3 4000 (h E h1 h2 h3 h4)⟩
theorem C7u:FbH P f cc crs fn.ntmps:=⟨λh hN=>C6K hf hcc hnm hrs hN λE h1 h2 h3 h4 h5 h6=>A3 4000 (h E h1 h2 h3 h4 h5 h6)⟩
theorem C7v:FxH P f cc crs fn.ntmps:=⟨λh hN=>A3Y hf hcc hnm hrs hN λE h1 h2 h3 h4 h5 h6 h7=>A3 4000 (h E h1 h2 h3 h4 h5 h6 h7)⟩
end
section
variable {F:Prop}
theorem yF{E:O8}{σ:St}{n0 id:Nat}{S:Nat->Prop}{crs:List t8}{rd:List (Nat×Bx)}{res:AV}{wr:List (Nat×Option Bx)}{vs:List AV}(hR:E.Rt=A27 n0 id S crs rd res wr)(rn:List (Nat×Nat))(d:F)(h:A5O (lk σ.fr) (bk σ.bx) crs vs:=f_)
  (h0:F->F7 rn:=by intro d; simp[d]) (h1:∀h:F7 rn,F->O3 (P2 n0 rn h) S (tupOf vs) res:=by intro h d; simp[d]) (h2:∀h:F7 rn,F->A2L (P2 n0 rn h) S σ.bx (F6 (bk (D4 rd)) wr) (U7 rd++O7 wr):=by intro h d; simp[d])
  (h3:F->I8 n0 (D4 rd) σ.bx:=by intro d; simp[d]) (h4:F->A4o id (D4 rd) wr:=by intro d; simp[d]) (h5:F->A4a id (id+1024) rn:=by intro d; simp[d]) (h6:F->A25 n0 (D4 rd) rn:=by intro d; simp[d]):E.Rt σ :=
 yE hR rn (h0 d) (λhr=>⟨h1 hr d,h2 hr d,h3 d,h4 d,h5 d,h6 d⟩) h
theorem yW{E:O8}{σ σ':St}(l:List (Nat×Nat))(d:F)(h0:F->F7 l:=by intro d; simp[d])(h1:F->A4a E.n0 (E.n0+σ'.k) l:=by intro d; simp[d])(h2:∀h:F7 l,F->B1O (P2 E.n0 l h) E.G0.used σ.fr σ'.fr:=by intro h d; simp[d])
  (h3:∀h:F7 l,F->A6K (P2 E.n0 l h) E.G0.used σ.bx σ'.bx:=by intro h d; simp[d]) (h4:F->I8 E.n0 σ'.bx σ.bx:=by intro d; simp[d]) (h5:F->A25 E.n0 σ'.bx l:=by intro d; simp[d]):D9 E σ σ' :=
 yV l (h0 d) λhl=>⟨h1 d,h2 hl d,h3 hl d,h4 d,h5 d⟩
end
def CR.m(d x:Nat):CR:=⟨some d,none,[x],.mv (.t x)⟩
def CR.i(d:Nat)(n:Int):CR:=⟨some d,none,[],.mv (.c (.int .i64 n))⟩
def CR.v(d:Nat)(a:AV):CR:=⟨some d,none,[],.mv (.c a)⟩
def CR.l(d x:Nat):CR:=⟨some d,none,[x],.ld false 1 (.t x)⟩
def CR.L(d n x:Nat):CR:=⟨some d,none,[x],.ld true n (.t x)⟩
def CR.f(d k x:Nat):CR:=⟨some d,none,[x],.fa k (.t x)⟩
def CR.e(d x i:Nat):CR:=⟨some d,none,[x],.ext (.t x) i⟩
def CR.n(d x:Nat):CR:=⟨some d,none,[x],.len false (.t x)⟩
def CR.ns(d x:Nat):CR:=⟨some d,none,[x],.len true (.t x)⟩
def CR.b(d:Nat)(o:BinOp)(x y:Nat):CR:=⟨some d,none,[x,y],.bin o none (.t x) (.t y)⟩
def CR.k(d:Nat)(o:BinOp)(x:Nat)(n:Int):CR:=⟨some d,none,[x],.bin o none (.t x) (.c (.int .i64 n))⟩
def CR.j(d:Nat)(o:BinOp)(x:Nat)(a:AV):CR:=⟨some d,none,[x],.bin o none (.t x) (.c a)⟩
def CR.c(d f:Nat)(xs:List Nat):CR:=⟨some d,none,xs,.call f (xs.map L5.t)⟩
def CR.pa(d a b:Nat):CR:=⟨some d,none,[a,b],.pick (.t a) (.t b) (.c (.bool false))⟩
def CR.po(d a b:Nat):CR:=⟨some d,none,[a,b],.pick (.t a) (.c (.bool true)) (.t b)⟩
def CR.ck(d x:Nat):CR:=⟨some d,none,[x],.chk (.t x)⟩
def CR.bx(d x:Nat):CR:=⟨some d,none,[x],.box (.t x)⟩
def CR.al(d:Nat)(z:AV):CR:=⟨some d,none,[],.alloc z⟩
def CR.no(d x:Nat):CR:=⟨some d,none,[x],.un .not (.t x)⟩
def CR.ia(d s:Nat)(z:AV)(x y:Nat):CR:=⟨some d,none,[x,y],.ia s z (.t x) (.t y)⟩
def CR.st(n x y:Nat):CR:=⟨none,none,[x,y],.st n (.t x) (.t y)⟩
def CR.si(n x:Nat)(v:Int):CR:=⟨none,none,[x],.st n (.t x) (.c (.int .i64 v))⟩
def CR.gt(s:Nat)(c:CR):CR:=⟨c.dst,some (s,true),c.us,c.op⟩
def CR.gf(s:Nat)(c:CR):CR:=⟨c.dst,some (s,false),c.us,c.op⟩
def CC.r(l:List CR):CC:=.reg false l []
def CC.d(l:List CR)(p:List (Nat×Nat)):CC:=.reg true l p
def pr:List (Nat×List Nat)->List (Nat×Nat)
 | []=>[]
 | (b,l)::r=>l.map (λa=>(a,b))++pr r
def AV.zE:AV:=.agg [.int .i64 0,.int .i64 0,.int .i64 0,.int .i64 0,.int .i64 0,.str []]
def AV.zG:AV:=.agg [.int .i64 0,.int .i64 0,.nils]
def AV.zC:AV:=.agg [.int .i64 0,.str [],.nils]
def AV.zY:AV:=.agg [.str [],.nils]
def AV.zF:AV:=.agg [.str [],.int .i64 0,.str []]
def AV.zS:AV:=.agg [.nils,.nils]
def AV.zQ:AV:=.agg [.str [],.str [],.nils,.nils]
def AV.zA:AV:=.agg [.str [],.bool false,.str [],.int .i64 0]
attribute [simp] CR.m CR.i CR.v CR.l CR.L CR.f CR.e CR.n CR.ns CR.b CR.k CR.j CR.c CR.pa CR.po CR.ck CR.bx CR.al CR.no CR.ia CR.st CR.si CR.gt CR.gf CC.r CC.d pr AV.zE AV.zG AV.zC AV.zY AV.zF AV.zS AV.zQ AV.zA
end Go.Am
namespace Go.Am
open Go Go.Proofs Go.RowKit Go.Proofs.Tryz
def u8l(n:Nat)(h:n<2 ^ 8):UInt8.ofBitVec (BitVec.ofFin ⟨n,h⟩)=UInt8.ofNat n:=by
 rw[UInt8.ofNat]; congr 1; apply BitVec.eq_of_toNat_eq; simp[BitVec.ofNat]; omega
structure FW(P:Program)(f:Nat)(fn:Func)(crs:List t8)where
 c:CC
 hc:fn.body.map (C9 P fn.ntmps)=some c
 hr:N9 P fn.results.toList=some crs
 hf:P.funcs[f]?=some fn
 hn : (fn.name == "runtime.NumGoroutine") = false
def E6{f:Nat}{fn:Func}{crs:List t8}(c:CC)(hf:prog.funcs[f]?=some fn)(hc:fn.body.map (C9 prog fn.ntmps)=some c:=by conv=>lhs; reduce; simp only[u8l,Int.ofNat_eq_natCast,Int.cast_ofNat_Int,UInt8.reduceOfNat,Int.reduceNegSucc])
  (hr : N9 prog fn.results.toList = some crs := by kernel_rfl) (hn : (fn.name == "runtime.NumGoroutine") = false := by decide) : FW prog f fn crs := ⟨c, hc, hr, hf, hn⟩
attribute [simp] E6
section
variable {P:Program} {f:Nat} {fn:Func} {crs:List t8} (w:FW P f fn crs)
theorem FW.e:FeH P f w.c crs fn.ntmps:=C7t w.hf w.hc w.hr w.hn
theorem FW.b:FbH P f w.c crs fn.ntmps:=C7u w.hf w.hc w.hr w.hn
theorem FW.x:FxH P f w.c crs fn.ntmps:=C7v w.hf w.hc w.hr w.hn
end
end Go.Am
namespace Go.Am
def A3Z{id n0:Nat}(h:id+1024<=n0)(t:Nat):(n0+t=id+1)=False:=by simp; omega
def B5I{i id:Nat}(h:i<id\/id+1024<=i):(i=id+1)=False:=by simp; omega
def B1Y{i id:Nat}(h:i<id\/id+1024<=i):(id+1=i)=False:=by simp; omega
end Go.Am
namespace Go.Am
open Go Go.Proofs Go.RowKit Go.Proofs.Tryz
def w3:FW prog 3 f3 [.tmp 10]:=E6 _ func3
def w6:FW prog 6 f6 [.tmp 10]:=E6 _ func6
def w9:FW prog 9 f9 [.tmp 0]:=E6 _ func9
def w12:FW prog 12 f12 [.tmp 0]:=E6 _ func12
def w15:FW prog 15 f15 [.cell 8 true 2,.tmp 9]:=E6 _ func15
def w18:FW prog 18 f18 [.tmp 4]:=E6 _ func18
def w21:FW prog 21 f21 [.cell 4 true 5,.tmp 5]:=E6 _ func21
def w24:FW prog 24 f24 [.tmp 2]:=E6 _ func24
def w33:FW prog 33 f33 [.cell 4 true 2,.tmp 5]:=E6 _ func33
def w36:FW prog 36 f36 [.tmp 4,.tmp 5]:=E6 _ func36
def w39:FW prog 39 f39 [.tmp 2,.tmp 3]:=E6 _ func39
def w42:FW prog 42 f42 [.tmp 4]:=E6 (.seq (.r [.v 4 (.bool false)]) (.seq (.seq (.r [.m 7 0,.n 8 7,.m 9 1,.n 10 9,.b 11 .neq 8 10]) (.cond (.t 11) (.seq (.r [.v 4 (.bool false)]) CC.ret) CC.skip)) (.seq (.seq (.r [.i 5 0]) (.block 0 (.loop (.seq (.seq (.r [.m 12 5,.m 13 0,.n 14 13,.b 15 .lss 12 14]) (.cond (.t 15) CC.skip (.exit 0))) (.seq (.block 1 (.seq (.seq (.d [.m 18 0,.m 19 5,.ia 20 4 .zQ 18 19,.f 21 0 20,.l 22 21,.m 23 1,.m 24 5,.ia 25 4 .zQ 23 24,.f 26 0 25,.l 27 26,.b 28 .neq 22 27,.m 29 28,.gf 29 (.m 30 0),.gf 29 (.m 31 5),.gf 29 (.ia 32 4 .zQ 30 31),.gf 29 (.f 33 1 32),.gf 29 (.l 34 33),.gf 29 (.m 35 1),.gf 29 (.m 36 5),.gf 29 (.ia 37 4 .zQ 35 36),.gf 29 (.f 38 1 37),.gf 29 (.l 39 38),.gf 29 (.b 40 .neq 34 39),.po 41 29 40,.m 42 41,.gf 42 (.m 43 0),.gf 42 (.m 44 5),.gf 42 (.ia 45 4 .zQ 43 44),.gf 42 (.f 46 2 45),.gf 42 (.l 47 46),.gf 42 (.n 48 47),.gf 42 (.m 49 1),.gf 42 (.m 50 5),.gf 42 (.ia 51 4 .zQ 49 50),.gf 42 (.f 52 2 51),.gf 42 (.l 53 52),.gf 42 (.n 54 53),.gf 42 (.b 55 .neq 48 54),.po 56 42 55,.m 57 56,.gf 57 (.m 58 0),.gf 57 (.m 59 5),.gf 57 (.ia 60 4 .zQ 58 59),.gf 57 (.f 61 3 60),.gf 57 (.l 62 61),.gf 57 (.m 63 1),.gf 57 (.m 64 5),.gf 57 (.ia 65 4 .zQ 63 64),.gf 57 (.f 66 3 65),.gf 57 (.l 67 66),.gf 57 (.c 68 42 [62,67]),.gf 57 (.no 69 68),.po 70 57 69] []) (.cond (.t 70) (.seq (.r [.v 4 (.bool false)]) CC.ret) CC.skip)) (.seq (.r [.i 6 0]) (.block 2 (.loop (.seq (.seq (.r [.m 71 6,.m 72 0,.m 73 5,.ia 74 4 .zQ 72 73,.f 75 2 74,.l 76 75,.n 77 76,.b 78 .lss 71 77]) (.cond (.t 78) CC.skip (.exit 2))) (.seq (.block 3 (.seq (.d [.m 81 0,.m 82 5,.ia 83 4 .zQ 81 82,.f 84 2 83,.l 85 84,.m 86 6,.ia 87 4 .zA 85 86,.L 88 4 87,.m 89 1,.m 90 5,.ia 91 4 .zQ 89 90,.f 92 2 91,.l 93 92,.m 94 6,.ia 95 4 .zA 93 94,.L 96 4 95,⟨some 97,none,[88,96],.bin .neq (some [2,1,2,0]) (.t 88) (.t 96)⟩] []) (.cond (.t 97) (.seq (.r [.v 4 (.bool false)]) CC.ret) CC.skip))) (.r [.m 79 6,.k 80 .add 79 1,.m 6 80])))))))) (.r [.m 16 5,.k 17 .add 16 1,.m 5 17])))))) (.seq (.r [.v 4 (.bool true)]) CC.ret)))) func42 k_
def w45:FW prog 45 f45 [.cell 2 true 5,.tmp 3]:=E6 _ func45
def w48:FW prog 48 f48 [.tmp 4]:=E6 _ func48
def w51:FW prog 51 f51 [.cell 8 true 2,.tmp 9]:=E6 _ func51
def w55:FW prog 55 f55 [.cell 4 true 2,.tmp 5]:=E6 _ func55
def w58:FW prog 58 f58 [.cell 4 true 2,.tmp 5]:=E6 _ func58
def w62:FW prog 62 f62 [.tmp 4]:=E6 _ func62
def w65:FW prog 65 f65 [.tmp 2]:=E6 _ func65
def w68:FW prog 68 f68 [.tmp 5]:=E6 _ func68
def w71:FW prog 71 f71 [.tmp 6,.tmp 7]:=E6 _ func71
def w89:FW prog 89 f89 [.tmp 2,.cell 3 true 2,.tmp 4]:=E6 _ func89
def w92:FW prog 92 f92 [.tmp 2]:=E6 _ func92
def w95:FW prog 95 f95 [.tmp 4,.tmp 5]:=E6 _ func95
def w98:FW prog 98 f98 [.tmp 2]:=E6 _ func98
def w101:FW prog 101 f101 [.tmp 4,.tmp 5]:=E6 _ func101
def w105:FW prog 105 f105 [.tmp 6]:=E6 _ func105
def w108:FW prog 108 f108 [.tmp 2,.tmp 3]:=E6 _ func108
def w112:FW prog 112 f112 []:=E6 _ func112
def w115:FW prog 115 f115 [.tmp 4]:=E6 _ func115
def w118:FW prog 118 f118 [.tmp 4]:=E6 _ func118
def w122:FW prog 122 f122 [.cell 4 true 5]:=E6 _ func122
def w130:FW prog 130 f130 [.tmp 4]:=E6 _ func130
def w133:FW prog 133 f133 [.tmp 4]:=E6 _ func133
def w151:FW prog 151 f151 [.tmp 2]:=E6 _ func151
def w154:FW prog 154 f154 [.tmp 2]:=E6 _ func154
def w157:FW prog 157 f157 [.tmp 2]:=E6 _ func157
def w160:FW prog 160 f160 [.tmp 2]:=E6 _ func160
def w163:FW prog 163 f163 [.cell 2 true 3]:=E6 _ func163
def w166:FW prog 166 f166 [.tmp 2]:=E6 _ func166
def w169:FW prog 169 f169 [.tmp 3]:=E6 _ func169
def w173:FW prog 173 f173 [.cell 2 true 5]:=E6 _ func173
def w177:FW prog 177 f177 [.tmp 4]:=E6 _ func177
def w180:FW prog 180 f180 []:=E6 _ func180
def w183:FW prog 183 f183 [.tmp 2]:=E6 _ func183
def w186:FW prog 186 f186 [.cell 4 true 5]:=E6 _ func186
def w189:FW prog 189 f189 [.cell 8 true 5]:=E6 _ func189
def w199:FW prog 199 f199 [.tmp 2]:=E6 _ func199
def C9h:FW prog 202 f202 [.cell 2 true 2,.tmp 3,.tmp 4]:=E6 _ func202
def w220:FW prog 220 f220 [.tmp 2]:=E6 _ func220
def w223:FW prog 223 f223 [.cell 2 true 2,.tmp 3,.tmp 4]:=E6 _ func223
def w226:FW prog 226 f226 [.tmp 4]:=E6 _ func226
def w229:FW prog 229 f229 [.tmp 4]:=E6 _ func229
def w234:FW prog 234 f234 [.tmp 4]:=E6 _ func234
def w237:FW prog 237 f237 [.tmp 4]:=E6 _ func237
def w242:FW prog 242 f242 []:=E6 _ func242
def w245:FW prog 245 f245 []:=E6 _ func245
def w249:FW prog 249 f249 [.cell 2 true 3]:=E6 _ func249
def w252:FW prog 252 f252 [.tmp 2]:=E6 _ func252
def w255:FW prog 255 f255 [.cell 4 true 5]:=E6 _ func255
def w263:FW prog 263 f263 [.tmp 2]:=E6 _ func263
def w269:FW prog 269 f269 [.tmp 4]:=E6 _ func269
def w272:FW prog 272 f272 [.tmp 3]:=E6 _ func272
def w279:FW prog 279 f279 [.tmp 2]:=E6 _ func279
def w283:FW prog 283 f283 [.tmp 2]:=E6 _ func283
def w286:FW prog 286 f286 [.cell 2 true 3]:=E6 _ func286
def w298:FW prog 298 f298 [.tmp 6]:=E6 _ func298
def w316:FW prog 316 f316 [.tmp 4]:=E6 _ func316
def w317:FW prog 317 f317 [.tmp 2]:=E6 _ func317
def w4:FW prog 4 f4 [.tmp 6]:=E6 _ func4
def w7:FW prog 7 f7 [.tmp 14]:=E6 _ func7
def w10:FW prog 10 f10 [.tmp 0]:=E6 _ func10
def w13:FW prog 13 f13 [.tmp 0]:=E6 _ func13
def w16:FW prog 16 f16 [.tmp 2,.tmp 3]:=E6 _ func16
def w19:FW prog 19 f19 [.tmp 4]:=E6 (.seq (.r [.v 4 (.bool false)]) (.seq (.seq (.r [.m 6 0,.n 7 6,.m 8 1,.n 9 8,.b 10 .neq 7 9]) (.cond (.t 10) (.seq (.r [.v 4 (.bool false)]) CC.ret) CC.skip)) (.seq (.seq (.r [.i 5 0]) (.block 0 (.loop (.seq (.seq (.r [.m 11 5,.m 12 0,.n 13 12,.b 14 .lss 11 13]) (.cond (.t 14) CC.skip (.exit 0))) (.seq (.block 1 (.seq (.d [.m 17 0,.m 18 5,.ia 19 6 .zE 17 18,.L 20 6 19,.m 21 1,.m 22 5,.ia 23 6 .zE 21 22,.L 24 6 23,⟨some 25,none,[20,24],.bin .neq (some [0,0,0,0,0,2]) (.t 20) (.t 24)⟩] []) (.cond (.t 25) (.seq (.r [.v 4 (.bool false)]) CC.ret) CC.skip))) (.r [.m 15 5,.k 16 .add 15 1,.m 5 16])))))) (.seq (.r [.v 4 (.bool true)]) CC.ret)))) func19 k_
def w22:FW prog 22 f22 [.tmp 2,.tmp 3]:=E6 _ func22
def w25:FW prog 25 f25 [.tmp 4]:=E6 _ func25
def w34:FW prog 34 f34 [.tmp 4]:=E6 _ func34
def w37:FW prog 37 f37 [.cell 0 true 2]:=E6 _ func37
def w40:FW prog 40 f40 [.tmp 0]:=E6 _ func40
def w43:FW prog 43 f43 [.tmp 0]:=E6 _ func43
def w46:FW prog 46 f46 [.tmp 4,.tmp 5]:=E6 _ func46
def w49:FW prog 49 f49 [.tmp 3]:=E6 _ func49
def w53:FW prog 53 f53 []:=E6 _ func53
def w56:FW prog 56 f56 [.tmp 4]:=E6 (.seq (.r [.v 4 (.bool false)]) (.seq (.seq (.r [.m 7 0,.n 8 7,.m 9 1,.n 10 9,.b 11 .neq 8 10]) (.cond (.t 11) (.seq (.r [.v 4 (.bool false)]) CC.ret) CC.skip)) (.seq (.seq (.r [.i 5 0]) (.block 0 (.loop (.seq (.seq (.r [.m 12 5,.m 13 0,.n 14 13,.b 15 .lss 12 14]) (.cond (.t 15) CC.skip (.exit 0))) (.seq (.block 1 (.seq (.seq (.d [.m 18 0,.m 19 5,.ia 20 2 .zY 18 19,.f 21 0 20,.l 22 21,.m 23 1,.m 24 5,.ia 25 2 .zY 23 24,.f 26 0 25,.l 27 26,.b 28 .neq 22 27,.m 29 28,.gf 29 (.m 30 0),.gf 29 (.m 31 5),.gf 29 (.ia 32 2 .zY 30 31),.gf 29 (.f 33 1 32),.gf 29 (.l 34 33),.gf 29 (.n 35 34),.gf 29 (.m 36 1),.gf 29 (.m 37 5),.gf 29 (.ia 38 2 .zY 36 37),.gf 29 (.f 39 1 38),.gf 29 (.l 40 39),.gf 29 (.n 41 40),.gf 29 (.b 42 .neq 35 41),.po 43 29 42] []) (.cond (.t 43) (.seq (.r [.v 4 (.bool false)]) CC.ret) CC.skip)) (.seq (.r [.i 6 0]) (.block 2 (.loop (.seq (.seq (.r [.m 44 6,.m 45 0,.m 46 5,.ia 47 2 .zY 45 46,.f 48 1 47,.l 49 48,.n 50 49,.b 51 .lss 44 50]) (.cond (.t 51) CC.skip (.exit 2))) (.seq (.block 3 (.seq (.d [.m 54 0,.m 55 5,.ia 56 2 .zY 54 55,.f 57 1 56,.l 58 57,.m 59 6,.ia 60 3 .zF 58 59,.L 61 3 60,.m 62 1,.m 63 5,.ia 64 2 .zY 62 63,.f 65 1 64,.l 66 65,.m 67 6,.ia 68 3 .zF 66 67,.L 69 3 68,⟨some 70,none,[61,69],.bin .neq (some [2,0,2]) (.t 61) (.t 69)⟩] []) (.cond (.t 70) (.seq (.r [.v 4 (.bool false)]) CC.ret) CC.skip))) (.r [.m 52 6,.k 53 .add 52 1,.m 6 53])))))))) (.r [.m 16 5,.k 17 .add 16 1,.m 5 17])))))) (.seq (.r [.v 4 (.bool true)]) CC.ret)))) func56 k_
def w59:FW prog 59 f59 [.tmp 4]:=E6 _ func59
def w63:FW prog 63 f63 [.cell 4 true 2,.tmp 5]:=E6 _ func63
def w66:FW prog 66 f66 [.tmp 4]:=E6 _ func66
def w69:FW prog 69 f69 [.tmp 4]:=E6 _ func69
def w72:FW prog 72 f72 [.tmp 4]:=E6 _ func72
def w75:FW prog 75 f75 [.tmp 2]:=E6 _ func75
def w87:FW prog 87 f87 [.cell 4 true 2,.tmp 5]:=E6 _ func87
def w90:FW prog 90 f90 [.cell 2 true 2,.tmp 3]:=E6 _ func90
def w93:FW prog 93 f93 []:=E6 _ func93
def w96:FW prog 96 f96 [.cell 4 true 4]:=E6 _ func96
def w99:FW prog 99 f99 [.tmp 4,.tmp 5]:=E6 _ func99
def w102:FW prog 102 f102 [.tmp 2]:=E6 _ func102
def w106:FW prog 106 f106 [.tmp 4]:=E6 _ func106
def w110:FW prog 110 f110 []:=E6 _ func110
def w113:FW prog 113 f113 []:=E6 _ func113
def w116:FW prog 116 f116 [.cell 4 true 2,.tmp 5]:=E6 _ func116
def w119:FW prog 119 f119 [.cell 6 true 2,.tmp 7]:=E6 _ func119
def w124:FW prog 124 f124 [.tmp 2]:=E6 _ func124
def w128:FW prog 128 f128 [.tmp 4]:=E6 _ func128
def w131:FW prog 131 f131 [.tmp 4]:=E6 _ func131
def w134:FW prog 134 f134 [.tmp 3]:=E6 _ func134
def w152:FW prog 152 f152 [.tmp 2]:=E6 _ func152
def w155:FW prog 155 f155 [.tmp 2]:=E6 _ func155
def w158:FW prog 158 f158 [.tmp 2,.tmp 3,.tmp 4]:=E6 _ func158
def w161:FW prog 161 f161 [.cell 2 true 6,.tmp 3]:=E6 _ func161
def w164:FW prog 164 f164 []:=E6 _ func164
def w167:FW prog 167 f167 [.tmp 2]:=E6 _ func167
def w170:FW prog 170 f170 [.tmp 2]:=E6 _ func170
def w178:FW prog 178 f178 [.tmp 4]:=E6 _ func178
def w181:FW prog 181 f181 [.cell 2 true 4]:=E6 _ func181
def w184:FW prog 184 f184 [.tmp 10]:=E6 _ func184
def w187:FW prog 187 f187 [.tmp 2,.tmp 3]:=E6 _ func187
def w194:FW prog 194 f194 [.tmp 2]:=E6 _ func194
def w197:FW prog 197 f197 [.tmp 6]:=E6 _ func197
def w218:FW prog 218 f218 [.tmp 2]:=E6 _ func218
def w221:FW prog 221 f221 []:=E6 _ func221
def w224:FW prog 224 f224 [.tmp 4]:=E6 _ func224
def w227:FW prog 227 f227 [.tmp 2]:=E6 _ func227
def w232:FW prog 232 f232 [.tmp 2]:=E6 _ func232
def w235:FW prog 235 f235 [.tmp 3]:=E6 _ func235
def w239:FW prog 239 f239 [.tmp 4]:=E6 _ func239
def w243:FW prog 243 f243 []:=E6 _ func243
def w250:FW prog 250 f250 []:=E6 _ func250
def w253:FW prog 253 f253 [.tmp 6]:=E6 _ func253
def w256:FW prog 256 f256 [.cell 6 true 5]:=E6 _ func256
def w270:FW prog 270 f270 [.cell 2 true 6]:=E6 _ func270
def w273:FW prog 273 f273 [.tmp 4]:=E6 _ func273
def w281:FW prog 281 f281 [.tmp 4]:=E6 _ func281
def w284:FW prog 284 f284 [.tmp 2]:=E6 _ func284
def w296:FW prog 296 f296 [.tmp 5]:=E6 _ func296
def w299:FW prog 299 f299 [.tmp 4,.tmp 5]:=E6 _ func299
def w335:FW prog 335 f335 [.tmp 2]:=E6 _ func335
def w5:FW prog 5 f5 [.tmp 4]:=E6 _ func5
def w8:FW prog 8 f8 [.tmp 10]:=E6 _ func8
def w11:FW prog 11 f11 [.tmp 0]:=E6 _ func11
def w14:FW prog 14 f14 [.cell 4 true 2,.tmp 5,.tmp 6]:=E6 _ func14
def w17:FW prog 17 f17 [.cell 4 true 2,.tmp 5,.tmp 6]:=E6 _ func17
def w20:FW prog 20 f20 [.tmp 8,.tmp 9]:=E6 _ func20
def w35:FW prog 35 f35 [.tmp 0]:=E6 _ func35
def w38:FW prog 38 f38 [.tmp 0]:=E6 _ func38
def w41:FW prog 41 f41 [.tmp 2]:=E6 _ func41
def w44:FW prog 44 f44 [.tmp 2]:=E6 _ func44
def w47:FW prog 47 f47 [.tmp 2]:=E6 _ func47
def w50:FW prog 50 f50 [.cell 2 true 2]:=E6 _ func50
def w54:FW prog 54 f54 [.tmp 2]:=E6 _ func54
def w57:FW prog 57 f57 [.tmp 4]:=E6 _ func57
def w61:FW prog 61 f61 [.tmp 2]:=E6 _ func61
def w67:FW prog 67 f67 [.tmp 4]:=E6 _ func67
def w70:FW prog 70 f70 [.tmp 4]:=E6 _ func70
def w73:FW prog 73 f73 [.tmp 4]:=E6 _ func73
def w79:FW prog 79 f79 [.tmp 6]:=E6 _ func79
def w85:FW prog 85 f85 [.cell 4 true 2,.tmp 5]:=E6 _ func85
def w91:FW prog 91 f91 [.tmp 2]:=E6 _ func91
def w94:FW prog 94 f94 [.tmp 2]:=E6 _ func94
def w97:FW prog 97 f97 [.tmp 2]:=E6 _ func97
def w100:FW prog 100 f100 [.tmp 2]:=E6 _ func100
def w104:FW prog 104 f104 [.tmp 3]:=E6 _ func104
def w107:FW prog 107 f107 [.tmp 2]:=E6 _ func107
def w111:FW prog 111 f111 []:=E6 _ func111
def w114:FW prog 114 f114 [.cell 2 true 4]:=E6 _ func114
def w117:FW prog 117 f117 [.cell 2 true 2]:=E6 _ func117
def w121:FW prog 121 f121 [.cell 6 true 5]:=E6 _ func121
def w126:FW prog 126 f126 [.cell 4 true 2,.tmp 5]:=E6 _ func126
def w129:FW prog 129 f129 [.tmp 6]:=E6 _ func129
def w132:FW prog 132 f132 [.tmp 6,.tmp 7]:=E6 _ func132
def w147:FW prog 147 f147 [.tmp 2]:=E6 _ func147
def w153:FW prog 153 f153 [.tmp 4]:=E6 _ func153
def w156:FW prog 156 f156 [.tmp 4]:=E6 _ func156
def w159:FW prog 159 f159 [.tmp 4]:=E6 _ func159
def w162:FW prog 162 f162 [.tmp 2]:=E6 _ func162
def w165:FW prog 165 f165 [.cell 2 true 3]:=E6 _ func165
def w168:FW prog 168 f168 [.tmp 4]:=E6 _ func168
def w171:FW prog 171 f171 [.tmp 2]:=E6 _ func171
def w176:FW prog 176 f176 []:=E6 _ func176
def w179:FW prog 179 f179 [.tmp 2]:=E6 _ func179
def w182:FW prog 182 f182 [.tmp 2]:=E6 _ func182
def w185:FW prog 185 f185 [.tmp 6]:=E6 _ func185
def w188:FW prog 188 f188 [.cell 8 true 5]:=E6 _ func188
def w195:FW prog 195 f195 [.tmp 2]:=E6 _ func195
def w198:FW prog 198 f198 [.tmp 2]:=E6 _ func198
def C9i:FW prog 216 f216 [.cell 4 true 4,.tmp 5]:=E6 _ func216
def w219:FW prog 219 f219 []:=E6 _ func219
def w222:FW prog 222 f222 [.tmp 4]:=E6 _ func222
def w225:FW prog 225 f225 [.tmp 2]:=E6 _ func225
def w228:FW prog 228 f228 [.cell 4 true 4,.tmp 5]:=E6 _ func228
def w233:FW prog 233 f233 [.tmp 2]:=E6 _ func233
def w236:FW prog 236 f236 [.tmp 2]:=E6 _ func236
def w241:FW prog 241 f241 [.tmp 2]:=E6 _ func241
def w244:FW prog 244 f244 []:=E6 _ func244
def w248:FW prog 248 f248 []:=E6 _ func248
def w251:FW prog 251 f251 [.cell 4 true 3]:=E6 _ func251
def w254:FW prog 254 f254 [.cell 2 true 5]:=E6 _ func254
def w261:FW prog 261 f261 [.tmp 2]:=E6 _ func261
def w268:FW prog 268 f268 [.tmp 4]:=E6 _ func268
def w271:FW prog 271 f271 [.tmp 4]:=E6 _ func271
def w274:FW prog 274 f274 [.tmp 3]:=E6 _ func274
def w282:FW prog 282 f282 [.tmp 2]:=E6 _ func282
def w285:FW prog 285 f285 [.cell 2 true 3]:=E6 _ func285
def w297:FW prog 297 f297 [.cell 2 true 3,.tmp 3,.tmp 4]:=E6 _ func297
def C9j:FW prog 301 f301 [.tmp 4]:=E6 _ func301
def w240:FW prog 240 f240 [.tmp 4]:=E6 _ func240
def w277:FW prog 277 f277 [.tmp 4,.tmp 5]:=E6 _ func277
def w278:FW prog 278 f278 [.tmp 4]:=E6 _ func278
def w305:FW prog 305 f305 [.tmp 4,.tmp 5]:=E6 _ func305
end Go.Am
namespace Go.Am
end Go.Am
namespace Go.Am
open Go Go.Proofs Go.RowKit Go.Proofs.Tryz
def B5J(n a b:Int)(id:Nat):A2 prog 129 [.int .i64 n,.int .i64 a,.int .i64 b] [] id (.bool (decide (a<=n)&&decide (n<=b))) []:=by
 refine w129.e.1 λE hP hR hl hid=>?_;simp[w129];exact yP hR
def A4s(n a b:Int)(id:Nat):A2 prog 105 [.int .i64 n,.int .i64 a,.int .i64 b] [] id (.bool (decide (a<=n)&&decide (n<=b))) []:=by
 refine w105.e.1 λE hP hR hl hid=>?_;simp[w105];exact yP hR
def A8T(n:Int)(id:Nat):A2 prog 47 [.int .i64 n] [] id (.bool (decide (1<=n)&&decide (n<=65535))) []:=by
 refine w47.e.1 λE hP hR hl hid=>?_;simp[w47];(refine yH rfl (A4s _ _ _ _) ?_; simp);exact yP hR
def Q8(n:Int)(id:Nat):A2 prog 199 [.int .i64 n] [] id (.bool (decide (-999999999<=n)&&decide (n<=999999999))) []:=by
 refine w199.e.1 λE hP hR hl hid=>?_;simp[w199];exact yP hR
structure Ev where
 kind:Int
 type:Int
 id:Int
 field:Int
 n:Int
 text:List UInt8
def S1(e:Ev):AV:=.agg [.int .i64 e.kind,.int .i64 e.type,.int .i64 e.id,.int .i64 e.field,.int .i64 e.n,.str e.text]
def W7(e:Ev):Int:=if ¬(1<=e.kind/\e.kind<=6) then 7 else if (e.kind=1\/e.kind=2)/\(e.field≠0\/e.n≠0)\/e.kind=4/\e.n≠0\/e.kind≠4/\e.text≠[] then 1 else 0
def m9(e:Ev)(id:Nat):A2 prog 194 [S1 e] [] id (.int .i64 (W7 e)) []:=by
 unfold S1;refine w194.e.1 λE hP hR hl hid=>?_;simp[w194];repeat' first
  | (refine And.intro ?_ ?_)
  | (refine D0 (λh=>?_) (λh=>?_)<;>simp)
  | (refine yH rfl (B5J _ _ _ _) ?_; simp)
 all_goals first
  | (rw[hR]; refine F5 f_ [] trivial (S9 ?_ s_ s_); simp; done)
  | (rw[hR]; refine F5 f_ [] trivial (S9 ?_ s_ s_); (try simp); simp[W7] at *; grind; done)
  | omega
  | (simp_all; done)
  | grind
def Y0(e:Ev):Int:=if W7 e≠0 then W7 e else if ¬(0<=e.type/\e.type<=4)\/¬(1<=e.id/\e.id<=999)\/¬(0<=e.field/\e.field<=5)\/¬(-999999999<=e.n/\e.n<=999999999) then 3 else if 40<e.text.length then 2 else 0
def B8L(e:Ev)(id:Nat):A2 prog 218 [S1 e] [] id (.int .i64 (Y0 e)) []:=by
 unfold S1;refine w218.e.1 λE hP hR hl hid=>?_;simp[w218];repeat' first
  | (refine And.intro ?_ ?_)
  | (refine D0 (λh=>?_) (λh=>?_)<;>simp)
  | (refine yH rfl (m9 e _) ?_; simp)
  | (refine yH rfl (A4s _ _ _ _) ?_; simp)
  | (refine yG rfl (A4s _ _ _ _) ?_; simp)
  | (refine yG rfl (Q8 _ _) ?_; simp)
 all_goals first
  | (rw[hR]; refine F5 f_ [] trivial (S9 ?_ s_ s_); simp; done)
  | (rw[hR]; refine F5 f_ [] trivial (S9 ?_ s_ s_); (try simp); simp[Y0] at *; grind; done)
  | omega
  | (simp_all; done)
  | grind
def S2{α:Type}(f:α->Int):List α->Int
 | []=>0
 | x::l=>if f x≠0 then f x else S2 f l
def A5{α:Type}{l:List α}{i:Nat}(h:i<l.length):∃x,l[i]?=some x/\l.drop i=x::l.drop (i+1) :=
 ⟨l[i],zc h,xg h⟩
structure Bt where
 number:Int
 events:List Ev
def v7(b:Bt):AV:=.agg [.int .i64 b.number,.sl (b.events.map S1)]
theorem C0g(e:Ev):(S1 e).pureB=true:=rfl
@[simp] theorem A3a (l:List Ev):F8 (l.map S1)=true:=E9 C0g l
@[simp] theorem C7V (S:Nat->Prop) (l:List Ev):F4 S (l.map S1):=A4 _ (A3a l)
def I7(b:Bt):Int:=if ¬(1<=b.number/\b.number<=65535) then 3 else if b.events=[] then 1 else if 8<b.events.length then 2 else S2 Y0 b.events
def B0J(b:Bt)(id:Nat):A2 prog 151 [v7 b] [] id (.int .i64 (I7 b)) []:=by
 unfold v7;refine w151.e.1 λE hP hR hl hid=>?_;simp[w151];(refine yH rfl (A8T _ _) ?_; simp);repeat' first
  | (refine D0 (λh=>?_) (λh=>?_)<;>simp)
 ·exact yP hR (h1:=by simp; simp[I7] at *; omega)
 ·exact yP hR (h1:=by simp; simp[I7] at *; grind)
 ·exact yP hR (h1:=by simp; simp[I7] at *; grind)
 ·have hc:I7 b=S2 Y0 b.events:=by simp[I7] at *; grind
  rw[hc] at hR;have hlen:b.events.length<=8:=by simp at *; omega
  refine B9 (X:=Nat) (λi=>⟨[(22,true,.sl (b.events.map S1)),(23,true,.int .i64 b.events.length),(24,true,.int .i64 i)],[],0⟩) (λi=>i<=b.events.length/\S2 Y0 (b.events.drop i)=S2 Y0 b.events) (λi=>b.events.length - i) 0 ?_ ⟨o_,rfl⟩ ?_
  ·exact yW [] trivial
  ·rintro i ⟨hi,hf⟩ p hp;refine A3 4000 ?_;simp;refine D0 (λh=>?_) (λh=>?_)
   ·have h:=zq h;obtain⟨e,he,hd⟩:=A5 h;have hin:∀(y z:AV),((b.events.map S1)[i]?.getD y).cells=(S1 e).cells:=λy z=>by simp[he]
    rw[hd] at hf;simp only[S2] at hf;simp[he,S1];refine⟨h,?_⟩;(refine yH rfl (B8L e _) ?_; simp);refine D0 (λh1=>?_) (λh1=>?_)
    ·simp;rw[zj (v_ h1)] at hf;exact yP hR (h1:=by simp; exact hf)
    ·simp;rw[zf (v_ h1)] at hf;refine hp _ (i+1) ⟨h,hf⟩ o_ ?_;refine yV [] s_ λhrn=>⟨?_,?_,?_,?_,?_⟩<;>(try simp);exact wrap64 o_
   ·have h:=zo h;simp;rw[zp o_] at hf;exact yP hR (h1:=by simp; exact hf)
def A12(m:Int):UInt8:=UInt8.ofNat (m % 256).toNat
def c8(n:Int):Nat->List UInt8
 | 0=>[]
 | k+1=>A12 (n / 2 ^ (8*k))::c8 n k
@[simp] theorem Q1 (n:Int):∀k,(c8 n k).length=k
 | 0=>rfl
 | k+1=>by simp[c8,Q1 n k]
def eB(l:List UInt8):List AV:=l.map λb=>.int .u8 b.toNat
@[simp] theorem A4G (l:List UInt8):F8 (eB l)=true:=E9 (λ_=>rfl) l
@[simp] theorem C0h (S:Nat->Prop) (l:List UInt8):F4 S (eB l):=A4 _ (A4G l)
@[simp] theorem C9D (R:Rn) (S:Nat->Prop) (l:List UInt8):N8 R S (eB l) (eB l):=B4 rfl (A4G l)
@[simp] theorem C9E (l:List UInt8):(eB l).length=l.length:=by simp[eB]
@[simp] theorem C94 (l:List UInt8):(eB l).take l.length=eB l:=zm s_
def A0D(a b:List UInt8):eB (a++b)=eB a++eB b:=by simp[eB]
def B1Z{l:List UInt8}{x:AV}(h:x∈eB l):∃b,x = .int .u8 (UInt8.toNat b):=by
 simp only[eB,zw] at h;obtain⟨b,_,rfl⟩:=h;exact⟨b,rfl⟩
def B1a(l:List UInt8):(eB l).map A6E=l:=by
 simp only[eB,vm];conv=>rhs; rw[←List.map_id l]
 refine ud λb _=>?_;simp[A6E]
def B6i(x:Int):IntKind.u8.wrap x=((A12 x).toNat:Int):=by
 rw[IntKind.wrap_u8]; unfold A12;simp[UInt8.toNat_ofNat']; omega
@[simp] def bxB (l:List UInt8):Bx:=⟨eB l,.int .u8 0,false,false⟩
@[simp] def bxW (c:AV) (d:AV):Bx:=⟨[.agg [c]],d,false,false⟩
def A4t(i j:Nat)(n:Int)(k:Nat)(l:List UInt8)(d:AV)(id:Nat)(hk:1<=k)(hk8:k<=8)(hij:i≠j)(hlen:l.length<=1048576):
  A2 prog 219 [.ptr i 0 0,.int .i64 n,.int .i64 k] [(i,bxW (.bsl j 0 l.length) d),(j,bxB l)] id (.tup []) [(i,some (bxW (.bsl id 0 (l++c8 n k).length) d)),(j,none),(id,some (bxB (l++c8 n k)))]:=by
 simp only[bxW,bxB];refine w219.e.1 λE hP hR hl hid=>?_;simp[w219];have hi:=hl (i,_) (za ..);simp only at hi;have i1:=T2 hi.1;have i2:=O0 hi.1;have i3:=O1 hi.1;have i4:=L8 hi.1;have hj:=hl (j,_) (zb _ (za ..));simp only at hj;have j1:=T2 hj.1;have j2:=O0 hj.1;have j3:=O1 hj.1;have j4:=L8 hj.1;refine B9 (X:=Nat×List UInt8) (λx=>⟨[(0,true,.ptr i 0 0),(1,true,.int .i64 n),(6,true,.int .i64 ((x.1:Int) - 1))],[(i,some ⟨[.agg [.bsl E.n0 0 x.2.length]],d,false,false⟩),(j,none),(E.n0,some ⟨eB x.2,.int .u8 0,false,false⟩)],1⟩)
  (λx=>x.1<=k/\x.2++c8 n x.1=l++c8 n k) (λx=>x.1) (k,l) ?_ ⟨zx _,rfl⟩ ?_
 ·refine yV [(E.n0,j)] s_ λhrn=>⟨?_,?_,?_,?_,?_⟩<;>(try simp[i3,hi.1,j3,hj.1,hij,hij.symm]);exact wrap64 o_
 ·rintro⟨m,l0⟩ ⟨hm,hl0⟩ p hp;simp only at hm hl0 hp;have hl1:l0.length+(c8 n m).length=l.length+(c8 n k).length:=by rw[←zu,hl0]; simp
  rw[Q1,Q1] at hl1;refine A3 4000 ?_;simp;refine D0 (λh=>?_) (λh=>?_)
  ·have h:=zq h;obtain⟨m,rfl⟩:∃m',m=m'+1:=⟨m - 1,o_⟩;have w1:IntKind.i64.wrap (8*(((m+1:Nat):Int) - 1))=((8*m:Nat):Int):=(by rw[wrap64 o_]; omega);simp at w1;have w2:(8*(m:Int)).toNat=8*m:=o_;simp[w1,w2,B6i,IntKind.bits,i3,i4,i1,i2,j4];refine⟨o_,o_,?_⟩;refine hp _ (m,l0++[A12 (n / 2 ^ (8*m))]) ⟨o_,?_⟩ o_ ?_
   ·rw[←hl0]; simp[c8]
   ·refine yV [(E.n0,E.n0+13313)] s_ λhrn=>⟨?_,?_,?_,?_,?_⟩<;>(try simp[i3,i4,i1,i2,hi.1,j2,j3,j4,hij,hij.symm])
    ·exact wrap64 o_
    ·exact B4 (by simp[eB]) (by simp[B3])
  ·have h:=zo h;simp;obtain rfl:m=0:=by omega
   simp only[c8,xr] at hl0;subst hl0;have hrn:F7 [(id,E.n0)]:=s_;rw[hR];refine⟨trivial,false,[(id,E.n0)],hrn,?_,?_,?_,?_,?_,?_⟩;all_goals try simp[A76 hi.2,A3U hi.2,I5 hid,i3,i4,hi.1,j4,hij,hij.symm,A76 hj.2,A3U hj.2]
def B3R(i:Nat)(n:Int)(k:Nat)(d:AV)(id:Nat)(hk:1<=k)(hk8:k<=8):
  A2 prog 219 [.ptr i 0 0,.int .i64 n,.int .i64 k] [(i,bxW .nils d)] id (.tup []) [(i,some (bxW (.bsl id 0 (c8 n k).length) d)),(id,some (bxB (c8 n k)))]:=by
 simp only[bxW,bxB];refine w219.e.1 λE hP hR hl hid=>?_;simp[w219];have hi:=hl (i,_) (za ..);simp only at hi;have i1:=T2 hi.1;have i2:=O0 hi.1;have i3:=O1 hi.1;have i4:=L8 hi.1;refine B9 (X:=Nat×List UInt8) (λx=>⟨[(0,true,.ptr i 0 0),(1,true,.int .i64 n),(6,true,.int .i64 ((x.1:Int) - 1))],[(i,some ⟨[.agg [.bsl E.n0 0 x.2.length]],d,false,false⟩),(E.n0,some ⟨eB x.2,.int .u8 0,false,false⟩)],1⟩)
  (λx=>x.1<=k/\x.2++c8 n x.1=[]++c8 n k) (λx=>x.1) (k,[]) ?_ ⟨zx _,rfl⟩ ?_
 ·refine D9.trans (D9.voidBox i (by simp; rfl) rfl (.agg [.nils] [.bsl (E.n0+3072) 0 0] rfl (λm x y h1 h2=>?_)) (.int .u8 0)) ?_
  ·match m,h1,h2 with
   | 0,h1,h2=>simp at h1 h2; exact .inr ⟨h1.symm,h2.symm⟩
   | m+1,h1,h2=>simp at h1
  ·refine yV [(E.n0,E.n0+3072)] s_ λhrn=>⟨?_,?_,?_,?_,?_⟩<;>(try simp[eB,i3,i1,i2,hi.1]);exact wrap64 o_
 ·rintro⟨m,l0⟩ ⟨hm,hl0⟩ p hp;simp only at hm hl0 hp;have hl1:l0.length+(c8 n m).length=0+(c8 n k).length:=by rw[←zu,hl0]; simp
  rw[Q1,Q1] at hl1;refine A3 4000 ?_;simp;refine D0 (λh=>?_) (λh=>?_)
  ·have h:=zq h;obtain⟨m,rfl⟩:∃m',m=m'+1:=⟨m - 1,o_⟩;have w1:IntKind.i64.wrap (8*(((m+1:Nat):Int) - 1))=((8*m:Nat):Int):=(by rw[wrap64 o_]; omega);simp at w1;have w2:(8*(m:Int)).toNat=8*m:=o_;simp[w1,w2,B6i,IntKind.bits,i3,i4,i1,i2];refine⟨o_,o_,?_⟩;refine hp _ (m,l0++[A12 (n / 2 ^ (8*m))]) ⟨o_,?_⟩ o_ ?_
   ·rw[←hl0]; simp[c8]
   ·refine yV [(E.n0,E.n0+13313)] s_ λhrn=>⟨?_,?_,?_,?_,?_⟩<;>(try simp[i3,i4,i1,i2,hi.1])
    ·exact wrap64 o_
    ·exact B4 (by simp[eB]) (by simp[B3])
  ·have h:=zo h;simp;obtain rfl:m=0:=by omega
   simp only[c8,xr] at hl0;subst hl0;have hrn:F7 [(id,E.n0)]:=s_;rw[hR];refine⟨trivial,false,[(id,E.n0)],hrn,?_,?_,?_,?_,?_,?_⟩;all_goals try simp[A76 hi.2,A3U hi.2,I5 hid,i3,i4,hi.1]
def wr3(i j id:Nat)(d:AV)(l:List UInt8):List (Nat×Option Bx):=[(i,some (bxW (.bsl id 0 l.length) d)),(j,none),(id,some (bxB l))]
attribute [simp] wr3
def A8U(i j:Nat)(n:Int)(l:List UInt8)(d:AV)(id:Nat)(hij:i≠j)(hlen:l.length<=1048576):
  A2 prog 219 [.ptr i 0 0,.int .i64 n,.int .i64 1] [(i,bxW (.bsl j 0 l.length) d),(j,bxB l)] id (.tup []) (wr3 i j id d (l++c8 n 1)):=A4t i j n 1 l d id o_ o_ hij hlen
def C6P(i j:Nat)(n:Int)(l:List UInt8)(d:AV)(id:Nat)(hij:i≠j)(hlen:l.length<=1048576):
  A2 prog 219 [.ptr i 0 0,.int .i64 n,.int .i64 2] [(i,bxW (.bsl j 0 l.length) d),(j,bxB l)] id (.tup []) (wr3 i j id d (l++c8 n 2)):=A4t i j n 2 l d id o_ o_ hij hlen
def C6Q(i j:Nat)(n:Int)(l:List UInt8)(d:AV)(id:Nat)(hij:i≠j)(hlen:l.length<=1048576):
  A2 prog 219 [.ptr i 0 0,.int .i64 n,.int .i64 4] [(i,bxW (.bsl j 0 l.length) d),(j,bxB l)] id (.tup []) (wr3 i j id d (l++c8 n 4)):=A4t i j n 4 l d id o_ o_ hij hlen
def B6j(i:Nat)(n:Int)(d:AV)(id:Nat):
  A2 prog 219 [.ptr i 0 0,.int .i64 n,.int .i64 2] [(i,bxW .nils d)] id (.tup []) [(i,some (bxW (.bsl id 0 (c8 n 2).length) d)),(id,some (bxB (c8 n 2)))]:=B3R i n 2 d id o_ o_
def B3S(k:Int)(id:Nat):A2 prog 220 [.int .i64 k] [] id (.bool (k==1||k==2)) []:=by
 refine w220.e.1 λE hP hR hl hid=>?_;simp[w220];exact yP hR
def C0i(i j:Nat)(s l:List UInt8)(d:AV)(id:Nat)(hij:i≠j)(hlen:l.length<=1000000)(hs:s.length<=1000):
  A2 prog 221 [.ptr i 0 0,.str s] [(i,bxW (.bsl j 0 l.length) d),(j,bxB l)] id (.tup []) (wr3 i j id d (l++c8 s.length 1++s)):=by
 simp only[bxW,bxB,wr3];refine w221.e.1 λE hP hR hl hid=>?_;simp[w221];have hi:=hl (i,_) (za ..);simp only at hi;have i1:=lf hi;have hj:=hl (j,_) (zb _ (za ..));simp only at hj;have j1:=lf hj;(refine E5 hP rfl (A8U i j _ l d _ hij o_) s_ (by simp[hij.symm]<;>rfl) ?_; refine A3 4000 ?_; simp[hij,i1]);refine⟨o_,?_⟩;refine yE hR [(id,E.n0+10240)] s_ λhrn=>⟨?_,?_,?_,?_,?_,?_⟩<;>(try simp[hij,hij.symm,i1,j1,I5 hid]);refine⟨o_,B4 (by simp[eB]) (B3 s_ (A4G s))⟩
def M5(e:Ev):List UInt8:=c8 e.kind 1++(c8 e.type 1++(c8 e.id 2++if e.kind=1\/e.kind=2 then [] else c8 e.field 1++if e.kind=4 then c8 e.text.length 1++e.text else c8 (e.n+999999999) 4))
def O2(b:Bt):List UInt8:=c8 b.number 2++c8 b.events.length 1++b.events.flatMap M5
def C2(b:Bt):List UInt8:=c8 (O2 b).length 2++O2 b
def A4H(e:Ev)(h:Y0 e=0):e.text.length<=40/\(0<=e.type/\e.type<=4)/\(1<=e.id/\e.id<=999)/\(0<=e.field/\e.field<=5)/\(-999999999<=e.n/\e.n<=999999999)/\W7 e=0:=by
 unfold Y0 at h;split at h
 ·omega
 ·split at h
  ·omega
  ·split at h<;>omega
def A7B(e:Ev)(h:Y0 e=0):(M5 e).length<=47:=by
 have:=(A4H e h).1;unfold M5;split
 ·simp
 ·split<;>simp<;>omega
def C0j(b:Bt)(id:Nat)(hb:∀e∈b.events,Y0 e=0)(hl8:b.events.length<=8):A2 prog 154 [v7 b] [] id (.str (C2 b)) []:=by
 simp only[v7];refine w154.e.1 λE hP hR hl hid=>?_;simp[w154];(refine yH rfl (B6j _ _ _ _) ?_; simp);(refine yH rfl (A8U _ (E.n0+8192) _ (c8 b.number 2) (.agg [.nils]) _ s_ s_) ?_; simp);refine B9 (X:=Nat×List UInt8) (λx=>⟨[(19,true,.sl (b.events.map S1)),(20,true,.int .i64 b.events.length),(21,true,.int .i64 x.1),(3,true,.ptr E.n0 0 0)],[(E.n0,some (bxW (.bsl (E.n0+1) 0 x.2.length) (.agg [.nils]))),(E.n0+1,some (bxB x.2))],2⟩)
  (λx=>x.1<=b.events.length/\x.2++(b.events.drop x.1).flatMap M5=O2 b/\x.2.length<=3+47*x.1) (λx=>b.events.length - x.1) (0,c8 b.number 2++c8 b.events.length 1) ?_ ⟨s_,by simp[O2],s_⟩ ?_
 ·exact yW [(E.n0,E.n0+3072),(E.n0+1,E.n0+13312)] trivial
 ·rintro⟨i,l⟩ ⟨hi,hf,hlen⟩ p hp;simp only at hi hf hlen hp;refine A3 4000 ?_;simp;refine D0 (λh=>?_) (λh=>?_)
  ·have h:=zq h;obtain⟨e,he,hd⟩:=A5 h;rw[hd] at hf;simp[he,S1];refine⟨h,?_⟩;(refine yH rfl (A8U E.n0 (E.n0+1) _ l _ _ s_ o_) ?_; simp);(refine yH rfl (A8U E.n0 (E.n0+8194) _ (l++c8 e.kind 1) _ _ s_ m_) ?_; simp);(refine yH rfl (C6P E.n0 (E.n0+12290) _ (l++c8 e.kind 1++c8 e.type 1) _ _ s_ m_) ?_; simp);(refine yH rfl (B3S _ _) ?_; simp);have hev:=hb e (zg he);have hel:=A7B e hev;have hi1:IntKind.i64.wrap ((i:Int)+1)=((i+1:Nat):Int):=wrap64 o_;refine D0 (λh1=>?_) (λh1=>?_)
   ·simp;have h1':e.kind=1\/e.kind=2:=(v_ h1);refine hp _ (i+1,l++M5 e) ⟨h,?_,?_⟩ o_ ?_
    ·rw[←hf]; simp
    ·simp; omega
    ·refine yV [(E.n0,E.n0),(E.n0+1,E.n0+16386)] s_ λhrn=>⟨?_,?_,?_,?_,?_⟩<;>(try simp[hi1]);exact⟨by simp[M5,h1'],by rw[M5,zj h1']; simp⟩
   ·simp;have h1':¬(e.kind=1\/e.kind=2):=(v_ h1);(refine yH rfl (A8U E.n0 (E.n0+16386) _ (l++c8 e.kind 1++c8 e.type 1++c8 e.id 2) _ _ s_ m_) ?_; simp);refine D0 (λh2=>?_) (λh2=>?_)
    ·simp;have h2':e.kind=4:=(v_ h2);have htl:=(A4H e hev).1;(refine yH rfl (C0i E.n0 (E.n0+23554) _ (l++c8 e.kind 1++c8 e.type 1++c8 e.id 2++c8 e.field 1) _ _ s_ m_ o_) ?_; simp);refine hp _ (i+1,l++M5 e) ⟨h,?_,?_⟩ o_ ?_
     ·rw[←hf]; simp
     ·simp; omega
     ·refine yV [(E.n0,E.n0),(E.n0+1,E.n0+30722)] s_ λhrn=>⟨?_,?_,?_,?_,?_⟩<;>(try simp[hi1]);exact⟨by simp[M5,h2'],by rw[M5,zf h1',zj h2']; simp⟩
    ·simp;have h2':¬e.kind=4:=(v_ h2);have hn:=(A4H e hev).2.2.2.2.1;rw[show IntKind.i64.wrap (e.n+999999999)=e.n+999999999 from wrap64 o_];(refine yH rfl (C6Q E.n0 (E.n0+23554) _ (l++c8 e.kind 1++c8 e.type 1++c8 e.id 2++c8 e.field 1) _ _ s_ m_) ?_; simp);refine hp _ (i+1,l++M5 e) ⟨h,?_,?_⟩ o_ ?_
     ·rw[←hf]; simp
     ·simp; omega
     ·refine yV [(E.n0,E.n0),(E.n0+1,E.n0+31746)] s_ λhrn=>⟨?_,?_,?_,?_,?_⟩<;>(try simp[hi1]);exact⟨by simp[M5,h1',h2'],by rw[M5,zf h1',zf h2']; simp⟩
  ·have h:=zo h;rw[zp o_] at hf;simp at hf;subst hf;simp;(refine yH rfl (B6j _ _ _ _) ?_; simp);have hlb:(O2 b).length<=1048576:=o_;have ht:List.take (2+(O2 b).length) (eB (c8 (O2 b).length 2)++eB (O2 b))=eB (C2 b):=by
    rw[zm s_]; simp[C2,A0D]
   simp only[ht,B1a];refine⟨⟨λx hx=>?_,o_,o_⟩,λx hx=>?_,?_⟩
   ·obtain⟨c,rfl⟩:=B1Z hx; simp
   ·obtain⟨c,rfl⟩:=B1Z hx; rfl
   ·exact yP hR (h1:=by simp; rw[zm s_]; simp[C2])
def A1n{α:Type}{f:α->Int}:∀{l:List α},S2 f l=0↔∀x∈l,f x=0
 | []=>by simp[S2]
 | x::l=>by
  simp only[S2];split
  ·rename_i h; constructor
   ·intro h'; exact (h h').elim
   ·intro h'; exact (h (h' x s_)).elim
  ·rename_i h;rw[A1n (l:=l)];simp at h;simp[h]
def A13{b:Bt}(h:I7 b=0):(1<=b.number/\b.number<=65535)/\b.events≠[]/\b.events.length<=8/\∀e∈b.events,Y0 e=0:=by
 unfold I7 at h;split at h
 ·omega
 ·split at h
  ·omega
  ·split at h
   ·omega
   ·rename_i h1 h2 h3;exact⟨o_,h2,o_,A1n.1 h⟩
@[simp] def bxR (s:List UInt8) (sh:Bool) (d:AV):Bx:=⟨[.agg [.str s,.bool sh]],d,false,false⟩
def B6k(i:Nat)(s:List UInt8)(sh:Bool)(n:Nat)(d:AV)(id:Nat)(hs:s.length<=9223372036854775807):
  A2 prog 269 [.ptr i 0 0,.int .i64 n] [(i,bxR s sh d)] id (.str (if s.length<n then [] else s.take n)) [(i,some (if s.length<n then bxR [] true d else bxR (s.drop n) sh d))]:=by
 simp only[bxR];refine w269.e.1 λE hP hR hl hid=>?_;simp[w269];have hi:=hl (i,_) (za ..);simp only at hi;have i1:=lf hi;refine D0 (λh=>?_) (λh=>?_)
 ·simp;have h':s.length<n:=by simpa using h
  simp only[zj h'] at hR;refine yE hR [] s_ λhrn=>⟨?_,?_,?_,?_,?_,?_⟩<;>(try simp[i1])
 ·simp;have h':¬s.length<n:=by simpa using h
  refine⟨o_,?_⟩;simp only[zf h'] at hR;refine yE hR [] s_ λhrn=>⟨?_,?_,?_,?_,?_,?_⟩<;>(try simp[i1])
def J8(l:List UInt8):Int:=l.foldl (λn c=>256*n+(c.toNat:Int)) 0
def B8M(l:List UInt8)(c:UInt8):J8 (l++[c])=256*J8 l+c.toNat:=by simp[J8]
def A0P(l:List UInt8):0<=J8 l/\J8 l<256 ^ l.length:=by
 have key:∀(l:List UInt8) (n:Int) (m:Nat),0<=n->n<256 ^ m->0<=l.foldl (λn c=>256*n+(c.toNat:Int)) n/\l.foldl (λn c=>256*n+(c.toNat:Int)) n<256 ^ (m+l.length):=λl=>by
  induction l with
  | nil=>intro n m h1 h2; exact⟨h1,h2⟩
  | cons c l ih =>
   intro n m h1 h2;have hc:=c.toNat_lt;have:=ih (256*n+c.toNat) (m+1) o_ (by rw[qe]; omega);simp only[wc,zt];rw[show m+(l.length+1)=m+1+l.length by omega];exact this
 have:=key l 0 0 o_ o_;simpa [J8] using this
@[simp] theorem C7w (S:Nat->Prop) (l:List UInt8):F4 S (l.map λb=>AV.int .u8 (UInt8.toNat b)):=C0h S l
def C6R(m c:Nat)(hm:m<36028797018963968)(hc:c<256):bits .or .i64 ((256*m:Nat):Int) (c:Int)=((256*m+c:Nat):Int):=by
 unfold bits;have e1:(BitVec.ofInt IntKind.i64.bits ((256*m:Nat):Int)).toNat=256*m:=by
  rw[BitVec.ofInt_natCast,BitVec.toNat_ofNat]; exact rq (by show _<2 ^ 64; omega)
 have e2:(BitVec.ofInt IntKind.i64.bits (c:Int)).toNat=c:=by
  rw[BitVec.ofInt_natCast,BitVec.toNat_ofNat]; exact rq (by show _<2 ^ 64; omega)
 simp only[BitVec.toNat_or,e1,e2];have:=Nat.two_pow_add_eq_or_of_lt (i:=8) (show c<2 ^ 8 by omega) m;rw[show 2 ^ 8=256 by rfl] at this;rw[←this,wrap64 o_]
def D7(s:List UInt8)(k:Nat):List UInt8:=if s.length<k then [] else s.take k
def A8(s:List UInt8)(k:Nat):List UInt8:=if s.length<k then [] else s.drop k
def A4u(i:Nat)(s:List UInt8)(sh:Bool)(k:Nat)(d:AV)(id:Nat)(hs:s.length<=9223372036854775807)(hk:k<=4):
  A2 prog 268 [.ptr i 0 0,.int .i64 k] [(i,bxR s sh d)] id (.int .i64 (J8 (D7 s k))) [(i,some (bxR (A8 s k) (sh||decide (s.length<k)) d))]:=by
 have hb:(if s.length<k then bxR [] true d else bxR (s.drop k) sh d)=bxR (A8 s k) (sh||decide (s.length<k)) d:=by
  unfold A8; split<;>simp[*]
 have htk:(if s.length<k then [] else s.take k)=D7 s k:=rfl;have htake:=B6k i s sh k d;rw[hb,htk] at htake;have hlen:(D7 s k).length<=k:=by unfold D7; split<;>simp; omega
 generalize D7 s k=t at *;generalize A8 s k=r at *;generalize (sh||decide (s.length<k))=sh' at *;simp only[bxR] at htake ⊢;refine w268.e.1 λE hP hR hl hid=>?_;simp[w268];have hi:=hl (i,_) (za ..);simp only at hi;have i1:=lf hi;(refine yC rfl (htake _ hs) ?_; simp);have ht4:t.length<=4:=by omega
 refine⟨o_,B9 (X:=Nat) (λx=>⟨[(11,true,.sl (t.map λb=>AV.int .u8 b.toNat)),(12,true,.int .i64 t.length),(13,true,.int .i64 x),(5,true,.int .i64 (J8 (t.take x)))],[(i,some (bxR r sh' d))],0⟩)
  (λx=>x<=t.length) (λx=>t.length - x) 0 ?_ o_ ?_⟩
 ·refine yV [] s_ λhrn=>⟨?_,?_,?_,?_,?_⟩<;>(try simp[i1,J8])
 ·intro x hx p hp;refine A3 4000 ?_;simp;refine D0 (λh=>?_) (λh=>?_)
  ·have h:=zq h;obtain⟨c,hc,_⟩:=A5 h;simp[hc];have hbd:=A0P (t.take x);have hxl:(t.take x).length=x:=m_;rw[hxl] at hbd;have hpw:(256:Int) ^ x<=16777216:=by
    have:x=0\/x=1\/x=2\/x=3:=by omega
    rcases this with e|e|e|e<;>rw[e]<;>decide
   have hcl:=c.toNat_lt;have e0:J8 (t.take x)*2 ^ 8=((256*(J8 (t.take x)).toNat:Nat):Int):=o_;have e1:IntKind.i64.wrap (J8 (t.take x)*256)=((256*(J8 (t.take x)).toNat:Nat):Int):=(by rw[wrap64 o_]; omega);have e2:IntKind.i64.wrap (c.toNat:Int)=((c.toNat:Nat):Int):=wrap64 o_;have e3:=C6R (J8 (t.take x)).toNat c.toNat o_ o_;have e4:J8 (t.take (x+1))=((256*(J8 (t.take x)).toNat+c.toNat:Nat):Int):=by
    rw[List.take_add_one,hc,Option.toList_some,B8M]; omega
   have e5:IntKind.i64.wrap ((x:Int)+1)=((x+1:Nat):Int):=wrap64 o_;rw[e1,e2,e3,←e4,e5];refine⟨h,d_,hp _ (x+1) o_ o_ ?_⟩;refine yV [] s_ λhrn=>⟨?_,?_,?_,?_,?_⟩<;>(try simp[i1])
  ·have h:=zo h;simp;obtain rfl:x=t.length:=by omega
   rw[uh];refine yE hR [] s_ λhrn=>⟨?_,?_,?_,?_,?_,?_⟩<;>(try simp[i1])
def M8(s:List UInt8)(k:Nat):(A8 s k).length<=s.length:=by unfold A8; split<;>simp
def sh1(s:List UInt8)(sh:Bool)(k:Nat):Bool:=sh||decide (s.length<k)
def A6O(i:Nat)(s:List UInt8)(sh:Bool)(d:AV)(id:Nat)(hs:s.length<=9223372036854775807):
  A2 prog 268 [.ptr i 0 0,.int .i64 1] [(i,bxR s sh d)] id (.int .i64 (J8 (D7 s 1))) [(i,some (bxR (A8 s 1) (sh1 s sh 1) d))]:=A4u i s sh 1 d id hs o_
def B5K(i:Nat)(s:List UInt8)(sh:Bool)(d:AV)(id:Nat)(hs:s.length<=9223372036854775807):
  A2 prog 268 [.ptr i 0 0,.int .i64 2] [(i,bxR s sh d)] id (.int .i64 (J8 (D7 s 2))) [(i,some (bxR (A8 s 2) (sh1 s sh 2) d))]:=A4u i s sh 2 d id hs o_
def C6S(i:Nat)(s:List UInt8)(sh:Bool)(d:AV)(id:Nat)(hs:s.length<=9223372036854775807):
  A2 prog 268 [.ptr i 0 0,.int .i64 4] [(i,bxR s sh d)] id (.int .i64 (J8 (D7 s 4))) [(i,some (bxR (A8 s 4) (sh1 s sh 4) d))]:=A4u i s sh 4 d id hs o_
def B3T(i:Nat)(s:List UInt8)(sh:Bool)(n:Int)(d:AV)(id:Nat)(hs:s.length<=9223372036854775807)(hn:0<=n):
  A2 prog 269 [.ptr i 0 0,.int .i64 n] [(i,bxR s sh d)] id (.str (D7 s n.toNat)) [(i,some (bxR (A8 s n.toNat) (sh1 s sh n.toNat) d))]:=by
 obtain⟨m,rfl⟩:∃m:Nat,n=m:=⟨n.toNat,o_⟩;have h:=B6k i s sh m d id hs;have hb:(if s.length<m then bxR [] true d else bxR (s.drop m) sh d)=bxR (A8 s m) (sh1 s sh m) d:=by
  unfold A8 sh1; split<;>simp[*]
 rw[hb] at h;exact h
structure RdS where
 e:Ev
 s:List UInt8
 sh:Bool
def O5(s:List UInt8)(sh:Bool):RdS :=
 let k:=J8 (D7 s 1); let s1:=A8 s 1; let h1:=sh1 s sh 1
 let t:=J8 (D7 s1 1); let s2:=A8 s1 1; let h2:=sh1 s1 h1 1
 let i:=J8 (D7 s2 2); let s3:=A8 s2 2; let h3:=sh1 s2 h2 2
 if k<1\/6<k then ⟨⟨k,t,i,0,0,[]⟩,s3,true⟩
 else if k=1\/k=2 then ⟨⟨k,t,i,0,0,[]⟩,s3,h3⟩
 else
  let f:=J8 (D7 s3 1); let s4:=A8 s3 1; let h4:=sh1 s3 h3 1
  if k=4 then
   let n:=J8 (D7 s4 1); let s5:=A8 s4 1; let h5:=sh1 s4 h4 1
   ⟨⟨k,t,i,f,0,D7 s5 n.toNat⟩,A8 s5 n.toNat,sh1 s5 h5 n.toNat⟩
  else ⟨⟨k,t,i,f,J8 (D7 s4 4) - 999999999,[]⟩,A8 s4 4,sh1 s4 h4 4⟩
def B8N(i:Nat)(s:List UInt8)(sh:Bool)(d:AV)(id:Nat)(hs:s.length<=9223372036854775807):
  A2 prog 270 [.ptr i 0 0] [(i,bxR s sh d)] id (S1 (O5 s sh).e) [(i,some (bxR (O5 s sh).s (O5 s sh).sh d))]:=by
 have l1:=M8 s 1;have l2:=M8 (A8 s 1) 1;have l3:=M8 (A8 (A8 s 1) 1) 2;have l4:=M8 (A8 (A8 (A8 s 1) 1) 2) 1;have l5:=M8 (A8 (A8 (A8 (A8 s 1) 1) 2) 1) 1;simp only[bxR];refine w270.e.1 λE hP hR hl hid=>?_;simp[w270];have hi:=hl (i,_) (za ..);simp only at hi;have i1:=lf hi;(refine yC rfl (A6O i s sh d _ o_) ?_; simp[i1]);(refine yC rfl (A6O i (A8 s 1) (sh1 s sh 1) d _ o_) ?_; simp[i1]);(refine yC rfl (B5K i (A8 (A8 s 1) 1) (sh1 (A8 s 1) (sh1 s sh 1) 1) d _ o_) ?_; simp[i1]);have hbd:=A0P (D7 (A8 (A8 (A8 (A8 s 1) 1) 2) 1) 1);have hwr:∀l:List UInt8,l.length<=4->IntKind.i64.wrap (J8 l - 999999999)=J8 l - 999999999:=λl hl=>by
  have hb:=A0P l;have:(256:Int) ^ l.length<=4294967296:=by
   have:l.length=0\/l.length=1\/l.length=2\/l.length=3\/l.length=4:=by omega
   rcases this with e|e|e|e|e<;>rw[e]<;>decide
  exact wrap64 o_
 have hk4:(D7 (A8 (A8 (A8 (A8 s 1) 1) 2) 1) 4).length<=4:=by unfold D7; split<;>simp; omega
 refine D0 (λh=>?_) (λh=>?_)
 ·have h':J8 (D7 s 1)<1\/6<J8 (D7 s 1):=by simpa using h
  simp[i1];simp only[O5,zj h'] at hR;refine yE hR [] s_ λhrn=>⟨?_,?_,?_,?_,?_,?_⟩<;>(try simp[i1,S1])
 ·have h':¬(J8 (D7 s 1)<1\/6<J8 (D7 s 1)):=by simpa using h
  simp;(refine E5 hP rfl (B3S _ _) s_ f_ ?_; refine A3 4000 ?_; simp);refine D0 (λh1=>?_) (λh1=>?_)
  ·have h1':J8 (D7 s 1)=1\/J8 (D7 s 1)=2:=(v_ h1);simp[i1];simp only[O5,zf h',zj h1'] at hR;refine yE hR [] s_ λhrn=>⟨?_,?_,?_,?_,?_,?_⟩<;>(try simp[i1,S1])
  ·have h1':¬(J8 (D7 s 1)=1\/J8 (D7 s 1)=2):=(v_ h1);simp;refine D0 (λh2=>?_) (λh2=>?_)
   ·have h2':J8 (D7 s 1)=4:=(v_ h2);simp;simp only[O5,zf h',zf h1',zj h2'] at hR;(refine yC rfl (A6O i (A8 (A8 (A8 s 1) 1) 2) (sh1 (A8 (A8 s 1) 1) (sh1 (A8 s 1) (sh1 s sh 1) 1) 2) d _ o_) ?_; simp[i1]);(refine yC rfl (A6O i (A8 (A8 (A8 (A8 s 1) 1) 2) 1) (sh1 (A8 (A8 (A8 s 1) 1) 2) (sh1 (A8 (A8 s 1) 1) (sh1 (A8 s 1) (sh1 s sh 1) 1) 2) 1) d _ o_) ?_; simp[i1]);(refine E5 hP rfl (B3T i (A8 (A8 (A8 (A8 (A8 s 1) 1) 2) 1) 1) (sh1 (A8 (A8 (A8 (A8 s 1) 1) 2) 1) (sh1 (A8 (A8 (A8 s 1) 1) 2) (sh1 (A8 (A8 s 1) 1) (sh1 (A8 s 1) (sh1 s sh 1) 1) 2) 1) 1) _ d _ o_ hbd.1) s_ f_ ?_; refine A3 4000 ?_; simp[i1]);refine yE hR [] s_ λhrn=>⟨?_,?_,?_,?_,?_,?_⟩<;>(try simp[i1,S1])
   ·have h2':¬J8 (D7 s 1)=4:=(v_ h2);simp;simp only[O5,zf h',zf h1',zf h2'] at hR;(refine yC rfl (A6O i (A8 (A8 (A8 s 1) 1) 2) (sh1 (A8 (A8 s 1) 1) (sh1 (A8 s 1) (sh1 s sh 1) 1) 2) d _ o_) ?_; simp[i1]);(refine yC rfl (C6S i (A8 (A8 (A8 (A8 s 1) 1) 2) 1) (sh1 (A8 (A8 (A8 s 1) 1) 2) (sh1 (A8 (A8 s 1) 1) (sh1 (A8 s 1) (sh1 s sh 1) 1) 2) 1) d _ o_) ?_; simp[i1]);rw[hwr _ hk4];refine yE hR [] s_ λhrn=>⟨?_,?_,?_,?_,?_,?_⟩<;>(try simp[i1,S1])
structure RdL where
 l:List Ev
 s:List UInt8
 sh:Bool
def A2p:Nat->List UInt8->Bool->RdL
 | 0,s,sh=>⟨[],s,sh⟩
 | k+1,s,sh=>if sh then ⟨[],s,sh⟩ else ⟨(O5 s sh).e::(A2p k (O5 s sh).s (O5 s sh).sh).l,(A2p k (O5 s sh).s (O5 s sh).sh).s,(A2p k (O5 s sh).s (O5 s sh).sh).sh⟩
structure C9F where
 b:Bt
 n:Int
 e:Int
def I6(s:List UInt8):List UInt8:=D7 (A8 s 2) (J8 (D7 s 2)).toNat
def A3b(s:List UInt8):Bool:=sh1 (A8 s 2) (sh1 s false 2) (J8 (D7 s 2)).toNat
def A3K(b:List UInt8):Int:=J8 (D7 b 2)
def u5(b:List UInt8):RdL:=A2p (J8 (D7 (A8 b 2) 1)).toNat (A8 (A8 b 2) 1) (sh1 (A8 b 2) (sh1 b false 2) 1)
def A9(s:List UInt8):C9F :=
 if A3b s=true then ⟨⟨0,[]⟩,0,5⟩
 else if (u5 (I6 s)).sh=true\/(u5 (I6 s)).s≠[] then ⟨⟨0,[]⟩,0,1⟩
 else if I7 ⟨A3K (I6 s),(u5 (I6 s)).l⟩≠0 then ⟨⟨0,[]⟩,0,I7 ⟨A3K (I6 s),(u5 (I6 s)).l⟩⟩
 else ⟨⟨A3K (I6 s),(u5 (I6 s)).l⟩,J8 (D7 s 2)+2,0⟩
def bxE(l:List Ev)(f:Bool):Bx:=⟨l.map S1,.agg [.int .i64 0,.int .i64 0,.int .i64 0,.int .i64 0,.int .i64 0,.str []],false,f⟩
attribute [simp] bxE
def B8O(s:List UInt8)(k:Nat):(D7 s k).length<=s.length:=by unfold D7; split<;>simp<;>omega
def B5L(s:List UInt8)(sh:Bool):(O5 s sh).s.length<=s.length:=by
 have l1:=M8 s 1;have l2:=M8 (A8 s 1) 1;have l3:=M8 (A8 (A8 s 1) 1) 2;have l4:=M8 (A8 (A8 (A8 s 1) 1) 2) 1;have l5:=M8 (A8 (A8 (A8 (A8 s 1) 1) 2) 1) 1;have l6:=M8 (A8 (A8 (A8 (A8 s 1) 1) 2) 1) 4;have l7:=M8 (A8 (A8 (A8 (A8 (A8 s 1) 1) 2) 1) 1) (J8 (D7 (A8 (A8 (A8 (A8 s 1) 1) 2) 1) 1)).toNat;simp only[O5];split
 ·show (A8 (A8 (A8 s 1) 1) 2).length<=_; omega
 ·split
  ·show (A8 (A8 (A8 s 1) 1) 2).length<=_; omega
  ·split
   ·simp only; omega
   ·simp only; omega
def C7x(s:List UInt8):0<=J8 (D7 s 1)/\J8 (D7 s 1)<=255:=by
 have hb:=A0P (D7 s 1);have:(D7 s 1).length=0\/(D7 s 1).length=1:=by unfold D7; split<;>simp; omega
 rcases this with e|e<;>rw[e] at hb<;>simp at hb<;>omega
def C7y(s:List UInt8):0<=J8 (D7 s 2)/\J8 (D7 s 2)<=65535:=by
 have hb:=A0P (D7 s 2);have:(D7 s 2).length=0\/(D7 s 2).length=1\/(D7 s 2).length=2:=by unfold D7; split<;>simp; omega
 rcases this with e|e|e<;>rw[e] at hb<;>simp at hb<;>omega
def B8P(s:List UInt8)(id:Nat)(hs:s.length<=9223372036854775807):
  A2 prog 223 [.str s] [] id (.tup [v7 (A9 s).b,.int .i64 (A9 s).n,.int .i64 (A9 s).e]) []:=by
 have l1:=M8 s 2;have hn:=A0P (D7 s 2);simp only[v7];refine w223.e.1 λE hP hR hl hid=>?_;simp[w223];(refine yH rfl (B5K _ s false _ _ o_) ?_; simp);(refine yH rfl (B3T _ (A8 s 2) (sh1 s false 2) _ _ _ o_ hn.1) ?_; simp);refine D0 (λh=>?_) (λh=>?_)
 ·simp;have hv:A9 s=⟨⟨0,[]⟩,0,5⟩:=by unfold A9 A3b; rw[zj h]
  rw[hv] at hR;refine yE hR [] s_ λhrn=>⟨?_,?_,?_,?_,?_,?_⟩<;>(try simp)
 ·have hds:¬A3b s=true:=by unfold A3b; rw[h]; simp
  have lb0:=B8O (A8 s 2) (J8 (D7 s 2)).toNat;have lb:(I6 s).length<=9223372036854775807:=by unfold I6; omega
  have lb1:=M8 (I6 s) 2;have lb2:=M8 (A8 (I6 s) 2) 1;rw[show D7 (A8 s 2) (J8 (D7 s 2)).toNat=I6 s from rfl];simp;(refine yH rfl (B5K _ (I6 s) false _ _ o_) ?_; simp);(refine yH rfl (A6O _ (A8 (I6 s) 2) (sh1 (I6 s) false 2) _ _ o_) ?_; simp);have hk:=C7x (A8 (I6 s) 2);have hkk:((J8 (D7 (A8 (I6 s) 2) 1)).toNat:Int)=J8 (D7 (A8 (I6 s) 2) 1):=by omega
  refine B9 (X:=Nat×RdL) (λx=>⟨[(2,true,.ptr E.n0 0 0),(6,true,.int .i64 (J8 (D7 s 2))),(8,true,.ptr (E.n0+1) 0 0),(9,true,.ptr (E.n0+2) 0 0),(10,true,.int .i64 x.1)],
    [(E.n0,some ⟨[.agg [.int .i64 0,.nils]],.agg [.int .i64 0,.nils],false,false⟩),(E.n0+1,some (bxR x.2.s x.2.sh (.agg [.str [],.bool false]))),(E.n0+2,some ⟨[.agg [.int .i64 (A3K (I6 s)),.bsl (E.n0+3) 0 x.2.l.length]],.agg [.int .i64 0,.nils],false,false⟩),(E.n0+3,some (bxE x.2.l false))],4⟩)
   (λx=>(x.2.l++(A2p x.1 x.2.s x.2.sh).l=(u5 (I6 s)).l/\(A2p x.1 x.2.s x.2.sh).s=(u5 (I6 s)).s/\(A2p x.1 x.2.s x.2.sh).sh=(u5 (I6 s)).sh)/\x.2.l.length+x.1<=255/\x.2.s.length<=9223372036854775807) (λx=>x.1)
   ((J8 (D7 (A8 (I6 s) 2) 1)).toNat,⟨[],A8 (A8 (I6 s) 2) 1,sh1 (A8 (I6 s) 2) (sh1 (I6 s) false 2) 1⟩) ?_ ⟨⟨by simp only[u5,xq],by simp only[u5],by simp only[u5]⟩,m_,m_⟩ ?_
  ·refine D9.trans (D9.voidBox (E.n0+25600) (by simp; rfl) rfl (.agg [.int .i64 (A3K (I6 s)),.nils] [.int .i64 (A3K (I6 s)),.bsl (E.n0+30720) 0 0] rfl (λm x y h1 h2=>?_)) (.agg [.int .i64 0,.int .i64 0,.int .i64 0,.int .i64 0,.int .i64 0,.str []])) ?_
   ·match m,h1,h2 with
    | 0,h1,h2=>simp at h1 h2; exact .inl (h1.symm.trans h2)
    | 1,h1,h2=>simp at h1 h2; exact .inr ⟨h1.symm,h2.symm⟩
    | m+2,h1,h2=>simp at h1
   ·refine yV [(E.n0,E.n0),(E.n0+1,E.n0+20480),(E.n0+2,E.n0+25600),(E.n0+3,E.n0+30720)] s_ λhrn=>⟨?_,?_,?_,?_,?_⟩<;>(try simp[hkk,A3K])
  ·rintro⟨k,l,s1,sh⟩ ⟨⟨hf1,hf2,hf3⟩,hlen,hs1⟩ p hp;simp only at hf1 hf2 hf3 hlen hs1 hp;refine A3 4000 ?_;simp;refine D0 (λh=>?_) (λh=>?_)
   ·obtain⟨h1,h2⟩:0<k/\sh=false:=by simpa using h
    subst h2;obtain⟨m,rfl⟩:∃m,k=m+1:=⟨k - 1,o_⟩;simp only[A2p,xm,if_false] at hf1 hf2 hf3;have hel:=B5L s1 false;simp;(refine E5 hP rfl (B8N (E.n0+1) s1 false _ _ o_) s_ f_ ?_; refine A3 4000 ?_; simp[S1]);have hm1:IntKind.i64.wrap (m:Int)=m:=wrap64 o_;refine⟨⟨o_,o_⟩,hp _ (m,⟨l++[(O5 s1 false).e],(O5 s1 false).s,(O5 s1 false).sh⟩) ⟨⟨v_ hf1,hf2,hf3⟩,m_,m_⟩ s_ ?_⟩;refine yV [(E.n0,E.n0),(E.n0+1,E.n0+1),(E.n0+2,E.n0+2),(E.n0+3,E.n0+14340)] s_ λhrn=>⟨?_,?_,?_,?_,?_⟩<;>(try simp[hm1]);exact B4 (by simp[S1]) (by simp[B3])
   ·simp;have h0:(A2p k s1 sh).l=[]/\(A2p k s1 sh).s=s1/\(A2p k s1 sh).sh=sh:=by
     cases k with
     | zero=>exact⟨rfl,rfl,rfl⟩
     | succ k =>
      have:sh=true:=by simpa using h
      subst this; exact⟨rfl,rfl,rfl⟩
    rw[h0.1,xr] at hf1;rw[h0.2.1] at hf2;rw[h0.2.2] at hf3;subst hf1 hf2 hf3;refine D0 (λh1=>?_) (λh1=>?_)
    ·simp;have h1':(u5 (I6 s)).sh=true\/(u5 (I6 s)).s≠[]:=(v_ h1);have hv:A9 s=⟨⟨0,[]⟩,0,1⟩:=(by unfold A9; rw[zf hds,zj h1']);rw[hv] at hR;refine yE hR [] s_ λhrn=>⟨?_,?_,?_,?_,?_,?_⟩<;>(try simp)
    ·simp;have h1':¬((u5 (I6 s)).sh=true\/(u5 (I6 s)).s≠[]):=(v_ h1);(refine A0z hP rfl (B0J ⟨A3K (I6 s),(u5 (I6 s)).l⟩ _) (by simp[v7]<;>rfl) s_ f_ s_ ?_; refine A3 4000 ?_; simp);refine D0 (λh2=>?_) (λh2=>?_)
     ·simp;have h2':I7 ⟨A3K (I6 s),(u5 (I6 s)).l⟩≠0:=(v_ h2);have hv:A9 s=⟨⟨0,[]⟩,0,I7 ⟨A3K (I6 s),(u5 (I6 s)).l⟩⟩:=(by unfold A9; rw[zf hds,zf h1',zj h2']);rw[hv] at hR;refine yE hR [] s_ λhrn=>⟨?_,?_,?_,?_,?_,?_⟩<;>(try simp)
     ·simp;have h2':¬I7 ⟨A3K (I6 s),(u5 (I6 s)).l⟩≠0:=(v_ h2);have hv:A9 s=⟨⟨A3K (I6 s),(u5 (I6 s)).l⟩,J8 (D7 s 2)+2,0⟩:=(by unfold A9; rw[zf hds,zf h1',zf h2']);rw[hv] at hR;have h65:=C7y s;have hw2:IntKind.i64.wrap (J8 (D7 s 2)+2)=J8 (D7 s 2)+2:=wrap64 o_;have hrn:F7 []:=s_;rw[hR];refine J0 f_ (by simp[hw2]<;>exact⟨rfl,rfl⟩) [] hrn ⟨?_,?_,?_,?_,?_,?_⟩<;>(try simp)
end Go.Am
