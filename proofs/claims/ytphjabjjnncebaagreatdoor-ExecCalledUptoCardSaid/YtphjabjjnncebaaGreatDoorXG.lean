/- Parts of the proof: an abstract machine for Go functions, and what functions of the program give back (Am57, Am58, Am59, Am60, Am61, Ck, Am62, CcA1, CcA2, CcA3, CcA4, CcB, CcV, CcS, Bt1, Bt2, Bt3, Bt4, Bt5, Bt6, Bt7). No condition. -/
import Derived.Test.YtphjabjjnncebaaGreatDoorXF
import Derived.KernelRfl
import Derived.Test.YtphjabjjnncebaaGreatDoorXE
import Derived.Test.YtphjabjjnncebaaGreatDoorProg
set_option maxRecDepth 100000
set_option linter.all false
set_option maxHeartbeats 4000000
namespace Go.Am
open Go Go.RowKit
section
variable {E:R9} {σ:St} {k:List Itm} {P:Program}
end
section
variable {E:R9} {σ:St} {k:List Itm} {P:Program}
theorem yC{dst:Option Nat}{us:List Nat}{f:Nat}{xs:List G7}{l:List CR}{j:Nat}{acc:List RR}{ps:List (Nat×Nat)}{args:List AV}{rd:List (Nat×Bx)}{v:AV}{wr:List (Nat×Option Bx)}
  (ha:xs.map (H9 (lk σ.fr))=args) (hc:A2 P f args rd (E.n0+(σ.k+1024*j)) v wr) (h:A03 (lk σ.fr) us/\X2 (bk σ.bx) rd/\go E 4000 (.ops l (j+1) (j0 ps ⟨true,v,rd,wr⟩ acc) ps::k) (σ.app dst ⟨true,v,rd,wr⟩)) (hP:E.P=P:=by assumption) :
  Wk E (.ops (⟨dst,none,us,.call f xs⟩::l) j acc ps::k) σ:=C6 hP ha hc h.1 h.2.1 (A6 4000 h.2.2)
theorem yH{dst:Option Nat}{us:List Nat}{f:Nat}{xs:List G7}{l:List CR}{j:Nat}{acc:List RR}{ps:List (Nat×Nat)}{args:List AV}{rd:List (Nat×Bx)}{v:AV}{wr:List (Nat×Option Bx)}
  (ha:xs.map (H9 (lk σ.fr))=args) (hc:A2 P f args rd (E.n0+(σ.k+1024*j)) v wr) (h:go E 4000 (.ops l (j+1) (j0 ps ⟨true,v,rd,wr⟩ acc) ps::k) (σ.app dst ⟨true,v,rd,wr⟩)) (hu:A03 (lk σ.fr) us:=by simp) (hh:X2 (bk σ.bx) rd:=by simp<;>rfl) (hP:E.P=P:=by assumption) :
  Wk E (.ops (⟨dst,none,us,.call f xs⟩::l) j acc ps::k) σ:=C6 hP ha hc hu hh (A6 4000 h)
theorem yG{dst:Option Nat}{g:Option (Nat×Bool)}{us:List Nat}{f:Nat}{xs:List G7}{l:List CR}{j:Nat}{acc:List RR}{ps:List (Nat×Nat)}{args:List AV}{rd:List (Nat×Bx)}{v:AV}
  (ha:xs.map (H9 (lk σ.fr))=args) (hc:A2 P f args rd (E.n0+(σ.k+1024*j)) v []) (h:go E 4000 (.ops l (j+1) (j0 ps ⟨Q8 (lk σ.fr) g,v,rd,[]⟩ acc) ps::k) (σ.app dst ⟨Q8 (lk σ.fr) g,v,rd,[]⟩))
  (hg:A0Q (lk σ.fr) g:=by simp) (hu:Q8 (lk σ.fr) g=true->A03 (lk σ.fr) us:=by intro hc; revert hc; simp; try grind) (hh:X2 (bk σ.bx) rd:=by simp) (hP:E.P=P:=by assumption) :
  Wk E (.ops (⟨dst,g,us,.call f xs⟩::l) j acc ps::k) σ:=K3 hP hg ha (fun hq=>⟨hc,hu hq,hh⟩) (A6 4000 h)
theorem yR{dst:Option Nat}{us:List Nat}{f:Nat}{xs:List G7}{l:List CR}{j:Nat}{acc:List RR}{ps:List (Nat×Nat)}{args args':List AV}{fz rd:List (Nat×Bx)}{v:AV}{wr:List (Nat×Option Bx)}
  (ha:xs.map (H9 (lk σ.fr))=args) (hc:A2 P f args' rd (E.n0+(σ.k+1024*j)) v wr) (h:go E 4000 (.ops l (j+1) (j0 ps ⟨true,v,fz++rd,wrF fz++wr⟩ acc) ps::k) (σ.app dst ⟨true,v,fz++rd,wrF fz++wr⟩))
  (hr:A3i (bk σ.bx) args args' fz:=by simp<;>rfl) (hu:A03 (lk σ.fr) us:=by simp) (hh:X2 (bk σ.bx) rd:=by simp<;>rfl) (hd:R0 (O2 rd) (O2 fz):=by simp) (hP:E.P=P:=by assumption) :
  Wk E (.ops (⟨dst,none,us,.call f xs⟩::l) j acc ps::k) σ:=A1c hP ha hc hr hu hh hd (A6 4000 h)
theorem yP{n0 id:Nat}{S:Nat->Prop}{crs:List X1}{res:AV}{vs:List AV}(hR:E.Rt=v8 n0 id S crs [] res [])(h:A2g (lk σ.fr) (bk σ.bx) crs vs:=by simp<;>rfl)(h1:tupOf vs=res:=by simp)(h2:res.pureB=true:=by simp)(h3:G6 n0 [] σ.bx:=by simp):E.Rt σ:=by
 rw[hR]; exact H2 h [] trivial (X3 h1 h2 h3)
theorem yE{n0 id:Nat}{S:Nat->Prop}{crs:List X1}{rd:List (Nat×Bx)}{res:AV}{wr:List (Nat×Option Bx)}{vs:List AV}(hR:E.Rt=v8 n0 id S crs rd res wr)(rn:List (Nat×Nat))(hrn:I0 rn)(he:∀hrn:I0 rn,A7C n0 id S rd res wr vs σ.bx rn hrn)(h:A2g (lk σ.fr) (bk σ.bx) crs vs:=by simp<;>rfl):E.Rt σ:=by
 rw[hR]; exact H2 h rn hrn (he hrn)
end
theorem yV{E:R9}{σ σ':St}(l:List (Nat×Nat))(hl:I0 l)(h:∀hl:I0 l,A2e E.n0 (E.n0+σ'.k) l/\A7A (L9 E.n0 l hl) E.G0.used σ.fr σ'.fr/\A2y (L9 E.n0 l hl) E.G0.used σ.bx σ'.bx/\G6 E.n0 σ'.bx σ.bx/\A0T E.n0 σ'.bx l):H0 E σ σ' :=
 let ⟨h1,h2,h3,h4,h5⟩:=h hl; H0.sub l hl h1 h2 h3 h4 h5
theorem yO{E:R9}{id:Nat}(hu:∀z,E.G0.used z->z<id\/id+1024<=z){n:Nat}{rn:List (Nat×Nat)}{hrn:I0 rn}{l:List AV}(h:∀x∈l,A4 E.G0.used x)(hk:∀z,z<E.n0->(z<id\/id+1024<=z)->Y3 rn z=none:=by first|(intro z h1 h2; (try simp[Y3]); (try omega); done)|(intro z h1 h2; rfl)):K2 (L9 n rn hrn) E.G0.used l l:=Q1 hu hk h
section
variable {n0 id i:Nat} {a b c d e f:Nat×Bx} {r:List (Nat×Bx)} {x:Bx}
end
structure FeH(P:Program)(f:Nat)(cc:CC)(crs:List X1)(N:Nat):Prop where
 a:∀{args:List AV} {rd:List (Nat×Bx)} {id:Nat} {res:AV} {wr:List (Nat×Option Bx)}
  (h:∀E:R9,E.P=P->E.Rt=v8 E.n0 id E.G0.used crs rd res wr->(∀q∈rd,q.1<E.n0/\(q.1<id\/id+1024<=q.1))->id+1024<=E.n0->go E 4000 [.code cc] ⟨A0K 0 args,C4 rd,0⟩) (hN:args.length<=N:=by exact vv rfl),A2 P f args rd id res wr
structure FbH(P:Program)(f:Nat)(cc:CC)(crs:List X1)(N:Nat):Prop where
 a:∀{args:List AV} {rd:List (Nat×Bx)} {id:Nat} {res:AV} {wr:List (Nat×Option Bx)}
  (h:∀E:R9,E.P=P->E.Rt=v8 E.n0 id E.G0.used crs rd res wr->(∀q∈rd,q.1<E.n0/\(q.1<id\/id+1024<=q.1))->id+1024<=E.n0->G8 E.β rd->(∀z,E.G0.used z->z<id\/id+1024<=z)->go E 4000 [.code cc] ⟨A0K 0 args,C4 rd,0⟩) (hN:args.length<=N:=by exact vv rfl),A2 P f args rd id res wr
structure FxH(P:Program)(f:Nat)(cc:CC)(crs:List X1)(N:Nat):Prop where
 a:∀{args:List AV} {rd:List (Nat×Bx)} {id:Nat} {o:Except AV (AV×List (Nat×Option Bx))}
  (h:∀E:R9,E.P=P->(∀v wr σ,o = .ok (v,wr)->v8 E.n0 id E.G0.used crs rd v wr σ->E.Rt σ)->(∀pv σ,o = .error pv->pv.pureB=true->G6 E.n0 (C4 rd) σ.bx->E.Pn pv σ)->(∀q∈rd,q.1<E.n0/\(q.1<id\/id+1024<=q.1))->id+1024<=E.n0->G8 E.β rd->(∀z,E.G0.used z->z<id\/id+1024<=z)->go E 4000 [.code cc] ⟨A0K 0 args,C4 rd,0⟩) (hN:args.length<=N:=by exact vv rfl),u9 P f args rd id o
section
variable {P : Program} {f : Nat} {fn : Func} {cc : CC} {crs : List X1} (hf : P.funcs[f]? = some fn) (hcc : fn.body.map (D4 P fn.ntmps) = some cc) (hrs : L2 P fn.results.toList = some crs) (hnm : (fn.name == "runtime.NumGoroutine") = false)
include hf hcc hrs hnm
theorem B5w:FeH P f cc crs fn.ntmps:=⟨fun h hN=>A8O hf hcc hnm hrs hN fun E h1 h2 h3 h4=>A6 4000 (h E h1 h2 h3 h4)⟩
theorem B5x:FbH P f cc crs fn.ntmps:=⟨fun h hN=>B56 hf hcc hnm hrs hN fun E h1 h2 h3 h4 h5 h6=>A6 4000 (h E h1 h2 h3 h4 h5 h6)⟩
theorem B5y:FxH P f cc crs fn.ntmps:=⟨fun h hN=>B1f hf hcc hnm hrs hN fun E h1 h2 h3 h4 h5 h6 h7=>A6 4000 (h E h1 h2 h3 h4 h5 h6 h7)⟩
end
def CR.m(d x:Nat):CR:=⟨some d,none,[x],.mv (.t x)⟩
def CR.i(d:Nat)(n:Int):CR:=⟨some d,none,[],.mv (.c (.int .i64 n))⟩
def CR.v(d:Nat)(a:AV):CR:=⟨some d,none,[],.mv (.c a)⟩
def CR.l(d x:Nat):CR:=⟨some d,none,[x],.ld false 1 (.t x)⟩
def CR.L(d n x:Nat):CR:=⟨some d,none,[x],.ld true n (.t x)⟩
def CR.f(d k x:Nat):CR:=⟨some d,none,[x],.fa k (.t x)⟩
def CR.e(d x i:Nat):CR:=⟨some d,none,[x],.ext (.t x) i⟩
def CR.n(d x:Nat):CR:=⟨some d,none,[x],.len false (.t x)⟩
def CR.ns(d x:Nat):CR:=⟨some d,none,[x],.len true (.t x)⟩
def CR.b(d:Nat)(o:BinOp)(x y:Nat):CR:=⟨some d,none,[x,y],.bin o none (.t x) (.t y)⟩
def CR.k(d:Nat)(o:BinOp)(x:Nat)(n:Int):CR:=⟨some d,none,[x],.bin o none (.t x) (.c (.int .i64 n))⟩
def CR.j(d:Nat)(o:BinOp)(x:Nat)(a:AV):CR:=⟨some d,none,[x],.bin o none (.t x) (.c a)⟩
def CR.c(d f:Nat)(xs:List Nat):CR:=⟨some d,none,xs,.call f (xs.map G7.t)⟩
def CR.pa(d a b:Nat):CR:=⟨some d,none,[a,b],.pick (.t a) (.t b) (.c (.bool false))⟩
def CR.po(d a b:Nat):CR:=⟨some d,none,[a,b],.pick (.t a) (.c (.bool true)) (.t b)⟩
def CR.ck(d x:Nat):CR:=⟨some d,none,[x],.chk (.t x)⟩
def CR.bx(d x:Nat):CR:=⟨some d,none,[x],.box (.t x)⟩
def CR.al(d:Nat)(z:AV):CR:=⟨some d,none,[],.alloc z⟩
def CR.no(d x:Nat):CR:=⟨some d,none,[x],.un .not (.t x)⟩
def CR.ia(d s:Nat)(z:AV)(x y:Nat):CR:=⟨some d,none,[x,y],.ia s z (.t x) (.t y)⟩
def CR.st(n x y:Nat):CR:=⟨none,none,[x,y],.st n (.t x) (.t y)⟩
def CR.si(n x:Nat)(v:Int):CR:=⟨none,none,[x],.st n (.t x) (.c (.int .i64 v))⟩
def CR.gt(s:Nat)(c:CR):CR:=⟨c.dst,some (s,true),c.us,c.op⟩
def CR.gf(s:Nat)(c:CR):CR:=⟨c.dst,some (s,false),c.us,c.op⟩
def CC.r(l:List CR):CC:=.reg false l []
def CC.d(l:List CR)(p:List (Nat×Nat)):CC:=.reg true l p
def pr:List (Nat×List Nat)->List (Nat×Nat)
 | []=>[]
 | (b,l)::r=>l.map (fun a=>(a,b))++pr r
def AV.zE:AV:=.agg [.int .i64 0,.int .i64 0,.int .i64 0,.int .i64 0,.int .i64 0,.str []]
def AV.zG:AV:=.agg [.int .i64 0,.int .i64 0,.nils]
def AV.zC:AV:=.agg [.int .i64 0,.str [],.nils]
def AV.zY:AV:=.agg [.str [],.nils]
def AV.zF:AV:=.agg [.str [],.int .i64 0,.str []]
def AV.zS:AV:=.agg [.nils,.nils]
def AV.zQ:AV:=.agg [.str [],.str [],.nils,.nils]
def AV.zA:AV:=.agg [.str [],.bool false,.str [],.int .i64 0]
attribute [simp] CR.m CR.i CR.v CR.l CR.L CR.f CR.e CR.n CR.ns CR.b CR.k CR.j CR.c CR.pa CR.po CR.ck CR.bx CR.al CR.no CR.ia CR.st CR.si CR.gt CR.gf CC.r CC.d pr AV.zE AV.zG AV.zC AV.zY AV.zF AV.zS AV.zQ AV.zA
end Go.Am
namespace Go.Am
open Go Go.Proofs Go.RowKit
theorem u8l(n:Nat)(h:n<2 ^ 8):UInt8.ofBitVec (BitVec.ofFin ⟨n,h⟩)=UInt8.ofNat n:=by
 rw[UInt8.ofNat]; congr 1; apply BitVec.eq_of_toNat_eq; simp[BitVec.ofNat]; omega
structure FW(P:Program)(f:Nat)(fn:Func)(crs:List X1)where
 c:CC
 hc:fn.body.map (D4 P fn.ntmps)=some c
 hr:L2 P fn.results.toList=some crs
 hf:P.funcs[f]?=some fn
 hn : (fn.name == "runtime.NumGoroutine") = false
def I4{f:Nat}{fn:Func}{crs:List X1}(c:CC)(hf:Tryz.prog.funcs[f]?=some fn)(hc:fn.body.map (D4 Tryz.prog fn.ntmps)=some c:=by conv=>lhs; reduce; simp only[u8l,Int.ofNat_eq_natCast,Int.cast_ofNat_Int,UInt8.reduceOfNat,Int.reduceNegSucc])
  (hr : L2 Tryz.prog fn.results.toList = some crs := by kernel_rfl) (hn : (fn.name == "runtime.NumGoroutine") = false := by decide) : FW Tryz.prog f fn crs := ⟨c, hc, hr, hf, hn⟩
attribute [simp] I4
section
variable {P:Program} {f:Nat} {fn:Func} {crs:List X1} (w:FW P f fn crs)
theorem FW.e:FeH P f w.c crs fn.ntmps:=B5w w.hf w.hc w.hr w.hn
theorem FW.b:FbH P f w.c crs fn.ntmps:=B5x w.hf w.hc w.hr w.hn
theorem FW.x:FxH P f w.c crs fn.ntmps:=B5y w.hf w.hc w.hr w.hn
end
def w3:FW Tryz.prog 3 Tryz.f3 [.tmp 10]:=I4 _ Tryz.func3
def w9:FW Tryz.prog 9 Tryz.f9 [.tmp 0]:=I4 _ Tryz.func9
def w12:FW Tryz.prog 12 Tryz.f12 [.tmp 0]:=I4 _ Tryz.func12
def w18:FW Tryz.prog 18 Tryz.f18 [.tmp 4]:=I4 _ Tryz.func18
def w21:FW Tryz.prog 21 Tryz.f21 [.cell 4 true 5,.tmp 5]:=I4 _ Tryz.func21
def w24:FW Tryz.prog 24 Tryz.f24 [.tmp 2]:=I4 _ Tryz.func24
def w36:FW Tryz.prog 36 Tryz.f36 [.tmp 4,.tmp 5]:=I4 _ Tryz.func36
def w62:FW Tryz.prog 62 Tryz.f62 [.tmp 4]:=I4 _ Tryz.func62
def w65:FW Tryz.prog 65 Tryz.f65 [.tmp 2]:=I4 _ Tryz.func65
def w68:FW Tryz.prog 68 Tryz.f68 [.tmp 5]:=I4 _ Tryz.func68
def w71:FW Tryz.prog 71 Tryz.f71 [.tmp 6,.tmp 7]:=I4 _ Tryz.func71
def w101:FW Tryz.prog 101 Tryz.f101 [.tmp 4,.tmp 5]:=I4 _ Tryz.func101
def B6j:FW Tryz.prog 105 Tryz.f105 [.tmp 6]:=I4 _ Tryz.func105
def w118:FW Tryz.prog 118 Tryz.f118 [.tmp 4]:=I4 _ Tryz.func118
def w122:FW Tryz.prog 122 Tryz.f122 [.cell 4 true 5]:=I4 _ Tryz.func122
def w127:FW Tryz.prog 127 Tryz.f127 [.cell 4 true 6,.tmp 5]:=I4 _ Tryz.func127
def w130:FW Tryz.prog 130 Tryz.f130 [.tmp 4]:=I4 _ Tryz.func130
def w133:FW Tryz.prog 133 Tryz.f133 [.tmp 4]:=I4 _ Tryz.func133
def w166:FW Tryz.prog 166 Tryz.f166 [.tmp 2]:=I4 _ Tryz.func166
def w169:FW Tryz.prog 169 Tryz.f169 [.tmp 3]:=I4 _ Tryz.func169
def w183:FW Tryz.prog 183 Tryz.f183 [.tmp 2]:=I4 _ Tryz.func183
def w186:FW Tryz.prog 186 Tryz.f186 [.cell 4 true 5]:=I4 _ Tryz.func186
def w189:FW Tryz.prog 189 Tryz.f189 [.cell 8 true 5]:=I4 _ Tryz.func189
def w196:FW Tryz.prog 196 Tryz.f196 [.tmp 2]:=I4 _ Tryz.func196
def w199:FW Tryz.prog 199 Tryz.f199 [.tmp 2]:=I4 _ Tryz.func199
def w229:FW Tryz.prog 229 Tryz.f229 [.tmp 4]:=I4 _ Tryz.func229
def w234:FW Tryz.prog 234 Tryz.f234 [.tmp 4]:=I4 _ Tryz.func234
def w237:FW Tryz.prog 237 Tryz.f237 [.tmp 4]:=I4 _ Tryz.func237
def w252:FW Tryz.prog 252 Tryz.f252 [.tmp 2]:=I4 _ Tryz.func252
def w255:FW Tryz.prog 255 Tryz.f255 [.cell 4 true 5]:=I4 _ Tryz.func255
def w263:FW Tryz.prog 263 Tryz.f263 [.tmp 2]:=I4 _ Tryz.func263
def w298:FW Tryz.prog 298 Tryz.f298 [.tmp 6]:=I4 _ Tryz.func298
def w316:FW Tryz.prog 316 Tryz.f316 [.tmp 4]:=I4 _ Tryz.func316
def w317:FW Tryz.prog 317 Tryz.f317 [.tmp 2]:=I4 _ Tryz.func317
def w4:FW Tryz.prog 4 Tryz.f4 [.tmp 6]:=I4 _ Tryz.func4
def w10:FW Tryz.prog 10 Tryz.f10 [.tmp 0]:=I4 _ Tryz.func10
def w16:FW Tryz.prog 16 Tryz.f16 [.tmp 2,.tmp 3]:=I4 _ Tryz.func16
def w19:FW Tryz.prog 19 Tryz.f19 [.tmp 4]:=I4 (.seq (.r [.v 4 (.bool false)]) (.seq (.seq (.r [.m 6 0,.n 7 6,.m 8 1,.n 9 8,.b 10 .neq 7 9]) (.cond (.t 10) (.seq (.r [.v 4 (.bool false)]) CC.ret) CC.skip)) (.seq (.seq (.r [.i 5 0]) (.block 0 (.loop (.seq (.seq (.r [.m 11 5,.m 12 0,.n 13 12,.b 14 .lss 11 13]) (.cond (.t 14) CC.skip (.exit 0))) (.seq (.block 1 (.seq (.d [.m 17 0,.m 18 5,.ia 19 6 .zE 17 18,.L 20 6 19,.m 21 1,.m 22 5,.ia 23 6 .zE 21 22,.L 24 6 23,⟨some 25,none,[20,24],.bin .neq (some [0,0,0,0,0,2]) (.t 20) (.t 24)⟩] []) (.cond (.t 25) (.seq (.r [.v 4 (.bool false)]) CC.ret) CC.skip))) (.r [.m 15 5,.k 16 .add 15 1,.m 5 16])))))) (.seq (.r [.v 4 (.bool true)]) CC.ret)))) Tryz.func19 (by kernel_rfl)
def w22:FW Tryz.prog 22 Tryz.f22 [.tmp 2,.tmp 3]:=I4 _ Tryz.func22
def w25:FW Tryz.prog 25 Tryz.f25 [.tmp 4]:=I4 _ Tryz.func25
def w37:FW Tryz.prog 37 Tryz.f37 [.cell 0 true 2]:=I4 _ Tryz.func37
def w43:FW Tryz.prog 43 Tryz.f43 [.tmp 0]:=I4 _ Tryz.func43
def w46:FW Tryz.prog 46 Tryz.f46 [.tmp 4,.tmp 5]:=I4 _ Tryz.func46
def w49:FW Tryz.prog 49 Tryz.f49 [.tmp 3]:=I4 _ Tryz.func49
def w63:FW Tryz.prog 63 Tryz.f63 [.cell 4 true 2,.tmp 5]:=I4 _ Tryz.func63
def w66:FW Tryz.prog 66 Tryz.f66 [.tmp 4]:=I4 _ Tryz.func66
def w69:FW Tryz.prog 69 Tryz.f69 [.tmp 4]:=I4 _ Tryz.func69
def w72:FW Tryz.prog 72 Tryz.f72 [.tmp 4]:=I4 _ Tryz.func72
def w75:FW Tryz.prog 75 Tryz.f75 [.tmp 2]:=I4 _ Tryz.func75
def w99:FW Tryz.prog 99 Tryz.f99 [.tmp 4,.tmp 5]:=I4 _ Tryz.func99
def w102:FW Tryz.prog 102 Tryz.f102 [.tmp 2]:=I4 _ Tryz.func102
def w124:FW Tryz.prog 124 Tryz.f124 [.tmp 2]:=I4 _ Tryz.func124
def w128:FW Tryz.prog 128 Tryz.f128 [.tmp 4]:=I4 _ Tryz.func128
def w131:FW Tryz.prog 131 Tryz.f131 [.tmp 4]:=I4 _ Tryz.func131
def w134:FW Tryz.prog 134 Tryz.f134 [.tmp 3]:=I4 _ Tryz.func134
def w167:FW Tryz.prog 167 Tryz.f167 [.tmp 2]:=I4 _ Tryz.func167
def w170:FW Tryz.prog 170 Tryz.f170 [.tmp 2]:=I4 _ Tryz.func170
def w184:FW Tryz.prog 184 Tryz.f184 [.tmp 10]:=I4 _ Tryz.func184
def w187:FW Tryz.prog 187 Tryz.f187 [.tmp 2,.tmp 3]:=I4 _ Tryz.func187
def w194:FW Tryz.prog 194 Tryz.f194 [.tmp 2]:=I4 _ Tryz.func194
def w197:FW Tryz.prog 197 Tryz.f197 [.tmp 6]:=I4 _ Tryz.func197
def w224:FW Tryz.prog 224 Tryz.f224 [.tmp 4]:=I4 _ Tryz.func224
def w232:FW Tryz.prog 232 Tryz.f232 [.tmp 2]:=I4 _ Tryz.func232
def w235:FW Tryz.prog 235 Tryz.f235 [.tmp 3]:=I4 _ Tryz.func235
def w253:FW Tryz.prog 253 Tryz.f253 [.tmp 6]:=I4 _ Tryz.func253
def w256:FW Tryz.prog 256 Tryz.f256 [.cell 6 true 5]:=I4 _ Tryz.func256
def w264:FW Tryz.prog 264 Tryz.f264 [.tmp 4]:=I4 _ Tryz.func264
def w273:FW Tryz.prog 273 Tryz.f273 [.tmp 4]:=I4 _ Tryz.func273
def w296:FW Tryz.prog 296 Tryz.f296 [.tmp 5]:=I4 _ Tryz.func296
def w299:FW Tryz.prog 299 Tryz.f299 [.tmp 4,.tmp 5]:=I4 _ Tryz.func299
def w335:FW Tryz.prog 335 Tryz.f335 [.tmp 2]:=I4 _ Tryz.func335
def w5:FW Tryz.prog 5 Tryz.f5 [.tmp 4]:=I4 _ Tryz.func5
def w11:FW Tryz.prog 11 Tryz.f11 [.tmp 0]:=I4 _ Tryz.func11
def w23:FW Tryz.prog 23 Tryz.f23 [.tmp 0]:=I4 (.seq (.r [.v 0 (.bool false)]) (.seq (.r [.c 10 37 [],⟨some 11,none,[],.build [.int .i64 0,.int .i64 0,.int .i64 0,.int .i64 0,.int .i64 0,.str []] [(0,1,.c (.int .i64 6)),(2,1,.c (.int .i64 3)),(3,1,.c (.int .i64 3)),(4,1,.c (.int .i64 4))]⟩,.c 12 63 [10,11],.m 9 12,.e 13 9 0,.e 14 9 1,.al 1 .zS,.st 2 1 13,.m 2 14]) (.seq (.r [.c 16 37 [],⟨some 17,none,[],.build [.int .i64 0,.int .i64 0,.int .i64 0,.int .i64 0,.int .i64 0,.str []] [(0,1,.c (.int .i64 2)),(2,1,.c (.int .i64 4))]⟩,.c 18 63 [16,17],.m 15 18,.e 19 15 0,.e 20 15 1,.al 3 .zS,.st 2 3 19,.m 4 20]) (.seq (.r [.L 22 2 1,⟨some 23,none,[],.build [.int .i64 0,.int .i64 0,.int .i64 0,.int .i64 0,.int .i64 0,.str []] [(0,1,.c (.int .i64 2)),(2,1,.c (.int .i64 4))]⟩,.c 24 63 [22,23],.m 21 24,.e 25 21 0,.e 26 21 1,.al 5 .zS,.st 2 5 25,.m 6 26]) (.seq (.r [.c 28 37 [],⟨some 29,none,[],.build [.int .i64 0,.int .i64 0,.int .i64 0,.int .i64 0,.int .i64 0,.str []] [(0,1,.c (.int .i64 3)),(2,1,.c (.int .i64 3)),(4,1,.c (.int .i64 9))]⟩,.c 30 64 [28,29],.m 27 30,.e 31 27 0,.e 32 27 1,.al 7 .zE,.st 6 7 31,.m 8 32]) (.seq (.r [.c 33 37 [],.c 34 24 [33],.k 35 .eql 34 0,.m 36 35,.gt 36 (.m 37 2),.gt 36 (.k 38 .eql 37 0),.pa 39 36 38,.m 40 39,.gt 40 (.m 41 4),.gt 40 (.k 42 .eql 41 4),.pa 43 40 42,.m 44 43,.gt 44 (.m 45 6),.gt 44 (.k 46 .eql 45 0),.pa 47 44 46,.m 48 47,.gt 48 (.m 49 8),.gt 48 (.k 50 .eql 49 0),.pa 51 48 50,.m 52 51,.gt 52 (.f 53 1 1),.gt 52 (.l 54 53),.gt 52 ⟨some 55,none,[54],.ia 3 .zG (.t 54) (.c (.int .i64 0))⟩,.gt 52 (.f 56 2 55),.gt 52 (.l 57 56),.gt 52 ⟨some 58,none,[57],.ia 3 .zC (.t 57) (.c (.int .i64 3))⟩,.gt 52 (.f 59 2 58),.gt 52 (.l 60 59),.gt 52 (.n 61 60),.gt 52 (.k 62 .eql 61 1),.pa 63 52 62,.m 64 63,.gt 64 (.f 65 1 5),.gt 64 (.l 66 65),.gt 64 (.n 67 66),.gt 64 (.k 68 .eql 67 2),.pa 69 64 68,.m 70 69,.gt 70 (.L 71 6 7),.gt 70 ⟨some 72,none,[],.build [.int .i64 0,.int .i64 0,.int .i64 0,.int .i64 0,.int .i64 0,.str []] [(0,1,.c (.int .i64 3)),(2,1,.c (.int .i64 3)),(4,1,.c (.int .i64 5))]⟩,.gt 70 ⟨some 73,none,[71,72],.bin .eql (some [0,0,0,0,0,2]) (.t 71) (.t 72)⟩,.pa 74 70 73,.m 0 74]) CC.ret)))))) Tryz.func23 (by kernel_rfl)
def w35:FW Tryz.prog 35 Tryz.f35 [.tmp 0]:=I4 _ Tryz.func35
def w41:FW Tryz.prog 41 Tryz.f41 [.tmp 2]:=I4 _ Tryz.func41
def w44:FW Tryz.prog 44 Tryz.f44 [.tmp 2]:=I4 _ Tryz.func44
def w50:FW Tryz.prog 50 Tryz.f50 [.cell 2 true 2]:=I4 _ Tryz.func50
def w57:FW Tryz.prog 57 Tryz.f57 [.tmp 4]:=I4 _ Tryz.func57
def w61:FW Tryz.prog 61 Tryz.f61 [.tmp 2]:=I4 _ Tryz.func61
def w64:FW Tryz.prog 64 Tryz.f64 [.cell 4 true 6,.tmp 5]:=I4 _ Tryz.func64
def w67:FW Tryz.prog 67 Tryz.f67 [.tmp 4]:=I4 _ Tryz.func67
def w70:FW Tryz.prog 70 Tryz.f70 [.tmp 4]:=I4 _ Tryz.func70
def w73:FW Tryz.prog 73 Tryz.f73 [.tmp 4]:=I4 _ Tryz.func73
def w79:FW Tryz.prog 79 Tryz.f79 [.tmp 6]:=I4 _ Tryz.func79
def w85:FW Tryz.prog 85 Tryz.f85 [.cell 4 true 2,.tmp 5]:=I4 _ Tryz.func85
def w100:FW Tryz.prog 100 Tryz.f100 [.tmp 2]:=I4 _ Tryz.func100
def B6k:FW Tryz.prog 104 Tryz.f104 [.tmp 3]:=I4 _ Tryz.func104
def w117:FW Tryz.prog 117 Tryz.f117 [.cell 2 true 2]:=I4 _ Tryz.func117
def w121:FW Tryz.prog 121 Tryz.f121 [.cell 6 true 5]:=I4 _ Tryz.func121
def w126:FW Tryz.prog 126 Tryz.f126 [.cell 4 true 2,.tmp 5]:=I4 _ Tryz.func126
def w129:FW Tryz.prog 129 Tryz.f129 [.tmp 6]:=I4 _ Tryz.func129
def w132:FW Tryz.prog 132 Tryz.f132 [.tmp 6,.tmp 7]:=I4 _ Tryz.func132
def w159:FW Tryz.prog 159 Tryz.f159 [.tmp 4]:=I4 _ Tryz.func159
def w168:FW Tryz.prog 168 Tryz.f168 [.tmp 4]:=I4 _ Tryz.func168
def w171:FW Tryz.prog 171 Tryz.f171 [.tmp 2]:=I4 _ Tryz.func171
def w182:FW Tryz.prog 182 Tryz.f182 [.tmp 2]:=I4 _ Tryz.func182
def w185:FW Tryz.prog 185 Tryz.f185 [.tmp 6]:=I4 _ Tryz.func185
def w188:FW Tryz.prog 188 Tryz.f188 [.cell 8 true 5]:=I4 _ Tryz.func188
def w195:FW Tryz.prog 195 Tryz.f195 [.tmp 2]:=I4 _ Tryz.func195
def w198:FW Tryz.prog 198 Tryz.f198 [.tmp 2]:=I4 _ Tryz.func198
def w233:FW Tryz.prog 233 Tryz.f233 [.tmp 2]:=I4 _ Tryz.func233
def w236:FW Tryz.prog 236 Tryz.f236 [.tmp 2]:=I4 _ Tryz.func236
def w254:FW Tryz.prog 254 Tryz.f254 [.cell 2 true 5]:=I4 _ Tryz.func254
def w261:FW Tryz.prog 261 Tryz.f261 [.tmp 2]:=I4 _ Tryz.func261
def w265:FW Tryz.prog 265 Tryz.f265 [.tmp 2]:=I4 _ Tryz.func265
def w271:FW Tryz.prog 271 Tryz.f271 [.tmp 4]:=I4 _ Tryz.func271
def w274:FW Tryz.prog 274 Tryz.f274 [.tmp 3]:=I4 _ Tryz.func274
def w297:FW Tryz.prog 297 Tryz.f297 [.cell 2 true 3,.tmp 3,.tmp 4]:=I4 _ Tryz.func297
def w301:FW Tryz.prog 301 Tryz.f301 [.tmp 4]:=I4 _ Tryz.func301
end Go.Am
namespace Go.Am
end Go.Am
namespace Go.Am
open Go Go.Proofs Go.RowKit
theorem A8S(n a b:Int)(id:Nat):A2 Tryz.prog 129 [.int .i64 n,.int .i64 a,.int .i64 b] [] id (.bool (decide (a<=n)&&decide (n<=b))) []:=by
 refine w129.e.1 fun E hP hR hl hid=>?_;simp[w129];exact yP hR
theorem w8(n:Int)(id:Nat):A2 Tryz.prog 199 [.int .i64 n] [] id (.bool (decide (-999999999<=n)&&decide (n<=999999999))) []:=by
 refine w199.e.1 fun E hP hR hl hid=>?_;simp[w199];exact yP hR
structure Ev where
 kind:Int
 type:Int
 id:Int
 field:Int
 n:Int
 text:List UInt8
def N5(e:Ev):AV:=.agg [.int .i64 e.kind,.int .i64 e.type,.int .i64 e.id,.int .i64 e.field,.int .i64 e.n,.str e.text]
def Q2(e:Ev):Int:=if ¬(1<=e.kind/\e.kind<=6) then 7 else if (e.kind=1\/e.kind=2)/\(e.field≠0\/e.n≠0)\/e.kind=4/\e.n≠0\/e.kind≠4/\e.text≠[] then 1 else 0
theorem S9(e:Ev)(id:Nat):A2 Tryz.prog 194 [N5 e] [] id (.int .i64 (Q2 e)) []:=by
 unfold N5;refine w194.e.1 fun E hP hR hl hid=>?_;simp[w194];repeat' first
  | (refine And.intro ?_ ?_)
  | (refine C9 (fun h=>?_) (fun h=>?_)<;>simp)
  | (refine yH rfl (A8S _ _ _ _) ?_; simp)
 all_goals first
  | (rw[hR]; refine H2 (by simp<;>rfl) [] trivial (X3 ?_ (by simp) (by simp)); simp; done)
  | (rw[hR]; refine H2 (by simp<;>rfl) [] trivial (X3 ?_ (by simp) (by simp)); (try simp); simp[Q2] at *; grind; done)
  | omega
  | (simp_all; done)
  | grind
def U9{α:Type}(f:α->Int):List α->Int
 | []=>0
 | x::l=>if f x≠0 then f x else U9 f l
theorem B6{α:Type}{l:List α}{i:Nat}(h:i<l.length):∃x,l[i]?=some x/\l.drop i=x::l.drop (i+1) :=
 ⟨l[i],zd h,yv h⟩
def eB(l:List UInt8):List AV:=l.map fun b=>.int .u8 b.toNat
@[simp] theorem A9G (l:List UInt8):E7 (eB l)=true:=D6 (fun _=>rfl) l
@[simp] theorem B6V (l:List UInt8):(eB l).length=l.length:=by simp[eB]
theorem A0s(a b:List UInt8):eB (a++b)=eB a++eB b:=by simp[eB]
theorem B58{l:List UInt8}{x:AV}(h:x∈eB l):∃b,x = .int .u8 (UInt8.toNat b):=by
 simp only[eB,yi] at h;obtain⟨b,_,rfl⟩:=h;exact⟨b,rfl⟩
theorem B3j(l:List UInt8):(eB l).map A4P=l:=by
 simp only[eB,xv];conv=>rhs; rw[←List.map_id l]
 refine wd fun b _=>?_;simp[A4P]
@[simp] def bxB (l:List UInt8):Bx:=⟨eB l,.int .u8 0,false,false⟩
@[simp] def bxW (c:AV) (d:AV):Bx:=⟨[.agg [c]],d,false,false⟩
def wr3(i j id:Nat)(d:AV)(l:List UInt8):List (Nat×Option Bx):=[(i,some (bxW (.bsl id 0 l.length) d)),(j,none),(id,some (bxB l))]
attribute [simp] wr3
theorem A0X{α:Type}{f:α->Int}:∀{l:List α},U9 f l=0↔∀x∈l,f x=0
 | []=>by simp[U9]
 | x::l=>by
  simp only[U9];split
  ·rename_i h; constructor
   ·intro h'; exact (h h').elim
   ·intro h'; exact (h (h' x (by simp))).elim
  ·rename_i h;rw[A0X (l:=l)];simp at h;simp[h]
def bxE(l:List Ev)(f:Bool):Bx:=⟨l.map N5,.agg [.int .i64 0,.int .i64 0,.int .i64 0,.int .i64 0,.int .i64 0,.str []],false,f⟩
attribute [simp] bxE
end Go.Am
