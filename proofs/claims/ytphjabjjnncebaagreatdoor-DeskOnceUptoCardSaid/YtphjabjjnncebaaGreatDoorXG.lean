/- Parts of the proof: an abstract machine for Go functions, and what functions of the program give back (Am57, Am58, Am59, Am60, Am61, Ck, Am62, Am63, CcA1, CcA2, CcA3, CcA4, CcB, CcD, Bt1, Bt2, Bt3, Bt4, Bt5, Bt6, Bt7). No condition. -/
import Derived.Test.YtphjabjjnncebaaGreatDoorXF
import Derived.KernelRfl
import Derived.Test.YtphjabjjnncebaaGreatDoorXE
import Derived.Test.YtphjabjjnncebaaGreatDoorProg
set_option maxRecDepth 100000
set_option linter.all false
set_option maxHeartbeats 4000000
namespace Go.Am
open Go Go.RowKit
section
variable {E:R4} {σ:St} {k:List Itm} {P:Program}
end
section
variable {E:R4} {σ:St} {k:List Itm} {P:Program}
theorem yC{dst:Option Nat}{us:List Nat}{f:Nat}{xs:List L3}{l:List CR}{j:Nat}{acc:List RR}{ps:List (Nat×Nat)}{args:List AV}{rd:List (Nat×Bx)}{v:AV}{wr:List (Nat×Option Bx)}
  (ha:xs.map (M3 (lk σ.fr))=args) (hc:A2 P f args rd (E.n0+(σ.k+1024*j)) v wr) (h:A25 (lk σ.fr) us/\l9 (bk σ.bx) rd/\go E 4000 (.ops l (j+1) (A1M ps ⟨true,v,rd,wr⟩ acc) ps::k) (σ.app dst ⟨true,v,rd,wr⟩)) (hP:E.P=P:=by assumption) :
  Wk E (.ops (⟨dst,none,us,.call f xs⟩::l) j acc ps::k) σ:=D8 hP ha hc h.1 h.2.1 (A3 4000 h.2.2)
theorem yH{dst:Option Nat}{us:List Nat}{f:Nat}{xs:List L3}{l:List CR}{j:Nat}{acc:List RR}{ps:List (Nat×Nat)}{args:List AV}{rd:List (Nat×Bx)}{v:AV}{wr:List (Nat×Option Bx)}
  (ha:xs.map (M3 (lk σ.fr))=args) (hc:A2 P f args rd (E.n0+(σ.k+1024*j)) v wr) (h:go E 4000 (.ops l (j+1) (A1M ps ⟨true,v,rd,wr⟩ acc) ps::k) (σ.app dst ⟨true,v,rd,wr⟩)) (hu:A25 (lk σ.fr) us:=by simp) (hh:l9 (bk σ.bx) rd:=by simp<;>rfl) (hP:E.P=P:=by assumption) :
  Wk E (.ops (⟨dst,none,us,.call f xs⟩::l) j acc ps::k) σ:=D8 hP ha hc hu hh (A3 4000 h)
theorem yG{dst:Option Nat}{g:Option (Nat×Bool)}{us:List Nat}{f:Nat}{xs:List L3}{l:List CR}{j:Nat}{acc:List RR}{ps:List (Nat×Nat)}{args:List AV}{rd:List (Nat×Bx)}{v:AV}
  (ha:xs.map (M3 (lk σ.fr))=args) (hc:A2 P f args rd (E.n0+(σ.k+1024*j)) v []) (h:go E 4000 (.ops l (j+1) (A1M ps ⟨Y6 (lk σ.fr) g,v,rd,[]⟩ acc) ps::k) (σ.app dst ⟨Y6 (lk σ.fr) g,v,rd,[]⟩))
  (hg:A2z (lk σ.fr) g:=by simp) (hu:Y6 (lk σ.fr) g=true->A25 (lk σ.fr) us:=by intro hc; revert hc; simp; try grind) (hh:l9 (bk σ.bx) rd:=by simp) (hP:E.P=P:=by assumption) :
  Wk E (.ops (⟨dst,g,us,.call f xs⟩::l) j acc ps::k) σ:=I3 hP hg ha (fun hq=>⟨hc,hu hq,hh⟩) (A3 4000 h)
theorem yP{n0 id:Nat}{S:Nat->Prop}{crs:List x2}{res:AV}{vs:List AV}(hR:E.Rt=A22 n0 id S crs [] res [])(h:A6E (lk σ.fr) (bk σ.bx) crs vs:=by simp<;>rfl)(h1:tupOf vs=res:=by simp)(h2:res.pureB=true:=by simp)(h3:I9 n0 [] σ.bx:=by simp):E.Rt σ:=by
 rw[hR]; exact E8 h [] trivial (S6 h1 h2 h3)
theorem yE{n0 id:Nat}{S:Nat->Prop}{crs:List x2}{rd:List (Nat×Bx)}{res:AV}{wr:List (Nat×Option Bx)}{vs:List AV}(hR:E.Rt=A22 n0 id S crs rd res wr)(rn:List (Nat×Nat))(hrn:H5 rn)(he:∀hrn:H5 rn,B0e n0 id S rd res wr vs σ.bx rn hrn)(h:A6E (lk σ.fr) (bk σ.bx) crs vs:=by simp<;>rfl):E.Rt σ:=by
 rw[hR]; exact E8 h rn hrn (he hrn)
end
theorem yV{E:R4}{σ σ':St}(l:List (Nat×Nat))(hl:H5 l)(h:∀hl:H5 l,A6D E.n0 (E.n0+σ'.k) l/\B2D (Q0 E.n0 l hl) E.G0.used σ.fr σ'.fr/\A6d (Q0 E.n0 l hl) E.G0.used σ.bx σ'.bx/\I9 E.n0 σ'.bx σ.bx/\A34 E.n0 σ'.bx l):E4 E σ σ' :=
 let ⟨h1,h2,h3,h4,h5⟩:=h hl; E4.sub l hl h1 h2 h3 h4 h5
theorem yO{E:R4}{id:Nat}(hu:∀z,E.G0.used z->z<id\/id+1024<=z){n:Nat}{rn:List (Nat×Nat)}{hrn:H5 rn}{l:List AV}(h:∀x∈l,B4 E.G0.used x)(hk:∀z,z<E.n0->(z<id\/id+1024<=z)->lkN rn z=none:=by first|(intro z h1 h2; (try simp[lkN]); (try omega); done)|(intro z h1 h2; rfl)):N8 (Q0 n rn hrn) E.G0.used l l:=j0 hu hk h
section
variable {n0 id i:Nat} {a b c d e f:Nat×Bx} {r:List (Nat×Bx)} {x:Bx}
end
structure FeH(P:Program)(f:Nat)(cc:CC)(crs:List x2)(N:Nat):Prop where
 a:∀{args:List AV} {rd:List (Nat×Bx)} {id:Nat} {res:AV} {wr:List (Nat×Option Bx)}
  (h:∀E:R4,E.P=P->E.Rt=A22 E.n0 id E.G0.used crs rd res wr->(∀q∈rd,q.1<E.n0/\(q.1<id\/id+1024<=q.1))->id+1024<=E.n0->go E 4000 [.code cc] ⟨A24 0 args,C9 rd,0⟩) (hN:args.length<=N:=by exact tp rfl),A2 P f args rd id res wr
structure FbH(P:Program)(f:Nat)(cc:CC)(crs:List x2)(N:Nat):Prop where
 a:∀{args:List AV} {rd:List (Nat×Bx)} {id:Nat} {res:AV} {wr:List (Nat×Option Bx)}
  (h:∀E:R4,E.P=P->E.Rt=A22 E.n0 id E.G0.used crs rd res wr->(∀q∈rd,q.1<E.n0/\(q.1<id\/id+1024<=q.1))->id+1024<=E.n0->K5 E.β rd->(∀z,E.G0.used z->z<id\/id+1024<=z)->go E 4000 [.code cc] ⟨A24 0 args,C9 rd,0⟩) (hN:args.length<=N:=by exact tp rfl),A2 P f args rd id res wr
structure FxH(P:Program)(f:Nat)(cc:CC)(crs:List x2)(N:Nat):Prop where
 a:∀{args:List AV} {rd:List (Nat×Bx)} {id:Nat} {o:Except AV (AV×List (Nat×Option Bx))}
  (h:∀E:R4,E.P=P->(∀v wr σ,o = .ok (v,wr)->A22 E.n0 id E.G0.used crs rd v wr σ->E.Rt σ)->(∀pv σ,o = .error pv->pv.pureB=true->I9 E.n0 (C9 rd) σ.bx->E.Pn pv σ)->(∀q∈rd,q.1<E.n0/\(q.1<id\/id+1024<=q.1))->id+1024<=E.n0->K5 E.β rd->(∀z,E.G0.used z->z<id\/id+1024<=z)->go E 4000 [.code cc] ⟨A24 0 args,C9 rd,0⟩) (hN:args.length<=N:=by exact tp rfl),Y5 P f args rd id o
section
variable {P : Program} {f : Nat} {fn : Func} {cc : CC} {crs : List x2} (hf : P.funcs[f]? = some fn) (hcc : fn.body.map (D3 P fn.ntmps) = some cc) (hrs : O6 P fn.results.toList = some crs) (hnm : (fn.name == "runtime.NumGoroutine") = false)
include hf hcc hrs hnm
theorem C4z:FeH P f cc crs fn.ntmps:=⟨fun h hN=>A5W hf hcc hnm hrs hN fun E h1 h2 h3 h4=>A3 4000 (h E h1 h2 h3 h4)⟩
theorem C50:FbH P f cc crs fn.ntmps:=⟨fun h hN=>C3Y hf hcc hnm hrs hN fun E h1 h2 h3 h4 h5 h6=>A3 4000 (h E h1 h2 h3 h4 h5 h6)⟩
theorem C51:FxH P f cc crs fn.ntmps:=⟨fun h hN=>A38 hf hcc hnm hrs hN fun E h1 h2 h3 h4 h5 h6 h7=>A3 4000 (h E h1 h2 h3 h4 h5 h6 h7)⟩
end
def CR.m(d x:Nat):CR:=⟨some d,none,[x],.mv (.t x)⟩
def CR.i(d:Nat)(n:Int):CR:=⟨some d,none,[],.mv (.c (.int .i64 n))⟩
def CR.v(d:Nat)(a:AV):CR:=⟨some d,none,[],.mv (.c a)⟩
def CR.l(d x:Nat):CR:=⟨some d,none,[x],.ld false 1 (.t x)⟩
def CR.L(d n x:Nat):CR:=⟨some d,none,[x],.ld true n (.t x)⟩
def CR.f(d k x:Nat):CR:=⟨some d,none,[x],.fa k (.t x)⟩
def CR.e(d x i:Nat):CR:=⟨some d,none,[x],.ext (.t x) i⟩
def CR.n(d x:Nat):CR:=⟨some d,none,[x],.len false (.t x)⟩
def CR.ns(d x:Nat):CR:=⟨some d,none,[x],.len true (.t x)⟩
def CR.b(d:Nat)(o:BinOp)(x y:Nat):CR:=⟨some d,none,[x,y],.bin o none (.t x) (.t y)⟩
def CR.k(d:Nat)(o:BinOp)(x:Nat)(n:Int):CR:=⟨some d,none,[x],.bin o none (.t x) (.c (.int .i64 n))⟩
def CR.j(d:Nat)(o:BinOp)(x:Nat)(a:AV):CR:=⟨some d,none,[x],.bin o none (.t x) (.c a)⟩
def CR.c(d f:Nat)(xs:List Nat):CR:=⟨some d,none,xs,.call f (xs.map L3.t)⟩
def CR.pa(d a b:Nat):CR:=⟨some d,none,[a,b],.pick (.t a) (.t b) (.c (.bool false))⟩
def CR.po(d a b:Nat):CR:=⟨some d,none,[a,b],.pick (.t a) (.c (.bool true)) (.t b)⟩
def CR.ck(d x:Nat):CR:=⟨some d,none,[x],.chk (.t x)⟩
def CR.bx(d x:Nat):CR:=⟨some d,none,[x],.box (.t x)⟩
def CR.al(d:Nat)(z:AV):CR:=⟨some d,none,[],.alloc z⟩
def CR.no(d x:Nat):CR:=⟨some d,none,[x],.un .not (.t x)⟩
def CR.ia(d s:Nat)(z:AV)(x y:Nat):CR:=⟨some d,none,[x,y],.ia s z (.t x) (.t y)⟩
def CR.st(n x y:Nat):CR:=⟨none,none,[x,y],.st n (.t x) (.t y)⟩
def CR.si(n x:Nat)(v:Int):CR:=⟨none,none,[x],.st n (.t x) (.c (.int .i64 v))⟩
def CR.gt(s:Nat)(c:CR):CR:=⟨c.dst,some (s,true),c.us,c.op⟩
def CR.gf(s:Nat)(c:CR):CR:=⟨c.dst,some (s,false),c.us,c.op⟩
def CC.r(l:List CR):CC:=.reg false l []
def CC.d(l:List CR)(p:List (Nat×Nat)):CC:=.reg true l p
def pr:List (Nat×List Nat)->List (Nat×Nat)
 | []=>[]
 | (b,l)::r=>l.map (fun a=>(a,b))++pr r
def AV.zE:AV:=.agg [.int .i64 0,.int .i64 0,.int .i64 0,.int .i64 0,.int .i64 0,.str []]
def AV.zG:AV:=.agg [.int .i64 0,.int .i64 0,.nils]
def AV.zC:AV:=.agg [.int .i64 0,.str [],.nils]
def AV.zY:AV:=.agg [.str [],.nils]
def AV.zF:AV:=.agg [.str [],.int .i64 0,.str []]
def AV.zS:AV:=.agg [.nils,.nils]
def AV.zQ:AV:=.agg [.str [],.str [],.nils,.nils]
def AV.zA:AV:=.agg [.str [],.bool false,.str [],.int .i64 0]
attribute [simp] CR.m CR.i CR.v CR.l CR.L CR.f CR.e CR.n CR.ns CR.b CR.k CR.j CR.c CR.pa CR.po CR.ck CR.bx CR.al CR.no CR.ia CR.st CR.si CR.gt CR.gf CC.r CC.d pr AV.zE AV.zG AV.zC AV.zY AV.zF AV.zS AV.zQ AV.zA
end Go.Am
namespace Go.Am
open Go Go.Proofs Go.RowKit
theorem u8l(n:Nat)(h:n<2 ^ 8):UInt8.ofBitVec (BitVec.ofFin ⟨n,h⟩)=UInt8.ofNat n:=by
 rw[UInt8.ofNat]; congr 1; apply BitVec.eq_of_toNat_eq; simp[BitVec.ofNat]; omega
structure FW(P:Program)(f:Nat)(fn:Func)(crs:List x2)where
 c:CC
 hc:fn.body.map (D3 P fn.ntmps)=some c
 hr:O6 P fn.results.toList=some crs
 hf:P.funcs[f]?=some fn
 hn : (fn.name == "runtime.NumGoroutine") = false
def F8{f:Nat}{fn:Func}{crs:List x2}(c:CC)(hf:Tryz.prog.funcs[f]?=some fn)(hc:fn.body.map (D3 Tryz.prog fn.ntmps)=some c:=by conv=>lhs; reduce; simp only[u8l,Int.ofNat_eq_natCast,Int.cast_ofNat_Int,UInt8.reduceOfNat,Int.reduceNegSucc])
  (hr : O6 Tryz.prog fn.results.toList = some crs := by kernel_rfl) (hn : (fn.name == "runtime.NumGoroutine") = false := by decide) : FW Tryz.prog f fn crs := ⟨c, hc, hr, hf, hn⟩
attribute [simp] F8
section
variable {P:Program} {f:Nat} {fn:Func} {crs:List x2} (w:FW P f fn crs)
theorem FW.e:FeH P f w.c crs fn.ntmps:=C4z w.hf w.hc w.hr w.hn
theorem FW.b:FbH P f w.c crs fn.ntmps:=C50 w.hf w.hc w.hr w.hn
theorem FW.x:FxH P f w.c crs fn.ntmps:=C51 w.hf w.hc w.hr w.hn
end
end Go.Am
namespace Go.Am
theorem A39{id n0:Nat}(h:id+1024<=n0):(id+1<n0)=True:=by simp; omega
theorem A1S{id n0:Nat}(h:id+1024<=n0)(t:Nat):(id+1=n0+t)=False:=by simp; omega
theorem A0J{id n0:Nat}(h:id+1024<=n0)(t:Nat):(n0+t=id+1)=False:=by simp; omega
theorem A0K{id n0:Nat}(h:id+1024<=n0):(id+1=n0)=False:=by simp; omega
theorem o6{id n0:Nat}(h:id+1024<=n0):(n0=id+1)=False:=by simp; omega
theorem A5a{i id:Nat}(h:i<id\/id+1024<=i):(i=id+1)=False:=by simp; omega
theorem A3m{i id:Nat}(h:i<id\/id+1024<=i):(id+1=i)=False:=by simp; omega
end Go.Am
namespace Go.Am
open Go Go.Proofs Go.RowKit
def w3:FW Tryz.prog 3 Tryz.f3 [.tmp 10]:=F8 _ Tryz.func3
def w6:FW Tryz.prog 6 Tryz.f6 [.tmp 10]:=F8 _ Tryz.func6
def w9:FW Tryz.prog 9 Tryz.f9 [.tmp 0]:=F8 _ Tryz.func9
def w12:FW Tryz.prog 12 Tryz.f12 [.tmp 0]:=F8 _ Tryz.func12
def w15:FW Tryz.prog 15 Tryz.f15 [.cell 8 true 2,.tmp 9]:=F8 _ Tryz.func15
def w18:FW Tryz.prog 18 Tryz.f18 [.tmp 4]:=F8 _ Tryz.func18
def w24:FW Tryz.prog 24 Tryz.f24 [.tmp 2]:=F8 _ Tryz.func24
def w30:FW Tryz.prog 30 Tryz.f30 [.tmp 4]:=F8 _ Tryz.func30
def w33:FW Tryz.prog 33 Tryz.f33 [.cell 4 true 2,.tmp 5]:=F8 _ Tryz.func33
def w36:FW Tryz.prog 36 Tryz.f36 [.tmp 4,.tmp 5]:=F8 _ Tryz.func36
def w39:FW Tryz.prog 39 Tryz.f39 [.tmp 2,.tmp 3]:=F8 _ Tryz.func39
def w48:FW Tryz.prog 48 Tryz.f48 [.tmp 4]:=F8 _ Tryz.func48
def w51:FW Tryz.prog 51 Tryz.f51 [.cell 8 true 2,.tmp 9]:=F8 _ Tryz.func51
def w55:FW Tryz.prog 55 Tryz.f55 [.cell 4 true 2,.tmp 5]:=F8 _ Tryz.func55
def w58:FW Tryz.prog 58 Tryz.f58 [.cell 4 true 2,.tmp 5]:=F8 _ Tryz.func58
def w65:FW Tryz.prog 65 Tryz.f65 [.tmp 2]:=F8 _ Tryz.func65
def w68:FW Tryz.prog 68 Tryz.f68 [.tmp 5]:=F8 _ Tryz.func68
def w71:FW Tryz.prog 71 Tryz.f71 [.tmp 6,.tmp 7]:=F8 _ Tryz.func71
def w89:FW Tryz.prog 89 Tryz.f89 [.tmp 2,.cell 3 true 2,.tmp 4]:=F8 _ Tryz.func89
def w92:FW Tryz.prog 92 Tryz.f92 [.tmp 2]:=F8 _ Tryz.func92
def w95:FW Tryz.prog 95 Tryz.f95 [.tmp 4,.tmp 5]:=F8 _ Tryz.func95
def w105:FW Tryz.prog 105 Tryz.f105 [.tmp 6]:=F8 _ Tryz.func105
def w108:FW Tryz.prog 108 Tryz.f108 [.tmp 2,.tmp 3]:=F8 _ Tryz.func108
def w112:FW Tryz.prog 112 Tryz.f112 []:=F8 _ Tryz.func112
def w115:FW Tryz.prog 115 Tryz.f115 [.tmp 4]:=F8 _ Tryz.func115
def w118:FW Tryz.prog 118 Tryz.f118 [.tmp 4]:=F8 _ Tryz.func118
def w122:FW Tryz.prog 122 Tryz.f122 [.cell 4 true 5]:=F8 _ Tryz.func122
def w127:FW Tryz.prog 127 Tryz.f127 [.cell 4 true 6,.tmp 5]:=F8 _ Tryz.func127
def w130:FW Tryz.prog 130 Tryz.f130 [.tmp 4]:=F8 _ Tryz.func130
def w133:FW Tryz.prog 133 Tryz.f133 [.tmp 4]:=F8 _ Tryz.func133
def w151:FW Tryz.prog 151 Tryz.f151 [.tmp 2]:=F8 _ Tryz.func151
def w154:FW Tryz.prog 154 Tryz.f154 [.tmp 2]:=F8 _ Tryz.func154
def w157:FW Tryz.prog 157 Tryz.f157 [.tmp 2]:=F8 _ Tryz.func157
def w160:FW Tryz.prog 160 Tryz.f160 [.tmp 2]:=F8 _ Tryz.func160
def C6L:FW Tryz.prog 163 Tryz.f163 [.cell 2 true 3]:=F8 _ Tryz.func163
def w166:FW Tryz.prog 166 Tryz.f166 [.tmp 2]:=F8 _ Tryz.func166
def w169:FW Tryz.prog 169 Tryz.f169 [.tmp 3]:=F8 _ Tryz.func169
def w177:FW Tryz.prog 177 Tryz.f177 [.tmp 4]:=F8 _ Tryz.func177
def w180:FW Tryz.prog 180 Tryz.f180 []:=F8 _ Tryz.func180
def w183:FW Tryz.prog 183 Tryz.f183 [.tmp 2]:=F8 _ Tryz.func183
def w186:FW Tryz.prog 186 Tryz.f186 [.cell 4 true 5]:=F8 _ Tryz.func186
def w189:FW Tryz.prog 189 Tryz.f189 [.cell 8 true 5]:=F8 _ Tryz.func189
def w196:FW Tryz.prog 196 Tryz.f196 [.tmp 2]:=F8 _ Tryz.func196
def w199:FW Tryz.prog 199 Tryz.f199 [.tmp 2]:=F8 _ Tryz.func199
def C6M:FW Tryz.prog 202 Tryz.f202 [.cell 2 true 2,.tmp 3,.tmp 4]:=F8 _ Tryz.func202
def w220:FW Tryz.prog 220 Tryz.f220 [.tmp 2]:=F8 _ Tryz.func220
def w223:FW Tryz.prog 223 Tryz.f223 [.cell 2 true 2,.tmp 3,.tmp 4]:=F8 _ Tryz.func223
def w226:FW Tryz.prog 226 Tryz.f226 [.tmp 4]:=F8 _ Tryz.func226
def w229:FW Tryz.prog 229 Tryz.f229 [.tmp 4]:=F8 _ Tryz.func229
def w234:FW Tryz.prog 234 Tryz.f234 [.tmp 4]:=F8 _ Tryz.func234
def w237:FW Tryz.prog 237 Tryz.f237 [.tmp 4]:=F8 _ Tryz.func237
def w249:FW Tryz.prog 249 Tryz.f249 [.cell 2 true 3]:=F8 _ Tryz.func249
def w252:FW Tryz.prog 252 Tryz.f252 [.tmp 2]:=F8 _ Tryz.func252
def w255:FW Tryz.prog 255 Tryz.f255 [.cell 4 true 5]:=F8 _ Tryz.func255
def w263:FW Tryz.prog 263 Tryz.f263 [.tmp 2]:=F8 _ Tryz.func263
def w269:FW Tryz.prog 269 Tryz.f269 [.tmp 4]:=F8 _ Tryz.func269
def w272:FW Tryz.prog 272 Tryz.f272 [.tmp 3]:=F8 _ Tryz.func272
def w283:FW Tryz.prog 283 Tryz.f283 [.tmp 2]:=F8 _ Tryz.func283
def w286:FW Tryz.prog 286 Tryz.f286 [.cell 2 true 3]:=F8 _ Tryz.func286
def w298:FW Tryz.prog 298 Tryz.f298 [.tmp 6]:=F8 _ Tryz.func298
def w316:FW Tryz.prog 316 Tryz.f316 [.tmp 4]:=F8 _ Tryz.func316
def w317:FW Tryz.prog 317 Tryz.f317 [.tmp 2]:=F8 _ Tryz.func317
def w4:FW Tryz.prog 4 Tryz.f4 [.tmp 6]:=F8 _ Tryz.func4
def w7:FW Tryz.prog 7 Tryz.f7 [.tmp 14]:=F8 _ Tryz.func7
def w10:FW Tryz.prog 10 Tryz.f10 [.tmp 0]:=F8 _ Tryz.func10
def w13:FW Tryz.prog 13 Tryz.f13 [.tmp 0]:=F8 _ Tryz.func13
def w16:FW Tryz.prog 16 Tryz.f16 [.tmp 2,.tmp 3]:=F8 _ Tryz.func16
def w19:FW Tryz.prog 19 Tryz.f19 [.tmp 4]:=F8 (.seq (.r [.v 4 (.bool false)]) (.seq (.seq (.r [.m 6 0,.n 7 6,.m 8 1,.n 9 8,.b 10 .neq 7 9]) (.cond (.t 10) (.seq (.r [.v 4 (.bool false)]) CC.ret) CC.skip)) (.seq (.seq (.r [.i 5 0]) (.block 0 (.loop (.seq (.seq (.r [.m 11 5,.m 12 0,.n 13 12,.b 14 .lss 11 13]) (.cond (.t 14) CC.skip (.exit 0))) (.seq (.block 1 (.seq (.d [.m 17 0,.m 18 5,.ia 19 6 .zE 17 18,.L 20 6 19,.m 21 1,.m 22 5,.ia 23 6 .zE 21 22,.L 24 6 23,⟨some 25,none,[20,24],.bin .neq (some [0,0,0,0,0,2]) (.t 20) (.t 24)⟩] []) (.cond (.t 25) (.seq (.r [.v 4 (.bool false)]) CC.ret) CC.skip))) (.r [.m 15 5,.k 16 .add 15 1,.m 5 16])))))) (.seq (.r [.v 4 (.bool true)]) CC.ret)))) Tryz.func19 (by kernel_rfl)
def w34:FW Tryz.prog 34 Tryz.f34 [.tmp 4]:=F8 _ Tryz.func34
def w37:FW Tryz.prog 37 Tryz.f37 [.cell 0 true 2]:=F8 _ Tryz.func37
def w46:FW Tryz.prog 46 Tryz.f46 [.tmp 4,.tmp 5]:=F8 _ Tryz.func46
def w49:FW Tryz.prog 49 Tryz.f49 [.tmp 3]:=F8 _ Tryz.func49
def w53:FW Tryz.prog 53 Tryz.f53 []:=F8 _ Tryz.func53
def w59:FW Tryz.prog 59 Tryz.f59 [.tmp 4]:=F8 _ Tryz.func59
def w63:FW Tryz.prog 63 Tryz.f63 [.cell 4 true 2,.tmp 5]:=F8 _ Tryz.func63
def w66:FW Tryz.prog 66 Tryz.f66 [.tmp 4]:=F8 _ Tryz.func66
def w69:FW Tryz.prog 69 Tryz.f69 [.tmp 4]:=F8 _ Tryz.func69
def w72:FW Tryz.prog 72 Tryz.f72 [.tmp 4]:=F8 _ Tryz.func72
def w75:FW Tryz.prog 75 Tryz.f75 [.tmp 2]:=F8 _ Tryz.func75
def w87:FW Tryz.prog 87 Tryz.f87 [.cell 4 true 2,.tmp 5]:=F8 _ Tryz.func87
def w90:FW Tryz.prog 90 Tryz.f90 [.cell 2 true 2,.tmp 3]:=F8 _ Tryz.func90
def w93:FW Tryz.prog 93 Tryz.f93 []:=F8 _ Tryz.func93
def w99:FW Tryz.prog 99 Tryz.f99 [.tmp 4,.tmp 5]:=F8 _ Tryz.func99
def w106:FW Tryz.prog 106 Tryz.f106 [.tmp 4]:=F8 _ Tryz.func106
def w110:FW Tryz.prog 110 Tryz.f110 []:=F8 _ Tryz.func110
def w113:FW Tryz.prog 113 Tryz.f113 []:=F8 _ Tryz.func113
def w116:FW Tryz.prog 116 Tryz.f116 [.cell 4 true 2,.tmp 5]:=F8 _ Tryz.func116
def w119:FW Tryz.prog 119 Tryz.f119 [.cell 6 true 2,.tmp 7]:=F8 _ Tryz.func119
def w124:FW Tryz.prog 124 Tryz.f124 [.tmp 2]:=F8 _ Tryz.func124
def w128:FW Tryz.prog 128 Tryz.f128 [.tmp 4]:=F8 _ Tryz.func128
def w131:FW Tryz.prog 131 Tryz.f131 [.tmp 4]:=F8 _ Tryz.func131
def w134:FW Tryz.prog 134 Tryz.f134 [.tmp 3]:=F8 _ Tryz.func134
def w152:FW Tryz.prog 152 Tryz.f152 [.tmp 2]:=F8 _ Tryz.func152
def w155:FW Tryz.prog 155 Tryz.f155 [.tmp 2]:=F8 _ Tryz.func155
def w158:FW Tryz.prog 158 Tryz.f158 [.tmp 2,.tmp 3,.tmp 4]:=F8 _ Tryz.func158
def w161:FW Tryz.prog 161 Tryz.f161 [.cell 2 true 6,.tmp 3]:=F8 _ Tryz.func161
def w167:FW Tryz.prog 167 Tryz.f167 [.tmp 2]:=F8 _ Tryz.func167
def w170:FW Tryz.prog 170 Tryz.f170 [.tmp 2]:=F8 _ Tryz.func170
def w178:FW Tryz.prog 178 Tryz.f178 [.tmp 4]:=F8 _ Tryz.func178
def w181:FW Tryz.prog 181 Tryz.f181 [.cell 2 true 4]:=F8 _ Tryz.func181
def w184:FW Tryz.prog 184 Tryz.f184 [.tmp 10]:=F8 _ Tryz.func184
def w187:FW Tryz.prog 187 Tryz.f187 [.tmp 2,.tmp 3]:=F8 _ Tryz.func187
def w194:FW Tryz.prog 194 Tryz.f194 [.tmp 2]:=F8 _ Tryz.func194
def w197:FW Tryz.prog 197 Tryz.f197 [.tmp 6]:=F8 _ Tryz.func197
def w218:FW Tryz.prog 218 Tryz.f218 [.tmp 2]:=F8 _ Tryz.func218
def w221:FW Tryz.prog 221 Tryz.f221 []:=F8 _ Tryz.func221
def w224:FW Tryz.prog 224 Tryz.f224 [.tmp 4]:=F8 _ Tryz.func224
def w227:FW Tryz.prog 227 Tryz.f227 [.tmp 2]:=F8 _ Tryz.func227
def w232:FW Tryz.prog 232 Tryz.f232 [.tmp 2]:=F8 _ Tryz.func232
def w235:FW Tryz.prog 235 Tryz.f235 [.tmp 3]:=F8 _ Tryz.func235
def w250:FW Tryz.prog 250 Tryz.f250 []:=F8 _ Tryz.func250
def w253:FW Tryz.prog 253 Tryz.f253 [.tmp 6]:=F8 _ Tryz.func253
def w256:FW Tryz.prog 256 Tryz.f256 [.cell 6 true 5]:=F8 _ Tryz.func256
def w264:FW Tryz.prog 264 Tryz.f264 [.tmp 4]:=F8 _ Tryz.func264
def w270:FW Tryz.prog 270 Tryz.f270 [.cell 2 true 6]:=F8 _ Tryz.func270
def w273:FW Tryz.prog 273 Tryz.f273 [.tmp 4]:=F8 _ Tryz.func273
def w281:FW Tryz.prog 281 Tryz.f281 [.tmp 4]:=F8 _ Tryz.func281
def w284:FW Tryz.prog 284 Tryz.f284 [.tmp 2]:=F8 _ Tryz.func284
def w296:FW Tryz.prog 296 Tryz.f296 [.tmp 5]:=F8 _ Tryz.func296
def w299:FW Tryz.prog 299 Tryz.f299 [.tmp 4,.tmp 5]:=F8 _ Tryz.func299
def w335:FW Tryz.prog 335 Tryz.f335 [.tmp 2]:=F8 _ Tryz.func335
def w5:FW Tryz.prog 5 Tryz.f5 [.tmp 4]:=F8 _ Tryz.func5
def w8:FW Tryz.prog 8 Tryz.f8 [.tmp 10]:=F8 _ Tryz.func8
def w11:FW Tryz.prog 11 Tryz.f11 [.tmp 0]:=F8 _ Tryz.func11
def w14:FW Tryz.prog 14 Tryz.f14 [.cell 4 true 2,.tmp 5,.tmp 6]:=F8 _ Tryz.func14
def w17:FW Tryz.prog 17 Tryz.f17 [.cell 4 true 2,.tmp 5,.tmp 6]:=F8 _ Tryz.func17
def w20:FW Tryz.prog 20 Tryz.f20 [.tmp 8,.tmp 9]:=F8 _ Tryz.func20
def w23:FW Tryz.prog 23 Tryz.f23 [.tmp 0]:=F8 (.seq (.r [.v 0 (.bool false)]) (.seq (.r [.c 10 37 [],⟨some 11,none,[],.build [.int .i64 0,.int .i64 0,.int .i64 0,.int .i64 0,.int .i64 0,.str []] [(0,1,.c (.int .i64 6)),(2,1,.c (.int .i64 3)),(3,1,.c (.int .i64 3)),(4,1,.c (.int .i64 4))]⟩,.c 12 63 [10,11],.m 9 12,.e 13 9 0,.e 14 9 1,.al 1 .zS,.st 2 1 13,.m 2 14]) (.seq (.r [.c 16 37 [],⟨some 17,none,[],.build [.int .i64 0,.int .i64 0,.int .i64 0,.int .i64 0,.int .i64 0,.str []] [(0,1,.c (.int .i64 2)),(2,1,.c (.int .i64 4))]⟩,.c 18 63 [16,17],.m 15 18,.e 19 15 0,.e 20 15 1,.al 3 .zS,.st 2 3 19,.m 4 20]) (.seq (.r [.L 22 2 1,⟨some 23,none,[],.build [.int .i64 0,.int .i64 0,.int .i64 0,.int .i64 0,.int .i64 0,.str []] [(0,1,.c (.int .i64 2)),(2,1,.c (.int .i64 4))]⟩,.c 24 63 [22,23],.m 21 24,.e 25 21 0,.e 26 21 1,.al 5 .zS,.st 2 5 25,.m 6 26]) (.seq (.r [.c 28 37 [],⟨some 29,none,[],.build [.int .i64 0,.int .i64 0,.int .i64 0,.int .i64 0,.int .i64 0,.str []] [(0,1,.c (.int .i64 3)),(2,1,.c (.int .i64 3)),(4,1,.c (.int .i64 9))]⟩,.c 30 64 [28,29],.m 27 30,.e 31 27 0,.e 32 27 1,.al 7 .zE,.st 6 7 31,.m 8 32]) (.seq (.r [.c 33 37 [],.c 34 24 [33],.k 35 .eql 34 0,.m 36 35,.gt 36 (.m 37 2),.gt 36 (.k 38 .eql 37 0),.pa 39 36 38,.m 40 39,.gt 40 (.m 41 4),.gt 40 (.k 42 .eql 41 4),.pa 43 40 42,.m 44 43,.gt 44 (.m 45 6),.gt 44 (.k 46 .eql 45 0),.pa 47 44 46,.m 48 47,.gt 48 (.m 49 8),.gt 48 (.k 50 .eql 49 0),.pa 51 48 50,.m 52 51,.gt 52 (.f 53 1 1),.gt 52 (.l 54 53),.gt 52 ⟨some 55,none,[54],.ia 3 .zG (.t 54) (.c (.int .i64 0))⟩,.gt 52 (.f 56 2 55),.gt 52 (.l 57 56),.gt 52 ⟨some 58,none,[57],.ia 3 .zC (.t 57) (.c (.int .i64 3))⟩,.gt 52 (.f 59 2 58),.gt 52 (.l 60 59),.gt 52 (.n 61 60),.gt 52 (.k 62 .eql 61 1),.pa 63 52 62,.m 64 63,.gt 64 (.f 65 1 5),.gt 64 (.l 66 65),.gt 64 (.n 67 66),.gt 64 (.k 68 .eql 67 2),.pa 69 64 68,.m 70 69,.gt 70 (.L 71 6 7),.gt 70 ⟨some 72,none,[],.build [.int .i64 0,.int .i64 0,.int .i64 0,.int .i64 0,.int .i64 0,.str []] [(0,1,.c (.int .i64 3)),(2,1,.c (.int .i64 3)),(4,1,.c (.int .i64 5))]⟩,.gt 70 ⟨some 73,none,[71,72],.bin .eql (some [0,0,0,0,0,2]) (.t 71) (.t 72)⟩,.pa 74 70 73,.m 0 74]) CC.ret)))))) Tryz.func23 (by kernel_rfl)
def w35:FW Tryz.prog 35 Tryz.f35 [.tmp 0]:=F8 _ Tryz.func35
def w41:FW Tryz.prog 41 Tryz.f41 [.tmp 2]:=F8 _ Tryz.func41
def w47:FW Tryz.prog 47 Tryz.f47 [.tmp 2]:=F8 _ Tryz.func47
def w50:FW Tryz.prog 50 Tryz.f50 [.cell 2 true 2]:=F8 _ Tryz.func50
def w54:FW Tryz.prog 54 Tryz.f54 [.tmp 2]:=F8 _ Tryz.func54
def w57:FW Tryz.prog 57 Tryz.f57 [.tmp 4]:=F8 _ Tryz.func57
def w61:FW Tryz.prog 61 Tryz.f61 [.tmp 2]:=F8 _ Tryz.func61
def w64:FW Tryz.prog 64 Tryz.f64 [.cell 4 true 6,.tmp 5]:=F8 _ Tryz.func64
def w67:FW Tryz.prog 67 Tryz.f67 [.tmp 4]:=F8 _ Tryz.func67
def w70:FW Tryz.prog 70 Tryz.f70 [.tmp 4]:=F8 _ Tryz.func70
def w73:FW Tryz.prog 73 Tryz.f73 [.tmp 4]:=F8 _ Tryz.func73
def w79:FW Tryz.prog 79 Tryz.f79 [.tmp 6]:=F8 _ Tryz.func79
def w85:FW Tryz.prog 85 Tryz.f85 [.cell 4 true 2,.tmp 5]:=F8 _ Tryz.func85
def w91:FW Tryz.prog 91 Tryz.f91 [.tmp 2]:=F8 _ Tryz.func91
def w94:FW Tryz.prog 94 Tryz.f94 [.tmp 2]:=F8 _ Tryz.func94
def w100:FW Tryz.prog 100 Tryz.f100 [.tmp 2]:=F8 _ Tryz.func100
def w104:FW Tryz.prog 104 Tryz.f104 [.tmp 3]:=F8 _ Tryz.func104
def w107:FW Tryz.prog 107 Tryz.f107 [.tmp 2]:=F8 _ Tryz.func107
def w111:FW Tryz.prog 111 Tryz.f111 []:=F8 _ Tryz.func111
def w114:FW Tryz.prog 114 Tryz.f114 [.cell 2 true 4]:=F8 _ Tryz.func114
def w117:FW Tryz.prog 117 Tryz.f117 [.cell 2 true 2]:=F8 _ Tryz.func117
def w121:FW Tryz.prog 121 Tryz.f121 [.cell 6 true 5]:=F8 _ Tryz.func121
def w126:FW Tryz.prog 126 Tryz.f126 [.cell 4 true 2,.tmp 5]:=F8 _ Tryz.func126
def w129:FW Tryz.prog 129 Tryz.f129 [.tmp 6]:=F8 _ Tryz.func129
def w132:FW Tryz.prog 132 Tryz.f132 [.tmp 6,.tmp 7]:=F8 _ Tryz.func132
def w147:FW Tryz.prog 147 Tryz.f147 [.tmp 2]:=F8 _ Tryz.func147
def w153:FW Tryz.prog 153 Tryz.f153 [.tmp 4]:=F8 _ Tryz.func153
def w156:FW Tryz.prog 156 Tryz.f156 [.tmp 4]:=F8 _ Tryz.func156
def w159:FW Tryz.prog 159 Tryz.f159 [.tmp 4]:=F8 _ Tryz.func159
def C6N:FW Tryz.prog 165 Tryz.f165 [.cell 2 true 3]:=F8 _ Tryz.func165
def w168:FW Tryz.prog 168 Tryz.f168 [.tmp 4]:=F8 _ Tryz.func168
def w176:FW Tryz.prog 176 Tryz.f176 []:=F8 _ Tryz.func176
def w179:FW Tryz.prog 179 Tryz.f179 [.tmp 2]:=F8 _ Tryz.func179
def w182:FW Tryz.prog 182 Tryz.f182 [.tmp 2]:=F8 _ Tryz.func182
def w185:FW Tryz.prog 185 Tryz.f185 [.tmp 6]:=F8 _ Tryz.func185
def w188:FW Tryz.prog 188 Tryz.f188 [.cell 8 true 5]:=F8 _ Tryz.func188
def w195:FW Tryz.prog 195 Tryz.f195 [.tmp 2]:=F8 _ Tryz.func195
def w198:FW Tryz.prog 198 Tryz.f198 [.tmp 2]:=F8 _ Tryz.func198
def C6O:FW Tryz.prog 216 Tryz.f216 [.cell 4 true 4,.tmp 5]:=F8 _ Tryz.func216
def w219:FW Tryz.prog 219 Tryz.f219 []:=F8 _ Tryz.func219
def w222:FW Tryz.prog 222 Tryz.f222 [.tmp 4]:=F8 _ Tryz.func222
def w225:FW Tryz.prog 225 Tryz.f225 [.tmp 2]:=F8 _ Tryz.func225
def w228:FW Tryz.prog 228 Tryz.f228 [.cell 4 true 4,.tmp 5]:=F8 _ Tryz.func228
def w233:FW Tryz.prog 233 Tryz.f233 [.tmp 2]:=F8 _ Tryz.func233
def w236:FW Tryz.prog 236 Tryz.f236 [.tmp 2]:=F8 _ Tryz.func236
def w248:FW Tryz.prog 248 Tryz.f248 []:=F8 _ Tryz.func248
def w251:FW Tryz.prog 251 Tryz.f251 [.cell 4 true 3]:=F8 _ Tryz.func251
def w254:FW Tryz.prog 254 Tryz.f254 [.cell 2 true 5]:=F8 _ Tryz.func254
def w261:FW Tryz.prog 261 Tryz.f261 [.tmp 2]:=F8 _ Tryz.func261
def w265:FW Tryz.prog 265 Tryz.f265 [.tmp 2]:=F8 _ Tryz.func265
def w268:FW Tryz.prog 268 Tryz.f268 [.tmp 4]:=F8 _ Tryz.func268
def w271:FW Tryz.prog 271 Tryz.f271 [.tmp 4]:=F8 _ Tryz.func271
def w274:FW Tryz.prog 274 Tryz.f274 [.tmp 3]:=F8 _ Tryz.func274
def w282:FW Tryz.prog 282 Tryz.f282 [.tmp 2]:=F8 _ Tryz.func282
def w285:FW Tryz.prog 285 Tryz.f285 [.cell 2 true 3]:=F8 _ Tryz.func285
def w297:FW Tryz.prog 297 Tryz.f297 [.cell 2 true 3,.tmp 3,.tmp 4]:=F8 _ Tryz.func297
def w301:FW Tryz.prog 301 Tryz.f301 [.tmp 4]:=F8 _ Tryz.func301
end Go.Am
namespace Go.Am
end Go.Am
namespace Go.Am
open Go Go.Proofs Go.RowKit
theorem B44(n a b:Int)(id:Nat):A2 Tryz.prog 129 [.int .i64 n,.int .i64 a,.int .i64 b] [] id (.bool (decide (a<=n)&&decide (n<=b))) []:=by
 refine w129.e.1 fun E hP hR hl hid=>?_;simp[w129];exact yP hR
theorem A4L(n a b:Int)(id:Nat):A2 Tryz.prog 105 [.int .i64 n,.int .i64 a,.int .i64 b] [] id (.bool (decide (a<=n)&&decide (n<=b))) []:=by
 refine w105.e.1 fun E hP hR hl hid=>?_;simp[w105];exact yP hR
theorem A7f(n:Int)(id:Nat):A2 Tryz.prog 47 [.int .i64 n] [] id (.bool (decide (1<=n)&&decide (n<=65535))) []:=by
 refine w47.e.1 fun E hP hR hl hid=>?_;simp[w47];(refine yH rfl (A4L _ _ _ _) ?_; simp);exact yP hR
theorem S9(n:Int)(id:Nat):A2 Tryz.prog 199 [.int .i64 n] [] id (.bool (decide (-999999999<=n)&&decide (n<=999999999))) []:=by
 refine w199.e.1 fun E hP hR hl hid=>?_;simp[w199];exact yP hR
structure Ev where
 kind:Int
 type:Int
 id:Int
 field:Int
 n:Int
 text:List UInt8
def K7(e:Ev):AV:=.agg [.int .i64 e.kind,.int .i64 e.type,.int .i64 e.id,.int .i64 e.field,.int .i64 e.n,.str e.text]
def U1(e:Ev):Int:=if ¬(1<=e.kind/\e.kind<=6) then 7 else if (e.kind=1\/e.kind=2)/\(e.field≠0\/e.n≠0)\/e.kind=4/\e.n≠0\/e.kind≠4/\e.text≠[] then 1 else 0
theorem j6(e:Ev)(id:Nat):A2 Tryz.prog 194 [K7 e] [] id (.int .i64 (U1 e)) []:=by
 unfold K7;refine w194.e.1 fun E hP hR hl hid=>?_;simp[w194];repeat' first
  | (refine And.intro ?_ ?_)
  | (refine E5 (fun h=>?_) (fun h=>?_)<;>simp)
  | (refine yH rfl (B44 _ _ _ _) ?_; simp)
 all_goals first
  | (rw[hR]; refine E8 (by simp<;>rfl) [] trivial (S6 ?_ (by simp) (by simp)); simp; done)
  | (rw[hR]; refine E8 (by simp<;>rfl) [] trivial (S6 ?_ (by simp) (by simp)); (try simp); simp[U1] at *; grind; done)
  | omega
  | (simp_all; done)
  | grind
def X6(e:Ev):Int:=if U1 e≠0 then U1 e else if ¬(0<=e.type/\e.type<=4)\/¬(1<=e.id/\e.id<=999)\/¬(0<=e.field/\e.field<=5)\/¬(-999999999<=e.n/\e.n<=999999999) then 3 else if 40<e.text.length then 2 else 0
theorem B6k(e:Ev)(id:Nat):A2 Tryz.prog 218 [K7 e] [] id (.int .i64 (X6 e)) []:=by
 unfold K7;refine w218.e.1 fun E hP hR hl hid=>?_;simp[w218];repeat' first
  | (refine And.intro ?_ ?_)
  | (refine E5 (fun h=>?_) (fun h=>?_)<;>simp)
  | (refine yH rfl (j6 e _) ?_; simp)
  | (refine yH rfl (A4L _ _ _ _) ?_; simp)
  | (refine yG rfl (A4L _ _ _ _) ?_; simp)
  | (refine yG rfl (S9 _ _) ?_; simp)
 all_goals first
  | (rw[hR]; refine E8 (by simp<;>rfl) [] trivial (S6 ?_ (by simp) (by simp)); simp; done)
  | (rw[hR]; refine E8 (by simp<;>rfl) [] trivial (S6 ?_ (by simp) (by simp)); (try simp); simp[X6] at *; grind; done)
  | omega
  | (simp_all; done)
  | grind
def R7{α:Type}(f:α->Int):List α->Int
 | []=>0
 | x::l=>if f x≠0 then f x else R7 f l
theorem B2{α:Type}{l:List α}{i:Nat}(h:i<l.length):∃x,l[i]?=some x/\l.drop i=x::l.drop (i+1) :=
 ⟨l[i],zc h,xe h⟩
structure Bt where
 number:Int
 events:List Ev
def Y9(b:Bt):AV:=.agg [.int .i64 b.number,.sl (b.events.map K7)]
theorem B8n(e:Ev):(K7 e).pureB=true:=rfl
@[simp] theorem A3A (l:List Ev):F9 (l.map K7)=true:=E7 B8n l
@[simp] theorem C4b (S:Nat->Prop) (l:List Ev):F3 S (l.map K7):=B3 _ (A3A l)
def I2(b:Bt):Int:=if ¬(1<=b.number/\b.number<=65535) then 3 else if b.events=[] then 1 else if 8<b.events.length then 2 else R7 X6 b.events
theorem A9X(b:Bt)(id:Nat):A2 Tryz.prog 151 [Y9 b] [] id (.int .i64 (I2 b)) []:=by
 unfold Y9;refine w151.e.1 fun E hP hR hl hid=>?_;simp[w151];(refine yH rfl (A7f _ _) ?_; simp);repeat' first
  | (refine E5 (fun h=>?_) (fun h=>?_)<;>simp)
 ·exact yP hR (h1:=by simp; simp[I2] at *; omega)
 ·exact yP hR (h1:=by simp; simp[I2] at *; grind)
 ·exact yP hR (h1:=by simp; simp[I2] at *; grind)
 ·have hc:I2 b=R7 X6 b.events:=by simp[I2] at *; grind
  rw[hc] at hR;have hlen:b.events.length<=8:=by simp at *; omega
  refine D0 (X:=Nat) (fun i=>⟨[(22,true,.sl (b.events.map K7)),(23,true,.int .i64 b.events.length),(24,true,.int .i64 i)],[],0⟩) (fun i=>i<=b.events.length/\R7 X6 (b.events.drop i)=R7 X6 b.events) (fun i=>b.events.length - i) 0 ?_ ⟨by omega,rfl⟩ ?_
  ·refine yV [] (by simp) fun hrn=>⟨?_,?_,?_,?_,?_⟩<;>(try simp)
  ·rintro i ⟨hi,hf⟩ p hp;refine A3 4000 ?_;simp;refine E5 (fun h=>?_) (fun h=>?_)
   ·have h:=zr h;obtain⟨e,he,hd⟩:=B2 h;have hin:∀(y z:AV),((b.events.map K7)[i]?.getD y).cells=(K7 e).cells:=fun y z=>by simp[he]
    rw[hd] at hf;simp only[R7] at hf;simp[he,K7];refine⟨h,?_⟩;(refine yH rfl (B6k e _) ?_; simp);refine E5 (fun h1=>?_) (fun h1=>?_)
    ·simp;rw[zj (by simpa using h1)] at hf;exact yP hR (h1:=by simp; exact hf)
    ·simp;rw[zf (by simpa using h1)] at hf;refine hp _ (i+1) ⟨h,hf⟩ (by omega) ?_;refine yV [] (by simp) fun hrn=>⟨?_,?_,?_,?_,?_⟩<;>(try simp);exact A5 (by omega)
   ·have h:=zp h;simp;rw[zn (by omega)] at hf;exact yP hR (h1:=by simp; exact hf)
def A0s(m:Int):UInt8:=UInt8.ofNat (m % 256).toNat
def c6(n:Int):Nat->List UInt8
 | 0=>[]
 | k+1=>A0s (n / 2 ^ (8*k))::c6 n k
@[simp] theorem P5 (n:Int):∀k,(c6 n k).length=k
 | 0=>rfl
 | k+1=>by simp[c6,P5 n k]
def eB(l:List UInt8):List AV:=l.map fun b=>.int .u8 b.toNat
@[simp] theorem A3n (l:List UInt8):F9 (eB l)=true:=E7 (fun _=>rfl) l
@[simp] theorem B8o (S:Nat->Prop) (l:List UInt8):F3 S (eB l):=B3 _ (A3n l)
@[simp] theorem C65 (R:Rn) (S:Nat->Prop) (l:List UInt8):N8 R S (eB l) (eB l):=C2 rfl (A3n l)
@[simp] theorem C66 (l:List UInt8):(eB l).length=l.length:=by simp[eB]
@[simp] theorem C1e (l:List UInt8):(eB l).take l.length=eB l:=zq (by simp)
theorem A01(a b:List UInt8):eB (a++b)=eB a++eB b:=by simp[eB]
theorem B0n{l:List UInt8}{x:AV}(h:x∈eB l):∃b,x = .int .u8 (UInt8.toNat b):=by
 simp only[eB,zu] at h;obtain⟨b,_,rfl⟩:=h;exact⟨b,rfl⟩
theorem B0o(l:List UInt8):(eB l).map A5S=l:=by
 simp only[eB,va];conv=>rhs; rw[←List.map_id l]
 refine vr fun b _=>?_;simp[A5S]
theorem B5J(x:Int):IntKind.u8.wrap x=((A0s x).toNat:Int):=by
 rw[IntKind.wrap_u8]; unfold A0s;simp[UInt8.toNat_ofNat']; omega
@[simp] def bxB (l:List UInt8):Bx:=⟨eB l,.int .u8 0,false,false⟩
@[simp] def bxW (c:AV) (d:AV):Bx:=⟨[.agg [c]],d,false,false⟩
theorem A4M(i j:Nat)(n:Int)(k:Nat)(l:List UInt8)(d:AV)(id:Nat)(hk:1<=k)(hk8:k<=8)(hij:i≠j)(hlen:l.length<=1048576):
  A2 Tryz.prog 219 [.ptr i 0 0,.int .i64 n,.int .i64 k] [(i,bxW (.bsl j 0 l.length) d),(j,bxB l)] id (.tup []) [(i,some (bxW (.bsl id 0 (l++c6 n k).length) d)),(j,none),(id,some (bxB (l++c6 n k)))]:=by
 simp only[bxW,bxB];refine w219.e.1 fun E hP hR hl hid=>?_;simp[w219];have hi:=hl (i,_) (za ..);simp only at hi;have i1:=S7 hi.1;have i2:=N9 hi.1;have i3:=O0 hi.1;have i4:=L8 hi.1;have hj:=hl (j,_) (zb _ (za ..));simp only at hj;have j1:=S7 hj.1;have j2:=N9 hj.1;have j3:=O0 hj.1;have j4:=L8 hj.1;refine D0 (X:=Nat×List UInt8) (fun x=>⟨[(0,true,.ptr i 0 0),(1,true,.int .i64 n),(6,true,.int .i64 ((x.1:Int) - 1))],[(i,some ⟨[.agg [.bsl E.n0 0 x.2.length]],d,false,false⟩),(j,none),(E.n0,some ⟨eB x.2,.int .u8 0,false,false⟩)],1⟩)
  (fun x=>x.1<=k/\x.2++c6 n x.1=l++c6 n k) (fun x=>x.1) (k,l) ?_ ⟨ya _,rfl⟩ ?_
 ·refine yV [(E.n0,j)] (by simp[i3,i4,i1,i2,hi.1,j1,j2,j3,j4,hj.1,hij,hij.symm]) fun hrn=>⟨?_,?_,?_,?_,?_⟩<;>(try simp[i3,i4,i1,i2,hi.1,j1,j2,j3,j4,hj.1,hij,hij.symm]);exact A5 (by omega)
 ·rintro⟨m,l0⟩ ⟨hm,hl0⟩ p hp;simp only at hm hl0 hp;have hl1:l0.length+(c6 n m).length=l.length+(c6 n k).length:=by rw[←yl,hl0]; simp
  rw[P5,P5] at hl1;refine A3 4000 ?_;simp;refine E5 (fun h=>?_) (fun h=>?_)
  ·have h:=zr h;obtain⟨m,rfl⟩:∃m',m=m'+1:=⟨m - 1,by omega⟩;have w1:IntKind.i64.wrap (8*(((m+1:Nat):Int) - 1))=((8*m:Nat):Int):=(by rw[A5 (by omega)]; omega);simp at w1;have w2:(8*(m:Int)).toNat=8*m:=(by omega);simp[w1,w2,B5J,IntKind.bits,i3,i4,i1,i2,hi.1,j1,j2,j3,j4,hj.1,hij,hij.symm];refine⟨by omega,by omega,?_⟩;refine hp _ (m,l0++[A0s (n / 2 ^ (8*m))]) ⟨by omega,?_⟩ (by omega) ?_
   ·rw[←hl0]; simp[c6]
   ·refine yV [(E.n0,E.n0+13313)] (by simp[i3,i4,i1,i2,hi.1,j1,j2,j3,j4,hj.1,hij,hij.symm]) fun hrn=>⟨?_,?_,?_,?_,?_⟩<;>(try simp[i3,i4,i1,i2,hi.1,j1,j2,j3,j4,hj.1,hij,hij.symm])
    ·exact A5 (by omega)
    ·exact C2 (by simp[eB]) (by simp[C4])
  ·have h:=zp h;simp;obtain rfl:m=0:=by omega
   simp only[c6,xr] at hl0;subst hl0;have hrn:H5 [(id,E.n0)]:=(by simp);rw[hR];refine⟨trivial,false,[(id,E.n0)],hrn,?_,?_,?_,?_,?_,?_⟩;all_goals try simp[A2q hi.2,A0X hi.2,A4 hid,i1,i2,i3,i4,hi.1,j1,j2,j3,j4,hj.1,hij,hij.symm,A2q hj.2,A0X hj.2]
theorem B2N(i:Nat)(n:Int)(k:Nat)(d:AV)(id:Nat)(hk:1<=k)(hk8:k<=8):
  A2 Tryz.prog 219 [.ptr i 0 0,.int .i64 n,.int .i64 k] [(i,bxW .nils d)] id (.tup []) [(i,some (bxW (.bsl id 0 (c6 n k).length) d)),(id,some (bxB (c6 n k)))]:=by
 simp only[bxW,bxB];refine w219.e.1 fun E hP hR hl hid=>?_;simp[w219];have hi:=hl (i,_) (za ..);simp only at hi;have i1:=S7 hi.1;have i2:=N9 hi.1;have i3:=O0 hi.1;have i4:=L8 hi.1;refine D0 (X:=Nat×List UInt8) (fun x=>⟨[(0,true,.ptr i 0 0),(1,true,.int .i64 n),(6,true,.int .i64 ((x.1:Int) - 1))],[(i,some ⟨[.agg [.bsl E.n0 0 x.2.length]],d,false,false⟩),(E.n0,some ⟨eB x.2,.int .u8 0,false,false⟩)],1⟩)
  (fun x=>x.1<=k/\x.2++c6 n x.1=[]++c6 n k) (fun x=>x.1) (k,[]) ?_ ⟨ya _,rfl⟩ ?_
 ·refine E4.trans (E4.voidBox i (by simp; rfl) rfl (.agg [.nils] [.bsl (E.n0+3072) 0 0] rfl (fun m x y h1 h2=>?_)) (.int .u8 0)) ?_
  ·match m,h1,h2 with
   | 0,h1,h2=>simp at h1 h2; exact .inr ⟨h1.symm,h2.symm⟩
   | m+1,h1,h2=>simp at h1
  ·refine yV [(E.n0,E.n0+3072)] (by simp[eB,i3,i4,i1,i2,hi.1]) fun hrn=>⟨?_,?_,?_,?_,?_⟩<;>(try simp[eB,i3,i4,i1,i2,hi.1]);exact A5 (by omega)
 ·rintro⟨m,l0⟩ ⟨hm,hl0⟩ p hp;simp only at hm hl0 hp;have hl1:l0.length+(c6 n m).length=0+(c6 n k).length:=by rw[←yl,hl0]; simp
  rw[P5,P5] at hl1;refine A3 4000 ?_;simp;refine E5 (fun h=>?_) (fun h=>?_)
  ·have h:=zr h;obtain⟨m,rfl⟩:∃m',m=m'+1:=⟨m - 1,by omega⟩;have w1:IntKind.i64.wrap (8*(((m+1:Nat):Int) - 1))=((8*m:Nat):Int):=(by rw[A5 (by omega)]; omega);simp at w1;have w2:(8*(m:Int)).toNat=8*m:=(by omega);simp[w1,w2,B5J,IntKind.bits,i3,i4,i1,i2,hi.1];refine⟨by omega,by omega,?_⟩;refine hp _ (m,l0++[A0s (n / 2 ^ (8*m))]) ⟨by omega,?_⟩ (by omega) ?_
   ·rw[←hl0]; simp[c6]
   ·refine yV [(E.n0,E.n0+13313)] (by simp[i3,i4,i1,i2,hi.1]) fun hrn=>⟨?_,?_,?_,?_,?_⟩<;>(try simp[i3,i4,i1,i2,hi.1])
    ·exact A5 (by omega)
    ·exact C2 (by simp[eB]) (by simp[C4])
  ·have h:=zp h;simp;obtain rfl:m=0:=by omega
   simp only[c6,xr] at hl0;subst hl0;have hrn:H5 [(id,E.n0)]:=(by simp);rw[hR];refine⟨trivial,false,[(id,E.n0)],hrn,?_,?_,?_,?_,?_,?_⟩;all_goals try simp[A2q hi.2,A0X hi.2,A4 hid,i1,i2,i3,i4,hi.1]
def wr3(i j id:Nat)(d:AV)(l:List UInt8):List (Nat×Option Bx):=[(i,some (bxW (.bsl id 0 l.length) d)),(j,none),(id,some (bxB l))]
attribute [simp] wr3
theorem A7g(i j:Nat)(n:Int)(l:List UInt8)(d:AV)(id:Nat)(hij:i≠j)(hlen:l.length<=1048576):
  A2 Tryz.prog 219 [.ptr i 0 0,.int .i64 n,.int .i64 1] [(i,bxW (.bsl j 0 l.length) d),(j,bxB l)] id (.tup []) (wr3 i j id d (l++c6 n 1)):=A4M i j n 1 l d id (by omega) (by omega) hij hlen
theorem C3e(i j:Nat)(n:Int)(l:List UInt8)(d:AV)(id:Nat)(hij:i≠j)(hlen:l.length<=1048576):
  A2 Tryz.prog 219 [.ptr i 0 0,.int .i64 n,.int .i64 2] [(i,bxW (.bsl j 0 l.length) d),(j,bxB l)] id (.tup []) (wr3 i j id d (l++c6 n 2)):=A4M i j n 2 l d id (by omega) (by omega) hij hlen
theorem C3f(i j:Nat)(n:Int)(l:List UInt8)(d:AV)(id:Nat)(hij:i≠j)(hlen:l.length<=1048576):
  A2 Tryz.prog 219 [.ptr i 0 0,.int .i64 n,.int .i64 4] [(i,bxW (.bsl j 0 l.length) d),(j,bxB l)] id (.tup []) (wr3 i j id d (l++c6 n 4)):=A4M i j n 4 l d id (by omega) (by omega) hij hlen
theorem B5K(i:Nat)(n:Int)(d:AV)(id:Nat):
  A2 Tryz.prog 219 [.ptr i 0 0,.int .i64 n,.int .i64 2] [(i,bxW .nils d)] id (.tup []) [(i,some (bxW (.bsl id 0 (c6 n 2).length) d)),(id,some (bxB (c6 n 2)))]:=B2N i n 2 d id (by omega) (by omega)
theorem B2O(k:Int)(id:Nat):A2 Tryz.prog 220 [.int .i64 k] [] id (.bool (k==1||k==2)) []:=by
 refine w220.e.1 fun E hP hR hl hid=>?_;simp[w220];exact yP hR
theorem B8p(i j:Nat)(s l:List UInt8)(d:AV)(id:Nat)(hij:i≠j)(hlen:l.length<=1000000)(hs:s.length<=1000):
  A2 Tryz.prog 221 [.ptr i 0 0,.str s] [(i,bxW (.bsl j 0 l.length) d),(j,bxB l)] id (.tup []) (wr3 i j id d (l++c6 s.length 1++s)):=by
 simp only[bxW,bxB,wr3];refine w221.e.1 fun E hP hR hl hid=>?_;simp[w221];have hi:=hl (i,_) (za ..);simp only at hi;have i1:=lf hi;have hj:=hl (j,_) (zb _ (za ..));simp only at hj;have j1:=lf hj;(refine D8 hP rfl (A7g i j _ l d _ hij (by omega)) (by simp[hij,hij.symm,i1,j1]) (by simp[hij,hij.symm,i1,j1]<;>rfl) ?_; refine A3 4000 ?_; simp[hij,hij.symm,i1,j1]);refine⟨by omega,?_⟩;refine yE hR [(id,E.n0+10240)] (by simp[hij,hij.symm,i1,j1,A4 hid]) fun hrn=>⟨?_,?_,?_,?_,?_,?_⟩<;>(try simp[hij,hij.symm,i1,j1,A4 hid]);refine⟨by omega,C2 (by simp[eB]) (C4 (by simp) (A3n s))⟩
def M5(e:Ev):List UInt8:=c6 e.kind 1++(c6 e.type 1++(c6 e.id 2++if e.kind=1\/e.kind=2 then [] else c6 e.field 1++if e.kind=4 then c6 e.text.length 1++e.text else c6 (e.n+999999999) 4))
def O1(b:Bt):List UInt8:=c6 b.number 2++c6 b.events.length 1++b.events.flatMap M5
def C5(b:Bt):List UInt8:=c6 (O1 b).length 2++O1 b
theorem A3o(e:Ev)(h:X6 e=0):e.text.length<=40/\(0<=e.type/\e.type<=4)/\(1<=e.id/\e.id<=999)/\(0<=e.field/\e.field<=5)/\(-999999999<=e.n/\e.n<=999999999)/\U1 e=0:=by
 unfold X6 at h;split at h
 ·omega
 ·split at h
  ·omega
  ·split at h<;>omega
theorem A6J(e:Ev)(h:X6 e=0):(M5 e).length<=47:=by
 have:=(A3o e h).1;unfold M5;split
 ·simp
 ·split<;>simp<;>omega
theorem B8q(b:Bt)(id:Nat)(hb:∀e∈b.events,X6 e=0)(hl8:b.events.length<=8):A2 Tryz.prog 154 [Y9 b] [] id (.str (C5 b)) []:=by
 simp only[Y9];refine w154.e.1 fun E hP hR hl hid=>?_;simp[w154];(refine yH rfl (B5K _ _ _ _) ?_; simp);(refine yH rfl (A7g _ (E.n0+8192) _ (c6 b.number 2) (.agg [.nils]) _ (by simp) (by simp)) ?_; simp);refine D0 (X:=Nat×List UInt8) (fun x=>⟨[(19,true,.sl (b.events.map K7)),(20,true,.int .i64 b.events.length),(21,true,.int .i64 x.1),(3,true,.ptr E.n0 0 0)],[(E.n0,some (bxW (.bsl (E.n0+1) 0 x.2.length) (.agg [.nils]))),(E.n0+1,some (bxB x.2))],2⟩)
  (fun x=>x.1<=b.events.length/\x.2++(b.events.drop x.1).flatMap M5=O1 b/\x.2.length<=3+47*x.1) (fun x=>b.events.length - x.1) (0,c6 b.number 2++c6 b.events.length 1) ?_ ⟨by simp,by simp[O1],by simp⟩ ?_
 ·refine yV [(E.n0,E.n0+3072),(E.n0+1,E.n0+13312)] (by simp) fun hrn=>⟨?_,?_,?_,?_,?_⟩<;>(try simp)
 ·rintro⟨i,l⟩ ⟨hi,hf,hlen⟩ p hp;simp only at hi hf hlen hp;refine A3 4000 ?_;simp;refine E5 (fun h=>?_) (fun h=>?_)
  ·have h:=zr h;obtain⟨e,he,hd⟩:=B2 h;rw[hd] at hf;simp[he,K7];refine⟨h,?_⟩;(refine yH rfl (A7g E.n0 (E.n0+1) _ l _ _ (by simp) (by omega)) ?_; simp);(refine yH rfl (A7g E.n0 (E.n0+8194) _ (l++c6 e.kind 1) _ _ (by simp) (by simp; omega)) ?_; simp);(refine yH rfl (C3e E.n0 (E.n0+12290) _ (l++c6 e.kind 1++c6 e.type 1) _ _ (by simp) (by simp; omega)) ?_; simp);(refine yH rfl (B2O _ _) ?_; simp);have hev:=hb e (zg he);have hel:=A6J e hev;have hi1:IntKind.i64.wrap ((i:Int)+1)=((i+1:Nat):Int):=A5 (by omega);refine E5 (fun h1=>?_) (fun h1=>?_)
   ·simp;have h1':e.kind=1\/e.kind=2:=(by simpa using h1);refine hp _ (i+1,l++M5 e) ⟨h,?_,?_⟩ (by omega) ?_
    ·rw[←hf]; simp
    ·simp; omega
    ·refine yV [(E.n0,E.n0),(E.n0+1,E.n0+16386)] (by simp[hi1]) fun hrn=>⟨?_,?_,?_,?_,?_⟩<;>(try simp[hi1]);exact⟨by simp[M5,h1'],by rw[M5,zj h1']; simp⟩
   ·simp;have h1':¬(e.kind=1\/e.kind=2):=(by simpa using h1);(refine yH rfl (A7g E.n0 (E.n0+16386) _ (l++c6 e.kind 1++c6 e.type 1++c6 e.id 2) _ _ (by simp) (by simp; omega)) ?_; simp);refine E5 (fun h2=>?_) (fun h2=>?_)
    ·simp;have h2':e.kind=4:=(by simpa using h2);have htl:=(A3o e hev).1;(refine yH rfl (B8p E.n0 (E.n0+23554) _ (l++c6 e.kind 1++c6 e.type 1++c6 e.id 2++c6 e.field 1) _ _ (by simp) (by simp; omega) (by omega)) ?_; simp);refine hp _ (i+1,l++M5 e) ⟨h,?_,?_⟩ (by omega) ?_
     ·rw[←hf]; simp
     ·simp; omega
     ·refine yV [(E.n0,E.n0),(E.n0+1,E.n0+30722)] (by simp[hi1]) fun hrn=>⟨?_,?_,?_,?_,?_⟩<;>(try simp[hi1]);exact⟨by simp[M5,h1',h2'],by rw[M5,zf h1',zj h2']; simp⟩
    ·simp;have h2':¬e.kind=4:=(by simpa using h2);have hn:=(A3o e hev).2.2.2.2.1;rw[show IntKind.i64.wrap (e.n+999999999)=e.n+999999999 from A5 (by omega)];(refine yH rfl (C3f E.n0 (E.n0+23554) _ (l++c6 e.kind 1++c6 e.type 1++c6 e.id 2++c6 e.field 1) _ _ (by simp) (by simp; omega)) ?_; simp);refine hp _ (i+1,l++M5 e) ⟨h,?_,?_⟩ (by omega) ?_
     ·rw[←hf]; simp
     ·simp; omega
     ·refine yV [(E.n0,E.n0),(E.n0+1,E.n0+31746)] (by simp[hi1]) fun hrn=>⟨?_,?_,?_,?_,?_⟩<;>(try simp[hi1]);exact⟨by simp[M5,h1',h2'],by rw[M5,zf h1',zf h2']; simp⟩
  ·have h:=zp h;rw[zn (by omega)] at hf;simp at hf;subst hf;simp;(refine yH rfl (B5K _ _ _ _) ?_; simp);have hlb:(O1 b).length<=1048576:=(by omega);have ht:List.take (2+(O1 b).length) (eB (c6 (O1 b).length 2)++eB (O1 b))=eB (C5 b):=by
    rw[zq (by simp)]; simp[C5,A01]
   simp only[C1e,ht,B0o];refine⟨⟨fun x hx=>?_,by omega,by omega⟩,fun x hx=>?_,?_⟩
   ·obtain⟨c,rfl⟩:=B0n hx; simp
   ·obtain⟨c,rfl⟩:=B0n hx; rfl
   ·exact yP hR (h1:=by simp; rw[zq (by simp)]; simp[C5])
theorem A1T{α:Type}{f:α->Int}:∀{l:List α},R7 f l=0↔∀x∈l,f x=0
 | []=>by simp[R7]
 | x::l=>by
  simp only[R7];split
  ·rename_i h; constructor
   ·intro h'; exact (h h').elim
   ·intro h'; exact (h (h' x (by simp))).elim
  ·rename_i h;rw[A1T (l:=l)];simp at h;simp[h]
theorem A0t{b:Bt}(h:I2 b=0):(1<=b.number/\b.number<=65535)/\b.events≠[]/\b.events.length<=8/\∀e∈b.events,X6 e=0:=by
 unfold I2 at h;split at h
 ·omega
 ·split at h
  ·omega
  ·split at h
   ·omega
   ·rename_i h1 h2 h3;exact⟨by omega,h2,by omega,A1T.1 h⟩
@[simp] def bxR (s:List UInt8) (sh:Bool) (d:AV):Bx:=⟨[.agg [.str s,.bool sh]],d,false,false⟩
theorem B5L(i:Nat)(s:List UInt8)(sh:Bool)(n:Nat)(d:AV)(id:Nat)(hs:s.length<=9223372036854775807):
  A2 Tryz.prog 269 [.ptr i 0 0,.int .i64 n] [(i,bxR s sh d)] id (.str (if s.length<n then [] else s.take n)) [(i,some (if s.length<n then bxR [] true d else bxR (s.drop n) sh d))]:=by
 simp only[bxR];refine w269.e.1 fun E hP hR hl hid=>?_;simp[w269];have hi:=hl (i,_) (za ..);simp only at hi;have i1:=lf hi;refine E5 (fun h=>?_) (fun h=>?_)
 ·simp[i1];have h':s.length<n:=by simpa using h
  simp only[zj h'] at hR;refine yE hR [] (by simp[i1,A4 hid]) fun hrn=>⟨?_,?_,?_,?_,?_,?_⟩<;>(try simp[i1,A4 hid])
 ·simp[i1];have h':¬s.length<n:=by simpa using h
  refine⟨by omega,?_⟩;simp only[zf h'] at hR;refine yE hR [] (by simp[i1,A4 hid]) fun hrn=>⟨?_,?_,?_,?_,?_,?_⟩<;>(try simp[i1,A4 hid])
def J3(l:List UInt8):Int:=l.foldl (fun n c=>256*n+(c.toNat:Int)) 0
theorem B6l(l:List UInt8)(c:UInt8):J3 (l++[c])=256*J3 l+c.toNat:=by simp[J3]
theorem A0B(l:List UInt8):0<=J3 l/\J3 l<256 ^ l.length:=by
 have key:∀(l:List UInt8) (n:Int) (m:Nat),0<=n->n<256 ^ m->0<=l.foldl (fun n c=>256*n+(c.toNat:Int)) n/\l.foldl (fun n c=>256*n+(c.toNat:Int)) n<256 ^ (m+l.length):=fun l=>by
  induction l with
  | nil=>intro n m h1 h2; exact⟨h1,h2⟩
  | cons c l ih =>
   intro n m h1 h2;have hc:=c.toNat_lt;have:=ih (256*n+c.toNat) (m+1) (by omega) (by rw[rj]; omega);simp only[wm,yd];rw[show m+(l.length+1)=m+1+l.length by omega];exact this
 have:=key l 0 0 (by omega) (by omega);simpa [J3] using this
@[simp] theorem C52 (S:Nat->Prop) (l:List UInt8):F3 S (l.map fun b=>AV.int .u8 (UInt8.toNat b)):=B8o S l
theorem C3g(m c:Nat)(hm:m<36028797018963968)(hc:c<256):bits .or .i64 ((256*m:Nat):Int) (c:Int)=((256*m+c:Nat):Int):=by
 unfold bits;have e1:(BitVec.ofInt IntKind.i64.bits ((256*m:Nat):Int)).toNat=256*m:=by
  rw[BitVec.ofInt_natCast,BitVec.toNat_ofNat]; exact sq (by show _<2 ^ 64; omega)
 have e2:(BitVec.ofInt IntKind.i64.bits (c:Int)).toNat=c:=by
  rw[BitVec.ofInt_natCast,BitVec.toNat_ofNat]; exact sq (by show _<2 ^ 64; omega)
 simp only[BitVec.toNat_or,e1,e2];have:=Nat.two_pow_add_eq_or_of_lt (i:=8) (show c<2 ^ 8 by omega) m;rw[show 2 ^ 8=256 by rfl] at this;rw[←this,A5 (by omega)]
def D6(s:List UInt8)(k:Nat):List UInt8:=if s.length<k then [] else s.take k
def A7(s:List UInt8)(k:Nat):List UInt8:=if s.length<k then [] else s.drop k
theorem A4N(i:Nat)(s:List UInt8)(sh:Bool)(k:Nat)(d:AV)(id:Nat)(hs:s.length<=9223372036854775807)(hk:k<=4):
  A2 Tryz.prog 268 [.ptr i 0 0,.int .i64 k] [(i,bxR s sh d)] id (.int .i64 (J3 (D6 s k))) [(i,some (bxR (A7 s k) (sh||decide (s.length<k)) d))]:=by
 have hb:(if s.length<k then bxR [] true d else bxR (s.drop k) sh d)=bxR (A7 s k) (sh||decide (s.length<k)) d:=by
  unfold A7; split<;>simp[*]
 have htk:(if s.length<k then [] else s.take k)=D6 s k:=rfl;have htake:=B5L i s sh k d;rw[hb,htk] at htake;have hlen:(D6 s k).length<=k:=by unfold D6; split<;>simp; omega
 generalize D6 s k=t at *;generalize A7 s k=r at *;generalize (sh||decide (s.length<k))=sh' at *;simp only[bxR] at htake ⊢;refine w268.e.1 fun E hP hR hl hid=>?_;simp[w268];have hi:=hl (i,_) (za ..);simp only at hi;have i1:=lf hi;(refine yC rfl (htake _ hs) ?_; simp[i1]);have ht4:t.length<=4:=by omega
 refine⟨by omega,D0 (X:=Nat) (fun x=>⟨[(11,true,.sl (t.map fun b=>AV.int .u8 b.toNat)),(12,true,.int .i64 t.length),(13,true,.int .i64 x),(5,true,.int .i64 (J3 (t.take x)))],[(i,some (bxR r sh' d))],0⟩)
  (fun x=>x<=t.length) (fun x=>t.length - x) 0 ?_ (by omega) ?_⟩
 ·refine yV [] (by simp[i1,J3]) fun hrn=>⟨?_,?_,?_,?_,?_⟩<;>(try simp[i1,J3])
 ·intro x hx p hp;refine A3 4000 ?_;simp[i1];refine E5 (fun h=>?_) (fun h=>?_)
  ·have h:=zr h;obtain⟨c,hc,_⟩:=B2 h;simp[i1,hc];have hbd:=A0B (t.take x);have hxl:(t.take x).length=x:=(by simp; omega);rw[hxl] at hbd;have hpw:(256:Int) ^ x<=16777216:=by
    have:x=0\/x=1\/x=2\/x=3:=by omega
    rcases this with e|e|e|e<;>rw[e]<;>decide
   have hcl:=c.toNat_lt;have e0:J3 (t.take x)*2 ^ 8=((256*(J3 (t.take x)).toNat:Nat):Int):=(by omega);have e1:IntKind.i64.wrap (J3 (t.take x)*256)=((256*(J3 (t.take x)).toNat:Nat):Int):=(by rw[A5 (by omega)]; omega);have e2:IntKind.i64.wrap (c.toNat:Int)=((c.toNat:Nat):Int):=A5 (by omega);have e3:=C3g (J3 (t.take x)).toNat c.toNat (by omega) (by omega);have e4:J3 (t.take (x+1))=((256*(J3 (t.take x)).toNat+c.toNat:Nat):Int):=by
    rw[List.take_add_one,hc,Option.toList_some,B6l]; omega
   have e5:IntKind.i64.wrap ((x:Int)+1)=((x+1:Nat):Int):=A5 (by omega);rw[e1,e2,e3,←e4,e5];refine⟨h,by decide,hp _ (x+1) (by omega) (by omega) ?_⟩;refine yV [] (by simp[i1]) fun hrn=>⟨?_,?_,?_,?_,?_⟩<;>(try simp[i1])
  ·have h:=zp h;simp[i1];obtain rfl:x=t.length:=by omega
   rw[uo];refine yE hR [] (by simp[i1,A4 hid]) fun hrn=>⟨?_,?_,?_,?_,?_,?_⟩<;>(try simp[i1,A4 hid])
theorem M8(s:List UInt8)(k:Nat):(A7 s k).length<=s.length:=by unfold A7; split<;>simp
def sh1(s:List UInt8)(sh:Bool)(k:Nat):Bool:=sh||decide (s.length<k)
theorem A5b(i:Nat)(s:List UInt8)(sh:Bool)(d:AV)(id:Nat)(hs:s.length<=9223372036854775807):
  A2 Tryz.prog 268 [.ptr i 0 0,.int .i64 1] [(i,bxR s sh d)] id (.int .i64 (J3 (D6 s 1))) [(i,some (bxR (A7 s 1) (sh1 s sh 1) d))]:=A4N i s sh 1 d id hs (by omega)
theorem B45(i:Nat)(s:List UInt8)(sh:Bool)(d:AV)(id:Nat)(hs:s.length<=9223372036854775807):
  A2 Tryz.prog 268 [.ptr i 0 0,.int .i64 2] [(i,bxR s sh d)] id (.int .i64 (J3 (D6 s 2))) [(i,some (bxR (A7 s 2) (sh1 s sh 2) d))]:=A4N i s sh 2 d id hs (by omega)
theorem C3h(i:Nat)(s:List UInt8)(sh:Bool)(d:AV)(id:Nat)(hs:s.length<=9223372036854775807):
  A2 Tryz.prog 268 [.ptr i 0 0,.int .i64 4] [(i,bxR s sh d)] id (.int .i64 (J3 (D6 s 4))) [(i,some (bxR (A7 s 4) (sh1 s sh 4) d))]:=A4N i s sh 4 d id hs (by omega)
theorem B2P(i:Nat)(s:List UInt8)(sh:Bool)(n:Int)(d:AV)(id:Nat)(hs:s.length<=9223372036854775807)(hn:0<=n):
  A2 Tryz.prog 269 [.ptr i 0 0,.int .i64 n] [(i,bxR s sh d)] id (.str (D6 s n.toNat)) [(i,some (bxR (A7 s n.toNat) (sh1 s sh n.toNat) d))]:=by
 obtain⟨m,rfl⟩:∃m:Nat,n=m:=⟨n.toNat,by omega⟩;have h:=B5L i s sh m d id hs;have hb:(if s.length<m then bxR [] true d else bxR (s.drop m) sh d)=bxR (A7 s m) (sh1 s sh m) d:=by
  unfold A7 sh1; split<;>simp[*]
 rw[hb] at h;exact h
structure RdS where
 e:Ev
 s:List UInt8
 sh:Bool
def O4(s:List UInt8)(sh:Bool):RdS :=
 let k:=J3 (D6 s 1); let s1:=A7 s 1; let h1:=sh1 s sh 1
 let t:=J3 (D6 s1 1); let s2:=A7 s1 1; let h2:=sh1 s1 h1 1
 let i:=J3 (D6 s2 2); let s3:=A7 s2 2; let h3:=sh1 s2 h2 2
 if k<1\/6<k then ⟨⟨k,t,i,0,0,[]⟩,s3,true⟩
 else if k=1\/k=2 then ⟨⟨k,t,i,0,0,[]⟩,s3,h3⟩
 else
  let f:=J3 (D6 s3 1); let s4:=A7 s3 1; let h4:=sh1 s3 h3 1
  if k=4 then
   let n:=J3 (D6 s4 1); let s5:=A7 s4 1; let h5:=sh1 s4 h4 1
   ⟨⟨k,t,i,f,0,D6 s5 n.toNat⟩,A7 s5 n.toNat,sh1 s5 h5 n.toNat⟩
  else ⟨⟨k,t,i,f,J3 (D6 s4 4) - 999999999,[]⟩,A7 s4 4,sh1 s4 h4 4⟩
theorem B6m(i:Nat)(s:List UInt8)(sh:Bool)(d:AV)(id:Nat)(hs:s.length<=9223372036854775807):
  A2 Tryz.prog 270 [.ptr i 0 0] [(i,bxR s sh d)] id (K7 (O4 s sh).e) [(i,some (bxR (O4 s sh).s (O4 s sh).sh d))]:=by
 have l1:=M8 s 1;have l2:=M8 (A7 s 1) 1;have l3:=M8 (A7 (A7 s 1) 1) 2;have l4:=M8 (A7 (A7 (A7 s 1) 1) 2) 1;have l5:=M8 (A7 (A7 (A7 (A7 s 1) 1) 2) 1) 1;simp only[bxR];refine w270.e.1 fun E hP hR hl hid=>?_;simp[w270];have hi:=hl (i,_) (za ..);simp only at hi;have i1:=lf hi;(refine yC rfl (A5b i s sh d _ (by omega)) ?_; simp[i1]);(refine yC rfl (A5b i (A7 s 1) (sh1 s sh 1) d _ (by omega)) ?_; simp[i1]);(refine yC rfl (B45 i (A7 (A7 s 1) 1) (sh1 (A7 s 1) (sh1 s sh 1) 1) d _ (by omega)) ?_; simp[i1]);have hbd:=A0B (D6 (A7 (A7 (A7 (A7 s 1) 1) 2) 1) 1);have hwr:∀l:List UInt8,l.length<=4->IntKind.i64.wrap (J3 l - 999999999)=J3 l - 999999999:=fun l hl=>by
  have hb:=A0B l;have:(256:Int) ^ l.length<=4294967296:=by
   have:l.length=0\/l.length=1\/l.length=2\/l.length=3\/l.length=4:=by omega
   rcases this with e|e|e|e|e<;>rw[e]<;>decide
  exact A5 (by omega)
 have hk4:(D6 (A7 (A7 (A7 (A7 s 1) 1) 2) 1) 4).length<=4:=by unfold D6; split<;>simp; omega
 refine E5 (fun h=>?_) (fun h=>?_)
 ·have h':J3 (D6 s 1)<1\/6<J3 (D6 s 1):=by simpa using h
  simp[i1];simp only[O4,zj h'] at hR;refine yE hR [] (by simp[i1,K7,A4 hid]) fun hrn=>⟨?_,?_,?_,?_,?_,?_⟩<;>(try simp[i1,K7,A4 hid])
 ·have h':¬(J3 (D6 s 1)<1\/6<J3 (D6 s 1)):=by simpa using h
  simp[i1];(refine D8 hP rfl (B2O _ _) (by simp[i1]) (by simp[i1]<;>rfl) ?_; refine A3 4000 ?_; simp[i1]);refine E5 (fun h1=>?_) (fun h1=>?_)
  ·have h1':J3 (D6 s 1)=1\/J3 (D6 s 1)=2:=(by simpa using h1);simp[i1];simp only[O4,zf h',zj h1'] at hR;refine yE hR [] (by simp[i1,K7,A4 hid]) fun hrn=>⟨?_,?_,?_,?_,?_,?_⟩<;>(try simp[i1,K7,A4 hid])
  ·have h1':¬(J3 (D6 s 1)=1\/J3 (D6 s 1)=2):=(by simpa using h1);simp[i1];refine E5 (fun h2=>?_) (fun h2=>?_)
   ·have h2':J3 (D6 s 1)=4:=(by simpa using h2);simp[i1];simp only[O4,zf h',zf h1',zj h2'] at hR;(refine yC rfl (A5b i (A7 (A7 (A7 s 1) 1) 2) (sh1 (A7 (A7 s 1) 1) (sh1 (A7 s 1) (sh1 s sh 1) 1) 2) d _ (by omega)) ?_; simp[i1]);(refine yC rfl (A5b i (A7 (A7 (A7 (A7 s 1) 1) 2) 1) (sh1 (A7 (A7 (A7 s 1) 1) 2) (sh1 (A7 (A7 s 1) 1) (sh1 (A7 s 1) (sh1 s sh 1) 1) 2) 1) d _ (by omega)) ?_; simp[i1]);(refine D8 hP rfl (B2P i (A7 (A7 (A7 (A7 (A7 s 1) 1) 2) 1) 1) (sh1 (A7 (A7 (A7 (A7 s 1) 1) 2) 1) (sh1 (A7 (A7 (A7 s 1) 1) 2) (sh1 (A7 (A7 s 1) 1) (sh1 (A7 s 1) (sh1 s sh 1) 1) 2) 1) 1) _ d _ (by omega) hbd.1) (by simp[i1]) (by simp[i1]<;>rfl) ?_; refine A3 4000 ?_; simp[i1]);refine yE hR [] (by simp[i1,K7,A4 hid]) fun hrn=>⟨?_,?_,?_,?_,?_,?_⟩<;>(try simp[i1,K7,A4 hid])
   ·have h2':¬J3 (D6 s 1)=4:=(by simpa using h2);simp[i1];simp only[O4,zf h',zf h1',zf h2'] at hR;(refine yC rfl (A5b i (A7 (A7 (A7 s 1) 1) 2) (sh1 (A7 (A7 s 1) 1) (sh1 (A7 s 1) (sh1 s sh 1) 1) 2) d _ (by omega)) ?_; simp[i1]);(refine yC rfl (C3h i (A7 (A7 (A7 (A7 s 1) 1) 2) 1) (sh1 (A7 (A7 (A7 s 1) 1) 2) (sh1 (A7 (A7 s 1) 1) (sh1 (A7 s 1) (sh1 s sh 1) 1) 2) 1) d _ (by omega)) ?_; simp[i1]);rw[hwr _ hk4];refine yE hR [] (by simp[i1,K7,A4 hid]) fun hrn=>⟨?_,?_,?_,?_,?_,?_⟩<;>(try simp[i1,K7,A4 hid])
structure RdL where
 l:List Ev
 s:List UInt8
 sh:Bool
def A2V:Nat->List UInt8->Bool->RdL
 | 0,s,sh=>⟨[],s,sh⟩
 | k+1,s,sh=>if sh then ⟨[],s,sh⟩ else ⟨(O4 s sh).e::(A2V k (O4 s sh).s (O4 s sh).sh).l,(A2V k (O4 s sh).s (O4 s sh).sh).s,(A2V k (O4 s sh).s (O4 s sh).sh).sh⟩
structure C67 where
 b:Bt
 n:Int
 e:Int
def I0(s:List UInt8):List UInt8:=D6 (A7 s 2) (J3 (D6 s 2)).toNat
def A3B(s:List UInt8):Bool:=sh1 (A7 s 2) (sh1 s false 2) (J3 (D6 s 2)).toNat
def A2W(b:List UInt8):Int:=J3 (D6 b 2)
def q8(b:List UInt8):RdL:=A2V (J3 (D6 (A7 b 2) 1)).toNat (A7 (A7 b 2) 1) (sh1 (A7 b 2) (sh1 b false 2) 1)
def A8(s:List UInt8):C67 :=
 if A3B s=true then ⟨⟨0,[]⟩,0,5⟩
 else if (q8 (I0 s)).sh=true\/(q8 (I0 s)).s≠[] then ⟨⟨0,[]⟩,0,1⟩
 else if I2 ⟨A2W (I0 s),(q8 (I0 s)).l⟩≠0 then ⟨⟨0,[]⟩,0,I2 ⟨A2W (I0 s),(q8 (I0 s)).l⟩⟩
 else ⟨⟨A2W (I0 s),(q8 (I0 s)).l⟩,J3 (D6 s 2)+2,0⟩
def bxE(l:List Ev)(f:Bool):Bx:=⟨l.map K7,.agg [.int .i64 0,.int .i64 0,.int .i64 0,.int .i64 0,.int .i64 0,.str []],false,f⟩
attribute [simp] bxE
theorem B6n(s:List UInt8)(k:Nat):(D6 s k).length<=s.length:=by unfold D6; split<;>simp<;>omega
theorem B46(s:List UInt8)(sh:Bool):(O4 s sh).s.length<=s.length:=by
 have l1:=M8 s 1;have l2:=M8 (A7 s 1) 1;have l3:=M8 (A7 (A7 s 1) 1) 2;have l4:=M8 (A7 (A7 (A7 s 1) 1) 2) 1;have l5:=M8 (A7 (A7 (A7 (A7 s 1) 1) 2) 1) 1;have l6:=M8 (A7 (A7 (A7 (A7 s 1) 1) 2) 1) 4;have l7:=M8 (A7 (A7 (A7 (A7 (A7 s 1) 1) 2) 1) 1) (J3 (D6 (A7 (A7 (A7 (A7 s 1) 1) 2) 1) 1)).toNat;simp only[O4];split
 ·show (A7 (A7 (A7 s 1) 1) 2).length<=_; omega
 ·split
  ·show (A7 (A7 (A7 s 1) 1) 2).length<=_; omega
  ·split
   ·simp only; omega
   ·simp only; omega
theorem C53(s:List UInt8):0<=J3 (D6 s 1)/\J3 (D6 s 1)<=255:=by
 have hb:=A0B (D6 s 1);have:(D6 s 1).length=0\/(D6 s 1).length=1:=by unfold D6; split<;>simp; omega
 rcases this with e|e<;>rw[e] at hb<;>simp at hb<;>omega
theorem C54(s:List UInt8):0<=J3 (D6 s 2)/\J3 (D6 s 2)<=65535:=by
 have hb:=A0B (D6 s 2);have:(D6 s 2).length=0\/(D6 s 2).length=1\/(D6 s 2).length=2:=by unfold D6; split<;>simp; omega
 rcases this with e|e|e<;>rw[e] at hb<;>simp at hb<;>omega
theorem B6o(s:List UInt8)(id:Nat)(hs:s.length<=9223372036854775807):
  A2 Tryz.prog 223 [.str s] [] id (.tup [Y9 (A8 s).b,.int .i64 (A8 s).n,.int .i64 (A8 s).e]) []:=by
 have l1:=M8 s 2;have hn:=A0B (D6 s 2);simp only[Y9];refine w223.e.1 fun E hP hR hl hid=>?_;simp[w223];(refine yH rfl (B45 _ s false _ _ (by omega)) ?_; simp);(refine yH rfl (B2P _ (A7 s 2) (sh1 s false 2) _ _ _ (by omega) hn.1) ?_; simp);refine E5 (fun h=>?_) (fun h=>?_)
 ·simp;have hv:A8 s=⟨⟨0,[]⟩,0,5⟩:=by unfold A8 A3B; rw[zj h]
  rw[hv] at hR;refine yE hR [] (by simp[A4 hid]) fun hrn=>⟨?_,?_,?_,?_,?_,?_⟩<;>(try simp[A4 hid])
 ·have hds:¬A3B s=true:=by unfold A3B; rw[h]; simp
  have lb0:=B6n (A7 s 2) (J3 (D6 s 2)).toNat;have lb:(I0 s).length<=9223372036854775807:=by unfold I0; omega
  have lb1:=M8 (I0 s) 2;have lb2:=M8 (A7 (I0 s) 2) 1;rw[show D6 (A7 s 2) (J3 (D6 s 2)).toNat=I0 s from rfl];simp;(refine yH rfl (B45 _ (I0 s) false _ _ (by omega)) ?_; simp);(refine yH rfl (A5b _ (A7 (I0 s) 2) (sh1 (I0 s) false 2) _ _ (by omega)) ?_; simp);have hk:=C53 (A7 (I0 s) 2);have hkk:((J3 (D6 (A7 (I0 s) 2) 1)).toNat:Int)=J3 (D6 (A7 (I0 s) 2) 1):=by omega
  refine D0 (X:=Nat×RdL) (fun x=>⟨[(2,true,.ptr E.n0 0 0),(6,true,.int .i64 (J3 (D6 s 2))),(8,true,.ptr (E.n0+1) 0 0),(9,true,.ptr (E.n0+2) 0 0),(10,true,.int .i64 x.1)],
    [(E.n0,some ⟨[.agg [.int .i64 0,.nils]],.agg [.int .i64 0,.nils],false,false⟩),(E.n0+1,some (bxR x.2.s x.2.sh (.agg [.str [],.bool false]))),(E.n0+2,some ⟨[.agg [.int .i64 (A2W (I0 s)),.bsl (E.n0+3) 0 x.2.l.length]],.agg [.int .i64 0,.nils],false,false⟩),(E.n0+3,some (bxE x.2.l false))],4⟩)
   (fun x=>(x.2.l++(A2V x.1 x.2.s x.2.sh).l=(q8 (I0 s)).l/\(A2V x.1 x.2.s x.2.sh).s=(q8 (I0 s)).s/\(A2V x.1 x.2.s x.2.sh).sh=(q8 (I0 s)).sh)/\x.2.l.length+x.1<=255/\x.2.s.length<=9223372036854775807) (fun x=>x.1)
   ((J3 (D6 (A7 (I0 s) 2) 1)).toNat,⟨[],A7 (A7 (I0 s) 2) 1,sh1 (A7 (I0 s) 2) (sh1 (I0 s) false 2) 1⟩) ?_ ⟨⟨by simp only[q8,xm],by simp only[q8],by simp only[q8]⟩,by simp; omega,by simp; omega⟩ ?_
  ·refine E4.trans (E4.voidBox (E.n0+25600) (by simp; rfl) rfl (.agg [.int .i64 (A2W (I0 s)),.nils] [.int .i64 (A2W (I0 s)),.bsl (E.n0+30720) 0 0] rfl (fun m x y h1 h2=>?_)) (.agg [.int .i64 0,.int .i64 0,.int .i64 0,.int .i64 0,.int .i64 0,.str []])) ?_
   ·match m,h1,h2 with
    | 0,h1,h2=>simp at h1 h2; exact .inl (h1.symm.trans h2)
    | 1,h1,h2=>simp at h1 h2; exact .inr ⟨h1.symm,h2.symm⟩
    | m+2,h1,h2=>simp at h1
   ·refine yV [(E.n0,E.n0),(E.n0+1,E.n0+20480),(E.n0+2,E.n0+25600),(E.n0+3,E.n0+30720)] (by simp[hkk,A2W]) fun hrn=>⟨?_,?_,?_,?_,?_⟩<;>(try simp[hkk,A2W])
  ·rintro⟨k,l,s1,sh⟩ ⟨⟨hf1,hf2,hf3⟩,hlen,hs1⟩ p hp;simp only at hf1 hf2 hf3 hlen hs1 hp;refine A3 4000 ?_;simp;refine E5 (fun h=>?_) (fun h=>?_)
   ·obtain⟨h1,h2⟩:0<k/\sh=false:=by simpa using h
    subst h2;obtain⟨m,rfl⟩:∃m,k=m+1:=⟨k - 1,by omega⟩;simp only[A2V,xi,if_false] at hf1 hf2 hf3;have hel:=B46 s1 false;simp;(refine D8 hP rfl (B6m (E.n0+1) s1 false _ _ (by omega)) (by simp[K7]) (by simp[K7]<;>rfl) ?_; refine A3 4000 ?_; simp[K7]);have hm1:IntKind.i64.wrap (m:Int)=m:=A5 (by omega);refine⟨⟨by omega,by omega⟩,hp _ (m,⟨l++[(O4 s1 false).e],(O4 s1 false).s,(O4 s1 false).sh⟩) ⟨⟨by simpa using hf1,hf2,hf3⟩,by simp; omega,by simp; omega⟩ (by simp) ?_⟩;refine yV [(E.n0,E.n0),(E.n0+1,E.n0+1),(E.n0+2,E.n0+2),(E.n0+3,E.n0+14340)] (by simp[hm1]) fun hrn=>⟨?_,?_,?_,?_,?_⟩<;>(try simp[hm1]);exact C2 (by simp[K7]) (by simp[C4])
   ·simp;have h0:(A2V k s1 sh).l=[]/\(A2V k s1 sh).s=s1/\(A2V k s1 sh).sh=sh:=by
     cases k with
     | zero=>exact⟨rfl,rfl,rfl⟩
     | succ k =>
      have:sh=true:=by simpa using h
      subst this; exact⟨rfl,rfl,rfl⟩
    rw[h0.1,xr] at hf1;rw[h0.2.1] at hf2;rw[h0.2.2] at hf3;subst hf1 hf2 hf3;refine E5 (fun h1=>?_) (fun h1=>?_)
    ·simp;have h1':(q8 (I0 s)).sh=true\/(q8 (I0 s)).s≠[]:=(by simpa using h1);have hv:A8 s=⟨⟨0,[]⟩,0,1⟩:=(by unfold A8; rw[zf hds,zj h1']);rw[hv] at hR;refine yE hR [] (by simp[A4 hid]) fun hrn=>⟨?_,?_,?_,?_,?_,?_⟩<;>(try simp[A4 hid])
    ·simp;have h1':¬((q8 (I0 s)).sh=true\/(q8 (I0 s)).s≠[]):=(by simpa using h1);(refine A2T hP rfl (A9X ⟨A2W (I0 s),(q8 (I0 s)).l⟩ _) (by simp[Y9]<;>rfl) (by simp[Y9]) (by simp[Y9]<;>rfl) (by simp[Y9]) ?_; refine A3 4000 ?_; simp[Y9]);refine E5 (fun h2=>?_) (fun h2=>?_)
     ·simp;have h2':I2 ⟨A2W (I0 s),(q8 (I0 s)).l⟩≠0:=(by simpa using h2);have hv:A8 s=⟨⟨0,[]⟩,0,I2 ⟨A2W (I0 s),(q8 (I0 s)).l⟩⟩:=(by unfold A8; rw[zf hds,zf h1',zj h2']);rw[hv] at hR;refine yE hR [] (by simp[A4 hid]) fun hrn=>⟨?_,?_,?_,?_,?_,?_⟩<;>(try simp[A4 hid])
     ·simp;have h2':¬I2 ⟨A2W (I0 s),(q8 (I0 s)).l⟩≠0:=(by simpa using h2);have hv:A8 s=⟨⟨A2W (I0 s),(q8 (I0 s)).l⟩,J3 (D6 s 2)+2,0⟩:=(by unfold A8; rw[zf hds,zf h1',zf h2']);rw[hv] at hR;have h65:=C54 s;have hw2:IntKind.i64.wrap (J3 (D6 s 2)+2)=J3 (D6 s 2)+2:=A5 (by omega);have hrn:H5 []:=(by simp[hw2,A4 hid]);rw[hR];refine L6 (by simp<;>rfl) (by simp[hw2,A4 hid]<;>exact⟨rfl,rfl⟩) [] hrn ⟨?_,?_,?_,?_,?_,?_⟩<;>(try simp[hw2,A4 hid])
end Go.Am
