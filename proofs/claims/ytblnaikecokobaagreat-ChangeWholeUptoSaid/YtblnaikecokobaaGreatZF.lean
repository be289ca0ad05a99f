/- Changes: what is set twice is set once; what is made is there. No condition. -/
import Derived.Test.YtblnaikecokobaaGreatXX
import Derived.Test.YtblnaikecokobaaGreatYJ
import Derived.Test.YtblnaikecokobaaGreatZB
namespace Go.Am
set_option linter.all false
open Go Go.RowKit Go.Proofs
set_option maxRecDepth 100000
set_option linter.all false
def isSet(e:Ev):Prop:=e.kind=3∨e.kind=4
theorem set_same2{s:Sta}(h:Rt s){x y:Ev}(hn:I64 x.n)(kx:isSet x)(ky:isSet y)(hx:rawE s x=0)(hy:rawE s y=0)(hl:x.type=y.type∧x.id=y.id∧x.field=y.field):
  rawE (rawS s x) y=0∧rawS (rawS s x) y=rawS s y:=by
 have ox:=evOk h hx
 have oy:=evOk h hy
 have k3x:3≤x.kind:=by unfold isSet at kx; omega
 have k3y:3≤y.kind:=by unfold isSet at ky; omega
 obtain⟨t,f,c,hh⟩:=chOk h ox k3x
 obtain⟨t',f',c',hg⟩:=chOk h oy k3y
 obtain⟨l1,l2,l3⟩:=hl
 have hi:rawI s y=rawI s x:=by unfold rawI; rw[l1,l2]
 have et:t'=t:=by have:=hg.tt; rw[hi,hh.tt] at this; injection this with this; exact this.symm
 subst et
 have ef:f'=f:=by have:=hg.ff; rw[←l1,←l3,hh.ff] at this; injection this with this; exact this.symm
 subst ef
 have ec:c'=c:=by have:=hg.cc; rw[←l3,hh.cc] at this; injection this with this; exact this.symm
 subst ec
 have hk:x.kind=y.kind:=by
  have h1:=hh.fits
  have h2:=hg.fits
  unfold isSet at kx ky
  unfold kindFits at h1 h2
  rcases kx with kx|kx<;>rcases ky with ky|ky<;>simp[kx,ky] at h1 h2⊢<;> omega
 obtain⟨b1,b2⟩:=chg_back h hh k3x (there_of ox (by omega)) l1.symm l2.symm l3.symm k3y hg.fits hh.st
 have hE:chgE (rawS s x) f' (chgC f' c' x) y=chgE s f' c' y:=by
  unfold chgE isSet at *
  rcases ky with ky|ky<;>simp[ky]
 have hC:chgC f' (chgC f' c' x) y=chgC f' c' y:=by
  unfold chgC isSet at *
  rcases ky with ky|ky<;>simp[ky,hk]
 have ht:=(rt_raw h hn hx).2
 constructor
 ·rw[rawE_of oy.form oy.ty0 (by rw[ht]; exact oy.ty1) oy.id1 oy.id2,b1,hE]
  exact hg.che
 ·rw[b2,hC,hg.st,hi,l3]
theorem set_two{s:Sta}(h:Rt s){x y:Ev}(hn:I64 x.n)(hm:I64 y.n)(kx:isSet x)(ky:isSet y)(hx:rawE s x=0)(hy:rawE s y=0):
  rawE (rawS s x) y=0∧(rawS (rawS s x) y=rawS s y∨(x≠y∧rawE (rawS s y) x=0∧rawS (rawS s x) y=rawS (rawS s y) x)):=by
 by_cases hl:x.type=y.type∧x.id=y.id∧x.field=y.field
 ·obtain⟨a,b⟩:=set_same2 h hn kx ky hx hy hl
  exact⟨a,.inl b⟩
 ·obtain⟨a,b,c⟩:=apart_two h hn hm hx hy (by unfold isSet at kx; omega) (by unfold isSet at ky; omega) hl
  exact⟨a,.inr ⟨fun e=>hl (by subst e; exact⟨rfl,rfl,rfl⟩),b,c⟩⟩
theorem allE_cons{s:Sta}{e:Ev}{l:List Ev}(h:allE s (e::l)=0):rawE s e=0∧allE (rawS s e) l=0:=by
 simp only[allE] at h
 split at h
 ·rename_i g; exact (g h).elim
 ·rename_i g; exact⟨Classical.byContradiction g,h⟩
theorem allE_mk{s:Sta}{e:Ev}{l:List Ev}(h:rawE s e=0)(h2:allE (rawS s e) l=0):allE s (e::l)=0:=by
 simp only[allE]
 rw[if_neg (by simpa using h)]
 exact h2
theorem allE_ahead:∀(l:List Ev) {s:Sta} {x:Ev},Rt s→(∀e∈l,I64 e.n∧isSet e)→I64 x.n→isSet x→rawE s x=0→allE s l=0→allE (rawS s x) l=0
 | [],s,x,h,hl,hn,kx,hx,ha=>rfl
 | d::r,s,x,h,hl,hn,kx,hx,ha=>by
  obtain⟨hd,hr⟩:=allE_cons ha
  obtain⟨nd,kd⟩:=hl d (by simp)
  obtain⟨a,b⟩:=set_two h hn nd kx kd hx hd
  refine allE_mk a ?_
  rcases b with b|⟨_,b,c⟩
  ·rw[b]; exact hr
  ·rw[c]
   exact allE_ahead r (rt_raw h nd hd).1 (fun e he=>hl e (by simp[he])) hn kx b hr
theorem allE_twice:∀(k l:List Ev) {s:Sta},Rt s→(∀e∈l,I64 e.n∧isSet e)→(∀e∈k,I64 e.n∧isSet e)→allE s k=0→allE s l=0→allE (allS s k) l=0
 | [],l,s,h,hl,hk,h1,h2=>h2
 | d::r,l,s,h,hl,hk,h1,h2=>by
  obtain⟨hd,hr⟩:=allE_cons h1
  obtain⟨nd,kd⟩:=hk d (by simp)
  exact allE_twice r l (rt_raw h nd hd).1 hl (fun e he=>hk e (by simp[he])) hr (allE_ahead l h hl nd kd hd h2)
theorem allS_ahead:∀(l:List Ev) {s:Sta} {x:Ev},Rt s→(∀e∈l,I64 e.n∧isSet e)→I64 x.n→isSet x→rawE s x=0→allE s l=0→x∈l→allS (rawS s x) l=allS s l
 | [],s,x,h,hl,hn,kx,hx,ha,hm=>by cases hm
 | d::r,s,x,h,hl,hn,kx,hx,ha,hm=>by
  obtain⟨hd,hr⟩:=allE_cons ha
  obtain⟨nd,kd⟩:=hl d (by simp)
  obtain⟨a,b⟩:=set_two h hn nd kx kd hx hd
  simp only[allS]
  rcases b with b|⟨hne,b,c⟩
  ·rw[b]
  ·rw[c]
   refine allS_ahead r (rt_raw h nd hd).1 (fun e he=>hl e (by simp[he])) hn kx b hr ?_
   rcases List.mem_cons.1 hm with e|hm
   ·exact (hne e).elim
   ·exact hm
theorem allS_twice:∀(k l:List Ev) {s:Sta},Rt s→(∀e∈l,I64 e.n∧isSet e)→(∀e∈k,e∈l)→allE s k=0→allE s l=0→allS (allS s k) l=allS s l
 | [],l,s,h,hl,hk,h1,h2=>rfl
 | d::r,l,s,h,hl,hk,h1,h2=>by
  obtain⟨hd,hr⟩:=allE_cons h1
  have hm:=hk d (by simp)
  obtain⟨nd,kd⟩:=hl d hm
  have ih:=allS_twice r l (rt_raw h nd hd).1 hl (fun e he=>hk e (by simp[he])) hr (allE_ahead l h hl nd kd hd h2)
  exact ih.trans (allS_ahead l h hl nd kd hd h2 hm)
theorem made_there{s:Sta}(h:Rt s){e:Ev}(hn:I64 e.n)(hk:e.kind=1)(he:rawE s e=0):rawE (rawS s e) e=6:=by
 have oe:=evOk h he
 obtain⟨h1,ht⟩:=rt_raw h hn he
 rw[rawE_of oe.form oe.ty0 (by rw[ht]; exact oe.ty1) oe.id1 oe.id2]
 have hb:rawB (rawS s e) e=true:=by
  unfold rawB
  rw[h1.srt.findB ⟨by have:=oe.ty0; omega,by have:=oe.ty2; omega⟩ (by have:=oe.id1; have:=oe.id2; unfold I64; omega),rawS1 hk]
  simp[isTg]
 unfold doE
 rw[if_pos hk,if_pos hb]
theorem allS_types:∀(l:List Ev) {s:Sta},Rt s→(∀e∈l,I64 e.n)→allE s l=0→(allS s l).types=s.types
 | [],s,h,hn,ha=>rfl
 | d::r,s,h,hn,ha=>by
  obtain⟨hd,hr⟩:=allE_cons ha
  obtain⟨a,b⟩:=rt_raw h (hn d (by simp)) hd
  exact (allS_types r a (fun e he=>hn e (by simp[he])) hr).trans b
end Go.Am
