/- Queries that a law makes out of a schema: they fit. No condition. -/
import Derived.Test.YtbjmmndeeeoloaaGreatDoorYL
namespace Go.Am
set_option linter.all false
open Go Go.RowKit Go.Proofs
set_option maxRecDepth 100000
set_option linter.all false
theorem findJ_first{α:Type}{p:α→Bool}:∀(l:List α) (i j:Nat) (x:α),l[i]?=some x→p x=true→(l.take i).any p=false→findJ p l j=((j+i:Nat):Int)∧l.find? p=some x
 | [],i,j,x,h,_,_=>by simp at h
 | y::r,0,j,x,h,hp,_=>by
  simp at h; subst h
  exact⟨by simp[findJ,hp],by simp[hp]⟩
 | y::r,i+1,j,x,h,hp,hn=>by
  simp only[List.take_succ_cons,List.any_cons,Bool.or_eq_false_iff] at hn
  obtain⟨h1,h2⟩:=findJ_first r i (j+1) x (by simpa using h) hp hn.2
  refine⟨?_,by rw[List.find?_cons,hn.1]; exact h2⟩
  rw[findJ,if_neg (by simp[hn.1]),h1]; congr 1; omega
theorem ty_found{l:List Ty}(h:fCheckT l=0){i:Nat}{t:Ty}(hi:l[i]?=some t):kindOf l t.name=(i:Int)∧typeAt l t.name=some t∧firstIx (fun k f=>fField l f (t.fields.take k)) t.fields 0=0:=by
 unfold fCheckT at h
 split at h
 ·cases h
 split at h
 ·cases h
 have h0:=firstIx_z h i t hi
 rw[Nat.zero_add] at h0
 unfold fType at h0
 split at h0
 ·rename_i g; exact (g h0).elim
 split at h0
 ·cases h0
 split at h0
 ·cases h0
 rename_i g3
 split at h0
 ·cases h0
 split at h0
 ·cases h0
 have hno:(l.take i).any (fun x=>x.name==t.name)=false:=by simpa [hasT] using g3
 obtain⟨q1,q2⟩:=findJ_first (p:=fun x:Ty=>x.name==t.name) l i 0 t hi (by simp) hno
 exact⟨by unfold kindOf; rw[q1]; simp,q2,h0⟩
theorem fd_found{l:List Ty}{t:Ty}(h:firstIx (fun k f=>fField l f (t.fields.take k)) t.fields 0=0){k:Nat}{f:Fd}(hk:t.fields[k]?=some f):findJ (fun x=>x.name==f.name) t.fields 0=(k:Int)∧t.fields.find? (fun x=>x.name==f.name)=some f:=by
 have h0:=firstIx_z h k f hk
 rw[Nat.zero_add] at h0
 unfold fField at h0
 split at h0
 ·rename_i g; exact (g h0).elim
 split at h0
 ·cases h0
 split at h0
 ·cases h0
 rename_i g3
 have hno:(t.fields.take k).any (fun x=>x.name==f.name)=false:=by simpa [hasF] using g3
 obtain⟨q1,q2⟩:=findJ_first (p:=fun x:Fd=>x.name==f.name) t.fields k 0 f hk (by simp) hno
 exact⟨by rw[q1]; simp,q2⟩
def tSome:List UInt8:=[115,111,109,101]
def tAll:List UInt8:=[97,108,108]
def sId:Sel:=.mk [] tId [] []
def q1F(fn:List UInt8)(n:Int):Sel:=.mk tSome fn [⟨tFirst,false,[],n⟩] [sId]
def q2F(fn:List UInt8):Sel:=.mk tAll fn [] [sId]
def qF(tn fn:List UInt8)(i n:Int):List Sel:=[.mk [] tn [⟨tId,false,[],i⟩] [q1F fn n,q2F fn]]
theorem kid_id(l:List Ty)(t:Ty):fKid l t sId=0:=by
 rw[fKid_eq]
 simp[sId,Sel.name,Sel.args,Sel.kids,fieldAt,fArgsV,firstE]
theorem qF_query{tn fn:List UInt8}{i n:Int}(h1:fName tn=0)(h2:fName fn=0)(hi:1≤i∧i≤999)(hn:0≤n∧n≤999999999):fQuery (qF tn fn i n)=0:=by
 have a1:fName tId=0:=by decide
 have a2:fName tFirst=0:=by decide
 have a3:fName tSome=0:=by decide
 have a4:fName tAll=0:=by decide
 have b1:¬tSome=[]:=by decide
 have b2:¬tAll=[]:=by decide
 have b3:¬tSome=tAll:=by decide
 simp[fQuery,qF,q1F,q2F,sId,manyL,deepL,Sel.kids,fChkL,fChkK,fSel1,Sel.name,Sel.alias,Sel.args,fArgs,firstIx,fArg1,fArg,hasA,called,a1,a2,a3,a4,b1,b2,b3,h1,h2]
 omega
theorem qF_fits{s:Sta}(hs:RtL s)(hc:fCheckT s.types=0){kd:Nat}{ty:Ty}(hty:s.types[kd]?=some ty){k:Nat}{f:Fd}(hf:ty.fields[k]?=some f)(h4:f.kind=4){i n:Int}(hi:1≤i∧i≤999)(hn:0≤n∧n≤999999999):
  fFits s.types (qF ty.name f.name i n)=0∧fKid s.types ty (q1F f.name n)=0∧fKid s.types ty (q2F f.name)=0:=by
 obtain⟨t1,t2,t3⟩:=ty_found hc hty
 obtain⟨g1,g2⟩:=fd_found t3 hf
 have hne:=(hs.r.sch.fnames ty (List.mem_of_getElem? hty) f (List.mem_of_getElem? hf)).2
 have hfa:fieldAt ty f.name=some f:=by unfold fieldAt; rw[if_neg hne]; exact g2
 have hln:=hs.r.sch.linked ty (List.mem_of_getElem? hty) f (List.mem_of_getElem? hf) (.inr h4)
 have hk:∀x:Sel,x.name=f.name→x.kids=[sId]→fArgsV x.args tFirst true 0 999999999=0→fKid s.types ty x=0:=fun x e1 e2 e3=>by
  rw[fKid_eq,e1,hfa]
  simp only[h4,e2]
  rw[if_neg (by simpa using e3),if_neg (by decide),if_neg (by decide)]
  cases typeAt s.types f.of with
  | none=>rfl
  | some t'=>simp[fKids,kid_id]
 have k1:=hk (q1F f.name n) rfl rfl (by simp[q1F,Sel.args,fArgsV,firstE,fArgV]; omega)
 have k2:=hk (q2F f.name) rfl rfl (by simp[q2F,Sel.args,fArgsV,firstE])
 refine⟨?_,k1,k2⟩
 have hr:fRoot s.types (.mk [] ty.name [⟨tId,false,[],i⟩] [q1F f.name n,q2F f.name])=0:=by
  have ha:fArgsV [⟨tId,false,[],i⟩] tId true 1 999=0:=by simp[fArgsV,firstE,fArgV]; omega
  unfold fRoot
  simp only[Sel.name,t2,Sel.args,Sel.kids,ha]
  simp[fKids,k1,k2]
 simp[fFits,qF,firstE,hr]
theorem wId(s:Sta)(u:Tg):wL s [sId] u=1∧oL s [sId] u=[oNum u.id]:=by
 simp[wL,oL,wS_eq,oS_eq',sId,Sel.name]
theorem thW_id(s:Sta)(kd y:Int):thW s (wL s [sId]) kd y≤2:=by
 unfold thW
 cases thA s kd y with
 | none=>simp
 | some u=>simp[(wId s u).1]
theorem sum_le2{f:Int→Nat}(h:∀y,f y≤2):∀l:List Int,(l.map f).sum≤2*l.length
 | []=>by simp
 | y::r=>by have:=sum_le2 h r; have:=h y; simp only[List.map_cons,List.sum_cons,List.length_cons]; omega
theorem qF_at{s:Sta}(hs:RtL s){ty:Ty}{u:Tg}(hu:u∈s.things)(hty:s.types[u.type.toNat]?=some ty){fn:List UInt8}{f0:Fd}(hf0:f0∈ty.fields)(h4:f0.kind=4)(hfd:ty.fields.find? (fun x=>x.name==fn)=some f0)(hne:fn≠tId){x:Sel}(hxn:x.name=fn)(hxk:x.kids=[sId])(hk:fKid s.types ty x=0):
  ∃c:Cl,c.ids.length≤6∧(∃k:Nat,u.cells[k]?=some c)∧fcOf s u fn=some (f0,c)∧oS s x u=oList ((takeA x.args c.ids).map (thO s [tId] (oL s [sId]) (kindOf s.types f0.of)))∧wS s x u≤13:=by
 obtain⟨k,f,c,e1,e2,e3,e4,e5,hkd,hcl,_,_,_⟩:=fits_at hs hu hty hk (by rw[hxn]; exact hne)
 rw[hxn] at e1 e4
 have hff:f=f0:=by
  rcases findJ_spec (fun g:Fd=>g.name==fn) ty.fields 0 with⟨r1,r2⟩|⟨j,g,r1,r2,r3⟩
  ·rw[hfd] at r1; cases r1
  ·rw[e1] at r2
   have:j=k:=by omega
   subst this
   rw[e2] at r1; injection r1 with r1
   rw[hfd] at r3; injection r3 with r3
   rw[r1,r3]
 subst hff
 have hi6:=hcl.i1
 have hct:called sId=tId:=by decide
 refine⟨c,hi6,⟨k,e3⟩,e4,?_,?_⟩
 ·rw[oS_eq',if_neg (by rw[hxn]; exact hne),hxn,e4]
  simp only
  rw[if_neg (by omega),if_neg (by omega),if_pos h4,hxk]
  simp[hct]
 ·rw[wS_eq,if_neg (by rw[hxn]; exact hne),hxn,e4]
  simp only
  rw[if_neg (by omega),if_pos h4,hxk]
  have h1:=sum_le2 (fun y=>thW_id s (kindOf s.types f.of) y) (takeA x.args c.ids)
  have h2:=takeA_len x.args c.ids
  omega
end Go.Am
