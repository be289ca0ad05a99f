/- Parts of the proof: an abstract machine for Go functions, and what functions of the program give back (Ex1, Ex2, Ex3, Ex4, Ex5, Ex6). No condition. -/
import Derived.Test.YthghjjancoopoaaDoorXD
import Derived.Test.YthghjjancoopoaaDoorCcB
import Derived.Test.YthghjjancoopoaaDoorXJ
import Derived.Test.YthghjjancoopoaaDoorXI
namespace Go.Am
set_option linter.all false
open Go Go.RowKit Go.Proofs
set_option maxRecDepth 100000
set_option linter.all false
def bR(s:Sta)(m:Nat):Bx:=⟨[.agg [.sl (s.types.map eTy),.sl (s.things.map eTg),.int .i64 m]],.agg [.sl (s.types.map eTy),.sl (s.things.map eTg),.int .i64 0],false,false⟩
def tm:AV:=.iface 100 (.agg [])
def rnR(s:Sta)(J m w:Nat)(v:AV):Except AV (AV×List (Nat×Option Bx)):=if m+w≤2000 then .ok (v,[(J,some (bR s (m+w)))]) else .error tm
theorem rnR_ok{s:Sta}{J m w:Nat}{v:AV}(h:m+w≤2000):rnR s J m w v = .ok (v,[(J,some (bR s (m+w)))]):=if_pos h
theorem rnR_no{s:Sta}{J m w:Nat}{v:AV}(h:¬m+w≤2000):rnR s J m w v = .error tm:=if_neg h
end Go.Am
namespace Go.Am
set_option linter.all false
open Go Go.RowKit Go.Proofs
set_option maxRecDepth 100000
set_option linter.all false
inductive Out where
 | mk (kind n:Int) (text:List UInt8) (keys:List (List UInt8)) (list:List Out)
mutual
def eO:Out→AV
 | .mk k n t ks l=>.agg [.int .i64 k,.int .i64 n,.str t,.sl (ks.map .str),.sl (eOs l)]
def eOs:List Out→List AV
 | []=>[]
 | o::r=>eO o::eOs r
end
theorem eOs_map(l:List Out):eOs l=l.map eO:=by
 induction l with
 | nil=>rfl
 | cons o r ih=>simp[eOs,ih]
theorem eO_eq(k n:Int)(t:List UInt8)(ks:List (List UInt8))(l:List Out):eO (.mk k n t ks l) = .agg [.int .i64 k,.int .i64 n,.str t,.sl (ks.map .str),.sl (l.map eO)]:=by
 simp[eO,eOs_map]
theorem pure_strs(l:List (List UInt8)):pureL (l.map AV.str)=true:=pureL_map (fun _=>rfl) l
mutual
theorem pure_eO:∀o:Out,(eO o).pureB=true
 | .mk k n t ks l=>by simp[eO,pure_strs,pure_eOs l]
theorem pure_eOs:∀l:List Out,pureL (eOs l)=true
 | []=>rfl
 | o::r=>by simp[eOs,pure_eO o,pure_eOs r]
end
theorem pure_outs(l:List Out):pureL (l.map eO)=true:=pureL_map pure_eO l
def oNone:Out:=.mk 1 0 [] [] []
def oNum(n:Int):Out:=.mk 2 n [] [] []
def oText(t:List UInt8):Out:=.mk 3 0 t [] []
def oList(l:List Out):Out:=.mk 4 0 [] [] l
def oMap(ks:List (List UInt8))(l:List Out):Out:=.mk 5 0 [] ks l
end Go.Am
namespace Go.Am
set_option linter.all false
open Go Go.RowKit Go.Proofs
set_option maxRecDepth 100000
set_option linter.all false
end Go.Am
namespace Go.Am
set_option linter.all false
open Go Go.RowKit Go.Proofs
set_option maxRecDepth 100000
set_option linter.all false
@[simp] theorem names_nl (S:Nat→Prop):namesL S []:=namesL_pure _ rfl
@[simp] theorem names_strl (S:Nat→Prop) (l:List (List UInt8)):namesL S (l.map .str):=namesL_pure _ (pure_strs l)
@[simp] theorem names_outl (S:Nat→Prop) (l:List Out):namesL S (l.map eO):=namesL_pure _ (pure_outs l)
@[simp] theorem ren_strl (R:Rn) (S:Nat→Prop) (l:List (List UInt8)):RenL R S (l.map .str) (l.map .str):=renL_pure rfl (pure_strs l)
@[simp] theorem ren_outl (R:Rn) (S:Nat→Prop) (l:List Out):RenL R S (l.map eO) (l.map eO):=renL_pure rfl (pure_outs l)
attribute [simp] pure_strs pure_outs
theorem FnE.nrm{P:Program}{f:Nat}{args:List AV}{rd:List (Nat×Bx)}{id:Nat}{s:Sta}{J m w:Nat}{v:AV}(h:FnE P f args rd id (rnR s J m w v)):FnE P f args rd id (rnR s J m w v.nrm):=by
 by_cases k:m+w≤2000
 ·rw[rnR_ok k] at h ⊢; exact FnOk.nrm h
 ·rw[rnR_no k] at h ⊢; exact h
end Go.Am
namespace Go.Am
set_option linter.all false
open Go Go.RowKit Go.Proofs
set_option maxRecDepth 100000
set_option linter.all false
mutual
theorem nrm_eO:∀o:Out,(eO o).nrm=eO o
 | .mk k n t ks l=>by
  have h1:nrmL (ks.map AV.str)=ks.map AV.str:=by
   induction ks with
   | nil=>rfl
   | cons a r ih=>simp[nrmL,AV.nrm,ih]
  simp[eO,AV.nrm,nrmL,h1,nrm_eOs l]
theorem nrm_eOs:∀l:List Out,nrmL (eOs l)=eOs l
 | []=>rfl
 | o::r=>by simp[eOs,nrmL,nrm_eO o,nrm_eOs r]
end
end Go.Am
namespace Go.Am
set_option linter.all false
open Go Go.RowKit Go.Proofs
set_option maxRecDepth 100000
set_option linter.all false
end Go.Am
