/- Parts of the proof: an abstract machine for Go functions, and what functions of the program give back (Rh1, Hl1). No condition. -/
import Derived.Test.YtblnaikecokobaaGreatYI
import Derived.Test.YtblnaikecokobaaGreatYG
import Derived.Test.YtblnaikecokobaaGreatXY
import Derived.Test.YtblnaikecokobaaGreatXF
namespace Go.Am
set_option linter.all false
open Go Go.RowKit Go.Proofs
set_option maxRecDepth 100000
set_option linter.all false
theorem rt_all:∀(s:Sta) (l:List Ev),Rt s→(∀e∈l,I64 e.n)→allE s l=0→Rt (allS s l)
 | s,[],h,_,_=>h
 | s,x::l,h,hn,ha=>by
  simp only[allE] at ha
  split at ha
  ·rename_i g; exact (g ha).elim
  ·rename_i g
   exact rt_all _ l (rt_raw h (hn x (List.mem_cons_self ..)) (Classical.byContradiction g)).1 (fun e he=>hn e (List.mem_cons_of_mem _ he)) ha
end Go.Am
namespace Go.Am
set_option linter.all false
open Go Go.RowKit Go.Proofs
set_option maxRecDepth 100000
set_option linter.all false
theorem rt_at{l:List Ty}{ev:List Ev}{n:Int}(hI:∀e∈ev,I64 e.n)(h:atE l ev n=0):Rt (atS l ev n):=by
 unfold atE at h
 by_cases h0:fCheckT l=0
 ·rw[if_neg (by simpa using h0)] at h
  split at h
  ·omega
  ·exact rt_all _ _ (rt_nil h0) (fun e he=>hI e (List.mem_of_mem_take he)) h
 ·rw[if_pos h0] at h; exact (h0 h).elim
theorem sameEv_self(l:List Ev):sameL sameEv l l=true:=by
 induction l with
 | nil=>rfl
 | cons x l ih =>
  obtain⟨a,b,c,d,e,f⟩:=x
  simp only[sameL,ih,Bool.and_true]
  simp[sameEv]
theorem Evs_self(l:List Ev)(id:Nat)(h:l.length≤1000000000000000):FnOk Tryz.prog 13 [.sl (l.map eEv),.sl (l.map eEv)] [] id (.bool true) []:=by
 have:=SameEvents_ok l l id (by omega)
 rwa [sameEv_self] at this
def evD:List Ev:=[⟨1,0,1,0,0,[]⟩,⟨3,0,1,0,4,[]⟩,⟨1,1,2,0,0,[]⟩,⟨5,0,1,2,2,[]⟩]
theorem deeds_ok(id:Nat):FnOk Tryz.prog 37 [] [] id (.sl (evD.map eEv)) []:=by
 unfold evD
 simp only[List.map_cons,List.map_nil,eEv]
 refine fn_okc Tryz.func37 hcc37 (by decide) hcr37 (by simp[Tryz.ntmps37]) fun E hP hR hl hid=>?_
 simp only[cr37] at hR
 refine w_go 4000 ?_
 simp[cc37]
 have hrn:rnOk []:=by simp[idO hid]
 rw[hR]
 refine rt_endR (by simp<;>rfl) (by simp[idO hid]<;>exact⟨rfl,rfl⟩) [] hrn ⟨?_,?_,?_,?_,?_,?_⟩<;>(try simp[idO hid])
 exact namesL_pure _ rfl
def stD0:Sta:=⟨tyW,[]⟩
def stD2:Sta:=⟨tyW,[⟨0,1,[⟨4,[],[]⟩,cl0,cl0,cl0]⟩]⟩
def stD4:Sta:=⟨tyW,[⟨0,1,[⟨4,[],[]⟩,cl0,⟨0,[],[2]⟩,cl0]⟩,⟨1,2,[cl0]⟩]⟩
end Go.Am
