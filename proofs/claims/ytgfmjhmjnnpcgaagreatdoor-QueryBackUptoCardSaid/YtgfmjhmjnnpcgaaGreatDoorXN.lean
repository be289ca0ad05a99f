/- Parts of the proof: an abstract machine for Go functions, and what functions of the program give back (Qz0, St3, St4, Qz2, Qz3, St5, St6). No condition. -/
import Derived.Test.YtgfmjhmjnnpcgaaGreatDoorXM
import Derived.Test.YtgfmjhmjnnpcgaaGreatDoorXL
namespace Go.Am
set_option linter.all false
open Go Go.RowKit Go.Proofs
set_option maxRecDepth 100000
set_option linter.all false
theorem AllT.drop{l:List Tk}(h:AllT l)(n:Nat):AllT (l.drop n):=fun t ht=>h t (List.mem_of_mem_drop ht)
theorem isW_len{l:List Tk}(h:isW l=true):1≤l.length:=by
 cases l with
 | nil=>cases h
 | cons=>simp
theorem isS_len{l:List Tk}{c:UInt8}(h:isS l c=true):1≤l.length:=by
 cases l with
 | nil=>cases h
 | cons=>simp
theorem isV_len{l:List Tk}(h:isV l=true):1≤l.length:=by
 cases l with
 | nil=>cases h
 | cons=>simp
theorem txt_ne{l:List Tk}(h:AllT l)(hw:isW l=true):txt l≠[]:=by
 cases l with
 | nil=>cases hw
 | cons t r =>
  have h1:=h t (List.mem_cons_self ..)
  have hk:t.kind=1:=by simpa [isW] using hw
  intro h0
  have h0:t.text=[]:=h0
  unfold fTk at h1
  rw[hk,h0] at h1
  simp[fName,show nameOk []=false from rfl] at h1
theorem pHd_num{t u:List Tk}{a n:List UInt8}(h:AllT t)(hp:pHd t=some (a,n,u)):(tkHd a n).length+u.length=t.length∧∃k,u=t.drop k:=by
 unfold pHd at hp
 split at hp
 rotate_left
 ·cases hp
 rename_i h1
 have l1:=isW_len h1
 split at hp
 ·rename_i h2
  have l2:=isS_len h2
  split at hp
  ·rename_i h3
   have l3:=isW_len h3
   simp only[Option.some.injEq,Prod.mk.injEq] at hp
   obtain⟨rfl,rfl,rfl⟩:=hp
   simp only[List.length_drop] at l2 l3
   refine⟨?_,3,rfl⟩
   unfold tkHd
   rw[if_pos (txt_ne h h1)]
   simp only[List.length_cons,List.length_nil,List.length_drop]; omega
  ·cases hp
 ·simp only[Option.some.injEq,Prod.mk.injEq] at hp
  obtain⟨rfl,rfl,rfl⟩:=hp
  refine⟨?_,1,rfl⟩
  simp only[tkHd,ne_eq,not_true_eq_false,if_false,List.length_cons,List.length_nil,List.length_drop]; omega
theorem pAgs_num:∀(n:Nat) (acc:List Ag) (t u:List Tk) (l:List Ag),pAgs n acc t=some (l,u)→3*l.length+1+u.length=3*acc.length+t.length∧acc.length<l.length∧∃k,u=t.drop k
 | 0,_,_,_,_,h=>by cases h
 | n+1,acc,t,u,l,h=>by
  simp only[pAgs] at h
  split at h
  ·cases h
  rename_i p hp
  unfold pAg at hp
  split at hp
  rotate_left
  ·cases hp
  rename_i h1
  obtain⟨_,_,h3⟩:=h1
  have l3:=isV_len h3
  rw[List.length_drop] at l3
  injection hp with hp
  subst hp
  simp only at h
  split at h
  ·rename_i h4
   have l4:=isS_len h4
   rw[List.length_drop] at l4
   simp only[Option.some.injEq,Prod.mk.injEq] at h
   obtain⟨rfl,rfl⟩:=h
   refine⟨?_,by simp,4,by rw[List.drop_drop]⟩
   simp only[List.length_append,List.length_cons,List.length_nil,List.length_drop]; omega
  ·obtain⟨h5,h6,k,h7⟩:=pAgs_num n _ _ _ _ h
   simp only[List.length_append,List.length_cons,List.length_nil,List.length_drop] at h5 h6
   exact⟨by omega,by omega,3+k,by rw[h7,List.drop_drop]⟩
theorem pArgs_num{t u:List Tk}{x:List Ag}(hp:pArgs t=some (x,u)):(tkArgs x).length+u.length=t.length∧∃k,u=t.drop k:=by
 unfold pArgs at hp
 split at hp
 ·rename_i h1
  have l1:=isS_len h1
  obtain⟨h2,h3,k,h4⟩:=pAgs_num _ _ _ _ _ hp
  rw[List.length_drop] at h2
  simp only[List.length_nil] at h2 h3
  have hx:x≠[]:=List.length_pos_iff.1 h3
  refine⟨?_,1+k,by rw[h4,List.drop_drop]⟩
  unfold tkArgs
  rw[if_pos hx]
  simp only[List.length_cons,List.length_append,List.length_nil,agFm_len]; omega
 ·simp only[Option.some.injEq,Prod.mk.injEq] at hp
  obtain⟨rfl,rfl⟩:=hp
  exact⟨by simp[tkArgs],0,rfl⟩
theorem tkL_snoc(acc:List Sel)(s:Sel):(tkL (acc++[s])).length=(tkL acc).length+(tkSel s).length:=by simp[tkL_eq]
theorem pSel_num:∀n:Nat,(∀t s u,AllT t→pSel n t=some (s,u)→(tkSel s).length+u.length=t.length∧∃k,u=t.drop k)∧(∀t l u,AllT t→pSome n t=some (l,u)→(tkSels l).length+u.length=t.length∧l≠[]∧∃k,u=t.drop k)∧(∀acc t l u,AllT t→pSels n acc t=some (l,u)→(tkL l).length+1+u.length=(tkL acc).length+t.length∧l≠[]∧∃k,u=t.drop k)
 | 0=>⟨fun _ _ _ _ h=>by simp[pSel] at h,fun _ _ _ _ h=>by simp[pSome] at h,fun _ _ _ _ _ h=>by simp[pSels] at h⟩
 | n+1=>by
  obtain⟨h1,h2,h3⟩:=pSel_num n
  refine⟨fun t s u ht h=>?_,fun t l u ht h=>?_,fun acc t l u ht h=>?_⟩
  ·simp only[pSel] at h
   split at h
   ·cases h
   rename_i a nm v hv
   obtain⟨e1,k1,rfl⟩:=pHd_num ht hv
   split at h
   ·cases h
   rename_i xs w hw
   obtain⟨e2,k2,rfl⟩:=pArgs_num hw
   split at h
   ·split at h
    ·cases h
    rename_i k y hy
    obtain⟨e3,hne,k3,rfl⟩:=h2 _ _ _ ((ht.drop k1).drop k2) hy
    simp only[Option.some.injEq,Prod.mk.injEq] at h
    obtain⟨rfl,rfl⟩:=h
    refine⟨?_,k1+k2+k3,by simp only[List.drop_drop]⟩
    simp only[tkSel,tkKids_eq,if_pos hne,List.length_append]; omega
   ·simp only[Option.some.injEq,Prod.mk.injEq] at h
    obtain⟨rfl,rfl⟩:=h
    refine⟨?_,k1+k2,by simp only[List.drop_drop]⟩
    simp only[tkSel,tkKids,List.length_append,List.length_nil]; omega
  ·simp only[pSome] at h
   split at h
   ·rename_i h4
    have l4:=isS_len h4
    obtain⟨e1,hne,k,rfl⟩:=h3 _ _ _ _ (ht.drop 1) h
    simp only[List.length_drop,tkL,List.length_nil] at e1
    refine⟨?_,hne,1+k,by rw[List.drop_drop]⟩
    simp only[tkSels,List.length_cons,List.length_append,List.length_nil,List.length_drop]; omega
   ·cases h
  ·simp only[pSels] at h
   split at h
   ·cases h
   rename_i s v hv
   obtain⟨e1,k1,rfl⟩:=h1 _ _ _ ht hv
   split at h
   ·rename_i h4
    have l4:=isS_len h4
    simp only[Option.some.injEq,Prod.mk.injEq] at h
    obtain⟨rfl,rfl⟩:=h
    refine⟨?_,by simp,k1+1,by rw[List.drop_drop]⟩
    rw[tkL_snoc]
    simp only[List.length_drop] at *; omega
   ·obtain⟨e2,hne,k,rfl⟩:=h3 _ _ _ _ (ht.drop k1) h
    rw[tkL_snoc] at e2
    refine⟨by omega,hne,k1+k,by rw[List.drop_drop]⟩
theorem qry_num{s:List UInt8}{l:List Sel}(h:fQry s = .ok l):(tkSels l).length≤300:=by
 unfold fQry at h
 split at h
 ·cases h
 rename_i t ht
 have h3:=((fLex_ok s t).1 ht).2.2
 have ha:AllT t:=((fTks_all t).1 (lex_back ht)).2
 unfold fQryT at h
 split at h
 ·cases h
 rename_i q hq
 unfold selsOf at hq
 split at hq
 ·cases hq
 rename_i q2 u hu
 obtain⟨e1,_,_⟩:=(pSel_num _).2.1 _ _ _ ha hu
 split at hq
 ·injection hq with hq
  subst hq
  split at h
  ·injection h with h
   subst h; omega
  ·cases h
 ·cases hq
end Go.Am
namespace Go.Am
set_option linter.all false
open Go Go.RowKit Go.Proofs
set_option maxRecDepth 100000
set_option linter.all false
end Go.Am
namespace Go.Am
set_option linter.all false
open Go Go.RowKit Go.Proofs
set_option maxRecDepth 100000
set_option linter.all false
theorem rWord_is(l:List Tk){n:Int}(i:Nat){b:Bool}(hb:isW (l.drop i)=b)(id:Nat)(hn:n=(i:Int)):FnOk Tryz.prog 57 [.sl (l.map eTk),.int .i64 n] [] id (.bool b) []:=by
 subst hn hb
 exact rWord_ok l i id
theorem rTok_is(l:List Tk){n:Int}(i:Nat)(c:UInt8){b:Bool}(hb:isS (l.drop i) c=b)(id:Nat)(hn:n=(i:Int)):FnOk Tryz.prog 58 [.sl (l.map eTk),.int .i64 n,.str [c]] [] id (.bool b) []:=by
 subst hn hb
 exact rTok_ok l i c id
theorem isW_lt{l:List Tk}{i:Nat}(h:isW (l.drop i)=true):i<l.length:=by
 rcases Nat.lt_or_ge i l.length with h1|h1
 ·exact h1
 ·rw[List.drop_of_length_le h1] at h; cases h
theorem isS_lt{l:List Tk}{i:Nat}{c:UInt8}(h:isS (l.drop i) c=true):i<l.length:=by
 rcases Nat.lt_or_ge i l.length with h1|h1
 ·exact h1
 ·rw[List.drop_of_length_le h1] at h; cases h
theorem txt_at{l:List Tk}{i:Nat}(h:i<l.length):∃t,l[i]?=some t∧l[i]=t∧t.text=txt (l.drop i):=by
 obtain⟨t,ht,hd⟩:=drop_cons h
 refine⟨t,ht,?_,?_⟩
 ·rw[List.getElem?_eq_getElem h] at ht
  injection ht
 ·rw[hd]; rfl
def IOk(l:List Tk)(R:Option (List Fd×List Tk))(q:Bool×Nat×List Fd):Prop :=
 q.2.1≤l.length∧q.2.2.length≤q.2.1∧if q.1=true∨isS (l.drop q.2.1) 125=false then ∃n,(l.drop q.2.1).length<n+1∧pFds (n+1) q.2.2 (l.drop q.2.1)=R else R=some (q.2.2,l.drop (q.2.1+1))
theorem IOk.fst{l:List Tk}{R:Option (List Fd×List Tk)}{b:Bool}{a:Nat}{acc:List Fd}(h:IOk l R (b,a,acc))(hb:b=true∨isS (l.drop a) 125=false):∃n,(l.drop a).length<n+1∧pFds (n+1) acc (l.drop a)=R:=by
 have:=h.2.2
 rwa [if_pos hb] at this
theorem IOk.lst{l:List Tk}{R:Option (List Fd×List Tk)}{a:Nat}{acc:List Fd}(h:IOk l R (false,a,acc))(hb:isS (l.drop a) 125=true):R=some (acc,l.drop (a+1)):=by
 have:=h.2.2
 rwa [if_neg (by simp[hb])] at this
theorem IOk.bad{l:List Tk}{R:Option (List Fd×List Tk)}{b:Bool}{a:Nat}{acc:List Fd}(h:IOk l R (b,a,acc))(hb:b=true∨isS (l.drop a) 125=false)(hp:pFd (l.drop a)=none):R=none:=by
 obtain⟨n,_,h2⟩:=h.fst hb
 rw[←h2]
 simp only[pFds,hp]
theorem IOk.next{l:List Tk}{R:Option (List Fd×List Tk)}{b:Bool}{a:Nat}{acc:List Fd}(h:IOk l R (b,a,acc))(hb:b=true∨isS (l.drop a) 125=false){f:Fd}{a':Nat}(hp:pFd (l.drop a)=some (f,l.drop a'))(h1:a<a')(h2:a'≤l.length):IOk l R (false,a',acc++[f]):=by
 obtain⟨n,h3,h4⟩:=h.fst hb
 have hl:=h.2.1
 simp only[pFds,hp] at h4
 simp only[List.length_drop] at h3
 have ha:=h.1
 simp only at ha hl
 refine⟨h2,by simp; omega,?_⟩
 simp only
 split at h4
 ·rename_i h5
  rw[if_neg (by simp[h5]),←h4,List.drop_drop]
 ·rename_i h5
  rw[if_pos (by simpa using h5)]
  obtain⟨m,rfl⟩:∃m,n=m+1:=⟨n - 1,by omega⟩
  exact⟨m,by simp only[List.length_drop]; omega,h4⟩
def OOk(l:List Tk)(q:Bool×Nat×List Ty):Prop :=
 q.2.1≤l.length∧q.2.2.length≤q.2.1∧if q.1=true∨q.2.1<l.length then ∃n,(l.drop q.2.1).length<n+1∧pTys (n+1) q.2.2 (l.drop q.2.1)=tysOf l else tysOf l=some q.2.2
theorem OOk.zero(l:List Tk):OOk l (true,0,[]):=⟨by simp,by simp,by rw[if_pos (.inl rfl)]; exact⟨l.length,by simp,by simp[tysOf]⟩⟩
theorem OOk.bad{l:List Tk}{b:Bool}{a:Nat}{acc:List Ty}(h:OOk l (b,a,acc))(hb:b=true∨a<l.length)(hp:pTy (l.drop a)=none):tysOf l=none:=by
 have:=h.2.2
 rw[if_pos hb] at this
 obtain⟨n,_,h2⟩:=this
 rw[←h2]
 simp only[pTys,hp]
theorem OOk.lst{l:List Tk}{a:Nat}{acc:List Ty}(h:OOk l (false,a,acc))(hb:¬a<l.length):tysOf l=some acc:=by
 have:=h.2.2
 rwa [if_neg (by simpa using hb)] at this
theorem OOk.next{l:List Tk}{b:Bool}{a:Nat}{acc:List Ty}(h:OOk l (b,a,acc))(hb:b=true∨a<l.length){t:Ty}{a':Nat}(hp:pTy (l.drop a)=some (t,l.drop a'))(h1:a<a')(h2:a'≤l.length):OOk l (false,a',acc++[t]):=by
 have:=h.2.2
 rw[if_pos hb] at this
 obtain⟨n,h3,h4⟩:=this
 have hl:=h.2.1
 have ha:=h.1
 simp only[pTys,hp] at h4
 simp only[List.length_drop] at h3
 simp only at ha hl
 refine⟨h2,by simp; omega,?_⟩
 simp only
 split at h4
 ·rename_i h5
  have h5:l.length≤a':=by simpa using h5
  rw[if_neg (by simp; omega),←h4]
 ·rename_i h5
  have h5:a'<l.length:=by simp at h5; omega
  rw[if_pos (.inr h5)]
  obtain⟨m,rfl⟩:∃m,n=m+1:=⟨n - 1,by omega⟩
  exact⟨m,by simp only[List.length_drop]; omega,h4⟩
theorem IOk.zero{l:List Tk}{a:Nat}(h:isS (l.drop (a+2)) 123=true):IOk l (pFds ((l.drop a).length+1) [] (l.drop (a+3))) (true,a+3,[]):=by
 have:=isS_lt h
 exact⟨by simp only; omega,by simp,by rw[if_pos (.inl rfl)]; exact⟨(l.drop a).length,by simp only[List.length_drop]; omega,rfl⟩⟩
end Go.Am
namespace Go.Am
set_option linter.all false
open Go Go.RowKit Go.Proofs
set_option maxRecDepth 100000
set_option linter.all false
theorem pHd_at(l:List Tk)(a:Nat):pHd (l.drop a)=if isW (l.drop a)=true then (if isS (l.drop (a+1)) 58=true then (if isW (l.drop (a+2))=true then some (txt (l.drop a),txt (l.drop (a+2)),l.drop (a+3)) else none) else some ([],txt (l.drop a),l.drop (a+1))) else none:=by
 unfold pHd
 simp only[List.drop_drop]
theorem pAg_at(l:List Tk)(a:Nat):pAg (l.drop a)=if isW (l.drop a)=true∧isS (l.drop (a+1)) 58=true∧isV (l.drop (a+2))=true then some (agOf (txt (l.drop a)) (l.drop (a+2)),l.drop (a+3)) else none:=by
 unfold pAg
 simp only[List.drop_drop]
def JOk(l:List Tk)(R:Option (List Ag×List Tk))(q:Bool×Nat×List Ag):Prop :=
 q.2.1≤l.length∧q.2.2.length≤q.2.1∧if q.1=true∨isS (l.drop q.2.1) 41=false then ∃n,(l.drop q.2.1).length<n+1∧pAgs (n+1) q.2.2 (l.drop q.2.1)=R else R=some (q.2.2,l.drop (q.2.1+1))
theorem JOk.fst{l:List Tk}{R:Option (List Ag×List Tk)}{b:Bool}{a:Nat}{acc:List Ag}(h:JOk l R (b,a,acc))(hb:b=true∨isS (l.drop a) 41=false):∃n,(l.drop a).length<n+1∧pAgs (n+1) acc (l.drop a)=R:=by
 have:=h.2.2
 rwa [if_pos hb] at this
theorem JOk.lst{l:List Tk}{R:Option (List Ag×List Tk)}{a:Nat}{acc:List Ag}(h:JOk l R (false,a,acc))(hb:isS (l.drop a) 41=true):R=some (acc,l.drop (a+1)):=by
 have:=h.2.2
 rwa [if_neg (by simp[hb])] at this
theorem JOk.bad{l:List Tk}{R:Option (List Ag×List Tk)}{b:Bool}{a:Nat}{acc:List Ag}(h:JOk l R (b,a,acc))(hb:b=true∨isS (l.drop a) 41=false)(hp:pAg (l.drop a)=none):R=none:=by
 obtain⟨n,_,h2⟩:=h.fst hb
 rw[←h2]
 simp only[pAgs,hp]
theorem JOk.next{l:List Tk}{R:Option (List Ag×List Tk)}{b:Bool}{a:Nat}{acc:List Ag}(h:JOk l R (b,a,acc))(hb:b=true∨isS (l.drop a) 41=false){f:Ag}{a':Nat}(hp:pAg (l.drop a)=some (f,l.drop a'))(h1:a<a')(h2:a'≤l.length):JOk l R (false,a',acc++[f]):=by
 obtain⟨n,h3,h4⟩:=h.fst hb
 have hl:=h.2.1
 simp only[pAgs,hp] at h4
 simp only[List.length_drop] at h3
 have ha:=h.1
 simp only at ha hl
 refine⟨h2,by simp; omega,?_⟩
 simp only
 split at h4
 ·rename_i h5
  rw[if_neg (by simp[h5]),←h4,List.drop_drop]
 ·rename_i h5
  rw[if_pos (by simpa using h5)]
  obtain⟨m,rfl⟩:∃m,n=m+1:=⟨n - 1,by omega⟩
  exact⟨m,by simp only[List.length_drop]; omega,h4⟩
def SOk(l:List Tk)(N:Nat)(R:Option (List Sel×List Tk))(q:Bool×Nat×List Sel):Prop :=
 q.2.1≤l.length∧q.2.2.length≤q.2.1∧if q.1=true∨isS (l.drop q.2.1) 125=false then ∃n,3*(l.drop q.2.1).length+2≤n∧n<N∧pSels (n+1) q.2.2 (l.drop q.2.1)=R else R=some (q.2.2,l.drop (q.2.1+1))
theorem SOk.fst{l:List Tk}{N:Nat}{R:Option (List Sel×List Tk)}{b:Bool}{a:Nat}{acc:List Sel}(h:SOk l N R (b,a,acc))(hb:b=true∨isS (l.drop a) 125=false):∃n,3*(l.drop a).length+1≤n∧n+1<N∧pSels (n+2) acc (l.drop a)=R:=by
 have:=h.2.2
 rw[if_pos hb] at this
 obtain⟨n,h1,h2,h3⟩:=this
 obtain⟨m,rfl⟩:∃m,n=m+1:=⟨n - 1,by omega⟩
 exact⟨m,by simp only at h1; omega,h2,h3⟩
theorem SOk.lst{l:List Tk}{N:Nat}{R:Option (List Sel×List Tk)}{a:Nat}{acc:List Sel}(h:SOk l N R (false,a,acc))(hb:isS (l.drop a) 125=true):R=some (acc,l.drop (a+1)):=by
 have:=h.2.2
 rwa [if_neg (by simp[hb])] at this
theorem SOk.next{l:List Tk}{N:Nat}{R:Option (List Sel×List Tk)}{a n:Nat}{acc:List Sel}(hl:acc.length≤a)(h3:3*(l.drop a).length+1≤n)(hn:n+1<N)(h4:pSels (n+2) acc (l.drop a)=R){f:Sel}{a':Nat}(hp:pSel (n+1) (l.drop a)=some (f,l.drop a'))(h1:a<a')(h2:a'≤l.length):SOk l N R (false,a',acc++[f]):=by
 simp only[pSels,hp] at h4
 simp only[List.length_drop] at h3
 refine⟨h2,by simp; omega,?_⟩
 simp only
 split at h4
 ·rename_i h5
  rw[if_neg (by simp[h5]),←h4,List.drop_drop]
 ·rename_i h5
  rw[if_pos (by simpa using h5)]
  exact⟨n,by simp only[List.length_drop]; omega,by omega,h4⟩
theorem sels_bad{n:Nat}{acc:List Sel}{u:List Tk}(h:pSel (n+1) u=none):pSels (n+2) acc u=none:=by
 simp only[pSels,h]
theorem pHd_drop{t u:List Tk}{a n:List UInt8}(hp:pHd t=some (a,n,u)):∃k,u=t.drop k:=by
 unfold pHd at hp
 split at hp
 rotate_left
 ·cases hp
 split at hp
 ·split at hp
  ·simp only[Option.some.injEq,Prod.mk.injEq] at hp
   exact⟨3,hp.2.2.symm⟩
  ·cases hp
 ·simp only[Option.some.injEq,Prod.mk.injEq] at hp
  exact⟨1,hp.2.2.symm⟩
theorem pSel_drops:∀n:Nat,(∀t s u,pSel n t=some (s,u)→∃k,u=t.drop k)∧(∀t l u,pSome n t=some (l,u)→∃k,u=t.drop k)∧(∀acc t l u,pSels n acc t=some (l,u)→∃k,u=t.drop k)
 | 0=>⟨fun _ _ _ h=>by simp[pSel] at h,fun _ _ _ h=>by simp[pSome] at h,fun _ _ _ _ h=>by simp[pSels] at h⟩
 | n+1=>by
  obtain⟨h1,h2,h3⟩:=pSel_drops n
  refine⟨fun t s u h=>?_,fun t l u h=>?_,fun acc t l u h=>?_⟩
  ·simp only[pSel] at h
   split at h
   ·cases h
   rename_i a nm v hv
   obtain⟨k1,rfl⟩:=pHd_drop hv
   split at h
   ·cases h
   rename_i xs w hw
   obtain⟨_,k2,rfl⟩:=pArgs_num hw
   split at h
   ·split at h
    ·cases h
    rename_i k y hy
    obtain⟨k3,rfl⟩:=h2 _ _ _ hy
    simp only[Option.some.injEq,Prod.mk.injEq] at h
    obtain⟨rfl,rfl⟩:=h
    exact⟨k1+k2+k3,by simp only[List.drop_drop]⟩
   ·simp only[Option.some.injEq,Prod.mk.injEq] at h
    obtain⟨rfl,rfl⟩:=h
    exact⟨k1+k2,by simp only[List.drop_drop]⟩
  ·simp only[pSome] at h
   split at h
   ·obtain⟨k,rfl⟩:=h3 _ _ _ _ h
    exact⟨1+k,by rw[List.drop_drop]⟩
   ·cases h
  ·simp only[pSels] at h
   split at h
   ·cases h
   rename_i s v hv
   obtain⟨k1,rfl⟩:=h1 _ _ _ hv
   split at h
   ·simp only[Option.some.injEq,Prod.mk.injEq] at h
    obtain⟨rfl,rfl⟩:=h
    exact⟨k1+1,by rw[List.drop_drop]⟩
   ·obtain⟨k,rfl⟩:=h3 _ _ _ _ h
    exact⟨k1+k,by rw[List.drop_drop]⟩
def selV(l:List Tk)(o:Option (List Sel×List Tk)):AV:=match o with
 | none=>.tup [.nils,.int .i64 (-1)]
 | some (q,u)=>.tup [.sl (q.map eSel),.int .i64 (l.length - u.length)]
def zB(al nm:List UInt8)(x y:AV):Bx:=⟨[.agg [.str al,.str nm,x,y]],.agg [.str [],.str [],.nils,.nils],false,false⟩
def vS(E:Env)(l:List Tk)(b:Bool)(a:Nat)(Q:List Sel):St :=
 ⟨[(0,true,.sl (l.map eTk)),(1,true,.int .i64 a),(6,true,.bsl E.n0 0 Q.length),(7,true,.bool b)],[(E.n0,some (qB Q))],1⟩
def vM(E:Env)(l:List Tk)(b:Bool)(a:Nat)(Q:List Sel)(al nm:List UInt8)(x y:AV):St :=
 ⟨[(0,true,.sl (l.map eTk)),(1,true,.int .i64 a),(6,true,.bsl E.n0 0 Q.length),(7,true,.bool b),(8,true,.ptr (E.n0+1) 0 0)],[(E.n0,some (qB Q)),(E.n0+1,some (zB al nm x y))],2⟩
def vA(E:Env)(l:List Tk)(b:Bool)(a:Nat)(Q:List Sel)(al nm:List UInt8)(xs:List Ag):St :=
 ⟨[(0,true,.sl (l.map eTk)),(1,true,.int .i64 a),(6,true,.bsl E.n0 0 Q.length),(7,true,.bool b),(8,true,.ptr (E.n0+1) 0 0)],[(E.n0,some (qB Q)),(E.n0+1,some (zB al nm (.bsl (E.n0+2) 0 xs.length) .nils)),(E.n0+2,some (aB xs))],3⟩
def vO(E:Env)(l:List Tk)(b one:Bool)(a:Nat)(Q:List Sel)(al nm:List UInt8)(xs:List Ag):St :=
 ⟨[(0,true,.sl (l.map eTk)),(1,true,.int .i64 a),(6,true,.bsl E.n0 0 Q.length),(7,true,.bool b),(8,true,.ptr (E.n0+1) 0 0),(9,true,.bool one)],[(E.n0,some (qB Q)),(E.n0+1,some (zB al nm (.bsl (E.n0+2) 0 xs.length) .nils)),(E.n0+2,some (aB xs))],3⟩
theorem va_frz(E:Env)(l:List Tk)(b:Bool)(a:Nat)(Q:List Sel)(al nm:List UInt8)(xs:List Ag):Conv E (vA E l b a Q al nm xs) (vM E l b a Q al nm (.sl (xs.map eAg)) (.sl [])):=by
 have hDE:Conv E (vA E l b a Q al nm xs) ⟨(vA E l b a Q al nm xs).fr,[(E.n0+1,some (zB al nm (.sl (xs.map eAg)) (.sl []))),(E.n0,some (qB Q))],3⟩:=by
  refine Conv.deepBox (σ:=vA E l b a Q al nm xs) (E.n0+1) [(E.n0+2,aB xs)] [(E.n0,some (qB Q))] (b:=zB al nm (.bsl (E.n0+2) 0 xs.length) .nils) (x:=.agg [.str al,.str nm,.bsl (E.n0+2) 0 xs.length,.nils]) (y:=.agg [.str al,.str nm,.sl (xs.map eAg),.sl []]) ?_ rfl rfl ?_ ?_ ⟨?_,?_⟩ ?_
  ·simp[vA]
  ·intro m c e h1 h2
   match m,h1,h2 with
   | 0,h1,h2=>injection h1 with h1; injection h2 with h2; subst h1 h2; exact .same _
   | 1,h1,h2=>injection h1 with h1; injection h2 with h2; subst h1 h2; exact .same _
   | 2,h1,h2 =>
    injection h1 with h1; injection h2 with h2; subst h1 h2
    have:=rd_self (E.n0+2) (aB xs)
    simpa [aB] using this
   | 3,h1,h2=>injection h1 with h1; injection h2 with h2; subst h1 h2; exact .nils
   | m+4,h1,h2=>simp[AV.cells] at h1
  ·intro q hq
   obtain rfl:=List.mem_singleton.1 hq
   exact⟨by simp[vA],rfl⟩
  ·intro y b hy
   simp only[bk] at hy
   split at hy
   ·rename_i hyJ
    subst hyJ
    injection hy with hy
    subst hy
    refine⟨by simp[vA],fun q hq=>?_⟩
    obtain rfl:=List.mem_singleton.1 hq
    show E.n0+2≠E.n0
    omega
   ·cases hy
  ·intro q hq
   simp[vA] at hq
   rcases hq with rfl|rfl|rfl<;>exact .inl (by simp)
  ·intro q hq
   obtain rfl:=List.mem_singleton.1 hq
   show E.n0+2≠E.n0+1
   omega
 refine hDE.trans ?_
 unfold vM vA
 have hrn:rnOk [(E.n0,E.n0),(E.n0+1,E.n0+1)]:=by simp[zB,qB]
 refine Conv.sub [(E.n0,E.n0),(E.n0+1,E.n0+1)] hrn ?_ ?_ ?_ ?_ ?_<;>(try simp[zB,qB])
 all_goals exact namesL_pure _ (by simp)
end Go.Am
namespace Go.Am
set_option linter.all false
open Go Go.RowKit Go.Proofs
set_option maxRecDepth 100000
set_option linter.all false
theorem pSome_drop{n:Nat}{t u:List Tk}{l:List Sel}(h:pSome n t=some (l,u)):∃k,u=t.drop k:=(pSel_drops n).2.1 t l u h
def SelAt(n:Nat):Prop:=∀(l:List Tk) (a id:Nat),3*(l.drop a).length+1≤n→l.length≤300→a≤l.length→FnOk Tryz.prog 69 [.sl (l.map eTk),.int .i64 a] [] id (selV l (pSome n (l.drop a))) []
set_option maxHeartbeats 16000000 in
theorem sel_at(n:Nat)(ih:∀m,m<n→SelAt m):SelAt n:=by
 intro l a0 id hn h8 ha0
 obtain⟨N,rfl⟩:∃N,n=N+1:=⟨n - 1,by omega⟩
 by_cases h0:isS (l.drop a0) 123=true
 rotate_left
 ·have e:pSome (N+1) (l.drop a0)=none:=by simp only[pSome]; rw[if_neg h0]
  rw[e]
  show FnOk _ _ _ _ _ (.tup [.nils,.int .i64 (-1)]) _
  refine fn_okc Tryz.func69 hcc69 (by decide) hcr69 (by simp[Tryz.ntmps69]) fun E hP hR hl hid=>?_
  simp only[cr69] at hR
  refine w_go 4000 ?_
  simp[cc69]
  (refine w_call hP rfl (rTok_is l a0 123 (by simpa using h0) _ (by simp)) (by simp) (by simp<;>rfl) ?_; refine w_go 4000 ?_; simp)
  rw[hR]; exact rt_end (by simp<;>rfl) [] trivial (end_pure (by simp) (by simp) (by simp))
 have hlt0:=isS_lt h0
 have e:pSome (N+1) (l.drop a0)=pSels N [] (l.drop (a0+1)):=by simp only[pSome]; rw[if_pos h0,List.drop_drop]
 rw[e]
 have hw0:IntKind.i64.wrap ((a0:Int)+1)=(a0:Int)+1:=wrap64 (by omega)
 simp only[List.length_drop] at hn
 have hz:SOk l N (pSels N [] (l.drop (a0+1))) (true,a0+1,[]):=⟨by simp only; omega,by simp,by
  rw[if_pos (.inl rfl)]
  exact⟨N - 1,by simp only[List.length_drop]; omega,by omega,by rw[show N - 1+1=N by omega]⟩⟩
 generalize pSels N [] (l.drop (a0+1))=R at *
 clear e
 refine fn_okc Tryz.func69 hcc69 (by decide) hcr69 (by simp[Tryz.ntmps69]) fun E hP hR hl hid=>?_
 simp only[cr69] at hR
 refine w_go 4000 ?_
 simp[cc69]
 (refine w_call hP rfl (rTok_is l a0 123 h0 _ (by simp)) (by simp[hw0]) (by simp[hw0]<;>rfl) ?_; refine w_go 4000 ?_; simp[hw0])
 refine w_loop (X:=Bool×Nat×List Sel) (fun q=>vS E l q.1 q.2.1 q.2.2) (SOk l N R) (fun q=>(l.length - q.2.1)+(if q.1=true then 1 else 0)) (true,a0+1,[]) ?_ hz ?_
 ·refine Conv.trans (Conv.voidSlot 6 (x:=.nils) (by simp) .nils (.agg [.str [],.str [],.nils,.nils])) ?_
  unfold vS
  have hrn:rnOk [(E.n0,E.n0+11264)]:=by simp[qB]
  refine Conv.sub [(E.n0,E.n0+11264)] hrn ?_ ?_ ?_ ?_ ?_<;>(try simp[qB])
 rintro⟨b,a,Q⟩ hO p hp
 have ha:=hO.1
 have hQa:=hO.2.1
 simp only at ha hQa
 have hw1:IntKind.i64.wrap ((a:Int)+1)=(a:Int)+1:=wrap64 (by omega)
 refine w_seq (w_cut (X:=Unit) (fun _=>vS E l b a Q) (fun _=>b=true∨isS (l.drop a) 125=false) (fun p2 hp2=>?_) fun _ hb=>?_)
 ·unfold vS
  refine w_go 4000 ?_
  simp
  (refine w_callg hP (by simp) rfl (fun hc=>⟨rTok_is l a 125 rfl _ (by simp),by revert hc; simp; try grind,by simp⟩) ?_; refine w_go 4000 ?_; simp)
  refine goc (fun g=>?_) (fun g=>?_)
  ·simp
   refine hp2 _ () (by simpa using g) ?_
   unfold vS
   have hrn:rnOk [(E.n0,E.n0)]:=by simp[qB]
   refine Conv.sub [(E.n0,E.n0)] hrn ?_ ?_ ?_ ?_ ?_<;>(try simp[qB])
  ·simp at g
   obtain⟨rfl,g⟩:=g
   have hRe:=hO.lst g
   have hgl:=isS_lt g
   simp[hw1]
   rw[hRe,show selV l (some (Q,l.drop (a+1))) = .tup [.sl (Q.map eSel),.int .i64 ((a:Int)+1)] from by unfold selV; simp only[List.length_drop]; congr; omega] at hR
   have hrn:rnOk []:=by simp[qB,idO hid]
   rw[hR]
   refine rt_endR (by simp<;>rfl) (by simp[qB,idO hid]<;>exact⟨rfl,rfl⟩) [] hrn ⟨?_,?_,?_,?_,?_,?_⟩<;>(try simp[qB,idO hid])
 obtain⟨n,hn1,hn2,hn3⟩:=hO.fst hb
 have hbad:pSel (n+1) (l.drop a)=none→R=none:=fun h=>by rw[←hn3,sels_bad h]
 refine w_seq (w_block ?_)
 refine w_seq (w_cut (X:=Unit) (fun _=>vS E l b a Q) (fun _=>isW (l.drop a)=true) (fun p2 hp2=>?_) fun _ q0=>?_)
 ·unfold vS
  refine w_go 4000 ?_
  simp
  (refine w_call hP rfl (rWord_is l a rfl _ (by simp)) (by simp) (by simp<;>rfl) ?_; refine w_go 4000 ?_; simp)
  refine goc (fun g=>?_) (fun g=>?_)
  ·simp
   rw[hbad (hd_none (by rw[pHd_at,if_neg (by simpa using g)]))] at hR
   have hR:E.Rt=RtOk E.n0 id E.G0.used [.tmp 4,.tmp 5] [] (.tup [.nils,.int .i64 (-1)]) []:=hR
   rw[hR]; exact rt_end (by simp<;>rfl) [] trivial (end_pure (by simp) (by simp) (by simp))
  ·simp
   refine hp2 _ () (by simpa using g) ?_
   unfold vS
   have hrn:rnOk [(E.n0,E.n0)]:=by simp[qB]
   refine Conv.sub [(E.n0,E.n0)] hrn ?_ ?_ ?_ ?_ ?_<;>(try simp[qB])
 have hlta:=isW_lt q0
 obtain⟨t0,hg0,hl0,ht0⟩:=txt_at hlta
 refine w_cut2 (X:=Unit) (fun _=>vM E l b (a+1) Q [] t0.text .nils .nils) (fun _=>True) (fun p2 hp2=>?_) fun _ _=>?_
 ·unfold vS
  refine w_go 4000 ?_
  simp[hlta,hl0,eTk,hw1]
  refine hp2 _ () trivial ?_
  unfold vM
  have hrn:rnOk [(E.n0,E.n0),(E.n0+1,E.n0+6145)]:=by simp[qB,zB]
  refine Conv.sub [(E.n0,E.n0),(E.n0+1,E.n0+6145)] hrn ?_ ?_ ?_ ?_ ?_<;>(try simp[qB,zB])
 have hw2:IntKind.i64.wrap ((a:Int)+1+1)=(a:Int)+2:=by rw[wrap64 (by omega)]; omega
 have hw3:IntKind.i64.wrap ((a:Int)+1+2)=(a:Int)+3:=by rw[wrap64 (by omega)]; omega
 have hph:=pHd_at l a
 rw[if_pos q0] at hph
 refine w_seq (w_cut (X:=List UInt8×List UInt8×Nat) (fun q=>vM E l b q.2.2 Q q.1 q.2.1 .nils .nils) (fun q=>pHd (l.drop a)=some (q.1,q.2.1,l.drop q.2.2)∧a<q.2.2∧q.2.2≤l.length) (fun p2 hp2=>?_) fun q hq=>?_)
 ·unfold vM
  refine w_go 4000 ?_
  simp[zB]
  (refine w_call hP rfl (rTok_is l (a+1) 58 rfl _ (by simp)) (by simp[hw2,hw3]) (by simp[hw2,hw3]<;>rfl) ?_; refine w_go 4000 ?_; simp[hw2,hw3])
  refine goc (fun g=>?_) (fun g=>?_)
  ·rw[if_pos g] at hph
   have hlt1:=isS_lt g
   simp[hw2,hw3]
   (refine w_call hP rfl (rWord_is l (a+2) rfl _ (by simp)) (by simp[hw2,hw3]) (by simp[hw2,hw3]<;>rfl) ?_; refine w_go 4000 ?_; simp[hw2,hw3])
   refine goc (fun g2=>?_) (fun g2=>?_)
   ·rw[if_neg (by simpa using g2)] at hph
    simp
    rw[hbad (hd_none hph)] at hR
    have hR:E.Rt=RtOk E.n0 id E.G0.used [.tmp 4,.tmp 5] [] (.tup [.nils,.int .i64 (-1)]) []:=hR
    rw[hR]; exact rt_end (by simp<;>rfl) [] trivial (end_pure (by simp) (by simp) (by simp))
   ·have g2:isW (l.drop (a+2))=true:=by simpa using g2
    rw[if_pos g2] at hph
    have hlt2:=isW_lt g2
    obtain⟨t2,hg2,hl2,ht2⟩:=txt_at hlt2
    have hn2:((a:Int)+2).toNat=a+2:=by omega
    simp[hw2,hw3,hn2,hlt2,hl2,eTk]
    refine⟨by omega,hp2 _ (t0.text,t2.text,a+3) ⟨by rw[hph,ht0,ht2],by simp only; omega,by simp only; omega⟩ ?_⟩
    unfold vM
    have hrn:rnOk [(E.n0,E.n0),(E.n0+1,E.n0+1)]:=by simp[qB,zB]
    refine Conv.sub [(E.n0,E.n0),(E.n0+1,E.n0+1)] hrn ?_ ?_ ?_ ?_ ?_<;>(try simp[qB,zB])
  ·rw[if_neg (by simpa using g)] at hph
   simp
   refine hp2 _ ([],t0.text,a+1) ⟨by rw[hph,ht0],by simp,by simp; omega⟩ ?_
   unfold vM
   have hrn:rnOk [(E.n0,E.n0),(E.n0+1,E.n0+1)]:=by simp[qB,zB]
   refine Conv.sub [(E.n0,E.n0),(E.n0+1,E.n0+1)] hrn ?_ ?_ ?_ ?_ ?_<;>(try simp[qB,zB])
 obtain⟨al,nm,c⟩:=q
 obtain⟨hhd,hac,hcl⟩:=hq
 simp only at hhd hac hcl
 have hv1:IntKind.i64.wrap ((c:Int)+1)=(c:Int)+1:=wrap64 (by omega)
 refine w_seq (w_cut (X:=List Ag×Nat) (fun q=>vA E l b q.2 Q al nm q.1) (fun q=>pArgs (l.drop c)=some (q.1,l.drop q.2)∧c≤q.2∧q.2≤l.length) (fun p2 hp2=>?_) fun q hq=>?_)
 ·unfold vM
  refine w_go 4000 ?_
  simp[zB]
  (refine w_call hP rfl (rTok_is l c 40 rfl _ (by simp)) (by simp[hv1]) (by simp[hv1]<;>rfl) ?_; refine w_go 4000 ?_; simp[hv1])
  refine goc (fun g=>?_) (fun g=>?_)
  rotate_left
  ·simp
   refine hp2 _ ([],c) ⟨by unfold pArgs; rw[if_neg (by simpa using g)],by simp,by simp; omega⟩ ?_
   refine Conv.trans (Conv.voidBox (E.n0+1) (by simp; rfl) rfl (void_sel _ _ _) (.agg [.str [],.bool false,.str [],.int .i64 0])) ?_
   unfold vA
   have hrn:rnOk [(E.n0,E.n0),(E.n0+1,E.n0+1),(E.n0+2,E.n0+3074)]:=by simp[qB,zB,aB]
   refine Conv.sub [(E.n0,E.n0),(E.n0+1,E.n0+1),(E.n0+2,E.n0+3074)] hrn ?_ ?_ ?_ ?_ ?_<;>(try simp[qB,zB,aB])
  have hlt3:=isS_lt g
  have hpa:pArgs (l.drop c)=pAgs ((l.drop c).length+1) [] (l.drop (c+1)):=by unfold pArgs; rw[if_pos g,List.drop_drop]
  have hz2:JOk l (pArgs (l.drop c)) (true,c+1,[]):=⟨by simp only; omega,by simp,by
   rw[if_pos (.inl rfl),hpa]
   exact⟨(l.drop c).length,by simp only[List.length_drop]; omega,rfl⟩⟩
  have habd:pArgs (l.drop c)=none→R=none:=fun h=>hbad (args_none hhd h)
  clear hpa
  generalize pArgs (l.drop c)=A at *
  simp[hv1]
  refine w_loop (X:=Bool×Nat×List Ag) (fun q=>vO E l b q.1 q.2.1 Q al nm q.2.2) (fun q=>c+1≤q.2.1∧JOk l A q) (fun q=>(l.length - q.2.1)+(if q.1=true then 1 else 0)) (true,c+1,[]) ?_ ⟨Nat.le_refl _,hz2⟩ ?_
  ·refine Conv.trans (Conv.voidBox (E.n0+1) (by simp; rfl) rfl (void_sel _ _ _) (.agg [.str [],.bool false,.str [],.int .i64 0])) ?_
   unfold vO
   have hrn:rnOk [(E.n0,E.n0),(E.n0+1,E.n0+1),(E.n0+2,E.n0+7170)]:=by simp[qB,zB,aB]
   refine Conv.sub [(E.n0,E.n0),(E.n0+1,E.n0+1),(E.n0+2,E.n0+7170)] hrn ?_ ?_ ?_ ?_ ?_<;>(try simp[qB,zB,aB])
  rintro⟨one,d,xs⟩ ⟨hcd,hJ⟩ p3 hp3
  simp only at hcd
  have hdl:=hJ.1
  have hxd:=hJ.2.1
  simp only at hdl hxd
  have hu1:IntKind.i64.wrap ((d:Int)+1)=(d:Int)+1:=wrap64 (by omega)
  have hu2:IntKind.i64.wrap ((d:Int)+2)=(d:Int)+2:=wrap64 (by omega)
  have hu3:IntKind.i64.wrap ((d:Int)+3)=(d:Int)+3:=wrap64 (by omega)
  refine w_seq (w_cut (X:=Unit) (fun _=>vO E l b one d Q al nm xs) (fun _=>one=true∨isS (l.drop d) 41=false) (fun p4 hp4=>?_) fun _ hb2=>?_)
  ·unfold vO
   refine w_go 4000 ?_
   simp
   (refine w_callg hP (by simp) rfl (fun hc=>⟨rTok_is l d 41 rfl _ (by simp),by revert hc; simp; try grind,by simp⟩) ?_; refine w_go 4000 ?_; simp)
   refine goc (fun g=>?_) (fun g=>?_)
   ·simp
    refine hp4 _ () (by simpa using g) ?_
    unfold vO
    have hrn:rnOk [(E.n0,E.n0),(E.n0+1,E.n0+1),(E.n0+2,E.n0+2)]:=by simp[qB,zB,aB]
    refine Conv.sub [(E.n0,E.n0),(E.n0+1,E.n0+1),(E.n0+2,E.n0+2)] hrn ?_ ?_ ?_ ?_ ?_<;>(try simp[qB,zB,aB])
   ·simp at g
    obtain⟨rfl,g⟩:=g
    have hRe:=hJ.lst g
    have hgl:=isS_lt g
    simp[hu1]
    refine hp2 _ (xs,d+1) ⟨hRe,by simp; omega,by simp; omega⟩ ?_
    unfold vA
    have hrn:rnOk [(E.n0,E.n0),(E.n0+1,E.n0+1),(E.n0+2,E.n0+2)]:=by simp[qB,zB,aB]
    refine Conv.sub [(E.n0,E.n0),(E.n0+1,E.n0+1),(E.n0+2,E.n0+2)] hrn ?_ ?_ ?_ ?_ ?_<;>(try simp[qB,zB,aB])
  refine w_seq (w_block ?_)
  have hag:=pAg_at l d
  have hab2:pAg (l.drop d)=none→R=none:=fun h=>habd (hJ.bad hb2 h)
  have hn2:((d:Int)+2).toNat=d+2:=by omega
  obtain⟨sk,sx,sn,hsh⟩:∃k x n,(Option.map eTk l[d+2]?).getD (.agg [.int .i64 0,.str [],.int .i64 0]) = .agg [.int .i64 k,.str x,.int .i64 n]:=by
   cases l[d+2]? with
   | none=>exact⟨_,_,_,rfl⟩
   | some t=>exact⟨_,_,_,rfl⟩
  by_cases q1:isW (l.drop d)=true
  rotate_left
  ·have q1:isW (l.drop d)=false:=by simpa using q1
   unfold vO
   refine w_go 4000 ?_
   simp
   (refine w_call hP rfl (rWord_is l d q1 _ (by simp)) (by simp[hu1,hu2]) (by simp[hu1,hu2]<;>rfl) ?_; refine w_go 4000 ?_; simp[hu1,hu2])
   (refine w_callg hP (by simp[hu1,hu2,hn2,hsh]) rfl (fun hc=>⟨rTok_is l (d+1) 58 rfl _ (by simp),by revert hc; simp[hu1,hu2,hn2,hsh]; try grind,by simp[hu1,hu2,hn2,hsh]⟩) ?_; refine w_go 4000 ?_; simp[hu1,hu2,hn2,hsh])
   rw[hab2 (by rw[hag,if_neg (by simp[q1])])] at hR
   have hR:E.Rt=RtOk E.n0 id E.G0.used [.tmp 4,.tmp 5] [] (.tup [.nils,.int .i64 (-1)]) []:=hR
   rw[hR]; exact rt_end (by simp<;>rfl) [] trivial (end_pure (by simp) (by simp) (by simp))
  have hld1:=isW_lt q1
  by_cases q2:isS (l.drop (d+1)) 58=true
  rotate_left
  ·have q2:isS (l.drop (d+1)) 58=false:=by simpa using q2
   unfold vO
   refine w_go 4000 ?_
   simp
   (refine w_call hP rfl (rWord_is l d q1 _ (by simp)) (by simp[hu1,hu2]) (by simp[hu1,hu2]<;>rfl) ?_; refine w_go 4000 ?_; simp[hu1,hu2])
   (refine w_callg hP (by simp[hu1,hu2,hn2,hsh]) rfl (fun hc=>⟨rTok_is l (d+1) 58 q2 _ (by simp),by revert hc; simp[hu1,hu2,hn2,hsh]; try grind,by simp[hu1,hu2,hn2,hsh]⟩) ?_; refine w_go 4000 ?_; simp[hu1,hu2,hn2,hsh])
   rw[hab2 (by rw[hag,if_neg (by simp[q2])])] at hR
   have hR:E.Rt=RtOk E.n0 id E.G0.used [.tmp 4,.tmp 5] [] (.tup [.nils,.int .i64 (-1)]) []:=hR
   rw[hR]; exact rt_end (by simp<;>rfl) [] trivial (end_pure (by simp) (by simp) (by simp))
  have hld2:=isS_lt q2
  rcases Nat.lt_or_ge (d+2) l.length with hld3|hld3
  rotate_left
  ·have q3:isV (l.drop (d+2))=false:=by rw[List.drop_of_length_le hld3]; rfl
   unfold vO
   refine w_go 4000 ?_
   simp
   (refine w_call hP rfl (rWord_is l d q1 _ (by simp)) (by simp[hu1,hu2]) (by simp[hu1,hu2]<;>rfl) ?_; refine w_go 4000 ?_; simp[hu1,hu2])
   have hx3:(l.length:Int)≤(d:Int)+2:=by omega
   have hx4:¬((d:Int)+2<(l.length:Int)):=by omega
   (refine w_callg hP (by simp[hu1,hu2,hx3,hx4,hn2,hsh]) rfl (fun hc=>⟨rTok_is l (d+1) 58 q2 _ (by simp),by revert hc; simp[hu1,hu2,hx3,hx4,hn2,hsh]; try grind,by simp[hu1,hu2,hx3,hx4,hn2,hsh]⟩) ?_; refine w_go 4000 ?_; simp[hu1,hu2,hx3,hx4,hn2,hsh])
   rw[hab2 (by rw[hag,if_neg (by simp[q3])])] at hR
   have hR:E.Rt=RtOk E.n0 id E.G0.used [.tmp 4,.tmp 5] [] (.tup [.nils,.int .i64 (-1)]) []:=hR
   rw[hR]; exact rt_end (by simp<;>rfl) [] trivial (end_pure (by simp) (by simp) (by simp))
  obtain⟨t1,hg1,hl1,ht1⟩:=txt_at hld1
  obtain⟨t3,hg3,hl3,ht3⟩:=txt_at hld3
  obtain⟨t4,hg4,hd4⟩:=drop_cons hld3
  obtain rfl:t3=t4:=by rw[hg3] at hg4; injection hg4
  have hx3:¬((l.length:Int)≤(d:Int)+2):=by omega
  have hx4:(d:Int)+2<(l.length:Int):=by omega
  have hx5:0≤(d:Int)+2:=by omega
  have hvk:isV (l.drop (d+2))=(t3.kind==2||t3.kind==3):=by rw[hd4]; rfl
  by_cases q3:isV (l.drop (d+2))=true
  rotate_left
  ·have q3:isV (l.drop (d+2))=false:=by simpa using q3
   unfold vO
   refine w_go 4000 ?_
   simp
   (refine w_call hP rfl (rWord_is l d q1 _ (by simp)) (by simp[hu1,hu2]) (by simp[hu1,hu2]<;>rfl) ?_; refine w_go 4000 ?_; simp[hu1,hu2])
   (refine w_callg hP (by simp[hu1,hu2,hn2,hld3,hl3,eTk,hx3,hx4,hx5]) rfl (fun hc=>⟨rTok_is l (d+1) 58 q2 _ (by simp),by revert hc; simp[hu1,hu2,hn2,hld3,hl3,eTk,hx3,hx4,hx5]; try grind,by simp[hu1,hu2,hn2,hld3,hl3,eTk,hx3,hx4,hx5]⟩) ?_; refine w_go 4000 ?_; simp[hu1,hu2,hn2,hld3,hl3,eTk,hx3,hx4,hx5])
   rw[q3] at hvk
   refine goc_true (by simp at hvk ⊢; omega) ?_
   simp
   rw[hab2 (by rw[hag,if_neg (by simp[q3])])] at hR
   have hR:E.Rt=RtOk E.n0 id E.G0.used [.tmp 4,.tmp 5] [] (.tup [.nils,.int .i64 (-1)]) []:=hR
   rw[hR]; exact rt_end (by simp<;>rfl) [] trivial (end_pure (by simp) (by simp) (by simp))
  have hpg:=hag
  rw[if_pos ⟨q1,q2,q3⟩,hd4] at hpg
  have hJn:=hJ.next hb2 (a':=d+3) hpg (by omega) (by omega)
  unfold vO
  refine w_go 4000 ?_
  simp
  (refine w_call hP rfl (rWord_is l d q1 _ (by simp)) (by simp[hu1,hu2]) (by simp[hu1,hu2]<;>rfl) ?_; refine w_go 4000 ?_; simp[hu1,hu2])
  (refine w_callg hP (by simp[hu1,hu2,hn2,hld3,hl3,eTk,hx3,hx4,hx5]) rfl (fun hc=>⟨rTok_is l (d+1) 58 q2 _ (by simp),by revert hc; simp[hu1,hu2,hn2,hld3,hl3,eTk,hx3,hx4,hx5]; try grind,by simp[hu1,hu2,hn2,hld3,hl3,eTk,hx3,hx4,hx5]⟩) ?_; refine w_go 4000 ?_; simp[hu1,hu2,hn2,hld3,hl3,eTk,hx3,hx4,hx5])
  rw[q3] at hvk
  refine goc_false (by simp at hvk ⊢; omega) ?_
  simp[hu1,hu2,hu3,hn2,hld3,hl3,hld1,hl1,eTk,hx4,hx5,zB,aB]
  have hage:eAg (agOf (txt (l.drop d)) (t3::l.drop (d+2+1))) = .agg [.str t1.text,.bool (t3.kind==3),.str t3.text,.int .i64 t3.n]:=by rw[←ht1]; rfl
  refine⟨⟨by omega,by omega⟩,?_⟩
  refine hp3 _ (false,d+3,xs++[agOf (txt (l.drop d)) (t3::l.drop (d+2+1))]) ⟨by simp only; omega,hJn⟩ (by simp only[if_true,if_false,Bool.false_eq_true]; split<;>omega) ?_
  unfold vO
  have hrn:rnOk [(E.n0,E.n0),(E.n0+1,E.n0+1),(E.n0+2,E.n0+60419)]:=by simp[qB,zB,aB,hage]
  refine Conv.sub [(E.n0,E.n0),(E.n0+1,E.n0+1),(E.n0+2,E.n0+60419)] hrn ?_ ?_ ?_ ?_ ?_<;>(try simp[qB,zB,aB,hage])
  all_goals exact renL_pure rfl (pureL_append (pure_ags _) rfl)
 obtain⟨xs,d⟩:=q
 obtain⟨hpa,hcd,hdl⟩:=hq
 simp only at hpa hcd hdl
 refine w_conv (va_frz E l b d Q al nm xs) ?_
 have hu1:IntKind.i64.wrap ((d:Int)+1)=(d:Int)+1:=wrap64 (by omega)
 unfold vM
 refine w_go 4000 ?_
 simp[zB]
 (refine w_call hP rfl (rTok_is l d 123 rfl _ (by simp)) (by simp[hu1]) (by simp[hu1]<;>rfl) ?_; refine w_go 4000 ?_; simp[hu1])
 refine goc (fun g=>?_) (fun g=>?_)
 rotate_left
 ·have hsel:=kids_no (n:=n) hhd hpa (by simpa using g)
  have hon:=SOk.next hQa hn1 hn2 hn3 hsel (by omega) hdl
  have hoe:eSel (.mk al nm xs []) = .agg [.str al,.str nm,.sl (xs.map eAg),.sl []]:=by simp[eSel,eSels_map]
  simp[qB]
  refine⟨⟨by omega,by omega⟩,?_⟩
  refine hp _ (false,d,Q++[.mk al nm xs []]) hon (by simp; omega) ?_
  unfold vS
  have hrn:rnOk [(E.n0,E.n0+6146)]:=by simp[qB,hoe]
  refine Conv.sub [(E.n0,E.n0+6146)] hrn ?_ ?_ ?_ ?_ ?_<;>(try simp[qB,hoe])
  all_goals exact renL_pure rfl (pureL_append (pure_sels _) (by simp[pureL,AV.pureB]))
 have hld:=isS_lt g
 have hlen:(l.drop a).length≥(l.drop d).length+1:=by simp only[List.length_drop]; omega
 have hK:=fun id=>ih n (by omega) l d id (by simp only[List.length_drop] at *; omega) h8 hdl
 have hky:=kids_yes (n:=n) hhd hpa g
 cases hps:pSome n (l.drop d) with
 | none =>
  rw[hps] at hK hky
  have hK:∀id,FnOk Tryz.prog 69 [.sl (l.map eTk),.int .i64 d] [] id (.tup [.nils,.int .i64 (-1)]) []:=hK
  simp
  (refine w_call hP rfl (hK _) (by simp) (by simp<;>rfl) ?_; refine w_go 4000 ?_; simp)
  rw[hbad hky] at hR
  have hR:E.Rt=RtOk E.n0 id E.G0.used [.tmp 4,.tmp 5] [] (.tup [.nils,.int .i64 (-1)]) []:=hR
  rw[hR]; exact rt_end (by simp<;>rfl) [] trivial (end_pure (by simp) (by simp) (by simp))
 | some q =>
  obtain⟨ks,u⟩:=q
  rw[hps] at hK hky
  obtain⟨e,hek,he1,he2⟩:∃e,u=l.drop e∧d<e∧e≤l.length:=by
   obtain⟨k,hk⟩:=pSome_drop hps
   rw[List.drop_drop] at hk
   have hlt:=(pSel_lts n).2.1 _ _ _ hps
   rw[hk] at hlt
   simp only[List.length_drop] at hlt
   by_cases hkl:d+k≤l.length
   ·exact⟨d+k,hk,by omega,hkl⟩
   ·exact⟨l.length,by rw[hk,List.drop_of_length_le (by omega),List.drop_of_length_le (by omega)],hld,by omega⟩
  subst hek
  have hK:∀id,FnOk Tryz.prog 69 [.sl (l.map eTk),.int .i64 d] [] id (.tup [.sl (ks.map eSel),.int .i64 e]) []:=fun id=>by
   have:=hK id
   unfold selV at this
   simp only[List.length_drop] at this
   rwa [show ((l.length:Int) - ((l.length - e:Nat):Int))=(e:Int) by omega] at this
  have hon:=SOk.next hQa hn1 hn2 hn3 hky (by omega) he2
  have hoe:eSel (.mk al nm xs ks) = .agg [.str al,.str nm,.sl (xs.map eAg),.sl (ks.map eSel)]:=by simp[eSel,eSels_map]
  simp
  (refine w_call hP rfl (hK _) (by simp) (by simp<;>rfl) ?_; refine w_go 4000 ?_; simp)
  refine goc_false (by simp) ?_
  simp[qB]
  refine⟨⟨by omega,by omega⟩,?_⟩
  refine hp _ (false,e,Q++[.mk al nm xs ks]) hon (by simp; omega) ?_
  unfold vS
  have hrn:rnOk [(E.n0,E.n0+21506)]:=by simp[qB,hoe]
  refine Conv.sub [(E.n0,E.n0+21506)] hrn ?_ ?_ ?_ ?_ ?_<;>(try simp[qB,hoe])
  all_goals exact renL_pure rfl (pureL_append (pure_sels _) (by simp[pureL,AV.pureB]))
theorem selAt_ok(n:Nat):SelAt n:=Nat.strongRecOn n fun n ih=>sel_at n ih
end Go.Am
namespace Go.Am
set_option linter.all false
open Go Go.RowKit Go.Proofs
set_option maxRecDepth 100000
set_option linter.all false
end Go.Am
namespace Go.Am
set_option linter.all false
open Go Go.RowKit Go.Proofs
set_option maxRecDepth 100000
set_option linter.all false
theorem at2_step{p:UInt8→Bool}{s:List UInt8}{j:Nat}{c:UInt8}(h:s[j]?=some c)(hp:p c=true):at2 p s (j+1)=at2 p s j:=by
 obtain⟨x,hx,hd⟩:=drop_cons (List.getElem?_eq_some_iff.1 h).1
 rw[h] at hx; injection hx with hx; subst hx
 unfold at2
 rw[hd,List.takeWhile_cons_of_pos hp]; simp; omega
theorem at2_stop{p:UInt8→Bool}{s:List UInt8}{j:Nat}{c:UInt8}(h:s[j]?=some c)(hp:p c=false):at2 p s j=j:=by
 obtain⟨x,hx,hd⟩:=drop_cons (List.getElem?_eq_some_iff.1 h).1
 rw[h] at hx; injection hx with hx; subst hx
 unfold at2
 rw[hd,List.takeWhile_cons_of_neg (by simp[hp])]; simp
theorem at2_end{p:UInt8→Bool}{s:List UInt8}{j:Nat}(h:s.length≤j):at2 p s j=j:=by
 unfold at2
 rw[List.drop_of_length_le h]; simp
theorem at2_slice(p:UInt8→Bool){s:List UInt8}{i k:Nat}(hk:k≤i)(hi:i≤s.length):(s.take (at2 p s i)).drop k=(s.take i).drop k++(s.drop i).takeWhile p:=by
 have h2:(s.drop i).takeWhile p=(s.drop i).take ((s.drop i).takeWhile p).length:=by
  conv=>lhs; rw[←List.take_length (l:=(s.drop i).takeWhile p)]
  have:=List.takeWhile_append_dropWhile (p:=p) (l:=s.drop i)
  conv=>rhs; rw[←this]
  rw[List.take_left',List.take_length]
  rw[this]
 unfold at2
 rw[List.take_add,List.drop_append_of_le_length (by simp; omega),←h2]
def TOk(s:List UInt8)(q:List Tk×Nat):Prop:=q.2≤s.length∧q.1.length≤300∧pToks ((s.drop q.2).length+1) q.1 (s.drop q.2)=fAll s
theorem TOk.zero(s:List UInt8):TOk s ([],0):=⟨by simp,by simp,rfl⟩
theorem TOk.pass{s:List UInt8}{acc:List Tk}{i j:Nat}(h:TOk s (acc,i))(hj:j≤s.length)(hb:blk false (s.drop i)=blk false (s.drop j)):TOk s (acc,j):=by
 refine⟨hj,h.2.1,?_⟩
 rw[←h.2.2]
 show pToks ((s.drop j).length+1) acc (s.drop j)=pToks ((s.drop i).length+1) acc (s.drop i)
 have h1:=blk_le false (s.drop i)
 have h2:=blk_le false (s.drop j)
 exact toks_fuel _ _ _ _ _ hb.symm (by omega) (by rw[←hb]; omega)
theorem TOk.blank{s:List UInt8}{acc:List Tk}{i:Nat}(h:TOk s (acc,i)){c:UInt8}{r:List UInt8}(hd:s.drop i=c::r)(hc:blC c=true):TOk s (acc,i+1):=by
 have hl:=congrArg List.length hd
 simp at hl
 have hr:s.drop (i+1)=r:=by rw[←List.drop_drop,hd]; rfl
 refine h.pass (by omega) ?_
 rw[hd,hr]
 simp[blk,hc]
theorem TOk.rem{s:List UInt8}{acc:List Tk}{i:Nat}(h:TOk s (acc,i)){r:List UInt8}(hd:s.drop i=35::r):TOk s (acc,at2 noNl s i):=by
 refine h.pass (at2_le noNl h.1).2 ?_
 rw[at2_drop,hd,List.dropWhile_cons_of_pos (by decide),←blk_rw]
 simp[blk,blC]
theorem TOk.at{s:List UInt8}{acc:List Tk}{i:Nat}(h:TOk s (acc,i)){c:UInt8}{r:List UInt8}(hd:s.drop i=c::r)(hc:blC c=false)(h35:c≠35):match pTok c r with
   | .error e=>fAll s = .error e
   | .ok p=>if 300<acc.length+1 then fAll s = .error 2 else pToks ((blk false p.2).length+1) (acc++[p.1]) (blk false p.2)=fAll s:=by
 have hb:blk false (s.drop i)=s.drop i:=by rw[hd]; simp[blk,hc,h35]
 have:=toks_at (acc:=acc) (j:=i) h.2.2 hb
 rw[hd] at this
 exact this
theorem TOk.bad{s:List UInt8}{acc:List Tk}{i:Nat}(h:TOk s (acc,i)){c:UInt8}{r:List UInt8}(hd:s.drop i=c::r)(hc:blC c=false)(h35:c≠35){e:Int}(hp:pTok c r = .error e):fAll s = .error e:=by
 have:=h.at hd hc h35
 rw[hp] at this
 exact this
theorem TOk.many{s:List UInt8}{acc:List Tk}{i:Nat}(h:TOk s (acc,i)){c:UInt8}{r:List UInt8}(hd:s.drop i=c::r)(hc:blC c=false)(h35:c≠35){p:Tk×List UInt8}(hp:pTok c r = .ok p)(hm:300<acc.length+1):fAll s = .error 2:=by
 have:=h.at hd hc h35
 rw[hp] at this
 simp only at this
 rwa [if_pos hm] at this
theorem TOk.next{s:List UInt8}{acc:List Tk}{i:Nat}(h:TOk s (acc,i)){c:UInt8}{r:List UInt8}(hd:s.drop i=c::r)(hc:blC c=false)(h35:c≠35){t:Tk}{j:Nat}(hp:pTok c r = .ok (t,s.drop j))(hj:j≤s.length)(hm:¬300<acc.length+1):TOk s (acc++[t],j):=by
 have:=h.at hd hc h35
 rw[hp] at this
 simp only at this
 rw[if_neg hm] at this
 refine⟨hj,by simp; omega,?_⟩
 rw[←this]
 show pToks ((s.drop j).length+1) (acc++[t]) (s.drop j)=_
 have h1:=blk_le false (s.drop j)
 refine toks_fuel _ _ _ _ _ (blk_blk false _).symm (by omega) (by omega)
theorem TOk.fin{s:List UInt8}{acc:List Tk}{i:Nat}(h:TOk s (acc,i))(hi:s.length≤i):fAll s = .ok acc:=by
 rw[←h.2.2]
 rw[List.drop_of_length_le hi]
 rfl
theorem tw_all{p:UInt8→Bool}{x:UInt8}:∀{r:List UInt8},x∈r.takeWhile p→p x=true
 | [],h=>by cases h
 | c::r,h=>by
  cases hc:p c with
  | true =>
   rw[List.takeWhile_cons_of_pos hc] at h
   rcases List.mem_cons.1 h with h|h
   ·rw[h]; exact hc
   ·exact tw_all h
  | false =>
   rw[List.takeWhile_cons_of_neg (by simp[hc])] at h
   cases h
theorem fName_an{c:UInt8}{r:List UInt8}(hc:isLt c=true):fName ((c::r).takeWhile anC)=if 12<((c::r).takeWhile anC).length then 2 else 0:=by
 have han:anC c=true:=by unfold anC; rw[hc]; rfl
 have hok:nameOk ((c::r).takeWhile anC)=true:=by
  rw[List.takeWhile_cons_of_pos han]
  simp only[nameOk,hc,Bool.true_and,List.all_eq_true]
  intro x hx
  exact tw_all hx
 unfold fName
 rw[if_pos hok]
theorem pTok_word{s:List UInt8}{i:Nat}{c:UInt8}{r:List UInt8}(hd:s.drop i=c::r)(hc:isLt c=true):pTok c r=if 12<((s.drop i).takeWhile anC).length then .error 2 else .ok (⟨1,(s.drop i).takeWhile anC,0⟩,s.drop (at2 anC s i)):=by
 unfold pTok
 rw[if_pos hc,at2_drop,hd,fName_an hc]
 by_cases h:12<((c::r).takeWhile anC).length
 ·rw[if_pos h,if_pos h,if_neg (by decide)]
 ·rw[if_neg h,if_neg h,if_pos rfl]
theorem pTok_sign{c:UInt8}{r:List UInt8}(h1:isLt c=false)(h2:¬(isDg c=true∨c=45))(h3:c≠34):pTok c r=if sgC c=true then .ok (⟨4,[c],0⟩,r) else .error 1:=by
 unfold pTok
 rw[if_neg (by simp[h1]),if_neg h2,if_neg h3]
theorem pTok_num2{s:List UInt8}{i:Nat}{c:UInt8}{r:List UInt8}(hd:s.drop i=c::r)(h1:isLt c=false)(h2:isDg c=true∨c=45):
  pTok c r=match intOf ((s.take (at2 isDg s (i+1))).drop i) with
   | none=>.error 1
   | some n=>.ok (⟨2,[],n⟩,s.drop (at2 isDg s (i+1))):=by
 have hl:=congrArg List.length hd
 simp at hl
 have hr:s.drop (i+1)=r:=by rw[←List.drop_drop,hd]; rfl
 have hone:(s.take (i+1)).drop i=[c]:=by
  have:s[i]?=some c:=by
   have:=congrArg (fun l=>l[0]?) hd
   simpa using this
  rw[List.take_succ,this,List.drop_append_of_le_length (by simp; omega),List.drop_of_length_le (by simp; omega)]; rfl
 rw[at2_slice isDg (by omega) (by omega),hone,hr,at2_drop,hr]
 unfold pTok
 rw[if_neg (by simp[h1]),if_pos h2]
 rfl
end Go.Am
