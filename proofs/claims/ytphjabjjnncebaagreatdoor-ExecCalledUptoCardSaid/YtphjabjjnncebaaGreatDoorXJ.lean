/- Parts of the proof: an abstract machine for Go functions, and what functions of the program give back (Ex8, Ex9, Ex10, Lt4, CcY, CcX, Ex11, Ex12, Ex13, Lt5, Ex14, Lt6, Ex15, Ex16, So1, St6). No condition. -/
import Derived.Test.YtphjabjjnncebaaGreatDoorXI
import Derived.Test.YtphjabjjnncebaaGreatDoorXG
import Derived.Test.YtphjabjjnncebaaGreatDoorProg
import Derived.KernelRfl
import Derived.Test.YtphjabjjnncebaaGreatDoorXF
import Derived.Recover
set_option maxRecDepth 100000
set_option linter.all false
set_option maxHeartbeats 8000000
namespace Go.Am
open Go Go.Proofs Go.RowKit
def Q4(s:F1)(kd:Int)(l:List Tg):List Int:=(l.filter fun t=>t.type==kd).map Tg.id
def rtW(s:F1)(x:D7):Nat:=match x.args with
 | []=>1+((Q4 s (A8 s.types x.name) s.things).map (thW s (wL s x.kids) (A8 s.types x.name))).sum
 | a::_=>thW s (wL s x.kids) (A8 s.types x.name) a.n
def rtO(s:F1)(x:D7):H3:=match x.args with
 | []=>P3 ((Q4 s (A8 s.types x.name) s.things).map (thO s (x.kids.map B8) (oL s x.kids) (A8 s.types x.name)))
 | a::_=>thO s (x.kids.map B8) (oL s x.kids) (A8 s.types x.name) a.n
theorem A2B(s:F1)(kd:Int)(l:List Tg):(Q4 s kd l).length<=l.length:=by
 unfold Q4; rw[xd]; exact vw ..
theorem B61(t:Tg):M5 t = .agg [.int .i64 t.type,.int .i64 t.id,.sl (t.cells.map t8)]:=rfl
theorem A9Q{s:F1}{x:D7}{J m:Nat}(id:Nat)(hm:m<=2000)(hl8:s.types.length<=1000)(h12:s.things.length<=1000)
  (hT:∀y m id,m<=2000->u9 Tryz.prog 188 [.ptr J 0 0,.int .i64 (A8 s.types x.name),.int .i64 y,.sl (x.kids.map D0)] [(J,bR s m)] id (rnR s J m (thW s (wL s x.kids) (A8 s.types x.name) y) (eO (thO s (x.kids.map B8) (oL s x.kids) (A8 s.types x.name) y)))) :
  u9 Tryz.prog 122 [.ptr J 0 0,D0 x] [(J,bR s m)] id (rnR s J m (rtW s x) (eO (rtO s x))):=by
 have hFn:=fun id=>T2 s.types x.name id (by omega);rw[show B7 (fun z:Ty=>z.name==x.name) s.types 0=A8 s.types x.name from rfl] at hFn;have hVa:=fun id=>A9P x id;rw[C7] at hVa;obtain⟨ok,on,ot,oks,ols,hoe⟩:∃(a b:Int) (c:List UInt8) (d:List (List UInt8)) (e:List H3),eO (rtO s x) = .agg [.int .i64 a,.int .i64 b,.str c,.sl (d.map .str),.sl (e.map eO)]:=by
  cases rtO s x with|mk a b c d e=>exact⟨a,b,c,d,e,Q3 a b c d e⟩
 rw[C7,T3];cases hx:x.args with
 | cons a r =>
  have hw:rtW s x=thW s (wL s x.kids) (A8 s.types x.name) a.n:=by unfold rtW; rw[hx]
  have ho:rtO s x=thO s (x.kids.map B8) (oL s x.kids) (A8 s.types x.name) a.n:=by unfold rtO; rw[hx]
  have hTy:=fun id=>hT a.n m id hm;rw[←hw,←ho,hoe] at hTy;rw[hx] at hVa;rw[hoe];refine w122.x.1 fun E hP hR hPn hl hid hB hu=>?_;simp[w122];have hJ:=hl (J,_) (zb ..);simp only at hJ;have J1:=lf hJ;simp[J1];(refine yC rfl (hFn _) ?_; simp[J1]);(refine yC rfl (hVa _) ?_; simp[J1]);by_cases h1:m+rtW s x<=2000
  rotate_left
  ·simp only[E4 h1] at hTy;rw[T3] at hTy;refine K4 hP rfl (hTy _) (by simp[J1]) (by simp[J1]<;>rfl) (fun pv hpv=>⟨by simp[J1],by injection hpv with hpv; subst hpv; exact hPn _ _ (E4 h1) rfl (by simp[J1])⟩) (fun v wr h=>by cases h)
  have hT1:∀id,A2 Tryz.prog 188 _ _ id _ _:=fun id=>by
   have:=hTy id;rw[F5 h1] at this; exact this
  rw[T3 s m] at hT1;(refine yC rfl (hT1 _) ?_; simp[J1]);have hrn:I0 []:=by simp[bR,J1,B2 hid]
  refine hR _ _ _ (F5 h1) ?_;refine H2 (by simp[bR,J1,B2 hid]<;>rfl) [] hrn ⟨?_,?_,?_,?_,?_,?_⟩<;>(try simp[bR,J1,B2 hid])
 | nil =>
  have hw:rtW s x=1+((Q4 s (A8 s.types x.name) s.things).map (thW s (wL s x.kids) (A8 s.types x.name))).sum:=by unfold rtW; rw[hx]
  have ho:rtO s x=P3 ((Q4 s (A8 s.types x.name) s.things).map (thO s (x.kids.map B8) (oL s x.kids) (A8 s.types x.name))):=by unfold rtO; rw[hx]
  have hil:=A2B s (A8 s.types x.name) s.things;have hL:=fun id=>A9O (s:=s) (kids:=x.kids) (ids:=Q4 s (A8 s.types x.name) s.things) (J:=J) (kd:=A8 s.types x.name) (W:=thW s (wL s x.kids) (A8 s.types x.name)) (O:=thO s (x.kids.map B8) (oL s x.kids) (A8 s.types x.name)) id hm (by omega) (fun y _=>hT y);rw[←hw,←ho,hoe] at hL;rw[hx] at hVa;rw[hoe];generalize hkd:A8 s.types x.name=kd at *;refine w122.x.1 fun E hP hR hPn hl hid hB hu=>?_;simp[w122];have hJ:=hl (J,_) (zb ..);simp only at hJ;have J1:=lf hJ;simp[J1];(refine yC rfl (hFn _) ?_; simp[J1]);(refine yC rfl (hVa _) ?_; simp[J1]);refine C8 (X:=Nat) (fun i=>⟨[(0,true,.ptr J 0 0),(3,true,.ptr E.n0 0 0),(4,true,.ptr (E.n0+1) 0 0),(5,true,.int .i64 kd),(8,true,.bsl (E.n0+2) 0 (Q4 s kd (s.things.take i)).length),(35,true,.sl (s.things.map M5)),(36,true,.int .i64 s.things.length),(37,true,.int .i64 i)],
   [(J,some (bR s m)),(E.n0,some ⟨[.agg [.str x.alias,.str x.name,.sl [],.sl (x.kids.map D0)]],.agg [.str x.alias,.str x.name,.sl [],.sl (x.kids.map D0)],false,false⟩),(E.n0+1,some ⟨[.agg [.int .i64 0,.int .i64 0,.str [],.nils,.nils]],.agg [.int .i64 0,.int .i64 0,.str [],.nils,.nils],false,false⟩),(E.n0+2,some ⟨(Q4 s kd (s.things.take i)).map eI,.int .i64 0,false,false⟩)],3⟩)
   (fun i=>i<=s.things.length) (fun i=>s.things.length - i) 0 ?_ (by omega) ?_
  ·refine H0.trans (H0.voidSlot 8 (x:=.nils) (y:=.bsl (E.n0+27648) 0 0) (by simp) .nils (.int .i64 0)) ?_;have hi0:Q4 s kd []=[]:=rfl;refine yV [(E.n0,E.n0),(E.n0+1,E.n0+1024),(E.n0+2,E.n0+27648)] (by simp[hi0,bR,J1]) fun hrn=>⟨?_,?_,?_,?_,?_⟩<;>(try simp[hi0,bR,J1])
  ·rintro i hi p hp;refine A6 4000 ?_;simp;refine C9 (fun h=>?_) (fun h=>?_)
   ·have h:=zp h;obtain⟨t,ht⟩:∃t,s.things[i]?=some t:=⟨_,zd h⟩;have hi1:IntKind.i64.wrap ((i:Int)+1)=((i+1:Nat):Int):=wrap64 (by omega);have hfl:=A2B s kd (s.things.take i);rw[zu] at hfl;simp[ht,B61 t,J1];refine⟨h,?_⟩;refine C9 (fun g=>?_) (fun g=>?_)
    ·have g:t.type=kd:=(by simpa using g);have hts:Q4 s kd (s.things.take (i+1))=Q4 s kd (s.things.take i)++[t.id]:=(by unfold Q4; rw[xw,ht]; simp[g]);simp[J1];refine⟨⟨by omega,by omega⟩,?_⟩;refine hp _ (i+1) (by omega) (by omega) ?_;refine yV [(E.n0,E.n0),(E.n0+1,E.n0+1),(E.n0+2,E.n0+13315)] (by simp[hi1,hts,bR,J1]) fun hrn=>⟨?_,?_,?_,?_,?_⟩<;>(try simp[hi1,hts,bR,J1]);exact F7 rfl (I5 (c8 _) rfl)
    ·have g:¬t.type=kd:=(by simpa using g);have hts:Q4 s kd (s.things.take (i+1))=Q4 s kd (s.things.take i):=(by unfold Q4; rw[xw,ht]; simp[g]);simp[J1];refine hp _ (i+1) (by omega) (by omega) ?_;refine yV [(E.n0,E.n0),(E.n0+1,E.n0+1),(E.n0+2,E.n0+2)] (by simp[hi1,hts,bR,J1]) fun hrn=>⟨?_,?_,?_,?_,?_⟩<;>(try simp[hi1,hts,bR,J1])
   ·have h:=zq h;have hall:s.things.take i=s.things:=zn (by omega);rw[hall];simp[J1];by_cases h1:m+rtW s x<=2000
    rotate_left
    ·simp only[E4 h1] at hL;refine B1h hP rfl (hL _) (by simp[bR,J1]<;>rfl) (by simp[bR,J1]) (by simp[bR,J1]<;>rfl) (by simp[bR,J1]) (fun pv hpv=>⟨by simp[bR,J1],by injection hpv with hpv; subst hpv; exact hPn _ _ (E4 h1) rfl (by simp[bR,J1])⟩) (fun v wr h=>by cases h)
    have hL1:∀id,A2 Tryz.prog 189 _ _ id _ _:=fun id=>by
     have:=hL id;rw[F5 h1] at this; exact this
    (refine A1c hP rfl (hL1 _) (by simp[bR,J1]<;>rfl) (by simp[bR,J1]) (by simp[bR,J1]<;>rfl) (by simp[bR,J1]) ?_; refine A6 4000 ?_; simp[bR,J1]);have hrn:I0 []:=(by simp[bR,J1,B2 hid]);refine hR _ _ _ (F5 h1) ?_;refine H2 (by simp[bR,J1,B2 hid]<;>rfl) [] hrn ⟨?_,?_,?_,?_,?_,?_⟩<;>(try simp[bR,J1,B2 hid])
def A8e(s:F1)(l:List D7):Nat:=(l.map fun x=>rtW s x).sum
theorem B0N(s:F1)(l:List D7)(J m:Nat)(id:Nat)(hm:m<=2000)(hl8:l.length<=1000000)
  (hdo:∀x∈l,∀m id,m<=2000->u9 Tryz.prog 122 [.ptr J 0 0,D0 x] [(J,bR s m)] id (rnR s J m (rtW s x) (eO (rtO s x)))) :
  u9 Tryz.prog 121 [.ptr J 0 0,.sl (l.map D0),.fnb 122 [.ptr J 0 0]] [(J,bR s m)] id (rnR s J m (1+A8e s l) (eO (l3 (l.map B8) (l.map (rtO s))))):=by
 have hsum:A8e s l=(l.map fun x=>rtW s x).sum:=rfl;refine w121.x.1 fun E hP hR hPn hl hid hB hu=>?_;simp[w121];have hJ:=hl (J,_) (zb ..);simp only at hJ;have J1:=lf hJ;by_cases h1:m+1<=2000
 rotate_left
 ·refine K4 hP rfl (o9 5 0 [] _ hm h1) (by simp[J1]) (by simp[J1]<;>rfl) (fun pv hpv=>⟨by simp[J1],by injection hpv with hpv; subst hpv; exact hPn _ _ (E4 (by omega)) rfl (by simp[J1])⟩) (fun v wr h=>by cases h)
 (refine C6 hP rfl (S2 5 0 [] _ h1) (by simp[J1]) (by simp[J1]<;>rfl) ?_; refine A6 4000 ?_; simp[J1]);refine C8 (X:=Nat) (fun i=>⟨[(2,true,.fnb 122 [.ptr J 0 0]),(6,true,.ptr E.n0 0 0),(7,true,.ptr (E.n0+1) 0 0),(13,true,.sl (l.map D0)),(14,true,.int .i64 l.length),(15,true,.int .i64 i)],
   [(J,some (bR s (m+1+((l.take i).map fun x=>rtW s x).sum))),(E.n0,some ⟨[.agg [.int .i64 0,.int .i64 0,.str [],.nils,.nils]],.agg [.int .i64 0,.int .i64 0,.str [],.nils,.nils],false,false⟩),(E.n0+1,some ⟨[.agg [.int .i64 5,.int .i64 0,.str [],.bsl (E.n0+2) 0 i,.bsl (E.n0+3) 0 i]],.agg [.int .i64 0,.int .i64 0,.str [],.nils,.nils],false,false⟩),(E.n0+2,some ⟨((l.map B8).map .str).take i,.str [],false,false⟩),(E.n0+3,some ⟨((l.map (rtO s)).map eO).take i,.agg [.int .i64 0,.int .i64 0,.str [],.nils,.nils],false,false⟩)],4⟩)
  (fun i=>i<=l.length/\m+1+((l.take i).map fun x=>rtW s x).sum<=2000) (fun i=>l.length - i) 0 ?_ ⟨by omega,by simp; omega⟩ ?_
 ·refine H0.trans (H0.voidBox (E.n0+4096) (by simp; rfl) rfl (.agg [.int .i64 5,.int .i64 0,.str [],.nils,.nils] [.int .i64 5,.int .i64 0,.str [],.bsl (E.n0+9216) 0 0,.nils] rfl (fun m x y h1 h2=>?_)) (.str [])) (H0.trans (H0.voidBox (E.n0+4096) (by simp; rfl) rfl (.agg [.int .i64 5,.int .i64 0,.str [],.bsl (E.n0+9216) 0 0,.nils] [.int .i64 5,.int .i64 0,.str [],.bsl (E.n0+9216) 0 0,.bsl (E.n0+9217) 0 0] rfl (fun m x y h1 h2=>?_)) (.agg [.int .i64 0,.int .i64 0,.str [],.nils,.nils])) ?_)
  ·match m,h1,h2 with
   | 0,h1,h2|1,h1,h2|2,h1,h2|4,h1,h2=>simp at h1 h2; exact .inl (h1.symm.trans h2)
   | 3,h1,h2=>simp at h1 h2; exact .inr ⟨h1.symm,h2.symm⟩
   | m+5,h1,h2=>simp at h1
  ·match m,h1,h2 with
   | 0,h1,h2|1,h1,h2|2,h1,h2|3,h1,h2=>simp at h1 h2; exact .inl (h1.symm.trans h2)
   | 4,h1,h2=>simp at h1 h2; exact .inr ⟨h1.symm,h2.symm⟩
   | m+5,h1,h2=>simp at h1
  ·refine yV [(E.n0,E.n0),(E.n0+1,E.n0+4096),(E.n0+2,E.n0+9216),(E.n0+3,E.n0+9217)] (by simp[bR,J1]) fun hrn=>⟨?_,?_,?_,?_,?_⟩<;>(try simp[bR,J1])
 ·rintro i ⟨hi,hm2⟩ p hp;refine A6 4000 ?_;simp;refine C9 (fun h=>?_) (fun h=>?_)
  ·have h:=zp h;obtain⟨x,hx,hd⟩:=B6 h;have hi1:IntKind.i64.wrap ((i:Int)+1)=((i+1:Nat):Int):=wrap64 (by omega);have hxm:=zf hx;have hst:=s8 (fun x=>rtW s x) hx;have hCa:=x2 x;rw[C7] at hCa;have hdx:=hdo x hxm;have hk1:((l.map B8).map AV.str).take (i+1)=((l.map B8).map AV.str).take i++[.str (B8 x)]:=I7 (by simp[hx]);have ho1:((l.map (rtO s)).map eO).take (i+1)=((l.map (rtO s)).map eO).take i++[eO (rtO s x)]:=I7 (by simp[hx]);have hlo:(l.map (rtO s)).length=l.length:=(by simp);obtain⟨ok,on,ot,oks,ols,hoe⟩:∃(a b:Int) (c:List UInt8) (d:List (List UInt8)) (e:List H3),eO (rtO s x) = .agg [.int .i64 a,.int .i64 b,.str c,.sl (d.map .str),.sl (e.map eO)]:=by
    cases rtO s x with|mk a b c d e=>exact⟨a,b,c,d,e,Q3 a b c d e⟩
   rw[hoe,C7] at hdx;rw[hoe] at ho1;simp only[xv] at *;simp[hx,C7 x,J1];refine⟨h,?_⟩;(refine yC rfl (hCa _) ?_; simp[J1]);refine⟨⟨by omega,by omega,by omega⟩,?_⟩;have hsl:=A28 (l:=l) (i:=i+1) (fun x=>rtW s x);by_cases h2:m+1+((l.take i).map fun x=>rtW s x).sum+rtW s x<=2000
   ·have hd2:∀id,A2 Tryz.prog 122 _ _ id _ _:=fun id=>by
     have:=hdx (m+1+((l.take i).map fun x=>rtW s x).sum) id hm2;rw[F5 h2] at this; exact this
    simp only[yr] at *;refine A66 hP rfl rfl (hd2 _) (by simp) (by simp[J1]<;>rfl) ?_;refine A6 4000 ?_;simp[J1];refine⟨⟨by omega,by omega,by omega⟩,?_⟩;have hst2:(List.take (i+1) (List.map (fun x=>rtW s x) l)).sum=(List.take i (List.map (fun x=>rtW s x) l)).sum+rtW s x:=(by simpa only[yr] using hst);refine hp _ (i+1) ⟨h,by omega⟩ (by omega) ?_;refine yV [(E.n0,E.n0),(E.n0+1,E.n0+1),(E.n0+2,E.n0+10244),(E.n0+3,E.n0+19460)] (by simp[hi1,bR,hst2,hk1,ho1,J1]) fun hrn=>⟨?_,?_,?_,?_,?_⟩<;>(try simp[hi1,bR,hst2,hk1,ho1,J1]);refine⟨by omega,F7 rfl (I5 (by rw[←yr]; exact D6 (fun _=>rfl) _) rfl),F7 rfl (I5 (by rw[←yr]; exact D6 (fun _=>W5 _) _) (by simp[O6,V2]))⟩
   ·have hd2:∀id,u9 Tryz.prog 122 _ _ id _:=fun id=>by
     have:=hdx (m+1+((l.take i).map fun x=>rtW s x).sum) id hm2;rw[E4 h2] at this; exact this
    simp only[yr] at *;refine A7J hP rfl rfl (hd2 _) (by simp) (by simp[J1]<;>rfl) (fun pv hpv=>⟨by simp[J1],by injection hpv with hpv; subst hpv; exact hPn _ _ (E4 (by omega)) rfl (by simp[J1])⟩) (fun v wr h=>by cases h)
  ·have h:¬i<l.length:=zq h;have hil:i=l.length:=(by omega);subst hil;simp[J1];have hlo:(l.map (rtO s)).length=l.length:=(by simp);have hsa:(List.take l.length (List.map (fun x=>rtW s x) l)).sum=A8e s l:=(by rw[hsum,zn (by simp)]);have hka:List.take l.length (List.map (AV.str∘B8) l)=List.map (AV.str∘B8) l:=zn (by simp);have hoa:List.take l.length (List.map (eO∘rtO s) l)=List.map (eO∘rtO s) l:=zn (by simp);simp only[yr] at hm2;rw[hsa] at hm2;unfold l3 at hR;rw[Q3,xv,xv] at hR;have hrn:I0 []:=(by simp[bR,hsa,hka,hoa,hlo,J1,B2 hid]);refine hR _ _ _ (F5 (by omega)) ?_;refine n9 (by simp[bR,hsa,hka,hoa,hlo,J1,B2 hid]<;>rfl) (by simp[bR,hsa,hka,hoa,hlo,J1,B2 hid]<;>exact⟨rfl,rfl⟩) [] hrn ⟨?_,?_,?_,?_,?_,?_⟩<;>(try simp[bR,hsa,hka,hoa,hlo,J1,B2 hid])
   ·exact A5 _ (D6 (fun _=>W5 _) _)
   ·omega
def qO(s:F1)(q:List D7):H3:=l3 (q.map B8) (q.map (rtO s))
def qW(s:F1)(q:List D7):Nat:=1+A8e s q
theorem A42{l:List Ty}{x:D7}(h:A1k l x=0):∃t,V0 l x.name=some t/\X4 l t x.kids=0/\∀a r,x.args=a::r->1<=a.n/\a.n<=999:=by
 unfold A1k at h;split at h
 ·cases h
 rename_i t ht;split at h
 ·rename_i h0; exact (h0 h).elim
 rename_i h0;have h0:=zm h0;split at h
 ·cases h
 exact⟨t,ht,h,fun a r e=>A41 (by rw[e] at h0; exact h0)⟩
theorem B3p{s:F1}(hs:RtS s)(q:List D7)(hf:Y8 s.types q=0)(hq8:o8 q<=1000000)(J m:Nat)(id:Nat)(hm:m<=2000):
  u9 Tryz.prog 121 [.ptr J 0 0,.sl (q.map D0),.fnb 122 [.ptr J 0 0]] [(J,bR s m)] id (rnR s J m (qW s q) (eO (qO s q))):=by
 have hl5:=hs.sch.len;have hlen:=W4 q;refine B0N s q J m id hm (by omega) fun x hx m id hm=>A9Q id hm (by omega) (by have:=hs.len; omega) fun y m id hm=>?_;obtain⟨t,h1,h2,h3⟩:=A42 (A0X.1 hf x hx);have hsx:=Z6 hx;have hsz:=A1i x;have hkl:=W4 x.kids;refine A40 id hm (by have:=hs.len; omega) (by omega) fun u hu z hz m id hm=>?_;obtain⟨u1,u2⟩:=A6G hs (A29 _ _ hl5) hu;have hu4:=hs.tg u u1;have hz1:=Z6 hz;have hty:s.types[u.type.toNat]?=some t:=by
  rcases L5 (fun t=>t.name==x.name) s.types 0 with⟨q1,q2⟩|⟨j,t',q1,q2,q3⟩
  ·have:=hu4.ty0;rw[u2] at this;unfold A8 at this;omega
  ·rw[u2];unfold A8;rw[q2];unfold V0 at h1;rw[h1] at q3;obtain rfl:t=t':=by simpa using q3
   simpa using q1
 exact A2A hs _ z u t J m id (wq _) (by omega) hu4 hty (A0u h2 z hz) hm
theorem A8f(s:F1)(x:D7)(J M m:Nat)(id:Nat)(hm:m<=2000)(hJM:J≠M)
  (hdo:∀m id,m<=2000->u9 Tryz.prog 122 [.ptr J 0 0,D0 x] [(J,bR s m)] id (rnR s J m (rtW s x) (eO (rtO s x)))) :
  u9 Tryz.prog 121 [.ptr J 0 0,.bsl M 0 1,.fnb 122 [.ptr J 0 0]] [(J,bR s m),(M,mB x)] id (rnR s J m (1+rtW s x) (eO (l3 [B8 x] [rtO s x]))):=by
 have hMJ:=hJM.symm;rw[A0c];refine w121.x.1 fun E hP hR hPn hl hid hB hu=>?_;simp[w121];have hJ:=hl (J,_) (zb ..);simp only at hJ;have J1:=lf hJ;have hM:=hl (M,_) (za _ (zb ..));simp only at hM;have M1:=lf hM;by_cases h1:m+1<=2000
 rotate_left
 ·refine K4 hP rfl (o9 5 0 [] _ hm h1) (by simp[J1,M1,hJM,hMJ]) (by simp[J1,M1,hJM,hMJ]<;>rfl) (fun pv hpv=>⟨by simp[J1,M1,hJM,hMJ],by injection hpv with hpv; subst hpv; exact hPn _ _ (E4 (by omega)) rfl (by simp[J1,M1,hJM,hMJ])⟩) (fun v wr h=>by cases h)
 (refine C6 hP rfl (S2 5 0 [] _ h1) (by simp[J1,M1,hJM,hMJ]) (by simp[J1,M1,hJM,hMJ]<;>rfl) ?_; refine A6 4000 ?_; simp[J1,M1,hJM,hMJ]);refine C8 (X:=Nat) (fun i=>⟨[(2,true,.fnb 122 [.ptr J 0 0]),(6,true,.ptr E.n0 0 0),(7,true,.ptr (E.n0+1) 0 0),(13,true,.bsl M 0 1),(14,true,.int .i64 1),(15,true,.int .i64 i)],
   [(J,some (bR s (m+1+i*rtW s x))),(E.n0,some ⟨[.agg [.int .i64 0,.int .i64 0,.str [],.nils,.nils]],.agg [.int .i64 0,.int .i64 0,.str [],.nils,.nils],false,false⟩),(E.n0+1,some ⟨[.agg [.int .i64 5,.int .i64 0,.str [],.bsl (E.n0+2) 0 i,.bsl (E.n0+3) 0 i]],.agg [.int .i64 0,.int .i64 0,.str [],.nils,.nils],false,false⟩),(E.n0+2,some ⟨List.take i [.str (B8 x)],.str [],false,false⟩),(E.n0+3,some ⟨List.take i [eO (rtO s x)],.agg [.int .i64 0,.int .i64 0,.str [],.nils,.nils],false,false⟩),(M,some ⟨[.agg [.str x.alias,.str x.name,.sl (x.args.map x1),.sl (x.kids.map D0)]],.agg [.str [],.str [],.nils,.nils],false,false⟩)],4⟩)
  (fun i=>i=0\/i=1/\m+1+rtW s x<=2000) (fun i=>1 - i) 0 ?_ (.inl rfl) ?_
 ·refine H0.trans (H0.voidBox (E.n0+4096) (by simp[J1,M1]; rfl) rfl (.agg [.int .i64 5,.int .i64 0,.str [],.nils,.nils] [.int .i64 5,.int .i64 0,.str [],.bsl (E.n0+9216) 0 0,.nils] rfl (fun m x y h1 h2=>?_)) (.str [])) (H0.trans (H0.voidBox (E.n0+4096) (by simp; rfl) rfl (.agg [.int .i64 5,.int .i64 0,.str [],.bsl (E.n0+9216) 0 0,.nils] [.int .i64 5,.int .i64 0,.str [],.bsl (E.n0+9216) 0 0,.bsl (E.n0+9217) 0 0] rfl (fun m x y h1 h2=>?_)) (.agg [.int .i64 0,.int .i64 0,.str [],.nils,.nils])) ?_)
  ·match m,h1,h2 with
   | 0,h1,h2|1,h1,h2|2,h1,h2|4,h1,h2=>simp at h1 h2; exact .inl (h1.symm.trans h2)
   | 3,h1,h2=>simp at h1 h2; exact .inr ⟨h1.symm,h2.symm⟩
   | m+5,h1,h2=>simp at h1
  ·match m,h1,h2 with
   | 0,h1,h2|1,h1,h2|2,h1,h2|3,h1,h2=>simp at h1 h2; exact .inl (h1.symm.trans h2)
   | 4,h1,h2=>simp at h1 h2; exact .inr ⟨h1.symm,h2.symm⟩
   | m+5,h1,h2=>simp at h1
  ·refine yV [(E.n0,E.n0),(E.n0+1,E.n0+4096),(E.n0+2,E.n0+9216),(E.n0+3,E.n0+9217)] (by simp[bR,J1,M1,hJM,hMJ]) fun hrn=>⟨?_,?_,?_,?_,?_⟩<;>(try simp[bR,J1,M1,hJM,hMJ])
 ·rintro i hi p hp;rcases hi with rfl|⟨rfl,hw⟩
  ·have hCa:=x2 x;obtain⟨ok,on,ot,oks,ols,hoe⟩:∃(a b:Int) (c:List UInt8) (d:List (List UInt8)) (e:List H3),eO (rtO s x) = .agg [.int .i64 a,.int .i64 b,.str c,.sl (d.map .str),.sl (e.map eO)]:=by
    cases rtO s x with|mk a b c d e=>exact⟨a,b,c,d,e,Q3 a b c d e⟩
   rw[C7] at hCa;simp only[hoe,C7] at hdo;refine A6 4000 ?_;simp[J1,M1,hJM,hMJ];(refine yC rfl (hCa _) ?_; simp[J1,M1,hJM,hMJ]);by_cases h2:m+1+rtW s x<=2000
   ·have hd2:∀id,A2 Tryz.prog 122 _ _ id _ _:=fun id=>by
     have:=hdo (m+1) id h1;rw[F5 h2] at this; exact this
    refine A66 hP rfl rfl (hd2 _) (by simp) (by simp[J1,M1,hJM,hMJ]<;>rfl) ?_;refine A6 4000 ?_;simp[J1,M1,hJM,hMJ];refine hp _ 1 (.inr ⟨rfl,h2⟩) (by omega) ?_;refine yV [(E.n0,E.n0),(E.n0+1,E.n0+1),(E.n0+2,E.n0+10244),(E.n0+3,E.n0+19460)] (by simp[bR,hoe,J1,M1,hJM,hMJ]) fun hrn=>⟨?_,?_,?_,?_,?_⟩<;>(try simp[bR,hoe,J1,M1,hJM,hMJ]);exact wrap64 (by omega)
   ·have hd2:∀id,u9 Tryz.prog 122 _ _ id _:=fun id=>by
     have:=hdo (m+1) id h1;rw[E4 h2] at this; exact this
    refine A7J hP rfl rfl (hd2 _) (by simp) (by simp[J1,M1,hJM,hMJ]<;>rfl) (fun pv hpv=>⟨by simp[J1,M1,hJM,hMJ],by injection hpv with hpv; subst hpv; exact hPn _ _ (E4 (by omega)) rfl (by simp[J1,M1,hJM,hMJ])⟩) (fun v wr h=>by cases h)
  ·refine A6 4000 ?_;simp[J1,M1,hJM,hMJ];unfold l3 at hR;rw[Q3] at hR;have hrn:I0 []:=(by simp[bR,J1,M1,hJM,hMJ,B2 hid]);refine hR _ _ _ (F5 (by omega)) ?_;refine n9 (by simp[bR,J1,M1,hJM,hMJ,B2 hid]<;>rfl) (by simp[bR,J1,M1,hJM,hMJ,B2 hid]<;>exact⟨rfl,rfl⟩) [] hrn ⟨?_,?_,?_,?_,?_,?_⟩<;>(try simp[bR,J1,M1,hJM,hMJ,B2 hid])
   ·exact⟨A5 _ rfl,A5 _ (by simp[E7,W5])⟩
   ·omega
def A5J:CC:=(.r [.bx 2 0,.al 4 (.agg [.int .i64 0,.int .i64 0,.str [],.nils,.nils]),.al 5 (.bool false)])
def A5K:CC:=(.r [.L 8 2 2,⟨some 9,none,[8],.build [.nils,.nils,.int .i64 0] [(0,2,.t 8)]⟩,.bx 10 9,.m 6 10])
def A1m:CC:=(.r [.m 11 6,.m 12 1,.m 13 6,⟨some 14,none,[13],.conv (.rcv 122) (.t 13)⟩,.c 15 121 [11,12,14],.st 5 4 15,⟨none,none,[5],.st 1 (.t 5) (.c (.bool true))⟩])
def B62:CC:=.seq A5J (.seq CC.bad (.seq A5K (.seq A1m CC.ret)))
def B63:List X1:=[.cell 4 true 5,.cell 5 false 1]
theorem B64:L2 Tryz.prog Tryz.f60.results.toList=some B63:=by kernel_rfl
theorem B65:Tryz.f60.body.map (D4 Tryz.prog Tryz.f60.ntmps)=some B62:=by kernel_rfl
def A6H:CC:=(.seq (.seq (.r [.m 9 2,⟨some 10,none,[9],.conv (.ta 173) (.t 9)⟩,.m 8 10,.e 11 8 0,.e 12 8 1,.al 3 (.agg []),.st 0 3 11,.m 4 12]) (.seq (.r [.m 13 4,.no 14 13]) (.cond (.t 14) (.r [.m 15 2,⟨none,none,[15],.pnk (.t 15)⟩]) CC.skip))) (.r [⟨some 16,none,[],.build [.int .i64 0,.int .i64 0,.str [],.nils,.nils] []⟩,.st 5 0 16,⟨none,none,[1],.st 1 (.t 1) (.c (.bool false))⟩]))
def B4X:CC:=.seq CC.bad (.seq (.r [.m 6 2,⟨some 7,none,[6],.bin .neq (some [7]) (.t 6) (.c .nili)⟩]) (.cond (.t 7) A6H CC.skip))
theorem B5I:Tryz.f120.body.map (D4 Tryz.prog Tryz.f120.ntmps)=some B4X:=by kernel_rfl
def zOut:AV:=.agg [.int .i64 0,.int .i64 0,.str [],.nils,.nils]
def bO(v:AV):Bx:=⟨[v],zOut,false,false⟩
def bB(b:Bool):Bx:=⟨[.bool b],.bool false,false,false⟩
theorem B28(E:R9)(J4 J5:Nat)(h4:J4<E.n0)(h5:J5<E.n0)(d:J4≠J5)(hR:∀fr bx k,bk bx J4=some (bO zOut)->bk bx J5=some (bB false)->(∀q∈bx,q.1=J4\/q.1=J5\/E.n0<=q.1)->E.Rt ⟨fr,bx,k⟩):
  Wk E [.code A6H] ⟨[(0,true,.ptr J4 0 0),(1,true,.ptr J5 0 0),(2,true,tm)],[(J4,some (bO zOut)),(J5,some (bB false))],0⟩:=by
 unfold tm bO bB zOut;have e4:∀t,(J4=E.n0+t)=False:=fun t=>by simp; omega
 have e5:∀t,(J5=E.n0+t)=False:=fun t=>by simp; omega
 refine A6 4000 ?_;simp[A6H,e4,e5,d,yl d];refine hR _ _ _ ?_ ?_ ?_
 ·simp[e4,e5,d,yl d,bO,zOut]
 ·simp[e4,e5,d,yl d,bB]
 ·simp
theorem B66{x x' z:Code}{X:Operand}{Y:Code}(h:Tryz.f120.body=some (.seq x (.seq x' (.cond X Y z)))):D4 Tryz.prog Tryz.f120.ntmps Y=A6H:=by
 have h0:=B5I;rw[h] at h0;simp only[vf,zc,B4X] at h0;obtain⟨_,_,e1,_,h1⟩:=g9 h0;injection e1 with _ e1
 subst e1;obtain⟨_,_,e2,_,h2⟩:=g9 h1;injection e2 with _ e2
 subst e2;obtain⟨_,_,_,e3,_,h3,_⟩:=A56 h2;injection e3 with _ e3 _
 subst e3;exact h3
theorem B29(C:Cx Tryz.prog)(G:Gh)(B:Nat->Option Bx)(w:World)(n0 J4 J5:Nat)(v4 v5 u:Value)(hs:RS C G B w)(hv4:RV G w (.ptr J4 0 0) v4)(hv5:RV G w (.ptr J5 0 0) v5)(hu:RV G w tm u)
  (h4:B J4=some (bO zOut)) (h5:B J5=some (bB false)) (d:J4≠J5) (hold:∀x,G.used x->x<n0) (how:∀x,n0<=x->B x=none) :
  CallsD Tryz.prog 120 #[v4,v5] (.panicking [{ v:=u,recovered:=false }]) w fun e u' w'=>u' = .panicking [{ v:=u,recovered:=true }]/\(∃v,e = .returned v) /\
   ∃G' l k,RS C G' (ov B l) w'/\I9 G w G' w'/\bk l J4=some (bO zOut)/\bk l J5=some (bB false)/\(∀q∈l,q.1=J4\/q.1=J5\/n0<=q.1)/\(∀x,x<n0->G'.used x->G.used x)/\∀x,G'.used x->x<n0+k:=by
 obtain⟨y,rfl⟩:∃y,u = .iface 173 y:=by
  unfold tm at hu;cases hu with|iface _ _ y h=>exact⟨y,rfl⟩
 refine callsD_of_wpS Tryz.func120 rfl fun c₀ cs hm=>?_;apply wpS_seq;apply wpS_region;simp[wpOpsS,go_sem,recoverD,hm,Tryz.ntmps120,Exit.thenS];apply wpS_seq;apply wpS_region;simp[wpOpsS,go_sem,Exit.thenS];refine wpS_cond (t:=true) (by simp[Act.eval,Array.replicate]) ?_;apply wpS_of_wp;simp only[if_true];let E:R9:=⟨Tryz.prog,C,B,Tryz.f120.ntmps,n0,G,w,how,hold,hs,[],fun σ=>bk σ.bx J4=some (bO zOut)/\bk σ.bx J5=some (bB false)/\∀q∈σ.bx,q.1=J4\/q.1=J5\/n0<=q.1,fun _ _=>False⟩
 have l4:=hold J4 (hs.boxNames h4).1;have l5:=hold J5 (hs.boxNames h5).1;have hW:=B28 E J4 J5 l4 l5 d fun fr bx k h1 h2 h3=>⟨h1,h2,h3⟩;refine wp_mono (hW _ (B66 rfl) G _ w ?_) fun e a w' hq=>?_
 ·refine⟨I9.refl G w,?_,fun i hi=>by have:=hold i hi; show i<n0+0; omega,fun i _ hi=>hi,fun n c v hl=>?_,?_,rfl⟩
  ·have hh:G8 B [(J4,bO zOut),(J5,bB false)]:=fun q hq=>by
    simp at hq;rcases hq with rfl|rfl
    ·exact h4
    ·exact h5
   have:=A3h hh;simp only[C4] at this;show RS C G (ov B _) w;rw[this]; exact hs
  ·simp only[lk] at hl;repeat' split at hl
   all_goals first|cases hl|skip
   all_goals rename_i hn<;>subst hn<;>refine⟨fun _=>?_,fun h=>by cases h⟩
   ·simpa [zl] using hv4
   ·simpa [zl] using hv5
   ·simpa [zl] using hu
  ·simp[E,Tryz.ntmps120]
 ·have fin:∀σ G',Y4 E σ G' a w'->E.Rt σ->∀(cs':List Frame),a.defers=[]/\(∃v,(results Tryz.f120 a.tmps).run Tryz.prog w' = .ok v w')/\∃G' l k,RS C G' (ov B l) w'/\I9 G w G' w'/\bk l J4=some (bO zOut)/\bk l J5=some (bB false)/\(∀q∈l,q.1=J4\/q.1=J5\/n0<=q.1)/\(∀x,x<n0->G'.used x->G.used x)/\∀x,G'.used x->x<n0+k:=fun σ G' hD hR _=>by
   refine⟨hD.defers,⟨_,by simp[results,Tryz.results57]; rfl⟩,G',σ.bx,σ.k,hD.rs,hD.ev,hR.1,hR.2.1,hR.2.2,hD.old,hD.used⟩
  cases e with
  | normal =>
   obtain⟨σ,G',h1,h2⟩:=hq;obtain⟨f1,⟨v,f2⟩,f3⟩:=fin σ G' h1 h2 cs;exact⟨f1,_,rfl,v,f2,rfl,⟨v,rfl⟩,by obtain⟨g1,g2,g3,d1,d2,d3,d4,d5,d6,d7⟩:=f3; exact⟨g1,g2,d1,d2,d3,d4,fun x y h=>d5 (x,y) h,d6,g3,d7⟩⟩
  | ret =>
   obtain⟨σ,G',h1,h2⟩:=hq;obtain⟨f1,⟨v,f2⟩,f3⟩:=fin σ G' h1 h2 cs;exact⟨f1,_,rfl,v,f2,rfl,⟨v,rfl⟩,by obtain⟨g1,g2,g3,d1,d2,d3,d4,d5,d6,d7⟩:=f3; exact⟨g1,g2,d1,d2,d3,d4,fun x y h=>d5 (x,y) h,d6,g3,d7⟩⟩
  | exit id=>obtain⟨σ,G',h1,h2⟩:=hq; exact h2.elim
  | panic chain =>
   obtain⟨pv,u,σ,F,B,U,G',rfl,h1,h2,h3,h4⟩:=hq;exact h4.elim
  | _=>exact hq.elim
theorem A7d(v1 v2:Value)(w:World):CallsD Tryz.prog 120 #[v1,v2] .returning w fun e u' w'=>u' = .returning/\(∃v,e = .returned v)/\w'=w:=by
 refine callsD_of_wpS Tryz.func120 rfl fun c₀ cs hu=>?_;apply wpS_seq;apply wpS_region;simp[wpOpsS,go_sem,recoverD,hu,Tryz.ntmps120,Exit.thenS];apply wpS_seq;apply wpS_region;simp[wpOpsS,go_sem,Exit.thenS];refine wpS_cond (t:=false) (by simp[Act.eval,Array.replicate]) ?_;simp only[xt,if_false];apply wpS_of_wp;refine wp_skip ?_;exact⟨rfl,_,by rw[←hu],_,by simp[results,Tryz.results57]; rfl,rfl,⟨_,rfl⟩,rfl⟩
theorem B67{x m y z r:Code}(h:Tryz.f60.body=some (.seq x (.seq m (.seq y (.seq z r))))):D4 Tryz.prog Tryz.f60.ntmps x=A5J/\D4 Tryz.prog Tryz.f60.ntmps y=A5K/\D4 Tryz.prog Tryz.f60.ntmps z=A1m:=by
 have h0:=B65;rw[h] at h0;simp only[vf,zc,B62] at h0;obtain⟨_,_,e1,k1,h1⟩:=g9 h0;injection e1 with e1 e1'
 subst e1 e1';obtain⟨_,_,e2,_,h2⟩:=g9 h1;injection e2 with _ e2
 subst e2;obtain⟨_,_,e3,k3,h3⟩:=g9 h2;injection e3 with e3 e3'
 subst e3 e3';obtain⟨_,_,e4,k4,h4⟩:=g9 h3;injection e4 with e4 e4'
 subst e4 e4';exact⟨k1,k3,k4⟩
theorem B2A{x m r:Code}(h:Tryz.f60.body=some (.seq x (.seq m r))){Q:Exit->Act->World->Prop}{t:Array Value}{w:World}(hsz:7<t.size)
  (hQ:Q .normal ⟨t.setIfInBounds 7 (.func (.func 120) #[] #[t[4]?.getD undef,t[5]?.getD undef]),[⟨.fn (.func 120) #[t[4]?.getD undef,t[5]?.getD undef],#[]⟩]⟩ w):m.wp Tryz.prog Q ⟨t,[]⟩ w:=by
 have e:Tryz.f60.body=some (.seq _ (.seq _ _)):=rfl;rw[e] at h;injection h with h
 injection h with _ h
 injection h with h _
 subst h;refine wp_region ?_;have hmf:∀(fn:Fn) (first cap:Array Value) (w:World),(Instr.makeFunc fn first cap).run Tryz.prog w = .ok (.func fn first cap) w:=fun _ _ _ _=>rfl;simp[wpOps,wpOp,go_sem,hmf,Exit.then,hsz];exact .inl (.inl hQ)
theorem G6.ofX{n0:Nat}{bx':List (Nat×Option Bx)}:∀{l:List (Nat×Option Bx)},(∀q∈l,n0<=q.1)->G6 n0 bx' l
 | [],_=>trivial
 | (i,b)::l,h=>⟨.inl (h (i,b) (zb ..)),G6.ofX fun q hq=>h q (za _ hq)⟩
theorem S3{f:Nat->Option Bx}{i:Nat}{b:Option Bx}(h:f i=b):P9 f i b=f:=by
 funext x
 unfold P9;split
 ·rename_i hx; subst hx; exact h.symm
 ·rfl
theorem A9R{C:Cx Tryz.prog}{D:List Deferred}{G G':Gh}{w w':World}{bx:Nat->Option Bx}{n0 k id J4 J5:Nat}{F:Fr}{l:List (Nat×Option Bx)}{a:Act}{cs:List AV}{b:Bool}(own:∀i,n0<=i->bx i=none)(old:∀i,G.used i->i<n0)(hs:RS C G bx w)(hid:∀x,id<=x->x<id+1024->¬G.used x)
  (hD:E0 C Tryz.f60.ntmps D n0 G w F (ov bx l) (· < n0+k) G' a w') (f4:F 4=some (true,.ptr J4 0 0)) (f5:F 5=some (true,.ptr J5 0 0)) (h4:ov bx l J4=some (bO (.agg cs))) (h5:ov bx l J5=some (bB b)) (hc:cs.length=5) (hp:E7 cs=true) (hl:∀q∈l,n0<=q.1) (d:J4≠J5) (j4:n0<=J4) (j5:n0<=J5) :
  ∃v,(results Tryz.f60 a.tmps).run Tryz.prog w' = .ok v w'/\∃G1,RS C G1 bx w'/\I9 G w G1 w'/\RV G1 w' (.tup [.agg cs,.bool b]) v/\∀x,G1.used x->G.used x\/(id<=x/\x<id+1024):=by
 let E:R9:=⟨Tryz.prog,C,bx,Tryz.f60.ntmps,n0,G,w,own,old,hs,D,fun _=>True,fun _ _=>False⟩
 have hD':Y4 E ⟨[(4,true,.ptr J4 0 0),(5,true,.ptr J5 0 0)],(J4,some (bO (.agg cs)))::(J5,some (bB b))::l,k⟩ G' a w':=by
  refine⟨hD.ev,?_,hD.used,hD.old,fun n c v hl=>?_,hD.size,hD.defers⟩
  ·show RS C G' (ov bx _) w';simp only[ov];rw[S3 (f:=ov bx l) h5,S3 h4];exact hD.rs
  ·simp only[lk] at hl;repeat' split at hl
   all_goals first|cases hl|skip
   all_goals rename_i hn<;>subst hn
   ·exact hD.fr _ _ _ f4
   ·exact hD.fr _ _ _ f5
 have hh:G8 E.β []:=G8.nil;refine B1O (E:=E) (id:=id) (rd:=[]) (wr:=[]) (B64) hh hid hD' ?_;simp only[B63];have htk:cs.take 5=cs:=zn (by omega);refine H2 (by simp[bO,bB,d,yl d,hc,htk]<;>rfl) [] trivial (X3 (by simp) (by simp[hp]) ?_);exact G6.ofX fun q hq=>by
  simp at hq;rcases hq with rfl|rfl|hq
  ·exact j4
  ·exact j5
  ·exact hl q hq
theorem A6I{n:Nat}{b:Bx}{r:List (Nat×Option Bx)}:∀{l:List (Nat×Option Bx)},bk l n=some b->bk (l++r) n=some b
 | [],h=>by cases h
 | (m,c)::l,h=>by
  simp only[bk,yo] at h ⊢;split
  ·rename_i hm; rw[zk hm] at h; exact h
  ·rename_i hm; rw[zh hm] at h; exact A6I h
def A1G:CC->List CR
 | .reg _ l _=>l
 | _=>[]
def A2C(s:F1)(q:List D7):AV:=if qW s q<=2000 then eO (qO s q) else zOut
theorem A9S(s:F1)(q:List D7):∃cs,A2C s q = .agg cs/\cs.length=5/\E7 cs=true:=by
 unfold A2C;split
 ·cases qO s q with|mk a b c d e =>
  rw[Q3];exact⟨_,rfl,rfl,by simp⟩
 ·exact⟨_,rfl,rfl,rfl⟩
theorem B5J{s:F1}(hS:RtS s)(q:List D7)(hf:Y8 s.types q=0)(hq8:o8 q<=1000000)(id:Nat):
  A2 Tryz.prog 60 [B4 s,.sl (q.map D0)] [] id (.tup [A2C s q,.bool (decide (qW s q<=2000))]) []:=by
 refine⟨⟨_,Tryz.func60,by decide,rfl⟩,fun C G bx w vs nb hs hv hh hnb hid=>calls_of_wp_defers Tryz.func60 rfl ?_⟩;obtain⟨k1,k2,k3⟩:=B67 rfl;have own:∀i,max nb (id+1024)<=i->bx i=none:=fun i hi=>by
  cases hbi:bx i with
  | none=>rfl
  | some b=>exact (hnb i (by omega) (hs.boxNames hbi).1).elim
 have old:∀i,G.used i->i<max nb (id+1024):=fun i hi=>by
  rcases yt i nb with h|h
  ·omega
  ·exact (hnb i h hi).elim
 generalize max nb (id+1024)=n0 at own old;let E:R9:=⟨Tryz.prog,C,bx,Tryz.f60.ntmps,n0,G,w,own,old,hs,[],fun _=>False,fun _ _=>False⟩
 have hD:Y4 E ⟨A0K 0 [B4 s,.sl (q.map D0)],[],0⟩ G { tmps:=vs++Array.replicate (Tryz.f60.ntmps - vs.size) undef,defers:=[] } w:=by
  refine⟨I9.refl G w,hs,fun i hi=>by have:=old i hi; show i<n0+0; omega,fun i _ hi=>hi,fun n c v hl=>?_,?_,rfl⟩
  ·obtain⟨rfl,_,h3⟩:=A3B hl;simp only[tp] at h3;refine⟨fun _=>?_,fun h=>by cases h⟩;have:=hv.2 n v h3;rw[zl] at this ⊢;rw[xn (by rw[←hv.1]; exact (ze.1 h3).1)];exact this
  ·have:=hv.1;simp[Tryz.ntmps60] at this ⊢;show _=Tryz.f60.ntmps;simp[Tryz.ntmps60]; omega
 have hW:Wk E [.code A5J,.post (fun σ=>σ=⟨[(5,true,.ptr (n0+2048) 0 0),(4,true,.ptr (n0+1024) 0 0),(2,true,.ptr n0 0 0),(0,true,B4 s),(1,true,.sl (q.map D0))],[(n0+2048,some (bB false)),(n0+1024,some (bO zOut)),(n0,some ⟨[B4 s],B4 s,false,false⟩)],3072⟩)] ⟨A0K 0 [B4 s,.sl (q.map D0)],[],0⟩:=by
  refine A6 4000 ?_;simp[A5J,E,bB,bO,zOut]
 refine wp_seq (wp_mono (hW _ k1 G _ w hD) fun e a w1 hq=>?_);clear hW;cases e with
 | normal =>
  obtain⟨σ,G1,hD1,rfl⟩:=hq;obtain⟨at1,ad1⟩:=a;have hd0:ad1=[]:=hD1.defers;subst hd0;have hsz:7<at1.size:=by have:=hD1.size; simp only at this; rw[this]; show 7<Tryz.f60.ntmps; simp[Tryz.ntmps60]
  show (Code.seq _ _).wp _ _ _ _;refine wp_seq (B2A rfl hsz ?_);obtain⟨v4,hv4⟩:∃v4,at1[4]?.getD undef=v4:=⟨_,rfl⟩;obtain⟨v5,hv5⟩:∃v5,at1[5]?.getD undef=v5:=⟨_,rfl⟩;have g4:RV G1 w1 (.ptr (n0+1024) 0 0) v4:=by
   have:=(hD1.fr 4 true _ rfl).1 rfl;rw[zl] at this;rw[←hv4]; exact this
  have g5:RV G1 w1 (.ptr (n0+2048) 0 0) v5:=by
   have:=(hD1.fr 5 true _ rfl).1 rfl;rw[zl] at this;rw[←hv5]; exact this
  rw[hv4,hv5];have own1:∀i,n0+3072<=i->ov bx [(n0+2048,some (bB false)),(n0+1024,some (bO zOut)),(n0,some ⟨[B4 s],B4 s,false,false⟩)] i=none:=fun i hi=>by
   simp only[ov,P9];rw[zh (by omega),zh (by omega),zh (by omega)];exact own i (by omega)
  have hev:I9 G w G1 w1:=hD1.ev;have hrs:RS C G1 (ov bx [(n0+2048,some (bB false)),(n0+1024,some (bO zOut)),(n0,some ⟨[B4 s],B4 s,false,false⟩)]) w1:=hD1.rs;have hus:∀i,G1.used i->i<n0+3072:=hD1.used;have hol:∀i,i<n0->G1.used i->G.used i:=hD1.old;let D:List Deferred:=[⟨.fn (.func 120) #[v4,v5],#[]⟩]
  let E1:R9:=⟨Tryz.prog,C,ov bx [(n0+2048,some (bB false)),(n0+1024,some (bO zOut)),(n0,some ⟨[B4 s],B4 s,false,false⟩)],Tryz.f60.ntmps,n0+3072,G1,w1,own1,hus,hrs,D,fun _=>False,
   fun pv σ=>pv=tm/\¬qW s q<=2000/\bk σ.bx (n0+1024)=some (bO zOut)/\bk σ.bx (n0+2048)=some (bB false)/\lk σ.fr 4=some (true,.ptr (n0+1024) 0 0)/\lk σ.fr 5=some (true,.ptr (n0+2048) 0 0)/\∀x∈σ.bx,n0<=x.1⟩
  have hD2:Y4 E1 ⟨[(5,true,.ptr (n0+2048) 0 0),(4,true,.ptr (n0+1024) 0 0),(2,true,.ptr n0 0 0),(0,true,B4 s),(1,true,.sl (q.map D0))],[(n0+2048,some (bB false)),(n0+1024,some (bO zOut)),(n0,some ⟨[B4 s],B4 s,false,false⟩)],0⟩ G1 ⟨at1.setIfInBounds 7 (.func (.func 120) #[] #[v4,v5]),D⟩ w1:=by
   refine⟨I9.refl G1 w1,?_,fun i hi=>by have:=hus i hi; show i<n0+3072+0; omega,fun i _ hi=>hi,fun n c v hl=>?_,?_,rfl⟩
   ·show RS C G1 (ov (ov bx _) _) w1;simp only[ov];rw[S3 (f:=P9 (P9 (P9 bx n0 _) (n0+1024) _) (n0+2048) _) (i:=n0) (by simp[P9]),S3 (i:=n0+1024) (by simp[P9]),S3 (i:=n0+2048) (by simp[P9])];exact hrs
   ·have:=hD1.fr n c v hl;have hn:n≠7:=fun h=>by subst h; simp at hl
    simp only[zl] at this ⊢;rw[vr (yl hn)];exact this
   ·have:=hD1.size;simp only[um];exact this
  have hN:E1.n0=n0+3072:=rfl;let E2:R9:={ E1 with Pn:=fun _ _=>False }
  have hN2:E2.n0=n0+3072:=rfl;have hW2:Wk E2 [.code A5K,.post (fun σ=>σ=⟨[(6,true,.ptr (n0+5120) 0 0),(10,true,.ptr (n0+5120) 0 0),(9,true,.agg [.sl (s.types.map H6),.sl (s.things.map M5),.int .i64 0]),(8,true,.agg [.sl (s.types.map H6),.sl (s.things.map M5)]),(5,true,.ptr (n0+2048) 0 0),(4,true,.ptr (n0+1024) 0 0),(2,true,.ptr n0 0 0),(0,true,B4 s),(1,true,.sl (q.map D0))],
    [(n0+5120,some (bR s 0)),(n0+2048,some (bB false)),(n0+1024,some (bO zOut)),(n0,some ⟨[B4 s],B4 s,false,false⟩)],4096⟩)] ⟨[(5,true,.ptr (n0+2048) 0 0),(4,true,.ptr (n0+1024) 0 0),(2,true,.ptr n0 0 0),(0,true,B4 s),(1,true,.sl (q.map D0))],[(n0+2048,some (bB false)),(n0+1024,some (bO zOut)),(n0,some ⟨[B4 s],B4 s,false,false⟩)],0⟩:=by
   clear k1 k2 k3 hD hD1 hD2;refine A6 4000 ?_;simp[A5K,hN2,B4,bR]
  show (Code.seq _ _).wp _ _ _ _;refine wp_seq (wp_mono (hW2 _ k2 G1 _ w1 hD2) fun e a2 w2 hq=>?_);clear hW2;cases e with
  | normal =>
   obtain⟨σ,G2,hD3,rfl⟩:=hq;have hQ:=fun id=>B3p hS q hf hq8 (n0+5120) 0 id (by omega);obtain⟨ok,on,ot,oks,ols,hoe⟩:∃(a b:Int) (c:List UInt8) (d:List (List UInt8)) (e:List H3),eO (qO s q) = .agg [.int .i64 a,.int .i64 b,.str c,.sl (d.map .str),.sl (e.map eO)]:=by
    cases qO s q with|mk a b c d e=>exact⟨a,b,c,d,e,Q3 a b c d e⟩
   rw[hoe] at hQ;have hP:E1.P=Tryz.prog:=rfl;have hW3:Wk E1 [.ops (A1G A1m) 0 [] [],.post (fun σ=>qW s q<=2000/\bk σ.bx (n0+1024)=some (bO (eO (qO s q)))/\bk σ.bx (n0+2048)=some (bB true)/\lk σ.fr 4=some (true,.ptr (n0+1024) 0 0)/\lk σ.fr 5=some (true,.ptr (n0+2048) 0 0)/\∀x∈σ.bx,n0<=x.1)]
     ⟨[(6,true,.ptr (n0+5120) 0 0),(10,true,.ptr (n0+5120) 0 0),(9,true,.agg [.sl (s.types.map H6),.sl (s.things.map M5),.int .i64 0]),(8,true,.agg [.sl (s.types.map H6),.sl (s.things.map M5)]),(5,true,.ptr (n0+2048) 0 0),(4,true,.ptr (n0+1024) 0 0),(2,true,.ptr n0 0 0),(0,true,B4 s),(1,true,.sl (q.map D0))],
    [(n0+5120,some (bR s 0)),(n0+2048,some (bB false)),(n0+1024,some (bO zOut)),(n0,some ⟨[B4 s],B4 s,false,false⟩)],4096⟩:=by
    clear k1 k2 k3 hD hD1 hD2 hD3;rw[hoe];refine A6 4000 ?_;simp[A1G,A1m,hN];by_cases h1:0+qW s q<=2000
    ·have hQ1:∀id,A2 Tryz.prog 121 _ _ id _ _:=fun id=>by
      have:=hQ id;rw[F5 h1] at this; exact this
     (refine yC rfl (hQ1 _) ?_; simp[hN,bO,bB,bR,zOut]);refine⟨by omega,fun a b h=>?_⟩;rcases h with⟨h,_⟩|⟨h,_⟩|⟨h,_⟩|⟨h,_⟩|⟨h,_⟩|⟨h,_⟩|⟨h,_⟩<;>omega
    ·simp only[E4 h1] at hQ;refine K4 hP rfl (hQ _) (by simp) (by simp<;>rfl) (fun pv hpv=>⟨by simp,by injection hpv with hpv; subst hpv; exact⟨rfl,by omega,by simp[bO,zOut],by simp[bB],rfl,rfl,by simp⟩⟩) (fun v wr h=>by cases h)
   have hinv:∀w3,(invoke (.fn (.func 120) #[v4,v5]) #[]).run Tryz.prog w3 = .ok (.enter 120 #[v4,v5]) w3:=fun w3=>by simp[go_sem]
   have fin:∀{F:Fr} {l:List (Nat×Option Bx)} {k:Nat} {G3:Gh} {a3:Act} {w3:World} {cs:List AV} {b:Bool},E0 C Tryz.f60.ntmps D (n0+3072) G1 w1 F (ov (ov bx [(n0+2048,some (bB false)),(n0+1024,some (bO zOut)),(n0,some ⟨[B4 s],B4 s,false,false⟩)]) l) (· < n0+k) G3 a3 w3 ->
     F 4=some (true,.ptr (n0+1024) 0 0)->F 5=some (true,.ptr (n0+2048) 0 0)->bk l (n0+1024)=some (bO (.agg cs))->bk l (n0+2048)=some (bB b)->cs.length=5->E7 cs=true->(∀x∈l,n0<=x.1) ->
     ∃v,(results Tryz.f60 a3.tmps).run Tryz.prog w3 = .ok v w3/\∃G1,RS C G1 bx w3/\I9 G w G1 w3/\RV G1 w3 (.tup [.agg cs,.bool b]) v/\∀x,G1.used x->G.used x\/(id<=x/\x<id+1024):=fun {F l k G3 a3 w3 cs b} h f4 f5 b4 b5 hc hp hl=>by
    have h':=h.rebase (n0:=n0) (by omega) hev hol;have e4:=U1 (ov bx [(n0+2048,some (bB false)),(n0+1024,some (bO zOut)),(n0,some ⟨[B4 s],B4 s,false,false⟩)]) b4;have e5:=U1 (ov bx [(n0+2048,some (bB false)),(n0+1024,some (bO zOut)),(n0,some ⟨[B4 s],B4 s,false,false⟩)]) b5;rw[←A0r] at h' e4 e5;exact A9R own old hs hid h' f4 f5 e4 e5 hc hp (fun x hx=>by
     rcases zo.1 hx with hx|hx
     ·exact hl x hx
     ·simp at hx;rcases hx with rfl|rfl|rfl<;>simp) (by omega) (by omega) (by omega)
   show (Code.seq _ _).wp _ _ _ _;refine wp_seq (B1i (E:=E1) (crs:=A1G A1m) (k3.trans rfl) hW3 hD3 (fun σ G3 a3 w3 h1 h2=>?_) (fun pv u σ G3 a3 w3 h1 h2 h3=>?_))
   ·obtain⟨q1,b4,b5,f4,f5,hl⟩:=h2;show Code.ret.wp _ _ _ _;refine wp_ret ?_;show Leaves _ _ _ _ a3.defers .returning w3;rw[show a3.defers=D from h1.defers];refine leaves_cons (by simp) (hinv w3) ((A7d v4 v5 w3).mono ?_);rintro e u' w' ⟨rfl,⟨v,rfl⟩,rfl⟩;obtain⟨cs,hcs,hc5,hcp⟩:=A9S s q;rw[show eO (qO s q) = .agg cs by rw[←hcs]; unfold A2C; rw[zk q1]] at b4;obtain⟨v,r1,G4,r2,r3,r4,r5⟩:=fin (h1.weak (U':=fun x=>x<n0+(3072+σ.k)) (fun x hx=>by have:x<n0+3072+σ.k:=hx; omega)) f4 f5 b4 b5 hc5 hcp hl;rw[hcs,vu q1];exact⟨v,r1,v,G4,rfl,r2,r3,r4,r5⟩
   ·obtain⟨rfl,q1,b4,b5,f4,f5,hl⟩:=h3;show Leaves _ _ _ _ a3.defers (.panicking [{ v:=u,recovered:=false }]) w3;rw[show a3.defers=D from h1.defers];have hus3:=h1.used;have hrs3:=h1.rs;refine leaves_cons (by simp) (hinv w3) ((B29 C G3 _ w3 _ (n0+1024) (n0+2048) v4 v5 u hrs3 (g4.mono h1.ev) (g5.mono h1.ev) h2 (U1 _ b4) (U1 _ b5) (by omega) hus3 (fun x hx=>?_)).mono ?_)
    ·cases hb:ov E1.β σ.bx x with
     | none=>rfl
     | some b=>have:=hus3 x (hrs3.boxNames hb).1; omega
    rintro e u' w' ⟨rfl,⟨v,rfl⟩,G4,l,k,r1,r2,r3,r4,r5,r6,r7⟩;have hx:=E0.step h1 r1 r2 (U':=fun x=>x<n0+(3072+4096+1024*(A1G A1m).length+k)) (fun x hx=>by have:=r7 x hx; simp only[E1] at this; omega) (fun x hx hu=>r6 x (by simp only[E1] at hx ⊢; omega) hu);rw[←A0r] at hx;obtain⟨cs,hcs,hc5,hcp⟩:=A9S s q;have hz:zOut = .agg cs:=(by rw[←hcs]; unfold A2C; rw[zh q1]);rw[hz] at r3;obtain⟨v,s1,G5,s2,s3,s4,s5⟩:=fin hx f4 f5 (A6I r3) (A6I r4) hc5 hcp (fun x hx=>by
     rcases zo.1 hx with hx|hx
     ·rcases r5 x hx with h|h|h
      ·omega
      ·omega
      ·simp only[E1] at h; omega
     ·exact hl x hx)
    rw[hcs,vm q1];exact⟨v,s1,v,G5,rfl,s2,s3,s4,s5⟩
  | ret=>obtain⟨_,_,_,h2⟩:=hq; exact h2.elim
  | exit id=>obtain⟨_,_,_,h2⟩:=hq; exact h2.elim
  | panic chain =>
   obtain⟨pv,u,σ,F,B,U,G',rfl,h1,h2,h3,h4⟩:=hq;exact h4.elim
  | _=>exact hq.elim
 | ret=>obtain⟨_,_,_,h2⟩:=hq; exact h2.elim
 | exit id=>obtain⟨_,_,_,h2⟩:=hq; exact h2.elim
 | panic chain =>
  obtain⟨pv,u,σ,F,B,U,G',rfl,h1,h2,h3,h4⟩:=hq;exact h4.elim
 | _=>exact hq.elim
theorem A6J{β:Nat->Option Bx}{M:Nat}{b:Bx}(h:β M=some b):∀l,ov β (l++[(M,some b)])=ov β l
 | []=>by
  simp only[xi,ov];funext i
  unfold P9;split
  ·rename_i e; rw[e,h]
  ·rfl
 | q::l=>by simp only[yo,ov,A6J h l]
theorem B0O{s:F1}(hs:RtS s)(x:D7)(hf:Y8 s.types [x]=0)(hq8:o8 [x]<=1000000)(J M m:Nat)(id:Nat)(hm:m<=2000)(hJM:J≠M):
  u9 Tryz.prog 121 [.ptr J 0 0,.bsl M 0 1,.fnb 122 [.ptr J 0 0]] [(J,bR s m),(M,mB x)] id (rnR s J m (qW s [x]) (eO (qO s [x]))):=by
 have hl5:=hs.sch.len;have hx:x∈[x]:=by simp
 have hqw:qW s [x]=1+rtW s x:=by simp[qW,A8e]
 rw[hqw];refine A8f s x J M m id hm hJM fun m id hm=>A9Q id hm (by omega) (by have:=hs.len; omega) fun y m id hm=>?_;obtain⟨t,h1,h2,h3⟩:=A42 (A0X.1 hf x hx);have hsx:=Z6 hx;have hsz:=A1i x;have hkl:=W4 x.kids;refine A40 id hm (by have:=hs.len; omega) (by omega) fun u hu z hz m id hm=>?_;obtain⟨u1,u2⟩:=A6G hs (A29 _ _ hl5) hu;have hu4:=hs.tg u u1;have hz1:=Z6 hz;have hty:s.types[u.type.toNat]?=some t:=by
  rcases L5 (fun t=>t.name==x.name) s.types 0 with⟨q1,q2⟩|⟨j,t',q1,q2,q3⟩
  ·have:=hu4.ty0;rw[u2] at this;unfold A8 at this;omega
  ·rw[u2];unfold A8;rw[q2];unfold V0 at h1;rw[h1] at q3;obtain rfl:t=t':=by simpa using q3
   simpa using q1
 exact A2A hs _ z u t J m id (wq _) (by omega) hu4 hty (A0u h2 z hz) hm
theorem B2B{s:F1}(hS:RtS s)(y:D7)(M:Nat)(hf:Y8 s.types [y]=0)(hq8:o8 [y]<=1000000)(hqw:qW s [y]<=2000)(id:Nat):
  A2 Tryz.prog 60 [B4 s,.bsl M 0 1] [(M,mB y)] id (.tup [eO (qO s [y]),.bool true]) []:=by
 refine⟨⟨_,Tryz.func60,by decide,rfl⟩,fun C G bx w vs nb hs hv hh hnb hid=>calls_of_wp_defers Tryz.func60 rfl ?_⟩;obtain⟨k1,k2,k3⟩:=B67 rfl;have own:∀i,max nb (id+1024)<=i->bx i=none:=fun i hi=>by
  cases hbi:bx i with
  | none=>rfl
  | some b=>exact (hnb i (by omega) (hs.boxNames hbi).1).elim
 have old:∀i,G.used i->i<max nb (id+1024):=fun i hi=>by
  rcases yt i nb with h|h
  ·omega
  ·exact (hnb i h hi).elim
 have hbM:bx M=some (mB y):=hh (M,mB y) (by simp);have hMold:M<nb:=by
  rcases yt M nb with h|h
  ·exact h
  ·exact (hnb M h (hs.boxNames hbM).1).elim
 have hMn:M<max nb (id+1024):=by omega
 generalize max nb (id+1024)=n0 at own old hMn;let E:R9:=⟨Tryz.prog,C,bx,Tryz.f60.ntmps,n0,G,w,own,old,hs,[],fun _=>False,fun _ _=>False⟩
 have hD:Y4 E ⟨A0K 0 [B4 s,.bsl M 0 1],[],0⟩ G { tmps:=vs++Array.replicate (Tryz.f60.ntmps - vs.size) undef,defers:=[] } w:=by
  refine⟨I9.refl G w,hs,fun i hi=>by have:=old i hi; show i<n0+0; omega,fun i _ hi=>hi,fun n c v hl=>?_,?_,rfl⟩
  ·obtain⟨rfl,_,h3⟩:=A3B hl;simp only[tp] at h3;refine⟨fun _=>?_,fun h=>by cases h⟩;have:=hv.2 n v h3;rw[zl] at this ⊢;rw[xn (by rw[←hv.1]; exact (ze.1 h3).1)];exact this
  ·have:=hv.1;simp[Tryz.ntmps60] at this ⊢;show _=Tryz.f60.ntmps;simp[Tryz.ntmps60]; omega
 have hW:Wk E [.code A5J,.post (fun σ=>σ=⟨[(5,true,.ptr (n0+2048) 0 0),(4,true,.ptr (n0+1024) 0 0),(2,true,.ptr n0 0 0),(0,true,B4 s),(1,true,.bsl M 0 1)],[(n0+2048,some (bB false)),(n0+1024,some (bO zOut)),(n0,some ⟨[B4 s],B4 s,false,false⟩)],3072⟩)] ⟨A0K 0 [B4 s,.bsl M 0 1],[],0⟩:=by
  refine A6 4000 ?_;simp[A5J,E,bB,bO,zOut]
 refine wp_seq (wp_mono (hW _ k1 G _ w hD) fun e a w1 hq=>?_);clear hW;cases e with
 | normal =>
  obtain⟨σ,G1,hD1,rfl⟩:=hq;obtain⟨at1,ad1⟩:=a;have hd0:ad1=[]:=hD1.defers;subst hd0;have hsz:7<at1.size:=by have:=hD1.size; simp only at this; rw[this]; show 7<Tryz.f60.ntmps; simp[Tryz.ntmps60]
  show (Code.seq _ _).wp _ _ _ _;refine wp_seq (B2A rfl hsz ?_);obtain⟨v4,hv4⟩:∃v4,at1[4]?.getD undef=v4:=⟨_,rfl⟩;obtain⟨v5,hv5⟩:∃v5,at1[5]?.getD undef=v5:=⟨_,rfl⟩;have g4:RV G1 w1 (.ptr (n0+1024) 0 0) v4:=by
   have:=(hD1.fr 4 true _ rfl).1 rfl;rw[zl] at this;rw[←hv4]; exact this
  have g5:RV G1 w1 (.ptr (n0+2048) 0 0) v5:=by
   have:=(hD1.fr 5 true _ rfl).1 rfl;rw[zl] at this;rw[←hv5]; exact this
  rw[hv4,hv5];have own1:∀i,n0+3072<=i->ov bx [(n0+2048,some (bB false)),(n0+1024,some (bO zOut)),(n0,some ⟨[B4 s],B4 s,false,false⟩)] i=none:=fun i hi=>by
   simp only[ov,P9];rw[zh (by omega),zh (by omega),zh (by omega)];exact own i (by omega)
  have hev:I9 G w G1 w1:=hD1.ev;have hrs:RS C G1 (ov bx [(n0+2048,some (bB false)),(n0+1024,some (bO zOut)),(n0,some ⟨[B4 s],B4 s,false,false⟩)]) w1:=hD1.rs;have hus:∀i,G1.used i->i<n0+3072:=hD1.used;have hol:∀i,i<n0->G1.used i->G.used i:=hD1.old;let D:List Deferred:=[⟨.fn (.func 120) #[v4,v5],#[]⟩]
  let E1:R9:=⟨Tryz.prog,C,ov bx [(n0+2048,some (bB false)),(n0+1024,some (bO zOut)),(n0,some ⟨[B4 s],B4 s,false,false⟩)],Tryz.f60.ntmps,n0+3072,G1,w1,own1,hus,hrs,D,fun _=>False,
   fun _ _=>False⟩
  have hD2:Y4 E1 ⟨[(5,true,.ptr (n0+2048) 0 0),(4,true,.ptr (n0+1024) 0 0),(2,true,.ptr n0 0 0),(0,true,B4 s),(1,true,.bsl M 0 1)],[(n0+2048,some (bB false)),(n0+1024,some (bO zOut)),(n0,some ⟨[B4 s],B4 s,false,false⟩)],0⟩ G1 ⟨at1.setIfInBounds 7 (.func (.func 120) #[] #[v4,v5]),D⟩ w1:=by
   refine⟨I9.refl G1 w1,?_,fun i hi=>by have:=hus i hi; show i<n0+3072+0; omega,fun i _ hi=>hi,fun n c v hl=>?_,?_,rfl⟩
   ·show RS C G1 (ov (ov bx _) _) w1;simp only[ov];rw[S3 (f:=P9 (P9 (P9 bx n0 _) (n0+1024) _) (n0+2048) _) (i:=n0) (by simp[P9]),S3 (i:=n0+1024) (by simp[P9]),S3 (i:=n0+2048) (by simp[P9])];exact hrs
   ·have:=hD1.fr n c v hl;have hn:n≠7:=fun h=>by subst h; simp at hl
    simp only[zl] at this ⊢;rw[vr (yl hn)];exact this
   ·have:=hD1.size;simp only[um];exact this
  have hN:E1.n0=n0+3072:=rfl;let E2:R9:={ E1 with Pn:=fun _ _=>False }
  have hN2:E2.n0=n0+3072:=rfl;have hW2:Wk E2 [.code A5K,.post (fun σ=>σ=⟨[(6,true,.ptr (n0+5120) 0 0),(10,true,.ptr (n0+5120) 0 0),(9,true,.agg [.sl (s.types.map H6),.sl (s.things.map M5),.int .i64 0]),(8,true,.agg [.sl (s.types.map H6),.sl (s.things.map M5)]),(5,true,.ptr (n0+2048) 0 0),(4,true,.ptr (n0+1024) 0 0),(2,true,.ptr n0 0 0),(0,true,B4 s),(1,true,.bsl M 0 1)],
    [(n0+5120,some (bR s 0)),(n0+2048,some (bB false)),(n0+1024,some (bO zOut)),(n0,some ⟨[B4 s],B4 s,false,false⟩)],4096⟩)] ⟨[(5,true,.ptr (n0+2048) 0 0),(4,true,.ptr (n0+1024) 0 0),(2,true,.ptr n0 0 0),(0,true,B4 s),(1,true,.bsl M 0 1)],[(n0+2048,some (bB false)),(n0+1024,some (bO zOut)),(n0,some ⟨[B4 s],B4 s,false,false⟩)],0⟩:=by
   clear k1 k2 k3 hD hD1 hD2;refine A6 4000 ?_;simp[A5K,hN2,B4,bR]
  show (Code.seq _ _).wp _ _ _ _;refine wp_seq (wp_mono (hW2 _ k2 G1 _ w1 hD2) fun e a2 w2 hq=>?_);clear hW2;cases e with
  | normal =>
   obtain⟨σ,G2,hD3,rfl⟩:=hq;have hQ:=fun id=>B0O hS y hf hq8 (n0+5120) M 0 id (by omega) (by omega);obtain⟨ok,on,ot,oks,ols,hoe⟩:∃(a b:Int) (c:List UInt8) (d:List (List UInt8)) (e:List H3),eO (qO s [y]) = .agg [.int .i64 a,.int .i64 b,.str c,.sl (d.map .str),.sl (e.map eO)]:=by
    cases qO s [y] with|mk a b c d e=>exact⟨a,b,c,d,e,Q3 a b c d e⟩
   rw[hoe] at hQ;have hP:E1.P=Tryz.prog:=rfl;have hW3:Wk E1 [.ops (A1G A1m) 0 [] [],.post (fun σ=>(∃l,σ.bx=l++[(M,some (mB y))]/\bk l (n0+1024)=some (bO (eO (qO s [y])))/\bk l (n0+2048)=some (bB true)/\∀x∈l,n0<=x.1)/\lk σ.fr 4=some (true,.ptr (n0+1024) 0 0)/\lk σ.fr 5=some (true,.ptr (n0+2048) 0 0))]
     ⟨[(6,true,.ptr (n0+5120) 0 0),(10,true,.ptr (n0+5120) 0 0),(9,true,.agg [.sl (s.types.map H6),.sl (s.things.map M5),.int .i64 0]),(8,true,.agg [.sl (s.types.map H6),.sl (s.things.map M5)]),(5,true,.ptr (n0+2048) 0 0),(4,true,.ptr (n0+1024) 0 0),(2,true,.ptr n0 0 0),(0,true,B4 s),(1,true,.bsl M 0 1)],
    [(n0+5120,some (bR s 0)),(n0+2048,some (bB false)),(n0+1024,some (bO zOut)),(n0,some ⟨[B4 s],B4 s,false,false⟩),(M,some (mB y))],4096⟩:=by
    clear k1 k2 k3 hD hD1 hD2 hD3;have hM1:(M=n0)=False:=(by simp; omega);have hM2:∀t,(M=n0+t)=False:=fun t=>by simp; omega
    have hM3:(n0=M)=False:=(by simp; omega);have hM4:∀t,(n0+t=M)=False:=fun t=>by simp; omega
    rw[hoe];refine A6 4000 ?_;simp[A1G,A1m,hN];have hQ1:∀id,A2 Tryz.prog 121 _ _ id _ _:=fun id=>by
     have:=hQ id;rw[F5 (by omega)] at this; exact this
    (refine yC rfl (hQ1 _) ?_; simp[hN,bO,bB,bR,zOut,hM1,hM2,hM3,hM4]);exact⟨[_,_,_,_,_,_,_],rfl,by simp,by simp,fun a b h=>by
     simp at h;rcases h with⟨h,_⟩|⟨h,_⟩|⟨h,_⟩|⟨h,_⟩|⟨h,_⟩|⟨h,_⟩|⟨h,_⟩<;>omega⟩
   have hinv:∀w3,(invoke (.fn (.func 120) #[v4,v5]) #[]).run Tryz.prog w3 = .ok (.enter 120 #[v4,v5]) w3:=fun w3=>by simp[go_sem]
   have fin:∀{F:Fr} {l:List (Nat×Option Bx)} {k:Nat} {G3:Gh} {a3:Act} {w3:World} {cs:List AV} {b:Bool},E0 C Tryz.f60.ntmps D (n0+3072) G1 w1 F (ov (ov bx [(n0+2048,some (bB false)),(n0+1024,some (bO zOut)),(n0,some ⟨[B4 s],B4 s,false,false⟩)]) l) (· < n0+k) G3 a3 w3 ->
     F 4=some (true,.ptr (n0+1024) 0 0)->F 5=some (true,.ptr (n0+2048) 0 0)->bk l (n0+1024)=some (bO (.agg cs))->bk l (n0+2048)=some (bB b)->cs.length=5->E7 cs=true->(∀x∈l,n0<=x.1) ->
     ∃v,(results Tryz.f60 a3.tmps).run Tryz.prog w3 = .ok v w3/\∃G1,RS C G1 bx w3/\I9 G w G1 w3/\RV G1 w3 (.tup [.agg cs,.bool b]) v/\∀x,G1.used x->G.used x\/(id<=x/\x<id+1024):=fun {F l k G3 a3 w3 cs b} h f4 f5 b4 b5 hc hp hl=>by
    have h':=h.rebase (n0:=n0) (by omega) hev hol;have e4:=U1 (ov bx [(n0+2048,some (bB false)),(n0+1024,some (bO zOut)),(n0,some ⟨[B4 s],B4 s,false,false⟩)]) b4;have e5:=U1 (ov bx [(n0+2048,some (bB false)),(n0+1024,some (bO zOut)),(n0,some ⟨[B4 s],B4 s,false,false⟩)]) b5;rw[←A0r] at h' e4 e5;exact A9R own old hs hid h' f4 f5 e4 e5 hc hp (fun x hx=>by
     rcases zo.1 hx with hx|hx
     ·exact hl x hx
     ·simp at hx;rcases hx with rfl|rfl|rfl<;>simp) (by omega) (by omega) (by omega)
   have hβM:E1.β M=some (mB y):=by
    show ov bx _ M=_;simp only[ov,P9];rw[zh (by omega),zh (by omega),zh (by omega)];exact hbM
   have hD4:Y4 E1 ⟨[(6,true,.ptr (n0+5120) 0 0),(10,true,.ptr (n0+5120) 0 0),(9,true,.agg [.sl (s.types.map H6),.sl (s.things.map M5),.int .i64 0]),(8,true,.agg [.sl (s.types.map H6),.sl (s.things.map M5)]),(5,true,.ptr (n0+2048) 0 0),(4,true,.ptr (n0+1024) 0 0),(2,true,.ptr n0 0 0),(0,true,B4 s),(1,true,.bsl M 0 1)],
    [(n0+5120,some (bR s 0)),(n0+2048,some (bB false)),(n0+1024,some (bO zOut)),(n0,some ⟨[B4 s],B4 s,false,false⟩),(M,some (mB y))],4096⟩ G2 a2 w2:=by
    have e:=A6J hβM [(n0+5120,some (bR s 0)),(n0+2048,some (bB false)),(n0+1024,some (bO zOut)),(n0,some ⟨[B4 s],B4 s,false,false⟩)];unfold Y4 at hD3 ⊢;simp only[yo,xi] at e;simp only at hD3 ⊢;rw[e];exact hD3
   show (Code.seq _ _).wp _ _ _ _;refine wp_seq (B1i (E:=E1) (crs:=A1G A1m) (k3.trans rfl) hW3 hD4 (fun σ G3 a3 w3 h1 h2=>?_) (fun pv u σ G3 a3 w3 h1 h2 h3=>h3.elim));obtain⟨⟨l,hbx,b4,b5,hl⟩,f4,f5⟩:=h2;show Code.ret.wp _ _ _ _;refine wp_ret ?_;show Leaves _ _ _ _ a3.defers .returning w3;rw[show a3.defers=D from h1.defers];refine leaves_cons (by simp) (hinv w3) ((A7d v4 v5 w3).mono ?_);rintro e u' w' ⟨rfl,⟨v,rfl⟩,rfl⟩;obtain⟨cs,hcs,hc5,hcp⟩:∃cs,eO (qO s [y]) = .agg cs/\cs.length=5/\E7 cs=true:=by
    cases qO s [y] with|mk a b c d e =>
    rw[Q3];exact⟨_,rfl,rfl,by simp⟩
   rw[hcs] at b4;have h1:=h1.weak (U':=fun x=>x<n0+(3072+σ.k)) (fun x hx=>by have:x<n0+3072+σ.k:=hx; omega);rw[hbx,A6J hβM] at h1;obtain⟨v,r1,G4,r2,r3,r4,r5⟩:=fin (l:=l) (k:=3072+σ.k) h1 f4 f5 b4 b5 hc5 hcp hl;rw[hcs];exact⟨v,r1,v,G4,rfl,r2,r3,r4,r5⟩
  | ret=>obtain⟨_,_,_,h2⟩:=hq; exact h2.elim
  | exit id=>obtain⟨_,_,_,h2⟩:=hq; exact h2.elim
  | panic chain =>
   obtain⟨pv,u,σ,F,B,U,G',rfl,h1,h2,h3,h4⟩:=hq;exact h4.elim
  | _=>exact hq.elim
 | ret=>obtain⟨_,_,_,h2⟩:=hq; exact h2.elim
 | exit id=>obtain⟨_,_,_,h2⟩:=hq; exact h2.elim
 | panic chain =>
  obtain⟨pv,u,σ,F,B,U,G',rfl,h1,h2,h3,h4⟩:=hq;exact h4.elim
 | _=>exact hq.elim
theorem B3q{s:D7}{r ah:List D7}(h:N7 (s::r) ah=0):s.args.length<=5/\N7 s.kids []=0/\N7 r (ah++[s])=0:=by
 simp only[N7] at h;split at h
 ·rename_i h0; exact (h0 h).elim
 rename_i h0;have h0:=zm h0;split at h
 ·rename_i h1; exact (h1 h).elim
 rename_i h1;have h1:=zm h1;rw[A1j] at h1;refine⟨?_,h1,h⟩;rw[A3s] at h0;split at h0
 ·rename_i h2; exact (h2 h0).elim
 split at h0
 ·rename_i h2; exact (h2 h0).elim
 rename_i h2;have h2:=zm h2;unfold U3 at h2;split at h2
 ·cases h2
 ·omega
theorem A9T{m:Nat}:∀(l:List D7) (a:Nat),a<=l.foldl (fun d s=>max d (J2 m s.kids+1)) a/\∀s∈l,J2 m s.kids+1<=l.foldl (fun d s=>max d (J2 m s.kids+1)) a
 | [],a=>⟨yg _,fun s hs=>by cases hs⟩
 | x::r,a=>by
  obtain⟨h1,h2⟩:=A9T (m:=m) r (max a (J2 m x.kids+1));simp only[wv];refine⟨by omega,fun s hs=>?_⟩;rcases zi.1 hs with rfl|hs
  ·omega
  ·exact h2 s hs
theorem A9U:∀(m:Nat) (l ah:List D7),J2 m l<=m->N7 l ah=0->o8 l<=6*N2 m l
 | 0,l,ah,hd,hc=>by
  cases l with
  | nil=>simp[o8]
  | cons a r=>simp[J2] at hd
 | m+1,l,ah,hd,hc=>by
  have hk:∀s∈l,J2 m s.kids<=m:=fun s hs=>by
   have:=(A9T (m:=m) l (min l.length 1)).2 s hs;simp only[J2] at hd;omega
  have key:∀(l ah:List D7),(∀s∈l,J2 m s.kids<=m)->N7 l ah=0->o8 l<=6*(l.length+(l.map fun s=>N2 m s.kids).sum):=fun l=>by
   induction l with
   | nil=>intro ah _ _; simp[o8]
   | cons a r ih =>
    intro ah hk hc;obtain⟨h1,h2,h3⟩:=B3q hc;have h4:=A9U m a.kids [] (hk a (zb ..)) h2;have h5:=ih _ (fun s hs=>hk s (za _ hs)) h3;have h6:=A1i a;simp only[o8,yz,yd,ud];omega
  exact key l ah hk hc
theorem A7e{q:List D7}(h:N6 q=0):o8 q<=240:=by
 unfold N6 at h;split at h
 ·cases h
 split at h
 ·cases h
 rename_i h1;have:=A9U 5 q [] (by omega) h;omega
def U4(s:F1)(q:List D7):Int:=if fSt s≠0 then fSt s else if M0 s.types q≠0 then M0 s.types q else if qW s q<=2000 then 0 else 2
def A43(s:F1)(q:List D7):AV:=if U4 s q=0 then eO (qO s q) else zOut.nrm
theorem p5{l:List Ty}{q:List D7}(h:M0 l q=0):F8 l=0/\N6 q=0/\Y8 l q=0:=by
 unfold M0 at h;split at h
 ·rename_i h0; exact (h0 h).elim
 rename_i h0;split at h
 ·rename_i h1; exact (h1 h).elim
 rename_i h1;exact⟨zm h0,zm h1,h⟩
theorem B2C(s:F1)(q:List D7)(id:Nat)(hq8:o8 q<=1099511627776):A2 Tryz.prog 21 [B4 s,.sl (q.map D0)] [] id (.tup [A43 s q,.int .i64 (U4 s q)]) []:=by
 have hSt:=fun id=>R6 s id;have hVq:=fun id=>B0H s.types q id hq8;have hRw:fSt s=0->M0 s.types q=0->∀id,A2 Tryz.prog 60 [B4 s,.sl (q.map D0)] [] id (.tup [A2C s q,.bool (decide (qW s q<=2000))]) []:=fun h1 h2 id=>B5J (A8d h1) q (p5 h2).2.2 (by have:=A7e (p5 h2).2.1; omega) id;obtain⟨V,hV0,hV1,hV2⟩:∃V:AV,V.nrm=A43 s q/\(U4 s q≠0->V = .agg [.int .i64 0,.int .i64 0,.str [],.nils,.nils])/\(U4 s q=0->V=A2C s q):=by
  by_cases h:U4 s q=0
  ·refine⟨A2C s q,?_,fun k=>(k h).elim,fun _=>rfl⟩;have hw:qW s q<=2000:=by
    unfold U4 at h;split at h
    ·rename_i h0; exact (h0 h).elim
    split at h
    ·rename_i h0; exact (h0 h).elim
    split at h
    ·assumption
    ·cases h
   unfold A2C A43;rw[zk hw,zk h,A8c]
  ·exact⟨_,by unfold A43; rw[zh h]; rfl,fun _=>rfl,fun k=>(h k).elim⟩
 have hn:(AV.tup [V,.int .i64 (U4 s q)]).nrm = .tup [A43 s q,.int .i64 (U4 s q)]:=by simp[AV.nrm,A1h,hV0]
 rw[←hn];refine A2.nrm ?_;have hs:B4 s = .agg [.sl (s.types.map H6),.sl (s.things.map M5)]:=rfl;rw[hs] at *;refine w21.e.1 fun E hP hR hl hid=>?_;simp[w21];(refine yH rfl (hSt _) ?_; simp);refine C9 (fun h=>?_) (fun h=>?_)<;>simp
 ·have h1:fSt s=0:=by simpa using h
  (refine yH rfl (hVq _) ?_; simp);refine C9 (fun h=>?_) (fun h=>?_)<;>simp
  ·have h2:M0 s.types q≠0:=(by simpa using h);have he:U4 s q=M0 s.types q:=(by unfold U4; rw[zh (by omega),zk h2]);rw[hV1 (by omega),he] at hR;exact yP hR
  ·have h2:M0 s.types q=0:=(by simpa using h);have hQ:=hRw h1 h2;by_cases h3:qW s q<=2000
   ·have he:U4 s q=0:=(by unfold U4; rw[zh (by omega),zh (by omega),zk h3]);obtain⟨ok,on,ot,oks,ols,hoe⟩:∃(a b:Int) (c:List UInt8) (d:List (List UInt8)) (e:List H3),A2C s q = .agg [.int .i64 a,.int .i64 b,.str c,.sl (d.map .str),.sl (e.map eO)]:=by
     unfold A2C;rw[zk h3];cases qO s q with|mk a b c d e=>exact⟨a,b,c,d,e,Q3 a b c d e⟩
    rw[hV2 he,he,hoe] at hR;rw[hoe,vu h3] at hQ;(refine yH rfl (hQ _) ?_; simp);exact yP hR
   ·have he:U4 s q=2:=(by unfold U4; rw[zh (by omega),zh (by omega),zh h3]);rw[hV1 (by omega),he] at hR;have hz:A2C s q = .agg [.int .i64 0,.int .i64 0,.str [],.nils,.nils]:=(by unfold A2C; rw[zh h3]; rfl);rw[hz,vm h3] at hQ;(refine yH rfl (hQ _) ?_; simp);exact yP hR
 ·have h1:fSt s≠0:=by simpa using h
  have he:U4 s q=fSt s:=by unfold U4; rw[zk h1]
  rw[hV1 (by omega),he] at hR;refine D5 (by simpa using h1) ?_;simp;exact yP hR
theorem A1H{s:F1}(y:D7)(M:Nat)(h1:fSt s=0)(h2:M0 s.types [y]=0)(h3:qW s [y]<=2000)(id:Nat):A2 Tryz.prog 21 [B4 s,.bsl M 0 1] [(M,mB y)] id (.tup [eO (qO s [y]),.int .i64 0]) []:=by
 have hz:=A7e (p5 h2).2.1;have hSt:=fun id=>R6 s id;have hVq:=fun id=>A7X s.types y M id (by omega);have hRw:=fun id=>B2B (A8d h1) y M (p5 h2).2.2 (by omega) h3 id;obtain⟨ok,on,ot,oks,ols,hoe⟩:∃(a b:Int) (c:List UInt8) (d:List (List UInt8)) (e:List H3),eO (qO s [y]) = .agg [.int .i64 a,.int .i64 b,.str c,.sl (d.map .str),.sl (e.map eO)]:=by
  cases qO s [y] with|mk a b c d e=>exact⟨a,b,c,d,e,Q3 a b c d e⟩
 have hs:B4 s = .agg [.sl (s.types.map H6),.sl (s.things.map M5)]:=rfl;rw[h1] at hSt;rw[h2] at hVq;rw[hoe] at hRw ⊢;rw[hs] at *;simp only[A0c] at *;refine w21.e.1 fun E hP hR hl hid=>?_;simp[w21];have hM:=hl (M,_) (zb ..);simp only at hM;have M1:=lf hM;(refine yC rfl (hSt _) ?_; simp[M1]);(refine yC rfl (hVq _) ?_; simp[M1]);(refine yC rfl (hRw _) ?_; simp[M1]);refine yE hR [] (by simp[M1,B2 hid]) fun hrn=>⟨?_,?_,?_,?_,?_,?_⟩<;>(try simp[M1,B2 hid])
def H3.kind:H3->Int | .mk k _ _ _ _=>k
def H3.n:H3->Int | .mk _ n _ _ _=>n
def H3.text:H3->List UInt8 | .mk _ _ t _ _=>t
def H3.keys:H3->List (List UInt8) | .mk _ _ _ k _=>k
def H3.kids:H3->List H3 | .mk _ _ _ _ l=>l
theorem Q5(o:H3):eO o = .agg [.int .i64 o.kind,.int .i64 o.n,.str o.text,.sl (o.keys.map .str),.sl (o.kids.map eO)]:=by cases o; exact Q3 ..
mutual
def H3.sz:H3->Nat
 | .mk _ _ _ ks l=>1+ks.length+Z7 l
def Z7:List H3->Nat
 | []=>0
 | s::r=>s.sz+Z7 r
end
theorem A1I(s:H3):s.sz=1+s.keys.length+Z7 s.kids:=by cases s; rfl
theorem x4(l:List H3):l.length<=Z7 l:=by
 induction l with
 | nil=>simp[Z7]
 | cons s r ih=>have:=A1I s; simp only[Z7,yz]; omega
theorem x5{l:List H3}{s:H3}(h:s∈l):s.sz<=Z7 l:=by
 induction l with
 | nil=>cases h
 | cons x r ih =>
  simp only[Z7];rcases zi.1 h with rfl|h
  ·omega
  ·have:=ih h; omega
theorem B0P{l:List H3}{s:H3}(h:s∈l):Z7 s.kids<Z7 l:=by
 have h1:=x5 h;have h2:=A1I s;omega
def Y9:Nat->List H3->Nat
 | 0,l=>l.length
 | m+1,l=>l.length+(l.map fun s=>Y9 m s.kids).sum
def Z0:Nat->List H3->Nat
 | 0,l=>min l.length 1
 | m+1,l=>l.foldl (fun d s=>max d (Z0 m s.kids+1)) (min l.length 1)
def A0H(m:Nat)(l:List H3)(i:Nat):Nat:=l.length+((l.take i).map fun s=>Y9 m s.kids).sum
def A2m(m:Nat)(l:List H3)(i:Nat):Nat:=(l.take i).foldl (fun d s=>max d (Z0 m s.kids+1)) (min l.length 1)
theorem A44(m:Nat)(l:List H3):A0H m l 0=l.length:=by simp[A0H]
theorem A45(m:Nat)(l:List H3):A2m m l 0=min l.length 1:=by simp[A2m]
theorem A8g{m:Nat}{l:List H3}{i:Nat}{x:H3}(hx:l[i]?=some x):A0H m l (i+1)=A0H m l i+Y9 m x.kids:=by
 simp[A0H,I7 hx]; omega
theorem A8h{m:Nat}{l:List H3}{i:Nat}{x:H3}(hx:l[i]?=some x):A2m m l (i+1)=max (A2m m l i) (Z0 m x.kids+1):=by
 simp[A2m,I7 hx]
theorem B0Q{m:Nat}{l:List H3}{i:Nat}(h:l.length<=i):A0H m l i=Y9 (m+1) l:=by simp[A0H,Y9,zn h]
theorem B0R{m:Nat}{l:List H3}{i:Nat}(h:l.length<=i):A2m m l i=Z0 (m+1) l:=by simp[A2m,Z0,zn h]
theorem A2D{m:Nat}(h:∀l,Y9 m l<=Z7 l):∀l:List H3,l.length+(l.map fun s=>Y9 m s.kids).sum<=Z7 l
 | []=>by simp
 | s::r=>by
  have h1:=A2D h r;have h2:=h s.kids;have h3:=A1I s;simp only[Z7,yz,yd,ud];omega
theorem A7f:∀(m:Nat) (l:List H3),Y9 m l<=Z7 l
 | 0,l=>x4 l
 | m+1,l=>A2D (A7f m) l
theorem B2D(m:Nat)(l:List H3)(i:Nat):A0H m l i<=Z7 l:=by
 have h1:=A2D (A7f m) l;have h2:((l.take i).map fun s=>Y9 m s.kids).sum+((l.drop i).map fun s=>Y9 m s.kids).sum=(l.map fun s=>Y9 m s.kids).sum:=by
  rw[←uz,←xu,xa]
 unfold A0H;omega
theorem A46{m k:Nat}(h:∀l,Z0 m l<=k):∀(l:List H3) (a:Nat),a<=k+1->l.foldl (fun d s=>max d (Z0 m s.kids+1)) a<=k+1
 | [],a,ha=>ha
 | s::r,a,ha=>by
  simp only[wv];exact A46 h r _ (by have:=h s.kids; omega)
theorem A7g:∀(m:Nat) (l:List H3),Z0 m l<=m+1
 | 0,l=>by simp only[Z0]; omega
 | m+1,l=>A46 (A7g m) l _ (by omega)
theorem A7h:∀(m:Nat) (l:List H3) (id:Nat),m<=1000->Z7 l<=1099511627776->A2 Tryz.prog 101 [.sl (l.map eO),.int .i64 m] [] id (.tup [.int .i64 (Y9 m l),.int .i64 (Z0 m l)]) []
 | 0,l,id,hm,hl=>by
  have hlen:=x4 l;refine w101.e.1 fun E hP hR hl hid=>?_;simp[w101];refine C8 (X:=Unit) (fun _=>⟨[(0,true,.sl (l.map eO)),(1,true,.int .i64 0),(6,true,.int .i64 l.length),(7,true,.int .i64 (Z0 0 l)),(17,true,.sl (l.map eO)),(18,true,.int .i64 l.length),(19,true,.int .i64 0)],[],0⟩) (fun _=>True) (fun _=>0) () ?_ trivial ?_
  ·refine yV [] (by simp[Z0]) fun hrn=>⟨?_,?_,?_,?_,?_⟩<;>(try simp[Z0]);all_goals omega
  ·rintro i - p hp;refine A6 4000 ?_;simp;refine C9 (fun h=>?_) (fun h=>?_)
   ·have h:=zp h;obtain⟨x,hx,hd⟩:=B6 (l:=l) (i:=0) (by omega);simp[hx,Q5 x];refine⟨by omega,?_⟩;exact yP hR (h1:=by simp; simp[Y9])
   ·simp;exact yP hR (h1:=by simp; simp[Y9])
 | m+1,l,id,hm,hl=>by
  have hlen:=x4 l;refine w101.e.1 fun E hP hR hl hid=>?_;simp[w101];refine C8 (X:=Nat) (fun i=>⟨[(0,true,.sl (l.map eO)),(1,true,.int .i64 (m+1)),(6,true,.int .i64 (A0H m l i)),(7,true,.int .i64 (A2m m l i)),(17,true,.sl (l.map eO)),(18,true,.int .i64 l.length),(19,true,.int .i64 i)],[],0⟩) (fun i=>i<=l.length) (fun i=>l.length - i) 0 ?_ (by omega) ?_
  ·refine yV [] (by simp[A44,A45]) fun hrn=>⟨?_,?_,?_,?_,?_⟩<;>(try simp[A44,A45]);all_goals omega
  ·rintro i hi p hp;refine A6 4000 ?_;simp;refine C9 (fun h=>?_) (fun h=>?_)
   ·have h:=zp h;obtain⟨x,hx,hd⟩:=B6 h;have hi1:IntKind.i64.wrap ((i:Int)+1)=((i+1:Nat):Int):=wrap64 (by omega);have hxm:x∈l:=zf hx;have ih:=A7h m x.kids;simp[hx,Q5 x];refine⟨h,A0 (by simp; omega) ?_⟩;have hm1:IntKind.i64.wrap (m:Int)=(m:Int):=wrap64 (by omega);have hsz:=B0P hxm;have hs:=A8g (m:=m) hx;have hsd:=A8h (m:=m) hx;have hs1:IntKind.i64.wrap ((A0H m l i:Int)+Y9 m x.kids)=((A0H m l (i+1):Nat):Int):=(by rw[hs,wrap64 (by have:=B2D m l (i+1); omega)]; omega);have hs2:IntKind.i64.wrap ((Z0 m x.kids:Int)+1)=((Z0 m x.kids+1:Nat):Int):=wrap64 (by have:=A7g m x.kids; omega);simp[hm1];(refine yC rfl (ih _ (by omega) (by omega)) ?_; simp[hs1,hs2]);refine hp _ (i+1) (by omega) (by omega) ?_;refine yV [] (by simp[hi1,hsd]) fun hrn=>⟨?_,?_,?_,?_,?_⟩<;>(try simp[hi1,hsd]);all_goals omega
   ·have h:=zq h;simp;exact yP hR (h1:=by simp; rw[B0Q (by omega),B0R (by omega)]; exact⟨rfl,rfl⟩)
noncomputable instance:DecidableEq H3:=fun _ _=>Classical.propDecidable _
theorem B3r{a b:H3}(h1:a.kind=b.kind)(h2:a.n=b.n)(h3:a.text=b.text)(h4:a.keys=b.keys)(h5:a.kids=b.kids):a=b:=by
 cases a; cases b; simp only[H3.kind,H3.n,H3.text,H3.keys,H3.kids] at *; subst h1 h2 h3 h4 h5; rfl
theorem A5L{α:Type}{l r:List α}{i:Nat}{x y:α}(h:l.take i=r.take i)(hx:l[i]?=some x)(hy:r[i]?=some y)(he:x=y):l.take (i+1)=r.take (i+1):=by
 rw[xw,xw,h,hx,hy,he]
theorem A6K:∀(m:Nat) (a b:H3) (id:Nat),a.sz<m->a.sz<=1099511627776->A2 Tryz.prog 25 [eO a,eO b] [] id (.bool (decide (a=b))) []
 | 0,a,b,id,hm,_=>by omega
 | m+1,a,b,id,hm,h8=>by
  have hsz:=A1I a;have hlen:=x4 a.kids;rw[Q5 a,Q5 b];refine w25.e.1 fun E hP hR hl hid=>?_;simp[w25];refine C9 (fun h=>?_) (fun h=>?_)
  ·simp;have hne:decide (a=b)=false:=vm fun he=>by subst he; simp at h
   rw[hne] at hR;exact yP hR
  obtain⟨h1,h2,h3,h4,h5⟩:a.kind=b.kind/\a.n=b.n/\a.text=b.text/\a.keys.length=b.keys.length/\a.kids.length=b.kids.length:=by
   simp at h;exact⟨h.1.1.1.1,h.1.1.1.2,h.1.1.2,by omega,by omega⟩
  simp;refine C8 (X:=Nat) (fun i=>⟨[(2,true,.ptr E.n0 0 0),(3,true,.ptr (E.n0+1) 0 0),(5,true,.int .i64 i)],
   [(E.n0,some ⟨[.agg [.int .i64 a.kind,.int .i64 a.n,.str a.text,.sl (a.keys.map .str),.sl (a.kids.map eO)]],.agg [.int .i64 a.kind,.int .i64 a.n,.str a.text,.sl (a.keys.map .str),.sl (a.kids.map eO)],false,false⟩),(E.n0+1,some ⟨[.agg [.int .i64 b.kind,.int .i64 b.n,.str b.text,.sl (b.keys.map .str),.sl (b.kids.map eO)]],.agg [.int .i64 b.kind,.int .i64 b.n,.str b.text,.sl (b.keys.map .str),.sl (b.kids.map eO)],false,false⟩)],2⟩) (fun i=>i<=a.keys.length/\a.keys.take i=b.keys.take i) (fun i=>a.keys.length - i) 0 ?_ ⟨by omega,rfl⟩ ?_
  ·refine yV [(E.n0,E.n0),(E.n0+1,E.n0+1024)] (by simp) fun hrn=>⟨?_,?_,?_,?_,?_⟩<;>(try simp)
  rintro i ⟨hi,ht⟩ p hp;refine A6 4000 ?_;simp;refine C9 (fun h=>?_) (fun h=>?_)
  ·have h:=zp h;obtain⟨x,hx⟩:∃x,a.keys[i]?=some x:=⟨_,zd h⟩;obtain⟨y,hy⟩:∃y,b.keys[i]?=some y:=⟨_,zd (by omega)⟩;have hi1:IntKind.i64.wrap ((i:Int)+1)=((i+1:Nat):Int):=wrap64 (by omega);simp[hx,hy];refine⟨h,by omega,?_⟩;refine C9 (fun g=>?_) (fun g=>?_)
   ·simp;have hne:decide (a=b)=false:=vm fun he=>by subst he; rw[hx] at hy; injection hy with hy; subst hy; simp at g
    rw[hne] at hR;exact yP hR
   ·simp;refine hp _ (i+1) ⟨h,A5L ht hx hy (by simpa using g)⟩ (by omega) ?_;refine yV [(E.n0,E.n0),(E.n0+1,E.n0+1)] (by simp[hi1]) fun hrn=>⟨?_,?_,?_,?_,?_⟩<;>(try simp[hi1])
  ·have h:=zq h;simp;have hke:a.keys=b.keys:=by
    rw[zn (by omega),zn (by omega)] at ht; exact ht
   refine C8 (X:=Nat) (fun i=>⟨[(2,true,.ptr E.n0 0 0),(3,true,.ptr (E.n0+1) 0 0),(6,true,.int .i64 i)],
    [(E.n0,some ⟨[.agg [.int .i64 a.kind,.int .i64 a.n,.str a.text,.sl (a.keys.map .str),.sl (a.kids.map eO)]],.agg [.int .i64 a.kind,.int .i64 a.n,.str a.text,.sl (a.keys.map .str),.sl (a.kids.map eO)],false,false⟩),(E.n0+1,some ⟨[.agg [.int .i64 b.kind,.int .i64 b.n,.str b.text,.sl (b.keys.map .str),.sl (b.kids.map eO)]],.agg [.int .i64 b.kind,.int .i64 b.n,.str b.text,.sl (b.keys.map .str),.sl (b.kids.map eO)],false,false⟩)],2⟩) (fun i=>i<=a.kids.length/\a.kids.take i=b.kids.take i) (fun i=>a.kids.length - i) 0 ?_ ⟨by omega,rfl⟩ ?_
   ·refine yV [(E.n0,E.n0),(E.n0+1,E.n0+1)] (by simp) fun hrn=>⟨?_,?_,?_,?_,?_⟩<;>(try simp)
   clear hp p;rintro i ⟨hi,ht⟩ p hp;refine A6 4000 ?_;simp;refine C9 (fun h=>?_) (fun h=>?_)
   ·have h:=zp h;obtain⟨x,hx⟩:∃x,a.kids[i]?=some x:=⟨_,zd h⟩;obtain⟨y,hy⟩:∃y,b.kids[i]?=some y:=⟨_,zd (by omega)⟩;have hi1:IntKind.i64.wrap ((i:Int)+1)=((i+1:Nat):Int):=wrap64 (by omega);have hxm:=x5 (zf hx);have ih:=fun id=>A6K m x y id (by omega) (by omega);rw[Q5 x,Q5 y] at ih;simp[hx,hy,Q5 x,Q5 y];refine⟨h,by omega,?_⟩;(refine yH rfl (ih _) ?_; simp);refine C9 (fun g=>?_) (fun g=>?_)
    ·simp;have hne:decide (a=b)=false:=vm fun he=>by subst he; rw[hx] at hy; injection hy with hy; subst hy; simp at g
     rw[hne] at hR;exact yP hR
    ·simp;refine hp _ (i+1) ⟨h,A5L ht hx hy (by simpa using g)⟩ (by omega) ?_;refine yV [(E.n0,E.n0),(E.n0+1,E.n0+1)] (by simp[hi1]) fun hrn=>⟨?_,?_,?_,?_,?_⟩<;>(try simp[hi1])
   ·have h:=zq h;have hki:a.kids=b.kids:=by
     rw[zn (by omega),zn (by omega)] at ht; exact ht
    simp;rw[vu (B3r h1 h2 h3 hke hki)] at hR;exact yP hR
def A6L(kind tid:Int)(t:Tg):Bool:=t.type==kind&&t.id==tid
def B68(l:List Tg)(kind tid:Int):Int:=B7 (A6L kind tid) l 0
def T4(ta ia tb ib:Int):Bool:=decide (ta<tb)||(decide (ta=tb)&&decide (ia<ib))
theorem B0S{ta ia tb ib:Int}(h1:0<=ta/\ta<=1000)(h2:0<=tb/\tb<=1000)(h3:1<=ia/\ia<=999)(h4:1<=ib/\ib<=999):(0<=S5 ta ia tb ib)↔T4 ta ia tb ib=false:=by
 unfold S5 T4;split
 ·rw[wrap64 (by omega)]; simp; omega
 ·rw[wrap64 (by omega)]; simp; omega
def I64(n:Int):Prop:=-9223372036854775808<=n/\n<=9223372036854775807
theorem A1n{ta ia kind tid:Int}(h1:0<=ta/\ta<=1000)(h2 : -1<=kind/\kind<=1000)(h3:1<=ia/\ia<=999)(h4:I64 tid):S5 ta ia kind tid=0↔ta=kind/\ia=tid:=by
 unfold S5;unfold I64 at h4;split
 ·rw[wrap64 (by omega)]; omega
 ·by_cases hr:ia - tid<=9223372036854775807
  ·rw[wrap64 (by omega)]; omega
  ·have:IntKind.i64.wrap (ia - tid)=ia - tid - 18446744073709551616:=by
    rw[IntKind.wrap_i64]; omega
   rw[this]; omega
theorem A6M(f:Nat->Int)(j:Nat):∀(n a b:Nat),b - a<n->a<=j->j<=b->(∀k,a<=k->k<j->f k<0)->(∀k,j<=k->k<b->¬f k<0)->bs f a b=j
 | 0,a,b,hn,_,_,_,_=>by omega
 | n+1,a,b,hn,h1,h2,h3,h4=>by
  rw[bs];split
  ·rename_i hab;split
   ·rename_i hm;have hj:(a+b) / 2<j:=by
     by_cases hh:(a+b) / 2<j
     ·exact hh
     ·exact (h4 _ (by omega) (by omega) hm).elim
    exact A6M f j n _ b (by omega) (by omega) h2 (fun k hk hkj=>h3 k (by omega) hkj) h4
   ·rename_i hm;have hj:j<=(a+b) / 2:=by
     by_cases hh:j<=(a+b) / 2
     ·exact hh
     ·exact (hm (h3 _ (by omega) (by omega))).elim
    exact A6M f j n a _ (by omega) h1 hj h3 (fun k hk hkb=>h4 k hk (by omega))
  ·omega
structure Srt(l:List Tg):Prop where
 ty:∀t∈l,0<=t.type/\t.type<=1000
 id:∀t∈l,1<=t.id/\t.id<=999
 asc:∀(i j:Nat) (a b:Tg),i<j->l[i]?=some a->l[j]?=some b->T4 a.type a.id b.type b.id=true
theorem A7i{a b c d e f:Int}(h1:T4 a b c d=true)(h2:T4 c d e f=true):T4 a b e f=true:=by
 simp[T4] at *; omega
theorem A1J{ta ia tb ib:Int}(h1:0<=ta/\ta<=1000)(h2:0<=tb/\tb<=1000)(h3:1<=ia/\ia<=999)(h4:1<=ib/\ib<=999):(S5 ta ia tb ib<0)↔T4 ta ia tb ib=true:=by
 have:=B0S h1 h2 h3 h4;cases h:T4 ta ia tb ib<;>simp[h] at this<;>simp<;>omega
theorem Srt.found{l:List Tg}(h:Srt l){j:Nat}{t:Tg}(ht:l[j]?=some t):B3 l t.type t.id=j:=by
 have hlt:=(ze.1 ht).1;have htm:=zf ht;unfold B3;refine A6M _ j (l.length+1) 0 l.length (by omega) (by omega) (by omega) (fun k _ hk=>?_) (fun k hk hkl=>?_)
 ·obtain⟨u,hu⟩:∃u,l[k]?=some u:=⟨_,zd (by omega)⟩;have hum:=zf hu;simp only[F4,hu];rw[A1J (h.ty u hum) (h.ty t htm) (h.id u hum) (h.id t htm)];exact h.asc k j u t hk hu ht
 ·obtain⟨u,hu⟩:∃u,l[k]?=some u:=⟨_,zd (by omega)⟩;have hum:=zf hu;simp only[F4,hu];rw[A1J (h.ty u hum) (h.ty t htm) (h.id u hum) (h.id t htm)];rcases yt j k with hjk|hjk
  ·have:=h.asc j k t u hjk ht hu;simp[T4] at this ⊢; omega
  ·obtain rfl:k=j:=by omega
   rw[ht] at hu; injection hu with hu; subst hu
   simp[T4]
theorem Srt.findB{l:List Tg}(h:Srt l){kind tid:Int}(h2 : -1<=kind/\kind<=1000)(h4:I64 tid):C3 l kind tid=l.any (A6L kind tid):=by
 rw[xp,ur];constructor
 ·intro hb;simp only[C3,yh,decide_eq_true_eq] at hb;obtain⟨hlt,hz⟩:=hb;obtain⟨u,hu⟩:∃u,l[B3 l kind tid]?=some u:=⟨_,zd hlt⟩;have hum:=zf hu;simp only[F4,hu] at hz;rw[A1n (h.ty u hum) h2 (h.id u hum) h4] at hz;exact⟨u,hum,by simp[A6L,hz.1,hz.2]⟩
 ·rintro⟨t,ht,he⟩;simp[A6L] at he;obtain⟨rfl,rfl⟩:=he;obtain⟨j,hj⟩:=yk.1 ht;have hf:=h.found hj;have hlt:=(ze.1 hj).1;simp only[C3,hf,yh,decide_eq_true_eq];refine⟨hlt,?_⟩;simp only[F4,hj];rw[A1n (h.ty t ht) h2 (h.id t ht) h4];exact⟨rfl,rfl⟩
theorem B2E{s:F1}(hS:A3v s.types)(hz:B9 (fun i t=>k9 s i t) s.things 0=0):(∀t∈s.things,A3z s t)/\Srt s.things:=by
 have h1:∀(k:Nat) t,s.things[k]?=some t->k9 s k t=0:=fun k t hk=>by
  have:=N0 _ _ _ hz k t hk
  rwa [yu] at this
 have hall:∀t∈s.things,A3z s t:=fun t ht=>by
  obtain⟨k,hk⟩:=yk.1 ht;have h0:=h1 k t hk;refine B5F ?_;unfold k9 at h0;split at h0
  ·rename_i g; exact (g h0).elim
  ·rename_i g; exact zm g
 have hty:∀t∈s.things,0<=t.type/\t.type<=1000:=fun t ht=>⟨(hall t ht).ty0,by have:=(hall t ht).ty1; have:=hS.len; omega⟩;have hid:∀t∈s.things,1<=t.id/\t.id<=999:=fun t ht=>⟨(hall t ht).id1,(hall t ht).id2⟩;have hstep:∀(i:Nat) (a b:Tg),s.things[i]?=some a->s.things[i+1]?=some b->T4 a.type a.id b.type b.id=true:=fun i a b ha hb=>by
  have h0:=h1 (i+1) b hb;unfold k9 at h0;split at h0
  ·rename_i g; exact (g h0).elim
  split at h0
  ·omega
  ·rename_i g;simp[F4,ha] at g;have ham:=zf ha;have hbm:=zf hb;exact (A1J (hty a ham) (hty b hbm) (hid a ham) (hid b hbm)).1 g
 refine⟨hall,hty,hid,fun i j a b hij ha hb=>?_⟩;obtain⟨d,rfl⟩:∃d,j=i+1+d:=⟨j - i - 1,by omega⟩;clear hij;induction d generalizing b with
 | zero=>exact hstep i a b ha hb
 | succ d ih =>
  obtain⟨c,hc⟩:∃c,s.things[i+1+d]?=some c:=⟨_,zd (by have:=(ze.1 hb).1; omega)⟩;exact A7i (ih c hc) (hstep _ c b hc (by rw[show i+1+d+1=i+1+(d+1) by omega]; exact hb))
theorem A7j{α:Type}(p:α->Bool):∀(l:List α) (i:Nat),-1<=B7 p l i/\B7 p l i<(i+l.length:Nat) \/B7 p l i = -1
 | [],i=>.inr rfl
 | x::l,i=>by
  simp only[B7];split
  ·exact .inl ⟨by omega,by simp; omega⟩
  ·rcases A7j p l (i+1) with h|h
   ·exact .inl ⟨h.1,by have:=h.2; simp at this ⊢; omega⟩
   ·exact .inr h
theorem B0T{l:List Ty}(hS:A3v l)(n:List UInt8): -1<=A8 l n/\A8 l n<=1000:=by
 have:=hS.len;rcases A7j (fun t:Ty=>t.name==n) l 0 with h|h
 ·unfold A8; omega
 ·unfold A8; omega
end Go.Am
