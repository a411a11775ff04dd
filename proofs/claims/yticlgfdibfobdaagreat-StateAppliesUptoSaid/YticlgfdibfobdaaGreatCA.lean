/-
  Which commands may be told; the row of those that wait; which states may be, as walks.
-/
import Derived.Test.YticlgfdibfobdaaGreatRA
set_option linter.all false
set_option maxHeartbeats 1000000
open And renaming intro->Aa
open Bool renaming and_assoc->Gw,and_eq_true->Ag,and_false->Bt,and_true->Iv,eq_false_or_eq_true->Eh,eq_iff_iff->Kl,false_and->Cj,not_eq_true'->Eb,true_and->Bo
open Exists renaming intro->Ah
open Int renaming mul_nonneg->Je,toNat_natCast->Cz
open List renaming all_cons->Ei,all_eq_true->Cu,any_eq_true->Ij,append_assoc->Aj,count_cons_of_ne->Mb,count_cons_self->Mf,drop->Fp,drop_eq_getElem_cons->Ac,drop_eq_nil_of_le->Ae,drop_zero->Bn,eraseIdx_eq_take_drop_succ->Ey,ext_getElem?->Ek,foldl_cons->Al,getElem?_append_left->Af,getElem?_append_right->Ak,getElem?_drop->Bv,getElem?_eq_getElem->Ab,getElem?_eq_none->Bh,getElem?_map->Bj,getElem?_range->Dm,getElem?_take_of_lt->Bg,getElem_mem->Bb,length_append->Ay,length_drop->Fh,length_eraseIdx->Ke,length_take->Fz,map_append->Cc,map_cons->Bp,map_drop->Hu,map_take->Ht,mem_cons_of_mem->Bd,mem_cons_self->Ax,pairwise_iff_getElem->Dn,range->Dh,replicate->Ai,take->Et,take_append_of_le_length->Db,take_of_length_le->Cb
open List.cons renaming inj->Dt
open Nat renaming beq->Ar,le_refl->Ba,zero_add->Bw
namespace Go.Proofs.YticlgfdibfobdaaGreat
open Go Go.AW Go.Proofs
theorem zqca0 {P:Prop} (h:P:=by
 refine To.leave (f:=103) (args:=[.ref 1 0]) [] rfl [] [1] rfl (dA 0 1) ?_
 exact To.left hE rfl rfl rfl):P:=h
theorem zqca1 {P:Prop} (h:P:=by
 refine gV ?_
 refine ⟨i,rfl,?_⟩
 refine gV ?_
 refine ⟨by rw [a];omega,?_⟩
 refine gV ?_
 refine ⟨xL (by have:=BF (pav l) i;omega),?_⟩
 refine gV ?_
 refine ⟨mP q_,?_⟩
 refine gV ?_
 refine ⟨i,rfl,?_⟩
 refine gV ?_
 refine ⟨by rw [a];omega,?_⟩
 refine gV ?_
 refine ⟨mP q_,?_⟩
 refine gV ?_
 rw [putP,hp]
 have:Et i (pav l)++[p.av]++Fp i (pav l)=pav (l.take i++[p]++l.drop i):=by simp
 rw [<-this]
 rfl):P:=h
theorem zqca2 {P:Prop} (h:P:=by
 refine To.cutC [1,4] 1 rfl rfl rfl rfl ?_
 exact (fW x false r a)):P:=h
theorem zqca3 {P:Prop} (h:P:=by
 refine gW hEc ?_;conv=>whnf
 refine .pure _ [] (gM _ _ rfl) ?_
 refine cD hEc 2 ?_;conv=>whnf
 refine To.cutC [1,2] 2 rfl rfl rfl rfl ?_
 exact (VP x r a)):P:=h
theorem zqca4 {P:Prop} (h:P:=by
 exact c_ Tryz.f82 fun _=>zW):P:=h
theorem zqca5 {P:Prop} (h:P:=by
 refine gW hEc ?_;conv=>whnf
 refine .pan _ (dM _ _ rfl) ?_;conv=>whnf
 exact zqca0):P:=h
theorem zqca6 {P:Prop} (h:P:=by
 have h2:pav (xs.take i++[p]++xs.drop i)=(pav xs).take i++[p.av]++(pav xs).drop i:=by simp
 rw [h2]
 exact congrArg (fun l=>[AObj.row 1 11 78 l,.row 0 11 78 [p.av]]) h):P:=h
theorem zqca7 {P:Prop} (h:P:=by
 exact c_ Tryz.f64 fun _=>zW):P:=h
theorem zqca8 {P:Prop} (h:P:=by
 refine cD hE 8 ?_;conv=>whnf
 refine To.cutC [1,4] 1 rfl rfl rfl rfl ?_
 exact (fW x _ r a)):P:=h
theorem zqca9 {P:Prop} (h:P:=by
 replace a:=gX a b
 refine gV ?_
 refine aN ?_
 refine cD hE 10 ?_;conv=>whnf
 exact zqca2):P:=h
theorem zqca10 {P:Prop} (h:P:=by
 refine gV ?_
 refine aY ?_
 refine gW hE ?_;conv=>whnf):P:=h
theorem zqca11 {P:Prop} (h:P:=by
 refine To.leave (f:=103) (args:=[.ref 1 0]) [] rfl [] [1] rfl (dA 0 8) ?_
 exact To.left hE rfl rfl rfl):P:=h
theorem zqca12 {P:Prop} (h:P:=by
 replace a:=gX a h3
 refine cD hE 10 ?_;conv=>whnf
 exact zqca2):P:=h
theorem zqca13 {P:Prop} (h:P:=by
 exact absurd (of_decide_eq_false h) o_):P:=h
theorem zqca14 {P:Prop} (h:P:=by
 exact absurd (of_decide_eq_true h) o_):P:=h
theorem zqca15 {P:Prop} (h:P:=by
 rw [Ae o_,Ae o_] at c
 subst c
 refine gV ?_
 exact zW):P:=h
theorem zqca16 {P:Prop} (h:P:=by
 refine cD hEc 2 ?_;conv=>whnf
 refine To.cutC [1,2] 2 rfl rfl rfl rfl ?_
 exact (aHI x r a)):P:=h
theorem zqca17 {P:Prop} (h:P:=by
 refine cD hEc 2 ?_;conv=>whnf
 refine To.cutC [1,2] 2 rfl rfl rfl rfl ?_
 exact (aHH x r a)):P:=h
theorem zqca18 {P:Prop} (h:P:=by
 rcases rW (fun x=>x.id==a) l 0 with h | h
 .unfold findP at c;omega
 .unfold findP;omega):P:=h
theorem zqca19 {P:Prop} (h:P:=by
 rw [eqL_len (by intro e;rw [d,c,e] at h;simp at h)]
 refine gW hE ?_;conv=>whnf):P:=h
theorem zqca20 {P:Prop} (h:P:=by
 refine gV ?_
 have c:=of_decide_eq_true h
 unfold takeP
 rw [if_pos c,h]
 rfl):P:=h
structure Cmd where
 k:Int
 c:Con
 g:Gan
 n:Int
 deriving DecidableEq
def Cmd.cs (x:Cmd):List AVal:=[ii x.k,.slice 11 (nav x.c.ns) .no,.slice 6 (hav x.c.hs) .no,ii x.c.half,ii x.c.age,ii x.g.id,ii x.g.ten,ii x.g.pods,ii x.g.need.a,ii x.g.need.b,ii x.g.need.c,ii x.g.run,ii x.g.lev,ii x.g.pref,ii x.n]
def Cmd.av (x:Cmd):AVal:=.agg x.cs
def tN (x:Int):Bool:=decide (0<=x)&&decide (x<=1099511627776)
def okI:List Int->Bool
 | []=>true
 | x::r=>tN x&&okI r
def V3.l (v:V3):List Int:=[v.a,v.b,v.c]
def Nod.ok (x:Nod):Bool:=(decide (-1<=x.p)&&decide (x.p<=1099511627776))&&okI [x.w]&&okI x.n.l&&okI x.b.l&&okI x.l.l
def Hos.ok (x:Hos):Bool:=okI [x.f,x.b,x.r]&&okI x.c.l
def ZD:List Nod->Bool
 | []=>true
 | x::r=>x.ok&&ZD r
def E2:List Hos->Bool
 | []=>true
 | x::r=>x.ok&&E2 r
def Con.tok (c:Con):Bool:=ZD c.ns&&E2 c.hs&&okI [c.half,c.age]
def Gan.ok (g:Gan):Bool:=okI [g.id,g.ten,g.pods,g.run,g.lev,g.pref]&&okI g.need.l
def Con.none (c:Con):Bool:=decide ((c.ns.length:Int)=0)&&decide ((c.hs.length:Int)=0)&&decide (c.half=0)&&decide (c.age=0)
def Gan.zero:Gan:=⟨0,0,0,⟨0,0,0⟩,0,0,0⟩
end Go.Proofs.YticlgfdibfobdaaGreat
namespace Go.Proofs.YticlgfdibfobdaaGreat.C8
open Go Go.AW Go.Proofs
set_option maxRecDepth 10000
def sQ (e:Int):AVal:=.iface 235 (.agg [ii e])
theorem gM (b:Bool) (e:Int) (h:b=true):aA Tryz.prog 104 [.bool b,ii e] [] (.ret (.tup [])) []:=by
 subst h
 refine c_ Tryz.f104 fun _=>?_
 refine gV ?_
 refine ⟨fun h=>absurd h d_,fun h=>?_⟩
 refine gW hE ?_;conv=>whnf
theorem dM (b:Bool) (e:Int) (h:b=false):aA Tryz.prog 104 [.bool b,ii e] [] (.pan (sQ e)) []:=by
 subst h
 refine c_ Tryz.f104 fun _=>?_
 refine gV ?_
 refine ⟨fun h=>?_,fun h=>absurd h d_⟩
 refine gV ?_
 rfl
def aHd (l:List Int):Res:=if okI l then .ret (.tup []) else .pan (sQ 1)
theorem WH (l:List Int) (hl:((iv l).length:Int)<=9223372036854775807) (r:Res):∀ (n i:Nat),i+n=l.length->aHd (l.drop i)=r->
  To E Tryz.f107 (.pure r) (.head (stk Tryz.f107 0) [(4,.slice 1 (iv l) .no),(5,.int .i64 ((iv l).length:Nat)),(6,.int .i64 i)] []):=by
 have d:(iv l).length=l.length:=by simp
 intro n
 induction n with
 | zero=>
  intro i g a
  rw [Ae o_] at a
  refine gV ?_
  refine ⟨fun h=>absurd (of_decide_eq_true h) o_,fun h=>?_⟩
  refine gV ?_
  exact a
 | succ n e=>
  intro i g a
  have c:i<l.length:=o_
  rw [Ac c] at a
  have a:(if tN l[i]&&okI (l.drop (i+1)) then Res.ret (.tup []) else .pan (sQ 1))=r:=a
  refine gV ?_
  refine ⟨fun h=>?_,fun h=>absurd (of_decide_eq_false h) o_⟩
  refine gV ?_
  refine ⟨i,rfl,?_⟩
  refine gV ?_
  refine ⟨_,bS c,?_⟩
  refine gV ?_
  refine ⟨fun h1=>?_,fun h1=>?_⟩
  .refine gV ?_
   rcases Eh (decide (l[i]<=1099511627776)) with b | b
   .refine .pure _ [] (gM _ _ b) ?_
    refine gV ?_
    refine .inl ⟨⟨by simp only [bO];omega,by simp only [bA];omega⟩,?_⟩
    refine gV ?_
    refine To.head [4,5,6] ?_
    refine e (i+1) o_ ?_
    have h3:tN l[i]=true:=by unfold tN;rw [b];simpa using h1
    rw [h3,Bo] at a
    exact a
   .refine .pan _ (dM _ _ b) ?_
    have h3:tN l[i]=false:=by unfold tN;rw [b];simp
    rw [h3] at a
    exact a
  .refine gV ?_
   refine .pan _ (dM _ _ rfl) ?_
   have h3:tN l[i]=false:=by
    unfold tN
    have:decide (0<=l[i])=false:=h1
    rw [this];rfl
   rw [h3] at a
   exact a
theorem KN (l:List Int) (r:Res) (b:aHd l=r):aA Tryz.prog 107 [.slice 1 (iv l) .no] [] r []:=by
 refine c_ Tryz.f107 fun c=>?_
 have a:=WH l c.1 _ l.length 0 o_ b
 exact zW
theorem jI (l:List Int) (h:okI l=true):aA Tryz.prog 107 [.slice 1 (iv l) .no] [] (.ret (.tup [])) []:=KN l _ (if_pos h)
theorem gF (l:List Int) (h:okI l=false):aA Tryz.prog 107 [.slice 1 (iv l) .no] [] (.pan (sQ 1)) []:=KN l _ (if_neg (by rw [h];simp))
def oR (b:Bool):Res:=if b then .ret (.tup []) else .pan (sQ 1)
theorem CJ {b:Bool} {r:Res} (a:oR b=r) (h:b=false):Res.pan (sQ 1)=r:=by subst h;exact a
theorem RX (c:Con) (r:Res) (hl:((hav c.hs).length:Int)<=9223372036854775807):∀ (n i:Nat),i+n=c.hs.length->oR (E2 (c.hs.drop i)&&okI [c.half,c.age])=r->
  To E Tryz.f105 (.pure r) (.head (stk Tryz.f105 1) [(1,.ref 0 0),(37,.slice 6 (hav c.hs) .no),(38,.int .i64 ((hav c.hs).length:Nat)),(39,.int .i64 i)] [.cells 26 c.cs]):=by
 have g:(hav c.hs).length=c.hs.length:=by simp
 intro n
 induction n with
 | zero=>
  intro i m a
  rw [Ae o_] at a
  refine gV ?_
  refine ⟨fun h=>absurd (of_decide_eq_true h) o_,fun h=>?_⟩
  refine gV ?_
  cases d:okI [c.half,c.age] with
  | true=>
   refine .pure _ [] (aA.strip (jI [c.half,c.age] d)) ?_
   refine gV ?_
   rw [d] at a
   exact a
  | false=>
   refine .pan _ (aA.strip (gF [c.half,c.age] d)) ?_
   rw [d] at a
   exact a
 | succ n k=>
  intro i m a
  have e:i<c.hs.length:=o_
  rw [Ac e] at a
  have a:oR ((c.hs[i].ok&&E2 (c.hs.drop (i+1)))&&okI [c.half,c.age])=r:=a
  generalize j:c.hs[i]=x at a
  refine gV ?_
  refine ⟨fun h=>?_,fun h=>absurd (of_decide_eq_false h) o_⟩
  refine gV ?_
  refine ⟨i,rfl,?_⟩
  refine gV ?_
  refine ⟨_,(oW e).trans (by rw [j]),?_⟩
  refine gV ?_
  cases d:okI [x.f,x.b,x.r] with
  | false=>
   refine .pan _ (aA.strip (gF [x.f,x.b,x.r] d)) ?_
   exact CJ a (by unfold Hos.ok;rw [d];rfl)
  | true=>
   refine .pure _ [] (aA.strip (jI [x.f,x.b,x.r] d)) ?_
   refine gV ?_
   refine ⟨by decide,?_⟩
   refine gV ?_
   cases h3:okI x.c.l with
   | false=>
    refine .pan _ (aA.strip (gF x.c.l h3)) ?_
    exact CJ a (by unfold Hos.ok;rw [d,h3];rfl)
   | true=>
    refine .pure _ [] (aA.strip (jI x.c.l h3)) ?_
    refine gV ?_
    refine .inl ⟨⟨by simp only [bO];omega,by simp only [bA];omega⟩,?_⟩
    refine gV ?_
    refine To.cut [1,37,38,39] 1 rfl rfl rfl rfl ?_
    refine k (i+1) o_ ?_
    have:x.ok=true:=by unfold Hos.ok;rw [d,h3];rfl
    rw [this,Bo] at a
    exact a
theorem Y0 (c:Con) (r:Res) (hl:((nav c.ns).length:Int)<=9223372036854775807) (y:((hav c.hs).length:Int)<=9223372036854775807):∀ (n i:Nat),i+n=c.ns.length->oR (ZD (c.ns.drop i)&&(E2 c.hs&&okI [c.half,c.age]))=r->
  To E Tryz.f105 (.pure r) (.head (stk Tryz.f105 0) [(1,.ref 0 0),(7,.slice 11 (nav c.ns) .no),(8,.int .i64 ((nav c.ns).length:Nat)),(9,.int .i64 i)] [.cells 26 c.cs]):=by
 have o:(nav c.ns).length=c.ns.length:=by simp
 intro n
 induction n with
 | zero=>
  intro i s d
  rw [Ae o_] at d
  refine gV ?_
  refine ⟨fun h=>absurd (of_decide_eq_true h) o_,fun h=>?_⟩
  have q:=RX c r y c.hs.length 0 o_ d
  exact zW
 | succ n u=>
  intro i s d
  have e:i<c.ns.length:=o_
  rw [Ac e] at d
  have d:oR ((c.ns[i].ok&&ZD (c.ns.drop (i+1)))&&(E2 c.hs&&okI [c.half,c.age]))=r:=d
  generalize v:c.ns[i]=x at d
  have a:x.ok=false->Res.pan (sQ 1)=r:=fun h=>CJ d (by rw [h];rfl)
  refine gV ?_
  refine ⟨fun h=>?_,fun h=>absurd (of_decide_eq_false h) o_⟩
  refine gV ?_
  refine ⟨i,rfl,?_⟩
  refine gV ?_
  refine ⟨_,(fM e).trans (by rw [v]),?_⟩
  refine gV ?_
  refine ⟨fun h1=>?_,fun h1=>?_⟩
  .have h1:decide (-1<=x.p)=true:=h1
   refine gV ?_
   rcases Eh (decide (x.p<=1099511627776)) with g | g
   .refine .pure _ [] (gM _ _ g) ?_
    refine gV ?_
    cases h3:okI [x.w] with
    | false=>
     refine .pan _ (aA.strip (gF [x.w] h3)) ?_
     exact a (by unfold Nod.ok;rw [h3];simp)
    | true=>
    refine .pure _ [] (aA.strip (jI [x.w] h3)) ?_
    refine gV ?_
    refine ⟨by decide,?_⟩
    refine gV ?_
    cases j:okI x.n.l with
    | false=>
     refine .pan _ (aA.strip (gF x.n.l j)) ?_
     exact a (by unfold Nod.ok;rw [j];simp)
    | true=>
    refine .pure _ [] (aA.strip (jI x.n.l j)) ?_
    refine gV ?_
    refine ⟨by decide,?_⟩
    refine gV ?_
    cases k:okI x.b.l with
    | false=>
     refine .pan _ (aA.strip (gF x.b.l k)) ?_
     exact a (by unfold Nod.ok;rw [k];simp)
    | true=>
    refine .pure _ [] (aA.strip (jI x.b.l k)) ?_
    refine gV ?_
    refine ⟨by decide,?_⟩
    refine gV ?_
    cases m:okI x.l.l with
    | false=>
     refine .pan _ (aA.strip (gF x.l.l m)) ?_
     exact a (by unfold Nod.ok;rw [m];simp)
    | true=>
    refine .pure _ [] (aA.strip (jI x.l.l m)) ?_
    refine gV ?_
    refine .inl ⟨⟨by simp only [bO];omega,by simp only [bA];omega⟩,?_⟩
    refine gV ?_
    refine To.cut [1,7,8,9] 1 rfl rfl rfl rfl ?_
    refine u (i+1) o_ ?_
    have:x.ok=true:=by unfold Nod.ok;rw [h1,g,h3,j,k,m];rfl
    rw [this,Bo] at d
    exact d
   .refine .pan _ (dM _ _ g) ?_
    exact a (by unfold Nod.ok;rw [g];simp)
  .have h1:decide (-1<=x.p)=false:=h1
   refine gV ?_
   refine .pan _ (dM _ _ rfl) ?_
   exact a (by unfold Nod.ok;rw [h1];simp)
theorem VL (c:Con) (M:Imm) (ob:Hs) (vs:List Value) (h:cA M ob vs [c.av]):((nav c.ns).length:Int)<=9223372036854775807/\((hav c.hs).length:Int)<=9223372036854775807:=by
 have hl:0<vs.length:=by rw [h.1];simp
 have:=h.2 0 _ c.av (Ab hl) rfl
 exact ⟨bY this 0 _ rfl,bY this 1 _ rfl⟩
theorem D1 (c:Con) (r:Res) (b:oR c.tok=r):aA Tryz.prog 105 [c.av] [] r []:=by
 refine aA.get _ (VL c) fun ⟨hl,d⟩=>?_
 refine c_ Tryz.f105 fun _=>?_
 have a:=Y0 c r hl d c.ns.length 0 o_ (by rw [<-b];unfold Con.tok;rw [Gw];rfl)
 exact zW
theorem YY (c:Con) (h:c.tok=true):aA Tryz.prog 105 [c.av] [] (.ret (.tup [])) []:=D1 c _ (if_pos h)
theorem RS (c:Con) (h:c.tok=false):aA Tryz.prog 105 [c.av] [] (.pan (sQ 1)) []:=D1 c _ (if_neg (by rw [h];simp))
theorem vT (x:Gan) (r:Res) (b:oR x.ok=r):aA Tryz.prog 106 [x.av] [] r []:=by
 refine c_ Tryz.f106 fun _=>?_
 refine gV ?_
 cases h1:okI [x.id,x.ten,x.pods,x.run,x.lev,x.pref] with
 | false=>
  refine .pan _ (aA.strip (gF [x.id,x.ten,x.pods,x.run,x.lev,x.pref] h1)) ?_
  exact CJ b (by unfold Gan.ok;rw [h1];rfl)
 | true=>
  refine .pure _ [] (aA.strip (jI [x.id,x.ten,x.pods,x.run,x.lev,x.pref] h1)) ?_
  refine gV ?_
  refine ⟨by decide,?_⟩
  refine gV ?_
  cases a:okI x.need.l with
  | false=>
   refine .pan _ (aA.strip (gF x.need.l a)) ?_
   exact CJ b (by unfold Gan.ok;rw [h1,a];rfl)
  | true=>
   refine .pure _ [] (aA.strip (jI x.need.l a)) ?_
   refine gV ?_
   rw [<-b];unfold Gan.ok;rw [h1,a];rfl
theorem AP (x:Gan) (h:x.ok=true):aA Tryz.prog 106 [x.av] [] (.ret (.tup [])) []:=vT x _ (if_pos h)
theorem aCt (x:Gan) (h:x.ok=false):aA Tryz.prog 106 [x.av] [] (.pan (sQ 1)) []:=vT x _ (if_neg (by rw [h];simp))
theorem Y7 (x:Int):zK Tryz.prog 103 [.ref 0 0] [.cells 43 [ii x]] none [.cells 43 [ii x]]:=by
 refine zK.of (E:=E) (fn:=Tryz.f103) (n0:=1) (r:=.tup []) (by rfl) (by rfl) (by rfl) (fun _ _=>by rfl) (by rfl) (by decide+kernel) (by rfl) (by rfl) (by rfl) (by rfl) fun _=>?_
 refine gV ?_
 refine ⟨fun _=>?_,fun h=>absurd h d_⟩
 exact zW
theorem dA (x e:Int):zK Tryz.prog 103 [.ref 0 0] [.cells 43 [ii x]] (some (sQ e)) [.cells 43 [ii e]]:=by
 refine zK.of (E:=E) (fn:=Tryz.f103) (n0:=1) (r:=.tup []) (by rfl) (by rfl) (by rfl) (fun _ _=>by rfl) (by rfl) (by decide+kernel) (by rfl) (by rfl) (by rfl) (by rfl) fun _=>?_
 refine gV ?_
 refine ⟨fun h=>absurd h d_,fun _=>?_⟩
 refine gV ?_
 refine ⟨fun _=>?_,fun h=>absurd h d_⟩
 exact zW
def _root_.Go.Proofs.YticlgfdibfobdaaGreat.Gan.isZ (g:Gan):Bool:=((g.id==0)&&((g.ten==0)&&((g.pods==0)&&((g.need.a==0)&&((g.need.b==0)&&((g.need.c==0)&&((g.run==0)&&((g.lev==0)&&((g.pref==0)&&true)))))))))
def D3 (x:Cmd):Int:=if decide (((nav x.c.ns).length:Int)<=12)&&decide (((hav x.c.hs).length:Int)<=24) then 0 else 8
def RZ (x:Cmd):Int:=if okI [x.n] then D3 x else 1
def tY (x:Cmd):Int:=if x.g.ok then RZ x else 1
def wD (x:Cmd):Int:=if x.c.tok then tY x else 1
def R0 (x:Cmd):Int:=if ((x.k==3||x.k==4)||x.k==5)||x.n==0 then wD x else 1
def R1 (x:Cmd):Int:=if x.k==2||x.g.isZ then R0 x else 1
def _root_.Go.Proofs.YticlgfdibfobdaaGreat.Con.non (c:Con):Bool:=((((nav c.ns).length:Int)==0&&((hav c.hs).length:Int)==0)&&c.half==0)&&c.age==0
def R3 (x:Cmd):Int:=if x.k==1||x.c.non then R1 x else 1
def chk (x:Cmd):Int:=if decide (1<=x.k)&&decide (x.k<=6) then R3 x else 1
abbrev chF:List (Nat×AVal):=[(1,.ref 0 0),(2,.ref 1 0)]
abbrev chO (x:Cmd):List AObj:=[.cells 38 x.cs,.cells 43 [ii 0]]
noncomputable abbrev Ec:Env:=Ed [(103,[.ref 1 0])]
theorem hEc:EnvOK Ec:=hEd _
theorem aGN (x:Cmd) (r:Int) (h:0=r):To Ec Tryz.f37 (.pure (.ret (ii r))) (.code (gY Tryz.f37 9) chF (chO x)):=by
 subst h
 refine gW hEc ?_;conv=>whnf
 refine To.leave (f:=103) (args:=[.ref 1 0]) [] rfl [] [1] rfl (Y7 0) ?_
 exact To.left hE rfl rfl rfl
theorem aLv (x:Cmd) (r:Int) (a:D3 x=r):To Ec Tryz.f37 (.pure (.ret (ii r))) (.code (gY Tryz.f37 8) chF (chO x)):=by
 unfold D3 at a
 refine gW hEc ?_;conv=>whnf
 refine ⟨fun h1=>?_,fun h1=>?_⟩
 .refine gW hEc ?_;conv=>whnf
  rcases Eh (decide (((hav x.c.hs).length:Int)<=24)) with b | b
  .rw [b,h1] at a
   refine .pure _ [] (gM _ _ b) ?_
   refine cD hEc 2 ?_;conv=>whnf
   refine To.cutC [1,2] 2 rfl rfl rfl rfl ?_
   exact (aGN x r a)
  .rw [b,Bt] at a
   subst a
   refine .pan _ (dM _ _ b) ?_;conv=>whnf
   exact zqca11
 .rw [h1,Cj] at a
  subst a
  refine gW hEc ?_;conv=>whnf
  refine .pan _ (dM _ _ rfl) ?_;conv=>whnf
  exact zqca11
theorem aLw (x:Cmd) (r:Int) (a:RZ x=r):To Ec Tryz.f37 (.pure (.ret (ii r))) (.code (gY Tryz.f37 7) chF (chO x)):=by
 unfold RZ at a
 refine gW hEc ?_;conv=>whnf
 cases h:okI [x.n] with
 | true=>
  rw [h] at a
  refine .pure _ [] (aA.strip (jI [x.n] h)) ?_
  refine cD hEc 2 ?_;conv=>whnf
  refine To.cutC [1,2] 2 rfl rfl rfl rfl ?_
  exact (aLv x r a)
 | false=>
  rw [h] at a
  subst a
  refine .pan _ (aA.strip (gF [x.n] h)) ?_;conv=>whnf
  exact zqca0
theorem aLx (x:Cmd) (r:Int) (a:tY x=r):To Ec Tryz.f37 (.pure (.ret (ii r))) (.code (gY Tryz.f37 6) chF (chO x)):=by
 unfold tY at a
 refine gW hEc ?_;conv=>whnf
 cases h:x.g.ok with
 | true=>
  rw [h] at a
  refine .pure _ [] (AP x.g h) ?_
  refine cD hEc 2 ?_;conv=>whnf
  refine To.cutC [1,2] 2 rfl rfl rfl rfl ?_
  exact (aLw x r a)
 | false=>
  rw [h] at a
  subst a
  refine .pan _ (aCt x.g h) ?_;conv=>whnf
  exact zqca0
theorem VP (x:Cmd) (r:Int) (a:wD x=r):To Ec Tryz.f37 (.pure (.ret (ii r))) (.code (gY Tryz.f37 5) chF (chO x)):=by
 unfold wD at a
 refine gW hEc ?_;conv=>whnf
 cases h:x.c.tok with
 | true=>
  rw [h] at a
  refine .pure _ [] (YY x.c h) ?_
  refine cD hEc 2 ?_;conv=>whnf
  refine To.cutC [1,2] 2 rfl rfl rfl rfl ?_
  exact (aLx x r a)
 | false=>
  rw [h] at a
  subst a
  refine .pan _ (RS x.c h) ?_;conv=>whnf
  exact zqca0
theorem dS {b:Bool} {p q r:Int} (a:(if b then p else q)=r) (h:b=true):p=r:=by subst h;exact a
theorem gX {b:Bool} {p q r:Int} (a:(if b then p else q)=r) (h:b=false):q=r:=by subst h;exact a
theorem aHH (x:Cmd) (r:Int) (a:R0 x=r):To Ec Tryz.f37 (.pure (.ret (ii r))) (.code (gY Tryz.f37 4) chF (chO x)):=by
 unfold R0 at a
 refine gW hEc ?_;conv=>whnf
 refine ⟨fun h1=>?_,fun h1=>?_⟩
 .have h1:(x.k==3)=true:=h1
  replace a:=dS a (by simp [h1])
  refine gW hEc ?_;conv=>whnf
  refine aY ?_
  refine gW hEc ?_;conv=>whnf
  refine aY ?_
  exact zqca3
 .have h1:(x.k==3)=false:=h1
  refine gW hEc ?_;conv=>whnf
  refine ⟨fun b=>?_,fun b=>?_⟩
  .have b:(x.k==4)=true:=b
   replace a:=dS a (by simp [b])
   refine gW hEc ?_;conv=>whnf
   refine aY ?_
   exact zqca3
  .have b:(x.k==4)=false:=b
   refine gW hEc ?_;conv=>whnf
   refine ⟨fun h3=>?_,fun h3=>?_⟩
   .have h3:(x.k==5)=true:=h3
    replace a:=dS a (by simp [h3])
    exact zqca3
   .have h3:(x.k==5)=false:=h3
    refine gW hEc ?_;conv=>whnf
    refine (Eh (x.n==0)).elim (fun c=>?_) (fun c=>?_)
    .replace a:=dS a (by simp [c])
     refine .pure _ [] (gM _ _ c) ?_
     refine cD hEc 2 ?_;conv=>whnf
     refine To.cutC [1,2] 2 rfl rfl rfl rfl ?_
     exact (VP x r a)
    .replace a:=gX a (by simp [h1,b,h3,c])
     subst a
     refine .pan _ (dM _ _ c) ?_;conv=>whnf
     exact zqca0
theorem aHI (x:Cmd) (r:Int) (a:R1 x=r):To Ec Tryz.f37 (.pure (.ret (ii r))) (.code (gY Tryz.f37 3) chF (chO x)):=by
 unfold R1 at a
 refine gW hEc ?_;conv=>whnf
 refine ⟨fun h1=>?_,fun h1=>?_⟩
 .have h1:(x.k==2)=true:=h1
  replace a:=dS a (by simp [h1])
  refine gW hEc ?_;conv=>whnf
  refine .pure _ [] (gM _ _ rfl) ?_
  exact zqca17
 .have h1:(x.k==2)=false:=h1
  refine gW hEc ?_;conv=>whnf
  refine (Eh x.g.isZ).elim (fun b=>?_) (fun b=>?_)
  .replace a:=dS a (by simp [b])
   refine .pure _ [] (gM _ _ b) ?_
   exact zqca17
  .replace a:=gX a (by simp [h1,b])
   subst a
   refine .pan _ (dM _ _ b) ?_;conv=>whnf
   exact zqca0
theorem aLy (x:Cmd) (r:Int) (a:R3 x=r):To Ec Tryz.f37 (.pure (.ret (ii r))) (.code (gY Tryz.f37 2) chF (chO x)):=by
 unfold R3 Con.non at a
 refine gW hEc ?_;conv=>whnf
 refine ⟨fun h1=>?_,fun h1=>?_⟩
 .have h1:(x.k==1)=true:=h1
  replace a:=dS a (by rw [h1];rfl)
  refine gW hEc ?_;conv=>whnf
  refine .pure _ [] (gM _ _ rfl) ?_
  exact zqca16
 .have h1:(x.k==1)=false:=h1
  refine gW hEc ?_;conv=>whnf
  refine ⟨fun b=>?_,fun b=>?_⟩
  .have b:(((nav x.c.ns).length:Int)==0)=true:=b
   refine gW hEc ?_;conv=>whnf
   refine ⟨fun h3=>?_,fun h3=>?_⟩
   .have h3:(((hav x.c.hs).length:Int)==0)=true:=h3
    refine gW hEc ?_;conv=>whnf
    refine ⟨fun d=>?_,fun d=>?_⟩
    .have d:(x.c.half==0)=true:=d
     refine gW hEc ?_;conv=>whnf
     refine (Eh (x.c.age==0)).elim (fun e=>?_) (fun e=>?_)
     .replace a:=dS a (by rw [h1,b,h3,d,e];rfl)
      refine .pure _ [] (gM _ _ e) ?_
      exact zqca16
     .replace a:=gX a (by rw [h1,e,Bt];rfl)
      subst a
      refine .pan _ (dM _ _ e) ?_;conv=>whnf
      exact zqca0
    .have d:(x.c.half==0)=false:=d
     replace a:=gX a (by rw [h1,d,Bt,Cj];rfl)
     subst a
     exact zqca5
   .have h3:(((hav x.c.hs).length:Int)==0)=false:=h3
    replace a:=gX a (by rw [h1,h3,Bt];rfl)
    subst a
    refine gW hEc ?_;conv=>whnf
    refine aN ?_
    exact zqca5
  .have b:(((nav x.c.ns).length:Int)==0)=false:=b
   replace a:=gX a (by rw [h1,b];rfl)
   subst a
   refine gW hEc ?_;conv=>whnf
   refine aN ?_
   refine gW hEc ?_;conv=>whnf
   refine aN ?_
   exact zqca5
theorem aLz (x:Cmd) (r:Int) (a:chk x=r):To Ec Tryz.f37 (.pure (.ret (ii r))) (.code (gY Tryz.f37 1) chF (chO x)):=by
 unfold chk at a
 refine gW hEc ?_;conv=>whnf
 refine ⟨fun h1=>?_,fun h1=>?_⟩
 .have h1:decide (1<=x.k)=true:=h1
  refine gW hEc ?_;conv=>whnf
  refine (Eh (decide (x.k<=6))).elim (fun b=>?_) (fun b=>?_)
  .rw [h1,b] at a
   refine .pure _ [] (gM _ _ b) ?_
   refine cD hEc 2 ?_;conv=>whnf
   refine To.cutC [1,2] 2 rfl rfl rfl rfl ?_
   exact (aLy x r a)
  .rw [b,Bt] at a
   subst a
   refine .pan _ (dM _ _ b) ?_;conv=>whnf
   exact zqca0
 .have h1:decide (1<=x.k)=false:=h1
  rw [h1,Cj] at a
  subst a
  exact zqca5
theorem check_any (x:Cmd) (r:Int) (a:chk x=r):aA Tryz.prog 37 [x.av] [] (.ret (ii r)) []:=by
 refine c_ Tryz.f37 fun _=>?_
 refine gV ?_
 refine To.defer (f:=103) (args:=[.ref 1 0]) _ rfl rfl ?_
 refine To.cutC [1,2] 2 rfl rfl rfl rfl ?_
 exact aLz x r a
theorem I3 (l:List Int) (hl:((iv l).length:Int)<=9223372036854775807) (r:Bool):∀ (n i:Nat),i+n=l.length->okI (l.drop i)=r->
  To E Tryz.f61 (.pure (.ret (.bool r))) (.head (stk Tryz.f61 0) [(0,.slice 1 (iv l) .no),(3,.int .i64 i)] []):=by
 have d:(iv l).length=l.length:=by simp
 intro n
 induction n with
 | zero=>
  intro i j a
  rw [Ae o_] at a
  subst a
  refine gV ?_
  refine ⟨fun h=>absurd (of_decide_eq_true h) o_,fun h=>?_⟩
  refine gV ?_
  rfl
 | succ n g=>
  intro i j a
  have c:i<l.length:=o_
  rw [Ac c] at a
  have a:(tN l[i]&&okI (l.drop (i+1)))=r:=a
  generalize k:l[i]=x at a
  have get:(iv l)[i]? =some (ii x):=(bS c).trans (by rw [k])
  refine gV ?_
  refine ⟨fun h=>?_,fun h=>absurd (of_decide_eq_false h) o_⟩
  refine gV ?_
  refine ⟨i,rfl,?_⟩
  refine gV ?_
  refine ⟨_,get,?_⟩
  refine gV ?_
  refine ⟨fun h1=>?_,fun h1=>?_⟩
  .have h1:decide (x<0)=true:=h1
   have h3:tN x=false:=by
    have:=of_decide_eq_true h1
    unfold tN
    rw [decide_eq_false o_];rfl
   rw [h3] at a
   subst a
   refine gV ?_
   refine ⟨fun _=>?_,fun h=>absurd h d_⟩
   refine gV ?_
   rfl
  .have h1:decide (x<0)=false:=h1
   have h1:=of_decide_eq_false h1
   refine gV ?_
   refine ⟨i,rfl,?_⟩
   refine gV ?_
   refine ⟨_,get,?_⟩
   refine gV ?_
   refine ⟨fun b=>?_,fun b=>?_⟩
   .have b:decide (1099511627776<x)=true:=b
    have h3:tN x=false:=by
     have:=of_decide_eq_true b
     unfold tN
     rw [decide_eq_false (p:=x<=1099511627776) o_,Bt]
    rw [h3] at a
    subst a
    refine gV ?_
    rfl
   .have b:decide (1099511627776<x)=false:=b
    have b:=of_decide_eq_false b
    have h3:tN x=true:=by
     unfold tN
     rw [decide_eq_true o_,decide_eq_true o_];rfl
    rw [h3,Bo] at a
    refine gV ?_
    refine .inl ⟨⟨by simp only [bO];omega,by simp only [bA];omega⟩,?_⟩
    have e:=g (i+1) o_ a
    exact zW
theorem yT (l:List Int):aA Tryz.prog 61 [.slice 1 (iv l) .no] [] (.ret (.bool (okI l))) []:=by
 refine c_ Tryz.f61 fun b=>?_
 have a:=I3 l b.1 _ l.length 0 o_ rfl
 exact zW
theorem BA (v:V3):aA Tryz.prog 132 [.agg v.cs] [] (.ret (.bool (okI v.l))) []:=by
 refine c_ Tryz.f132 fun _=>?_
 refine gV ?_
 refine ⟨by decide,?_⟩
 refine gV ?_
 refine ⟨by decide,?_⟩
 refine gV ?_
 refine ⟨by decide,?_⟩
 refine gV ?_
 refine .pure _ [] (aA.strip (yT v.l)) ?_
 refine gW hE ?_;conv=>whnf
theorem aAT (g:Gan):aA Tryz.prog 60 [g.av] [] (.ret (.bool g.ok)) []:=by
 refine c_ Tryz.f60 fun _=>?_
 refine gV ?_
 refine .pure _ [] (aA.strip (yT [g.id,g.ten,g.pods,g.run,g.lev,g.pref])) ?_
 refine gV ?_
 refine ⟨fun h=>?_,fun h=>?_⟩
 .refine gV ?_
  refine .pure _ [] (BA g.need) ?_
  refine gV ?_
  unfold Gan.ok
  rw [h]
  rfl
 .refine gV ?_
  unfold Gan.ok
  rw [h]
  rfl
theorem DM (c:Con):aA Tryz.prog 59 [c.av] [] (.ret (.bool c.non)) []:=by
 refine c_ Tryz.f59 fun _=>?_
 unfold Con.non
 refine gV ?_
 refine ⟨fun h1=>?_,fun h1=>?_⟩
 .have h1:(((nav c.ns).length:Int)==0)=true:=h1
  refine gV ?_
  refine ⟨fun a=>?_,fun a=>?_⟩
  .have a:(((hav c.hs).length:Int)==0)=true:=a
   refine gV ?_
   refine ⟨fun h3=>?_,fun h3=>?_⟩
   .have h3:(c.half==0)=true:=h3
    refine gV ?_
    rw [h1,a,h3];rfl
   .have h3:(c.half==0)=false:=h3
    refine gV ?_
    rw [h1,a,h3];rfl
  .have a:(((hav c.hs).length:Int)==0)=false:=a
   refine gV ?_
   refine ⟨fun h=>absurd h d_,fun _=>?_⟩
   refine gV ?_
   rw [h1,a];rfl
 .have h1:(((nav c.ns).length:Int)==0)=false:=h1
  refine gV ?_
  refine ⟨fun h=>absurd h d_,fun _=>?_⟩
  refine gV ?_
  refine ⟨fun h=>absurd h d_,fun _=>?_⟩
  refine gV ?_
  rw [h1];rfl
theorem PJ (c:Con) (o:((hav c.hs).length:Int)<=9223372036854775807) (r:Bool):∀ (n i:Nat),i+n=c.hs.length->(E2 (c.hs.drop i)&&okI [c.half,c.age])=r->
  To E Tryz.f58 (.pure (.ret (.bool r))) (.head (stk Tryz.f58 1) [(1,.ref 0 0),(5,.int .i64 i)] [.cells 26 c.cs]):=by
 have j:(hav c.hs).length=c.hs.length:=by simp
 intro n
 induction n with
 | zero=>
  intro i m a
  rw [Ae o_] at a
  subst a
  refine gV ?_
  refine ⟨fun h=>absurd (of_decide_eq_true h) o_,fun h=>?_⟩
  refine gV ?_
  refine .pure _ [] (aA.strip (yT [c.half,c.age])) ?_
  refine gV ?_
  rfl
 | succ n l=>
  intro i m a
  have g:i<c.hs.length:=o_
  rw [Ac g] at a
  have a:((c.hs[i].ok&&E2 (c.hs.drop (i+1)))&&okI [c.half,c.age])=r:=a
  generalize k:c.hs[i]=x at a
  have get:(hav c.hs)[i]? =some x.av:=(oW g).trans (by rw [k])
  have e:x.ok=false->r=false:=fun h=>by rw [h] at a;exact a.symm
  refine gV ?_
  refine ⟨fun h=>?_,fun h=>absurd (of_decide_eq_false h) o_⟩
  refine gV ?_
  refine ⟨i,rfl,?_⟩
  refine gV ?_
  refine ⟨_,get,?_⟩
  refine gV ?_
  refine .pure _ [] (aA.strip (yT [x.f,x.b,x.r])) ?_
  refine gV ?_
  refine ⟨fun h1=>?_,fun h1=>?_⟩
  .have h1:=iH h1
   have:=e (by unfold Hos.ok;rw [h1];rfl)
   subst this
   exact zqca10
  .have h1:=iI h1
   refine gV ?_
   refine .pure _ [] (BA x.c) ?_
   refine gV ?_
   refine ⟨fun d=>?_,fun d=>?_⟩
   .have d:=iH d
    have:=e (by unfold Hos.ok;rw [d,Bt])
    subst this
    refine gW hE ?_;conv=>whnf
   .have d:=iI d
    refine gV ?_
    refine .inl ⟨⟨by simp only [bO];omega,by simp only [bA];omega⟩,?_⟩
    refine gV ?_
    refine To.cut [1,5] 1 rfl rfl rfl rfl ?_
    refine l (i+1) o_ ?_
    have:x.ok=true:=by unfold Hos.ok;rw [h1,d];rfl
    rw [this,Bo] at a
    exact a
theorem W0 (c:Con) (hl:((nav c.ns).length:Int)<=9223372036854775807) (y:((hav c.hs).length:Int)<=9223372036854775807) (r:Bool):∀ (n i:Nat),i+n=c.ns.length->(ZD (c.ns.drop i)&&(E2 c.hs&&okI [c.half,c.age]))=r->
  To E Tryz.f58 (.pure (.ret (.bool r))) (.head (stk Tryz.f58 0) [(1,.ref 0 0),(3,.int .i64 i)] [.cells 26 c.cs]):=by
 have o:(nav c.ns).length=c.ns.length:=by simp
 intro n
 induction n with
 | zero=>
  intro i s d
  rw [Ae o_] at d
  refine gV ?_
  refine ⟨fun h=>absurd (of_decide_eq_true h) o_,fun h=>?_⟩
  have q:=PJ c y r c.hs.length 0 o_ d
  exact zW
 | succ n u=>
  intro i s d
  have m:i<c.ns.length:=o_
  rw [Ac m] at d
  have d:((c.ns[i].ok&&ZD (c.ns.drop (i+1)))&&(E2 c.hs&&okI [c.half,c.age]))=r:=d
  generalize v:c.ns[i]=x at d
  have get:(nav c.ns)[i]? =some x.av:=(fM m).trans (by rw [v])
  have a:x.ok=false->r=false:=fun h=>by rw [h] at d;exact d.symm
  refine gV ?_
  refine ⟨fun h=>?_,fun h=>absurd (of_decide_eq_false h) o_⟩
  refine gV ?_
  refine ⟨i,rfl,?_⟩
  refine gV ?_
  refine ⟨_,get,?_⟩
  refine gV ?_
  refine ⟨fun h1=>?_,fun h1=>?_⟩
  .have h1:decide (x.p< -1)=true:=h1
   have h1:=of_decide_eq_true h1
   have:=a (by unfold Nod.ok;rw [decide_eq_false (p:= -1<=x.p) o_];simp only [Cj])
   subst this
   exact zW
  .have h1:decide (x.p< -1)=false:=h1
   have h1:=of_decide_eq_false h1
   refine gV ?_
   refine ⟨fun e=>?_,fun e=>?_⟩
   .have e:decide (1099511627776<x.p)=true:=e
    have e:=of_decide_eq_true e
    have:=a (by unfold Nod.ok;rw [decide_eq_false (p:=x.p<=1099511627776) o_];simp only [Cj,Bt])
    subst this
    exact zW
   .have e:decide (1099511627776<x.p)=false:=e
    have e:=of_decide_eq_false e
    refine gV ?_
    refine .pure _ [] (aA.strip (yT [x.w])) ?_
    refine gV ?_
    refine ⟨fun h3=>?_,fun h3=>?_⟩
    .have h3:=iH h3
     have:=a (by unfold Nod.ok;rw [h3];simp only [Cj,Bt])
     subst this
     refine gV ?_
     refine aY ?_
     refine gV ?_
     refine aY ?_
     exact zqca10
    .have h3:=iI h3
     refine gV ?_
     refine .pure _ [] (BA x.n) ?_
     refine gV ?_
     refine ⟨fun g=>?_,fun g=>?_⟩
     .have g:=iH g
      have:=a (by unfold Nod.ok;rw [g];simp only [Cj,Bt])
      subst this
      refine gV ?_
      refine aY ?_
      exact zqca10
     .have g:=iI g
      refine gV ?_
      refine .pure _ [] (BA x.b) ?_
      refine gV ?_
      refine ⟨fun j=>?_,fun j=>?_⟩
      .have j:=iH j
       have:=a (by unfold Nod.ok;rw [j];simp only [Cj,Bt])
       subst this
       exact zqca10
      .have j:=iI j
       refine gV ?_
       refine .pure _ [] (BA x.l) ?_
       refine gV ?_
       refine ⟨fun k=>?_,fun k=>?_⟩
       .have k:=iH k
        have:=a (by unfold Nod.ok;rw [k];simp only [Bt])
        subst this
        refine gW hE ?_;conv=>whnf
       .have k:=iI k
        refine gV ?_
        refine .inl ⟨⟨by simp only [bO];omega,by simp only [bA];omega⟩,?_⟩
        refine gV ?_
        refine To.cut [1,3] 1 rfl rfl rfl rfl ?_
        refine u (i+1) o_ ?_
        have:x.ok=true:=by unfold Nod.ok;rw [h3,g,j,k,decide_eq_true (p:= -1<=x.p) o_,decide_eq_true (p:=x.p<=1099511627776) o_];rfl
        rw [this,Bo] at d
        exact d
theorem JP (c:Con):aA Tryz.prog 58 [c.av] [] (.ret (.bool c.tok)) []:=by
 refine aA.get _ (VL c) fun ⟨hl,a⟩=>?_
 refine c_ Tryz.f58 fun _=>?_
 refine gV ?_
 refine To.cut [1,3] 1 rfl rfl rfl rfl ?_
 exact W0 c hl a _ c.ns.length 0 o_ (by unfold Con.tok;rw [Gw];rfl)
def mA (r:Nat):Code->List KI->Option (List KI)
 | .region id o d,ks=>bif Ar id r then some (.code (.region id o d)::ks) else none
 | .seq a b,ks=>(match mA r a (.code b::ks) with | some x=>some x | none=>mA r b ks)
 | .cond _ a b,ks=>(match mA r a ks with | some x=>some x | none=>mA r b ks)
 | .block id b,ks=>mA r b (.inB id::ks)
 | .loop b,ks=>mA r b (.inL b::ks)
 | _,_=>none
def nG (fn:Func) (r:Nat):List KI:=match mA r (dC fn) [] with | some ks=>ks | none=>[]
theorem fW (x:Cmd) (b:Bool) (r:Int) (a:(if b then D3 x else 1)=r):To E Tryz.f19 (.pure (.ret (ii r))) (.code (gY Tryz.f19 5) [(1,.ref 0 0),(4,.bool b)] [.cells 38 x.cs]):=by
 refine gV ?_
 refine ⟨fun h=>?_,fun h=>?_⟩
 .have h:=iH h
  subst h
  refine gV ?_
  rw [<-a];rfl
 .have h:=iI h
  subst h
  have a:D3 x=r:=a
  unfold D3 at a
  refine gV ?_
  refine ⟨fun h1=>?_,fun h1=>?_⟩
  .have h1:decide ((12:Int)<((nav x.c.ns).length:Int))=true:=h1
   have h1:=of_decide_eq_true h1
   rw [decide_eq_false o_,Cj] at a
   subst a
   refine gV ?_
   refine aY ?_
   refine gV ?_
   rfl
  .have h1:decide ((12:Int)<((nav x.c.ns).length:Int))=false:=h1
   have h1:=of_decide_eq_false h1
   rw [decide_eq_true o_,Bo] at a
   refine gV ?_
   refine ⟨fun d=>?_,fun d=>?_⟩
   .have d:decide ((24:Int)<((hav x.c.hs).length:Int))=true:=d
    have d:=of_decide_eq_true d
    rw [decide_eq_false o_] at a
    subst a
    refine gV ?_
    rfl
   .have d:decide ((24:Int)<((hav x.c.hs).length:Int))=false:=d
    have d:=of_decide_eq_false d
    rw [decide_eq_true o_] at a
    subst a
    refine gV ?_
    rfl
theorem QJ {g:Gan} (h:g.isZ=true):g.ok=true:=by
 simp only [Gan.isZ,Ag,beq_iff_eq,and_true] at h
 obtain ⟨h1,c,h3,i,a,d,b,e,f⟩:=h
 unfold Gan.ok V3.l
 rw [h1,c,h3,i,a,d,b,e,f]
 rfl
theorem aLU (x:Cmd) (r:Int) (a:chk x=r) (h1:(x.k==1)=true):To E Tryz.f19 (.pure (.ret (ii r))) (.code (nG Tryz.f19 5) [(1,.ref 0 0),(3,.ref 1 0)] [.cells 38 x.cs,.cells 36 Gan.zero.cs]):=by
 have i:x.k=1:=by simpa using h1
 have d:chk x=if x.g.isZ then (if x.n==0 then (if x.c.tok then tY x else 1) else 1) else 1:=by
  unfold chk R3 R1 R0 wD
  rw [i]
  rfl
 rw [d] at a
 refine gV ?_
 refine ⟨fun b=>?_,fun b=>?_⟩
 .have b:x.g.isZ=true:=b
  replace a:=dS a b
  refine gV ?_
  refine ⟨fun h3=>?_,fun h3=>?_⟩
  .have h3:(x.n==0)=true:=h3
   replace a:=dS a h3
   have h:x.n=0:=by simpa using h3
   have e:tY x=D3 x:=by unfold tY RZ;rw [QJ b,h];rfl
   rw [e] at a
   refine gV ?_
   refine .pure _ [] (JP x.c) ?_
   exact zqca8
  .have h3:(x.n==0)=false:=h3
   exact zqca12
 .have b:x.g.isZ=false:=b
  exact zqca9
theorem QD {c:Con} (h:c.non=true):c.tok=true:=by
 simp only [Con.non,Ag,beq_iff_eq] at h
 obtain ⟨⟨⟨h1,b⟩,h3⟩,d⟩:=h
 obtain ⟨ns,hs,half,age⟩:=c
 dsimp only at h1 b h3 d
 have f:ns=[]:=by cases ns with | nil=>rfl | cons a l=>simp at h1;omega
 have e:hs=[]:=by cases hs with | nil=>rfl | cons a l=>simp at b;omega
 subst f e h3 d
 rfl
theorem aLT (x:Cmd) (r:Int) (a:chk x=r) (h1:(x.k==2)=true):To E Tryz.f19 (.pure (.ret (ii r))) (.code (nG Tryz.f19 7) [(1,.ref 0 0),(3,.ref 1 0)] [.cells 38 x.cs,.cells 36 Gan.zero.cs]):=by
 have i:x.k=2:=by simpa using h1
 have d:chk x=if x.c.non then (if x.n==0 then wD x else 1) else 1:=by
  unfold chk R3 R1 R0
  rw [i]
  rfl
 rw [d] at a
 refine gV ?_
 refine .pure _ [] (DM x.c) ?_
 refine gV ?_
 refine ⟨fun b=>?_,fun b=>?_⟩
 .have b:x.c.non=true:=b
  replace a:=dS a b
  refine gV ?_
  refine ⟨fun h3=>?_,fun h3=>?_⟩
  .have h3:(x.n==0)=true:=h3
   replace a:=dS a h3
   have h:x.n=0:=by simpa using h3
   have e:wD x=if x.g.ok then D3 x else 1:=by unfold wD tY RZ;rw [QD b,h];rfl
   rw [e] at a
   refine gV ?_
   refine .pure _ [] (aAT x.g) ?_
   exact zqca8
  .have h3:(x.n==0)=false:=h3
   exact zqca12
 .have b:x.c.non=false:=b
  exact zqca9
theorem aII (x:Cmd) (r:Int) (a:chk x=r) (h1:x.k=3\/x.k=4\/x.k=5):To E Tryz.f19 (.pure (.ret (ii r))) (.code (nG Tryz.f19 11) [(1,.ref 0 0),(3,.ref 1 0)] [.cells 38 x.cs,.cells 36 Gan.zero.cs]):=by
 have d:chk x=if x.c.non then (if x.g.isZ then wD x else 1) else 1:=by
  unfold chk R3 R1 R0
  rcases h1 with h | h | h<;>rw [h]<;>rfl
 rw [d] at a
 refine gV ?_
 refine .pure _ [] (DM x.c) ?_
 refine gV ?_
 refine ⟨fun b=>?_,fun b=>?_⟩
 .have b:x.c.non=true:=b
  replace a:=dS a b
  refine gV ?_
  refine ⟨fun h3=>?_,fun h3=>?_⟩
  .have h3:x.g.isZ=true:=h3
   replace a:=dS a h3
   have e:wD x=if okI [x.n] then D3 x else 1:=by unfold wD tY RZ;rw [QD b,QJ h3];rfl
   rw [e] at a
   refine gV ?_
   refine .pure _ [] (aA.strip (yT [x.n])) ?_
   exact zqca8
  .have h3:x.g.isZ=false:=h3
   replace a:=gX a h3
   refine cD hE 11 ?_;conv=>whnf
   exact zqca2
 .have b:x.c.non=false:=b
  replace a:=gX a b
  refine gV ?_
  refine aN ?_
  refine cD hE 11 ?_;conv=>whnf
  exact zqca2
theorem aLS (x:Cmd) (r:Int) (a:chk x=r) (h1:x.k=6):To E Tryz.f19 (.pure (.ret (ii r))) (.code (nG Tryz.f19 13) [(1,.ref 0 0),(3,.ref 1 0)] [.cells 38 x.cs,.cells 36 Gan.zero.cs]):=by
 have d:chk x=if x.c.non then (if x.g.isZ then (if x.n==0 then wD x else 1) else 1) else 1:=by
  unfold chk R3 R1 R0
  rw [h1]
  rfl
 rw [d] at a
 refine gV ?_
 refine .pure _ [] (DM x.c) ?_
 refine gV ?_
 refine ⟨fun b=>?_,fun b=>?_⟩
 .have b:x.c.non=true:=b
  replace a:=dS a b
  refine gV ?_
  refine ⟨fun h3=>?_,fun h3=>?_⟩
  .have h3:x.g.isZ=true:=h3
   replace a:=dS a h3
   have e:(if x.n==0 then wD x else 1)=if (x.n==0) then D3 x else 1:=by
    cases h:(x.n==0) with
    | false=>rfl
    | true=>
     have i:x.n=0:=by simpa using h
     show wD x=D3 x
     unfold wD tY RZ
     rw [QD b,QJ h3,i]
     rfl
   rw [e] at a
   refine cD hE 16 ?_;conv=>whnf
   refine To.cutC [1,4] 1 rfl rfl rfl rfl ?_
   exact (fW x _ r a)
  .have h3:x.g.isZ=false:=h3
   exact zqca12
 .have b:x.c.non=false:=b
  exact zqca9
theorem rcheck_any (x:Cmd) (r:Int) (a:chk x=r):aA Tryz.prog 19 [x.av] [] (.ret (ii r)) []:=by
 refine c_ Tryz.f19 fun _=>?_
 refine gV ?_
 refine ⟨fun h1=>?_,fun h1=>?_⟩
 .refine To.cutC [1,3] 2 rfl rfl rfl rfl ?_
  exact aLU x r a h1
 .have h1:(x.k==1)=false:=h1
  refine gV ?_
  refine ⟨fun j=>?_,fun j=>?_⟩
  .refine To.cutC [1,3] 2 rfl rfl rfl rfl ?_
   exact aLT x r a j
  .have j:(x.k==2)=false:=j
   refine gV ?_
   refine ⟨fun h3=>?_,fun h3=>?_⟩
   .have h3:(x.k==3)=true:=h3
    have b:x.k=3:=by simpa using h3
    refine gV ?_
    refine ⟨fun _=>?_,fun h=>absurd (h3.symm.trans h) d_⟩
    refine To.cutC [1,3] 2 rfl rfl rfl rfl ?_
    exact aII x r a (.inl b)
   .have h3:(x.k==3)=false:=h3
    refine gV ?_
    refine ⟨fun c=>?_,fun c=>?_⟩
    .have c:(x.k==4)=true:=c
     have b:x.k=4:=by simpa using c
     refine gV ?_
     refine ⟨fun _=>?_,fun h=>absurd (c.symm.trans h) d_⟩
     refine To.cutC [1,3] 2 rfl rfl rfl rfl ?_
     exact aII x r a (.inr (.inl b))
    .have c:(x.k==4)=false:=c
     refine gV ?_
     refine ⟨fun d=>?_,fun d=>?_⟩
     .have d:(x.k==5)=true:=d
      have b:x.k=5:=by simpa using d
      refine To.cutC [1,3] 2 rfl rfl rfl rfl ?_
      exact aII x r a (.inr (.inr b))
     .have d:(x.k==5)=false:=d
      refine gV ?_
      refine ⟨fun i=>?_,fun i=>?_⟩
      .have i:(x.k==6)=true:=i
       have b:x.k=6:=by simpa using i
       refine To.cutC [1,3] 2 rfl rfl rfl rfl ?_
       exact aLS x r a b
      .have i:(x.k==6)=false:=i
       have e:(decide (1<=x.k)&&decide (x.k<=6))=false:=by
        simp only [beq_eq_false_iff_ne] at h1 j h3 c d i
        by_cases b:1<=x.k
        .rw [decide_eq_false (p:=x.k<=6) o_,Bt]
        .rw [decide_eq_false b,Cj]
       replace a:=gX a e
       refine cD hE 1 ?_;conv=>whnf
       exact zqca2
def eqL {α:Type} (f:α->α->Bool):List α->List α->Bool
 | [],[]=>true
 | x::r,y::s=>f x y&&eqL f r s
 | _,_=>false
theorem eqL_len {α:Type} {f:α->α->Bool}:∀ {a b:List α},a.length≠b.length->eqL f a b=false
 | [],[],h=>absurd rfl h
 | [],_::_,_=>rfl
 | _::_,[],_=>rfl
 | x::r,y::s,h=>by
  have:=eqL_len (f:=f) (a:=r) (b:=s) (by simpa using h)
  simp [eqL,this]
def _root_.Go.Proofs.YticlgfdibfobdaaGreat.Nod.eqb (x y:Nod):Bool:=(x.p==y.p)&&((x.w==y.w)&&((x.n.a==y.n.a)&&((x.n.b==y.n.b)&&((x.n.c==y.n.c)&&((x.b.a==y.b.a)&&((x.b.b==y.b.b)&&((x.b.c==y.b.c)&&((x.l.a==y.l.a)&&((x.l.b==y.l.b)&&((x.l.c==y.l.c)&&true))))))))))
def _root_.Go.Proofs.YticlgfdibfobdaaGreat.Hos.eqb (x y:Hos):Bool:=(x.f==y.f)&&((x.b==y.b)&&((x.r==y.r)&&((x.c.a==y.c.a)&&((x.c.b==y.c.b)&&((x.c.c==y.c.c)&&true)))))
def _root_.Go.Proofs.YticlgfdibfobdaaGreat.Gan.eqb (x y:Gan):Bool:=(x.id==y.id)&&((x.ten==y.ten)&&((x.pods==y.pods)&&((x.need.a==y.need.a)&&((x.need.b==y.need.b)&&((x.need.c==y.need.c)&&((x.run==y.run)&&((x.lev==y.lev)&&((x.pref==y.pref)&&true))))))))
theorem _root_.Go.Proofs.YticlgfdibfobdaaGreat.Nod.eqb_eq {x y:Nod}:x.eqb y=true↔x=y:=by
 obtain ⟨_,_,⟨_,_,_⟩,⟨_,_,_⟩,⟨_,_,_⟩⟩:=x
 obtain ⟨_,_,⟨_,_,_⟩,⟨_,_,_⟩,⟨_,_,_⟩⟩:=y
 simp [Nod.eqb,and_assoc]
theorem _root_.Go.Proofs.YticlgfdibfobdaaGreat.Hos.eqb_eq {x y:Hos}:x.eqb y=true↔x=y:=by
 obtain ⟨_,_,_,⟨_,_,_⟩⟩:=x
 obtain ⟨_,_,_,⟨_,_,_⟩⟩:=y
 simp [Hos.eqb]
theorem _root_.Go.Proofs.YticlgfdibfobdaaGreat.Gan.eqb_eq {x y:Gan}:x.eqb y=true↔x=y:=by
 obtain ⟨_,_,_,⟨_,_,_⟩,_,_,_⟩:=x
 obtain ⟨_,_,_,⟨_,_,_⟩,_,_,_⟩:=y
 simp [Gan.eqb,and_assoc]
theorem aCV (a b:List Nod) (l:a.length=b.length) (hl:((nav a).length:Int)<=9223372036854775807) (r:Bool):∀ (n i:Nat),i+n=a.length->eqL Nod.eqb (a.drop i) (b.drop i)=r->
  To E Tryz.f149 (.pure (.ret (.bool r))) (.head (stk Tryz.f149 0) [(0,.slice 11 (nav a) .no),(1,.slice 11 (nav b) .no),(12,.int .i64 ((nav a).length:Nat)),(13,.int .i64 i)] []):=by
 have e:(nav a).length=a.length:=by simp
 intro n
 induction n with
 | zero=>
  intro i o c
  exact zqca15
 | succ n m=>
  intro i o c
  have h1:i<a.length:=o_
  have d:i<b.length:=o_
  rw [Ac h1,Ac d] at c
  have c:(Nod.eqb a[i] b[i]&&eqL Nod.eqb (a.drop (i+1)) (b.drop (i+1)))=r:=c
  generalize q:a[i]=x at c
  generalize p:b[i]=y at c
  have j:(nav a)[i]? =some (Nod.av x):=by simp [q,h1]
  have k:(nav b)[i]? =some (Nod.av y):=by simp [p,d]
  refine gV ?_
  refine aT fun h=>?_
  repeat' first | (refine gN hE ?_;conv=>whnf) | refine ⟨_,j,?_⟩ | refine ⟨_,k,?_⟩ | exact rfl | refine aY ?_ | refine aN ?_ | refine aT fun h=>?_ | refine aF fun h=>?_ | refine ⟨fun h=>?_,fun h=>?_⟩ | refine aJ ?_ | refine ⟨_,rfl,?_⟩ | refine aD ?_ | fail
  .rename_i h
   have h:Nod.eqb x y=false:=iH h
   rw [h] at c
   rw [<-c];rfl
  .rename_i h
   have h:Nod.eqb x y=true:=iI h
   rw [h,Bo] at c
   have g:=m (i+1) o_ c
   exact zW
theorem eqN_ok (a b:List Nod):aA Tryz.prog 149 [.slice 11 (nav a) .no,.slice 11 (nav b) .no] [] (.ret (.bool (eqL Nod.eqb a b))) []:=by
 have d:(nav a).length=a.length:=by simp
 have c:(nav b).length=b.length:=by simp
 refine c_ Tryz.f149 fun j=>?_
 have hl:((nav a).length:Int)<=9223372036854775807:=j.1
 refine gV ?_
 refine ⟨fun h=>?_,fun h=>?_⟩
 .have h:(((nav a).length:Int) !=((nav b).length:Int))=true:=h
  exact zqca19
 .have h:(((nav a).length:Int) !=((nav b).length:Int))=false:=h
  have i:=aCV a b (by simp at h;omega) hl _ a.length 0 o_ rfl
  exact zW
theorem aCX (a b:List Hos) (l:a.length=b.length) (hl:((hav a).length:Int)<=9223372036854775807) (r:Bool):∀ (n i:Nat),i+n=a.length->eqL Hos.eqb (a.drop i) (b.drop i)=r->
  To E Tryz.f150 (.pure (.ret (.bool r))) (.head (stk Tryz.f150 0) [(0,.slice 6 (hav a) .no),(1,.slice 6 (hav b) .no),(12,.int .i64 ((hav a).length:Nat)),(13,.int .i64 i)] []):=by
 have e:(hav a).length=a.length:=by simp
 intro n
 induction n with
 | zero=>
  intro i o c
  exact zqca15
 | succ n m=>
  intro i o c
  have h1:i<a.length:=o_
  have d:i<b.length:=o_
  rw [Ac h1,Ac d] at c
  have c:(Hos.eqb a[i] b[i]&&eqL Hos.eqb (a.drop (i+1)) (b.drop (i+1)))=r:=c
  generalize q:a[i]=x at c
  generalize p:b[i]=y at c
  have j:(hav a)[i]? =some (Hos.av x):=by simp [q,h1]
  have k:(hav b)[i]? =some (Hos.av y):=by simp [p,d]
  refine gV ?_
  refine aT fun h=>?_
  repeat' first | (refine gN hE ?_;conv=>whnf) | refine ⟨_,j,?_⟩ | refine ⟨_,k,?_⟩ | exact rfl | refine aY ?_ | refine aN ?_ | refine aT fun h=>?_ | refine aF fun h=>?_ | refine ⟨fun h=>?_,fun h=>?_⟩ | refine aJ ?_ | refine ⟨_,rfl,?_⟩ | refine aD ?_ | fail
  .rename_i h
   have h:Hos.eqb x y=false:=iH h
   rw [h] at c
   rw [<-c];rfl
  .rename_i h
   have h:Hos.eqb x y=true:=iI h
   rw [h,Bo] at c
   have g:=m (i+1) o_ c
   exact zW
theorem eqH_ok (a b:List Hos):aA Tryz.prog 150 [.slice 6 (hav a) .no,.slice 6 (hav b) .no] [] (.ret (.bool (eqL Hos.eqb a b))) []:=by
 have d:(hav a).length=a.length:=by simp
 have c:(hav b).length=b.length:=by simp
 refine c_ Tryz.f150 fun j=>?_
 have hl:((hav a).length:Int)<=9223372036854775807:=j.1
 refine gV ?_
 refine ⟨fun h=>?_,fun h=>?_⟩
 .have h:(((hav a).length:Int) !=((hav b).length:Int))=true:=h
  exact zqca19
 .have h:(((hav a).length:Int) !=((hav b).length:Int))=false:=h
  have i:=aCX a b (by simp at h;omega) hl _ a.length 0 o_ rfl
  exact zW
def sameC (a b:Con):Bool:=eqL Nod.eqb a.ns b.ns&&(eqL Hos.eqb a.hs b.hs&&((a.half==b.half)&&(a.age==b.age)))
def same (a b:Cmd):Bool:=(a.k==b.k)&&(a.g.eqb b.g&&((a.n==b.n)&&sameC a.c b.c))
noncomputable abbrev aGc:Func:=Tryz.f45
theorem BR (a b:Con) (k:a.hs.length=b.hs.length) (hl:((hav a.hs).length:Int)<=9223372036854775807) (r:Bool):∀ (n i:Nat),i+n=a.hs.length->eqL Hos.eqb (a.hs.drop i) (b.hs.drop i)=r->
  To E aGc (.pure (.ret (.bool r))) (.head (stk aGc 1) [(2,.ref 0 0),(3,.ref 1 0),(6,.int .i64 i)] [.cells 26 a.cs,.cells 26 b.cs]):=by
 have e:(hav a.hs).length=a.hs.length:=by simp
 intro n
 induction n with
 | zero=>
  intro i m c
  exact zqca15
 | succ n l=>
  intro i m c
  have h1:i<a.hs.length:=o_
  have d:i<b.hs.length:=o_
  rw [Ac h1,Ac d] at c
  have c:(Hos.eqb a.hs[i] b.hs[i]&&eqL Hos.eqb (a.hs.drop (i+1)) (b.hs.drop (i+1)))=r:=c
  generalize p:a.hs[i]=x at c
  generalize o:b.hs[i]=y at c
  have g:(hav a.hs)[i]? =some (Hos.av x):=by simp [p,h1]
  have j:(hav b.hs)[i]? =some (Hos.av y):=by simp [o,d]
  refine gV ?_
  refine aT fun h=>?_
  repeat' first | (refine gN hE ?_;conv=>whnf) | refine ⟨_,g,?_⟩ | refine ⟨_,j,?_⟩ | exact rfl | refine aY ?_ | refine aN ?_ | refine aT fun h=>?_ | refine aF fun h=>?_ | refine ⟨fun h=>?_,fun h=>?_⟩ | refine aJ ?_ | refine ⟨_,rfl,?_⟩ | refine aD ?_ | fail
  .have h:Hos.eqb x y=false:=iH h
   rw [h] at c
   rw [<-c];rfl
  .have h:Hos.eqb x y=true:=iI h
   rw [h,Bo] at c
   have f:=l (i+1) o_ c
   exact zW
theorem aAB (a b:Con) (o:a.ns.length=b.ns.length) (d:a.hs.length=b.hs.length) (hl:((nav a.ns).length:Int)<=9223372036854775807) (e:((hav a.hs).length:Int)<=9223372036854775807) (r:Bool):∀ (n i:Nat),i+n=a.ns.length->(eqL Nod.eqb (a.ns.drop i) (b.ns.drop i)&&eqL Hos.eqb a.hs b.hs)=r->
  To E aGc (.pure (.ret (.bool r))) (.head (stk aGc 0) [(2,.ref 0 0),(3,.ref 1 0),(5,.int .i64 i)] [.cells 26 a.cs,.cells 26 b.cs]):=by
 have g:(nav a.ns).length=a.ns.length:=by simp
 intro n
 induction n with
 | zero=>
  intro i p c
  rw [Ae o_,Ae o_] at c
  have c:eqL Hos.eqb a.hs b.hs=r:=c
  refine gV ?_
  have j:=BR a b d e r a.hs.length 0 o_ c
  exact zW
 | succ n q=>
  intro i p c
  have h1:i<a.ns.length:=o_
  have f:i<b.ns.length:=o_
  rw [Ac h1,Ac f] at c
  have c:((Nod.eqb a.ns[i] b.ns[i]&&eqL Nod.eqb (a.ns.drop (i+1)) (b.ns.drop (i+1)))&&eqL Hos.eqb a.hs b.hs)=r:=c
  generalize u:a.ns[i]=x at c
  generalize s:b.ns[i]=y at c
  have l:(nav a.ns)[i]? =some (Nod.av x):=by simp [u,h1]
  have m:(nav b.ns)[i]? =some (Nod.av y):=by simp [s,f]
  refine gV ?_
  refine aT fun h=>?_
  repeat' first | (refine gN hE ?_;conv=>whnf) | refine ⟨_,l,?_⟩ | refine ⟨_,m,?_⟩ | exact rfl | refine aY ?_ | refine aN ?_ | refine aT fun h=>?_ | refine aF fun h=>?_ | refine ⟨fun h=>?_,fun h=>?_⟩ | refine aJ ?_ | refine ⟨_,rfl,?_⟩ | refine aD ?_ | fail
  .have h:Nod.eqb x y=false:=iH h
   rw [h] at c
   rw [<-c];rfl
  .have h:Nod.eqb x y=true:=iI h
   rw [h,Bo] at c
   have k:=q (i+1) o_ c
   exact zW
theorem aDl (a b:Con) (M:Imm) (ob:Hs) (vs:List Value) (h:cA M ob vs [a.av,b.av]):((nav a.ns).length:Int)<=9223372036854775807/\((hav a.hs).length:Int)<=9223372036854775807:=by
 have hl:0<vs.length:=by rw [h.1];simp
 have:=h.2 0 _ a.av (Ab hl) rfl
 exact ⟨bY this 0 _ rfl,bY this 1 _ rfl⟩
theorem T2 {a b:Nat} (h:((a:Int) !=(b:Int))=true):a≠b:=by
 intro e;rw [e] at h;simp at h
theorem VD {a b:Nat} (h:((a:Int) !=(b:Int))=false):a=b:=by
 simp at h;omega
theorem aAC (a b:Con) (r:Bool) (d:sameC a b=r):aA Tryz.prog 45 [a.av,b.av] [] (.ret (.bool r)) []:=by
 refine aA.get _ (aDl a b) fun ⟨hl,i⟩=>?_
 have k:(nav a.ns).length=a.ns.length:=by simp
 have m:(nav b.ns).length=b.ns.length:=by simp
 have n:(hav a.hs).length=a.hs.length:=by simp
 have l:(hav b.hs).length=b.hs.length:=by simp
 refine c_ Tryz.f45 fun _=>?_
 refine gV ?_
 refine Aa (fun h1=>?_) (fun h1=>?_)
 .have h1:(((nav a.ns).length:Int) !=((nav b.ns).length:Int))=true:=h1
  have e:sameC a b=false:=by unfold sameC;rw [eqL_len (by rw [<-k,<-m];exact T2 h1)];rfl
  rw [e] at d
  subst d
  exact zW
 .have h1:(((nav a.ns).length:Int) !=((nav b.ns).length:Int))=false:=h1
  refine gV ?_
  refine Aa (fun h=>?_) (fun h=>?_)
  .have h:(((hav a.hs).length:Int) !=((hav b.hs).length:Int))=true:=h
   have e:sameC a b=false:=by unfold sameC;rw [eqL_len (f:=Hos.eqb) (by rw [<-n,<-l];exact T2 h),Cj,Bt]
   rw [e] at d
   subst d
   exact zW
  .have h:(((hav a.hs).length:Int) !=((hav b.hs).length:Int))=false:=h
   have p:=VD h1
   have o:=VD h
   refine gV ?_
   refine Aa (fun h3=>?_) (fun h3=>?_)
   .have h3:(!(a.half==b.half))=true:=h3
    have h3:=iH h3
    have e:sameC a b=false:=by unfold sameC;rw [h3,Cj,Bt,Bt]
    rw [e] at d
    subst d
    exact zW
   .have h3:(!(a.half==b.half))=false:=h3
    have h3:=iI h3
    refine gV ?_
    refine Aa (fun c=>?_) (fun c=>?_)
    .have c:(!(a.age==b.age))=true:=c
     have c:=iH c
     have e:sameC a b=false:=by unfold sameC;rw [c,Bt,Bt,Bt]
     rw [e] at d
     subst d
     exact zW
    .have c:(!(a.age==b.age))=false:=c
     have c:=iI c
     have e:sameC a b=(eqL Nod.eqb a.ns b.ns&&eqL Hos.eqb a.hs b.hs):=by unfold sameC;rw [h3,c,Iv,Iv]
     rw [e] at d
     have j:=aAB a b o_ o_ hl i _ a.ns.length 0 o_ d
     exact zW
theorem rsame_c (a b:Con):aA Tryz.prog 45 [a.av,b.av] [] (.ret (.bool (sameC a b))) []:=aAC a b _ rfl
set_option maxHeartbeats 2000000
end Go.Proofs.YticlgfdibfobdaaGreat.C8
namespace Go.Proofs.YticlgfdibfobdaaGreat.Q2
open Go Go.AW Go.Proofs
structure Pend where
 (id tenant pods n0 n1 n2 run level prefer seq since:Int)
 deriving DecidableEq
def Pend.cs (p:Pend):List AVal:=[.int .i64 p.id,.int .i64 p.tenant,.int .i64 p.pods,.int .i64 p.n0,.int .i64 p.n1,.int .i64 p.n2,.int .i64 p.run,.int .i64 p.level,.int .i64 p.prefer,.int .i64 p.seq,.int .i64 p.since]
def Pend.av (p:Pend):AVal:=.agg p.cs
abbrev pav (l:List Pend):List AVal:=l.map Pend.av
theorem vR {n:Int} (h1: -9223372036854775808<=n) (a:n<=9223372036854775807):inR .i64 n:=⟨by simp only [bO];omega,by simp only [bA];omega⟩
def idx (p:Pend->Bool):List Pend->Int->Int
 | [],_=> -1
 | x::r,i=>if p x then i else idx p r (i+1)
def findP (a:Int) (l:List Pend):Int:=idx (fun x=>x.id==a) l 0
def aBD (a b:Int):Pend:=⟨a,0,0,0,0,0,0,0,0,b,0⟩
theorem kP {l:List Pend} {i:Nat} (h:i<l.length):(pav l)[i]? =some l[i].av:=by
 simp [pav,h]
set_option maxRecDepth 10000
theorem aKU (p:Pend):aA Tryz.prog 355 [p.av] [] (.ret (.int .i64 p.id)) []:=by
 refine c_ Tryz.f355 fun _=>?_
 refine gW hE ?_;conv=>whnf
theorem aAm (p:Pend):aA Tryz.prog 356 [p.av] [] (.ret (.int .i64 p.seq)) []:=by
 refine c_ Tryz.f356 fun _=>?_
 refine gW hE ?_;conv=>whnf
theorem aKS (p:Pend) (b:Int):aA Tryz.prog 155 [.iface 155 p.av,.int .i64 b] [] (.ret (.bool (p.id==b))) []:=by
 refine c_ Tryz.f155 fun _=>?_
 have a:=aKU p
 exact zW
theorem Y9 (p q:Pend):aA Tryz.prog 78 [.iface 155 p.av,.iface 155 q.av] [] (.ret (.bool (decide (q.seq<p.seq)))) []:=by
 refine c_ Tryz.f78 fun _=>?_
 have b:=aAm p
 have a:=aAm q
 exact zW
theorem aE4 (x p:Pend):aA Tryz.prog 175 [x.av,.ptr p.cs] [] (.ret (.bool (decide (p.seq<x.seq)))) []:=by
 refine c_ Tryz.f175 fun _=>?_
 have a:=Y9 x p
 exact zW
theorem aCD (x:Pend) (a:Int):aA Tryz.prog 154 [x.av,.ptr [.int .i64 a]] [] (.ret (.bool (x.id==a))) []:=by
 refine c_ Tryz.f154 fun _=>?_
 have b:=aKS x a
 exact zW
theorem QM (f:FuncId) (l:List AVal) (xs:List Pend) (p:Pend->Bool) (k:∀ x∈xs,aA Tryz.prog f [x.av,.ptr l] [] (.ret (.bool (p x))) []) (hl:((pav xs).length:Int)<=9223372036854775807) (r:Int):
  ∀ (n i:Nat),i+n=xs.length->idx p (xs.drop i) i=r->
  To E Tryz.f153 (.pure (.ret (.int .i64 r))) (.head (stk Tryz.f153 0)
   [(0,.slice 11 (pav xs) .no),(1,.func (.func f) [] [.ptr l]),(7,.int .i64 ((pav xs).length:Nat)),(8,.int .i64 i)] []):=by
 have d:(pav xs).length=xs.length:=by simp
 intro n
 induction n with
 | zero=>
  intro i j a
  refine gV ?_
  refine ⟨fun h=>?_,fun h=>?_⟩
  .exact zqca14
  .refine gV ?_
   rw [Ae o_] at a
   rw [<-a]
   rfl
 | succ n g=>
  intro i j a
  have b:i<xs.length:=o_
  refine gV ?_
  refine ⟨fun h=>?_,fun h=>?_⟩
  .refine gV ?_
   refine ⟨i,rfl,?_⟩
   refine gV ?_
   refine ⟨_,kP b,?_⟩
   refine gV ?_
   refine .pure _ [] (k xs[i] (Bb b)) ?_
   refine gV ?_
   rw [Ac b] at a
   have a:(if p xs[i] then (i:Int) else idx p (xs.drop (i+1)) ((i:Int)+1))=r:=a
   refine ⟨fun c=>?_,fun c=>?_⟩
   .refine gV ?_
    rw [if_pos c] at a
    rw [a]
   .refine gV ?_
    rw [if_neg (by rw [c];simp)] at a
    refine .inl ⟨⟨by simp only [bO];omega,by simp only [bA];omega⟩,?_⟩
    have e:=g (i+1) o_ (by rw [<-a];push_cast;rfl)
    exact zW
  .exact zqca13
theorem ND (f:FuncId) (l:List AVal) (xs:List Pend) (p:Pend->Bool) (b:∀ x∈xs,aA Tryz.prog f [x.av,.ptr l] [] (.ret (.bool (p x))) []):
  aA Tryz.prog 153 [.slice 11 (pav xs) .no,.func (.func f) [] [.ptr l]] [] (.ret (.int .i64 (idx p xs 0))) []:=by
 refine c_ Tryz.f153 fun a=>?_
 refine gV ?_
 refine To.head [0,1,7,8] ?_
 exact QM f l xs p b a.1 _ xs.length 0 o_ s_
theorem find_ok (xs:List Pend) (a:Int):aA Tryz.prog 79 [.slice 11 (pav xs) .no,.int .i64 a] [] (.ret (.int .i64 (findP a xs))) []:=by
 refine c_ Tryz.f79 fun _=>?_
 have b:=ND _ _ xs (fun x=>x.id==a) fun x _=>aCD x a
 exact zW
theorem xL {n:Nat} (h:n<=1000000):zU n 88:=⟨by simp only [maxLen];omega,by omega⟩
theorem D2 (xs:List Pend) (a:xs.length<=1000000):aA Tryz.prog 100 [.slice 11 (pav xs) .no] [] (.ret (.row 0 0)) [.row 0 11 78 (pav xs)]:=by
 refine cT (E:=(Er [2,5] [])) (fn:=Tryz.f100) (g:=.full 0 _ _) fun _=>?_
 refine gV ?_
 intro b c
 refine gV ?_
 refine ⟨fun h=>?_,fun h=>?_⟩
 .refine gV ?_
  refine ⟨[],[1],⟨rfl,rfl⟩,?_⟩;conv=>whnf
  rw [c (by simpa using h)]
  exact ⟨rfl,rfl⟩
 .refine gV ?_
  refine ⟨xL (by simpa using a),?_⟩
  refine gV ?_
  refine ⟨[],[1],⟨rfl,rfl⟩,?_⟩
  exact ⟨rfl,rfl⟩
theorem del_list {α:Type} (l:List α) (i:Nat) (f:i<l.length) (z:α):
  (l.take (0+i)++(l.drop (i+1)).take (l.length-(i+1))++l.drop (0+i+(l.length-(i+1)))).take (0+(l.length-1))++Ai (l.length-(l.length-1)) z++
   (l.take (0+i)++(l.drop (i+1)).take (l.length-(i+1))++l.drop (0+i+(l.length-(i+1)))).drop (0+(l.length-1)+(l.length-(l.length-1)))=l.eraseIdx i++[z]:=by
 have e:(l.drop (i+1)).take (l.length-(i+1))=l.drop (i+1):=Cb s_
 have d:l.length-(l.length-1)=1:=o_
 have a:(l.take (0+i)++l.drop (i+1)).length=l.length-1:=by simp;omega
 rw [e,d,Ey]
 simp only [Bw] at a⊢
 have b:(l.take i++l.drop (i+1)++l.drop (i+(l.length-(i+1)))).take (l.length-1)=l.take i++l.drop (i+1):=by
  rw [Db o_,Cb o_]
 have c:(l.take i++l.drop (i+1)++l.drop (i+(l.length-(i+1)))).drop (l.length-1+1)=[]:=by
  refine Ae ?_
  rw [Ay,a,Fh]
  omega
 rw [b,c]
 simp
theorem YW (xs:List Pend) (i:Nat) (d:i<xs.length) (e:xs.length<=1000000):aA Tryz.prog 112 [.row 0 0,.int .i64 i,.int .i64 ((i:Int)+1)] [.row 0 11 78 (pav xs)]
  (.ret (.sub 0 0 0 (xs.length-1) 11)) [.row 0 11 78 (pav (xs.eraseIdx i)++[(aBD 0 0).av])]:=by
 refine cT (E:=E) (fn:=Tryz.f112) (g:=.full 1 _ _) fun _=>?_
 refine gV ?_
 refine ⟨i,rfl,?_⟩
 refine gV ?_
 refine ⟨i+1,by push_cast;rfl,?_⟩
 refine gV ?_
 refine ⟨xs.length,by simp,?_⟩
 refine gV ?_
 refine ⟨⟨⟨by omega,by omega⟩,by simp⟩,?_⟩
 refine gV ?_
 refine ⟨fun h=>?_,fun h=>?_⟩
 .simp at h
  omega
 .refine gV ?_
  refine ⟨i,rfl,?_⟩
  refine gV ?_
  refine ⟨by simp;omega,?_⟩
  refine gV ?_
  refine ⟨i+1,by push_cast;rfl,?_⟩
  refine gV ?_
  refine ⟨by simp;omega,?_⟩
  refine gV ?_
  have a:(pav xs).length=xs.length:=by simp
  have b:(Et ((pav xs).length-(i+1)) (Fp (i+1) (pav xs))).length=xs.length-(i+1):=by simp
  rw [b,a]
  refine ⟨by omega,?_⟩
  refine gV ?_
  refine ⟨xs.length-1,by omega,?_⟩
  refine gV ?_
  refine ⟨xs.length,rfl,?_⟩
  refine gV ?_
  refine ⟨by simp;omega,?_⟩
  refine gV ?_
  refine ⟨[],[0],⟨rfl,rfl⟩,?_⟩;conv=>whnf
  refine ⟨?_,?_⟩
  .show Res.ret (.sub 0 0 0 (i+(xs.length-(i+1))) 11)=_
   rw [show i+(xs.length-(i+1))=xs.length-1 from by omega]
  .have h:=del_list (pav xs) i (by rw [a];exact d) (aBD 0 0).av
   rw [a] at h
   have c:(pav xs).eraseIdx i=pav (xs.eraseIdx i):=by simp only [pav,Ey,Cc,Ht,Hu]
   rw [c] at h
   exact congrArg (fun l=>[AObj.row 0 11 78 l]) h
theorem IL (xs ys:List AVal) (lo len:Nat):aA Tryz.prog 234 [.row 0 0,.sub 1 0 lo len 11] [.row 0 11 78 xs,.row 0 11 78 ys] (.ret (.bool false)) [.row 0 11 78 xs,.row 0 11 78 ys]:=
 MD (fn:=Tryz.f234) (tS:=27) (tR:=4) (e:=78) (by kernel_rfl) (by kernel_rfl) (by kernel_rfl) (by kernel_rfl) (by kernel_rfl) (by kernel_rfl) (by kernel_rfl) d_ xs ys lo len
theorem AD {α:Type} (xs ys:List α) (lo len q:Nat) (h:lo+len<=xs.length):(xs.take lo++ys.take len++xs.drop (lo+min ys.length len))[q]? =if lo<=q/\q<lo+min ys.length len then ys[q-lo]? else xs[q]?:=by
 have a:(xs.take lo).length=lo:=by simp;omega
 have c:(ys.take len).length=min ys.length len:=by rw [Fz,Nat.min_comm]
 by_cases h1:q<lo
 .rw [if_neg o_,Aj,Af o_,Bg h1]
 .by_cases b:q<lo+min ys.length len
  .rw [if_pos ⟨by omega,b⟩,Af (by rw [Ay];omega),Ak o_,a,Bg o_]
  .rw [if_neg o_,Ak (by rw [Ay];omega),Ay,a,c,Bv]
   congr 1
   omega
theorem UF {α:Type} (l:List α) (p:α) (i q:Nat) (c:i<=l.length):(l.take i++[p]++l.drop i)[q]? =if q<i then l[q]? else if q=i then some p else l[q-1]?:=by
 have b:(l.take i).length=i:=by simp;omega
 by_cases h1:q<i
 .rw [if_pos h1,Aj,Af o_,Bg h1]
 .rw [if_neg h1,Aj,Ak o_,b]
  by_cases a:q=i
  .rw [if_pos a,a];simp
  .rw [if_neg a,show q-i=(q-1-i)+1 from by omega]
   show (l.drop i)[q-1-i]? =_
   rw [Bv]
   congr 1
   omega
theorem QL {α:Type} (l L:List α) (p:α) (i:Nat) (k:i<l.length) (j:L.length=l.length+1) (hl:∀ q,q<l.length->L[q]? =l[q]?):
  ∀ A B,A=L.take (i+1)++((L.drop i).take (L.length-i)).take (L.length-(i+1))++L.drop (i+1+min ((L.drop i).take (L.length-i)).length (L.length-(i+1)))->
   B=A.take i++[p].take (A.length-i)++A.drop (i+min [p].length (A.length-i))->B=l.take i++[p]++l.drop i:=by
 intro A B d e
 have f:((L.drop i).take (L.length-i)).length=l.length+1-i:=by simp;omega
 have c:∀ q,A[q]? =if i+1<=q/\q<l.length+1 then L[q-1]? else L[q]?:=fun q=>by
  rw [d,AD _ _ _ _ _ o_,f,j]
  by_cases h:i+1<=q/\q<l.length+1
  .rw [if_pos o_,if_pos h,Bg o_,Bv]
   congr 1
   omega
  .rw [if_neg o_,if_neg h]
 have b:A.length=l.length+1:=by rw [d];simp;omega
 refine Ek fun q=>?_
 rw [UF _ _ _ _ o_,e,AD _ _ _ _ _ o_]
 have g:min [p].length (A.length-i)=1:=by rw [b];simp;omega
 rw [g]
 by_cases h1:q<i
 .rw [if_neg o_,if_pos h1,c,if_neg o_,hl q o_]
 .rw [if_neg h1]
  by_cases a:q=i
  .rw [if_pos o_,if_pos a,a];simp
  .rw [if_neg o_,if_neg a,c]
   by_cases h3:q<l.length+1
   .rw [if_pos o_,hl _ o_]
   .rw [if_neg o_,Bh o_,Bh o_]
theorem aFJ {α:Type} (l L:List α) (p:α) (i:Nat) (k:i<l.length) (j:L.length=l.length+1) (hl:∀ q,q<i->L[q]? =l[q]?):
  ∀ A B,A=L.take i++[p].take (L.length-i)++L.drop (i+min [p].length (L.length-i))->
   B=A.take (i+1)++((l.drop i).take (l.length-i)).take (A.length-(i+1))++A.drop (i+1+min ((l.drop i).take (l.length-i)).length (A.length-(i+1)))->B=l.take i++[p]++l.drop i:=by
 intro A B d e
 have f:((l.drop i).take (l.length-i)).length=l.length-i:=by simp
 have g:min [p].length (L.length-i)=1:=by rw [j];simp;omega
 have b:∀ q,A[q]? =if q=i then some p else L[q]?:=fun q=>by
  rw [d,AD _ _ _ _ _ o_,g]
  by_cases h:q=i
  .rw [if_pos o_,if_pos h,h];simp
  .rw [if_neg o_,if_neg h]
 have c:A.length=l.length+1:=by rw [d];simp;omega
 refine Ek fun q=>?_
 rw [UF _ _ _ _ o_,e,AD _ _ _ _ _ o_,f,c,show min (l.length-i) (l.length+1-(i+1))=l.length-i from by omega]
 by_cases h1:q<i
 .rw [if_neg o_,if_pos h1,b,if_neg o_,hl q h1]
 .rw [if_neg h1]
  by_cases a:q=i
  .rw [if_neg o_,if_pos a,b,if_pos a]
  .rw [if_neg a]
   by_cases h3:q<l.length+1
   .rw [if_pos o_,Bg o_,Bv]
    congr 1
    omega
   .rw [if_neg o_,b,if_neg a,Bh o_,Bh o_]
theorem mP {n:Nat} (h:n<=1000001):zU n 88:=⟨by simp only [maxLen];omega,by omega⟩
theorem F9 (xs:List Pend) (p:Pend) (i:Nat) (hi:i<=xs.length) (hx:xs.length<=1000000):
  aA Tryz.prog 176 [.row 0 0,.int .i64 i,.row 1 0] [.row 0 11 78 (pav xs),.row 0 11 78 [p.av]]
  (.ret (.row 0 1)) [.row 1 11 78 (pav (xs.take i++[p]++xs.drop i)),.row 0 11 78 [p.av]]:=by
 have hlen:(pav xs).length=xs.length:=by simp
 refine cT (E:=(Er [60] [])) (fn:=Tryz.f176) (g:=.full 2 _ _) fun _=>?_
 refine To.cap (t:=0) rfl rfl fun c hc hcm=>?_
 rw [hlen] at hc
 refine gV ?_
 refine ⟨i,rfl,?_⟩
 refine gV ?_
 rw [hlen]
 refine ⟨hi,?_⟩
 refine gV ?_
 refine ⟨fun h=>?_,fun h=>?_⟩
 .cases h
 .refine gV ?_
  refine ⟨fun h=>?_,fun h=>?_⟩
  .refine gV ?_
   have hi2:i=xs.length:=by have:(i:Int)=xs.length:=by simpa using h
                            omega
   refine ⟨by rw [hlen];exact mP q_,?_⟩
   refine gV ?_
   refine ⟨[],[0,1],⟨rfl,rfl⟩,?_⟩;conv=>whnf
   refine ⟨rfl,?_⟩
   have:pav (xs.take i++[p]++xs.drop i)=pav xs++[p.av]:=by simp [hi2]
   rw [this]
   rfl
  .have hi2:i<xs.length:=by
    have:¬ (i:Int)=xs.length:=by simpa using h
    omega
   refine gV ?_
   have h1:([p.av].length)=1:=rfl
   rw [hlen,h1]
   refine .inl ⟨vR o_ o_,?_⟩
   refine gV ?_
   refine ⟨fun h=>?_,fun h=>?_⟩
   .have hg:c<xs.length+1:=by
     have:=of_decide_eq_true h
     omega
    refine gV ?_
    refine ⟨i,rfl,?_⟩
    refine gV ?_
    refine ⟨⟨by simp;omega,by omega⟩,?_⟩
    refine gV ?_
    refine .inl ⟨vR o_ o_,?_⟩
    refine gV ?_
    refine .inl ⟨vR o_ o_,?_⟩
    refine gV ?_
    refine ⟨xs.length+1-i,by omega,?_⟩
    refine gV ?_
    refine ⟨⟨by omega,mP o_⟩,?_⟩
    refine gV ?_
    refine ⟨i,rfl,?_⟩
    refine gV ?_
    have hL:(Et i (pav xs)++Ai (xs.length+1-i) (aBD 0 0).av).length=xs.length+1:=by simp;omega
    refine ⟨by simp;omega,?_⟩
    refine gV ?_
    refine .inl ⟨vR o_ o_,?_⟩
    refine gV ?_
    refine ⟨i+1,by push_cast;rfl,?_⟩
    refine gV ?_
    refine ⟨by simp;omega,?_⟩
    refine gV ?_
    refine ⟨i,rfl,?_⟩
    refine gV ?_
    refine ⟨by simp;omega,?_⟩
    refine cD (hEr [60] []) 7 ?_;conv=>whnf
    refine To.become (j:=0) (k:=2) [9] rfl rfl rfl rfl ?_
    refine gV ?_
    refine ⟨[],[0,1],⟨rfl,rfl⟩,?_⟩;conv=>whnf
    refine ⟨rfl,?_⟩
    have h:=aFJ (pav xs) _ p.av i (by rw [hlen];exact hi2) (by rw [hL,hlen]) (fun q hq=>by rw [Af q_,Bg hq]) _ _ rfl rfl
    exact zqca6
   .have hg:xs.length+1<=c:=by
     have:=of_decide_eq_false h
     omega
    refine gV ?_
    refine .inl ⟨vR o_ o_,?_⟩
    refine gV ?_
    refine ⟨xs.length+1,by push_cast;rfl,?_⟩
    refine gV ?_
    refine ⟨⟨by simp,hg⟩,?_⟩
    refine gV ?_
    refine .inl ⟨vR o_ o_,?_⟩
    refine gV ?_
    refine ⟨i+1,by push_cast;rfl,?_⟩
    refine gV ?_
    refine ⟨by simp;omega,?_⟩
    refine gV ?_
    refine .eff [] [1,0] _ _ rfl (IL _ _ _ _) ?_
    refine gV ?_
    refine ⟨fun h=>?_,fun h=>?_⟩
    .refine gV ?_
     refine .inl ⟨vR o_ o_,?_⟩
     refine gV ?_
     refine ⟨i+1,by push_cast;rfl,?_⟩
     refine gV ?_
     refine ⟨by simp;omega,?_⟩
     refine gV ?_
     refine ⟨i,rfl,?_⟩
     refine gV ?_
     refine ⟨by simp;omega,?_⟩
     refine gV ?_
     refine ⟨i,rfl,?_⟩
     refine gV ?_
     refine ⟨by simp;omega,?_⟩
     refine gV ?_
     refine ⟨[],[0,1],⟨rfl,rfl⟩,?_⟩;conv=>whnf
     refine ⟨rfl,?_⟩
     have hL:(pav xs++Ai (xs.length+1-(pav xs).length) (AVal.agg (Ai 11 AVal.undef))).length=(pav xs).length+1:=by simp
     have h:=QL (pav xs) _ p.av i (by rw [hlen];exact hi2) hL (fun q hq=>by rw [Af hq]) _ _ rfl rfl
     exact zqca6
    .cases h
def putAt (p:Pend) (l:List Pend):Nat:=if idx (fun x=>decide (p.seq<x.seq)) l 0<0 then l.length else (idx (fun x=>decide (p.seq<x.seq)) l 0).toNat
def putP (l:List Pend) (p:Pend):List Pend:=l.take (putAt p l)++[p]++l.drop (putAt p l)
def takeP (l:List Pend) (a:Int):List Pend:=if findP a l<0 then l else l.eraseIdx (findP a l).toNat
theorem rW (p:Pend->Bool):∀ (l:List Pend) (i:Int),idx p l i= -1\/(i<=idx p l i/\idx p l i<i+l.length)
 | [],i=>.inl rfl
 | x::r,i=>by
  unfold idx
  split
  .right;simp;omega
  .rcases rW p r (i+1) with h | h
   .exact .inl h
   .right;simp;omega
theorem put_ok (l:List Pend) (p:Pend) (hl:l.length<=1000000):aA Tryz.prog 110 [.slice 11 (pav l) .no,p.av] [] (.ret (.slice 11 (pav (putP l p)) .no)) []:=by
 have a:(pav l).length=l.length:=by simp
 refine cT (E:=(Er [17] [])) (fn:=Tryz.f110) (g:=.pure _) fun _=>?_
 refine gV ?_
 refine .pure _ [] (ND _ _ l (fun x=>decide (p.seq<x.seq)) fun x _=>aE4 x p) ?_
 refine gV ?_
 have fin:∀ (i:Nat),i=putAt p l->i<=l.length:=fun i c=>by
  subst c
  unfold putAt
  rcases rW (fun x=>decide (p.seq<x.seq)) l 0 with h | h
  .rw [if_pos o_]
   exact Ba _
  .rw [if_neg o_];omega
 refine ⟨fun h=>?_,fun h=>?_⟩
 .have b:putAt p l=l.length:=if_pos (of_decide_eq_true h)
  refine gV ?_
  refine .pure _ _ (D2 l hl) ?_
  refine gV ?_
  rw [a]
  refine .sole rfl (.eff [] [1,2] _ _ rfl (F9 l p l.length (Ba _) hl) ?_)
  refine gV ?_
  rw [<-b]
  rfl
 .have b:idx (fun x=>decide (p.seq<x.seq)) l 0=((putAt p l:Nat):Int):=by
   have:=of_decide_eq_false h
   unfold putAt
   rw [if_neg this]
   omega
  rw [b]
  refine gV ?_
  refine .pure _ _ (D2 l hl) ?_
  refine gV ?_
  refine .sole rfl (.eff [] [1,2] _ _ rfl (F9 l p (putAt p l) (fin _ rfl) hl) ?_)
  refine gV ?_
  rfl
theorem take_ok (l:List Pend) (a:Int) (hl:l.length<=1000000):aA Tryz.prog 42 [.slice 11 (pav l) .no,.int .i64 a] [] (.ret (.tup [.slice 11 (pav (takeP l a)) .no,.bool (!decide (findP a l<0))])) []:=by
 refine c_ Tryz.f42 fun _=>?_
 refine gV ?_
 refine .pure _ _ (D2 l hl) ?_
 refine gV ?_
 refine .pure _ [] (find_ok l a) ?_
 refine gV ?_
 refine ⟨fun h=>?_,fun h=>?_⟩
 .exact zqca20
 .have c:=of_decide_eq_false h
  have j:findP a l<l.length:=by
   exact zqca18
  have i:findP a l=(((findP a l).toNat:Nat):Int):=o_
  have e:takeP l a=l.eraseIdx (findP a l).toNat:=if_neg c
  rw [h,e]
  obtain ⟨k,d⟩:∃ k:Nat,findP a l=(k:Int):=⟨_,i⟩
  have b:k<l.length:=o_
  rw [d,Cz]
  refine gV ?_
  refine .inl ⟨vR o_ o_,?_⟩
  refine gV ?_
  refine .eff [] [0] _ _ rfl (YW l k b hl) ?_
  refine gV ?_
  have:Et (l.length-1) (Fp 0 (pav (l.eraseIdx k)++[(aBD 0 0).av]))=pav (l.eraseIdx k):=by
   rw [Bn,Db (by simp [Ke,b]),Cb (by simp [Ke,b])]
  have h3:Res.ret (.tup [.slice 11 (Et (l.length-1) (Fp 0 (pav (l.eraseIdx k)++[(aBD 0 0).av]))) .no,.bool true])=Res.ret (.tup [.slice 11 (pav (l.eraseIdx k)) .no,.bool (!false)]):=by rw [this];rfl
  exact h3
theorem I9 (xs:List Pend) (a:Int) (hl:((pav xs).length:Int)<=9223372036854775807) (r:Int):∀ (n i:Nat),i+n=xs.length->idx (fun x=>x.id==a) (xs.drop i) i=r->
  To E Tryz.f26 (.pure (.ret (.int .i64 r))) (.head (stk Tryz.f26 0) [(0,.slice 11 (pav xs) .no),(1,.int .i64 a),(5,.int .i64 i)] []):=by
 have e:(pav xs).length=xs.length:=by simp
 intro n
 induction n with
 | zero=>
  intro i k b
  refine gV ?_
  refine ⟨fun h=>?_,fun h=>?_⟩
  .exact zqca14
  .refine gV ?_
   rw [Ae o_] at b
   rw [<-b]
   rfl
 | succ n j=>
  intro i k b
  have c:i<xs.length:=o_
  refine gV ?_
  refine ⟨fun h=>?_,fun h=>?_⟩
  .refine gV ?_
   refine ⟨i,rfl,?_⟩
   refine gV ?_
   refine ⟨_,kP c,?_⟩
   refine gV ?_
   rw [Ac c] at b
   have b:(if xs[i].id==a then (i:Int) else idx (fun x=>x.id==a) (xs.drop (i+1)) ((i:Int)+1))=r:=b
   refine ⟨fun d=>?_,fun d=>?_⟩
   .refine gV ?_
    rw [if_pos d] at b
    rw [b]
   .refine gV ?_
    rw [if_neg (by rw [d];simp)] at b
    refine .inl ⟨vR o_ o_,?_⟩
    have g:=j (i+1) o_ (by rw [<-b];push_cast;rfl)
    exact zW
  .exact zqca13
theorem findref_ok (xs:List Pend) (a:Int):aA Tryz.prog 26 [.slice 11 (pav xs) .no,.int .i64 a] [] (.ret (.int .i64 (findP a xs))) []:=by
 refine c_ Tryz.f26 fun b=>?_
 refine gV ?_
 refine To.head [0,1,5] ?_
 exact I9 xs a b.1 _ xs.length 0 o_ (by simp [findP])
theorem BF {α:Type} (l:List α) (k:Nat):(l.take k).length<=l.length:=by simp;omega
theorem takeref_ok (l:List Pend) (a:Int) (hl:l.length<=1000000):aA Tryz.prog 27 [.slice 11 (pav l) .no,.int .i64 a] [] (.ret (.tup [.slice 11 (pav (takeP l a)) .no,.bool (!decide (findP a l<0))])) []:=by
 have b:(pav l).length=l.length:=by simp
 refine c_ Tryz.f27 fun _=>?_
 refine gV ?_
 refine .pure _ [] (findref_ok l a) ?_
 refine gV ?_
 refine ⟨fun h=>?_,fun h=>?_⟩
 .refine gV ?_
  refine ⟨xL (by rw [b];exact hl),?_⟩
  exact zqca20
 .have c:=of_decide_eq_false h
  have j:findP a l<l.length:=by
   exact zqca18
  have e:takeP l a=l.eraseIdx (findP a l).toNat:=if_neg c
  rw [h,e]
  obtain ⟨k,d⟩:∃ k:Nat,findP a l=(k:Int):=⟨(findP a l).toNat,by omega⟩
  have i:k<l.length:=o_
  rw [d,Cz]
  refine gV ?_
  refine ⟨k,rfl,?_⟩
  refine gV ?_
  refine ⟨by rw [b];omega,?_⟩
  refine gV ?_
  refine ⟨xL (by have:=BF (pav l) k;omega),?_⟩
  refine gV ?_
  refine .inl ⟨vR o_ o_,?_⟩
  refine gV ?_
  refine ⟨k+1,by push_cast;rfl,?_⟩
  refine gV ?_
  refine ⟨by rw [b];omega,?_⟩
  refine gV ?_
  refine ⟨xL q_,?_⟩
  refine gV ?_
  have:Et k (pav l)++Fp (k+1) (pav l)=pav (l.eraseIdx k):=by simp only [pav,Ey,Cc,Ht,Hu]
  rw [this]
  rfl
theorem XH {p:Pend} {l:List Pend} {i:Nat} (h:idx (fun x=>decide (p.seq<x.seq)) l 0=(i:Int)):putAt p l=i:=by
 unfold putAt
 rw [h,if_neg o_]
 rfl
theorem P4 {p:Pend} {l:List Pend} (h:idx (fun x=>decide (p.seq<x.seq)) l 0= -1):putAt p l=l.length:=by
 unfold putAt
 rw [h,if_pos o_]
theorem LV (l:List Pend) (p:Pend) (hl:l.length<=1000000):∀ (n i:Nat),i+n=l.length->idx (fun x=>decide (p.seq<x.seq)) (l.drop i) i=idx (fun x=>decide (p.seq<x.seq)) l 0->
  To (Er [] [29,30,31]) Tryz.f66 (.pure (.ret (.slice 11 (pav (putP l p)) .no))) (.head (stk Tryz.f66 0) [(0,.slice 11 (pav l) .no),(3,.ref 0 0),(5,.int .i64 i)] [.cells 78 p.cs]):=by
 have a:(pav l).length=l.length:=by simp
 intro n
 induction n with
 | zero=>
  intro i j b
  refine gV ?_
  refine ⟨fun h=>?_,fun h=>?_⟩
  .exact zqca14
  .refine gV ?_
   refine ⟨fun d=>(by cases d),fun _=>?_⟩
   have hp:putAt p l=i:=by
    rw [P4]
    .omega
    .rw [<-b,Ae o_];rfl
   exact zqca1
 | succ n g=>
  intro i j b
  have c:i<l.length:=o_
  refine gV ?_
  refine ⟨fun h=>?_,fun h=>?_⟩
  .refine gV ?_
   refine ⟨i,rfl,?_⟩
   refine gV ?_
   refine ⟨_,kP c,?_⟩
   refine gV ?_
   rw [Ac c] at b
   have b:(if decide (p.seq<l[i].seq) then (i:Int) else idx (fun x=>decide (p.seq<x.seq)) (l.drop (i+1)) ((i:Int)+1))=idx (fun x=>decide (p.seq<x.seq)) l 0:=b
   refine ⟨fun d=>?_,fun d=>?_⟩
   .refine gV ?_
    have h3:=of_decide_eq_true d
    rw [if_neg q_] at b
    refine .inl ⟨vR o_ o_,?_⟩
    have e:=g (i+1) o_ (by rw [<-b];push_cast;rfl)
    exact zW
   .have h3:=of_decide_eq_false d
    rw [if_pos q_] at b
    have hp:putAt p l=i:=XH b.symm
    exact zqca1
  .exact zqca13
theorem putref_ok (l:List Pend) (p:Pend) (hl:l.length<=1000000):aA Tryz.prog 66 [.slice 11 (pav l) .no,p.av] [] (.ret (.slice 11 (pav (putP l p)) .no)) []:=by
 refine cT (E:=(Er [] [29,30,31])) (fn:=Tryz.f66) (g:=.pure _) fun _=>?_
 have a:=LV l p hl l.length 0 o_ s_
 exact zW
def qAb (l:List Pend) (i:Nat):Bool:=match l[i]?,l[i-1]? with
 | some c,some p=>!((decide (0<i)&& !decide (p.seq<c.seq))||(findP c.id l !=(i:Int)))
 | _,_=>true
def hZ (l:List Pend):Nat->Nat->Bool
 | 0,_=>true
 | n+1,i=>qAb l i&&hZ l n (i+1)
def checkP (l:List Pend):Bool:=hZ l l.length 0
theorem EY (l:List Pend) (hl:l.length<=1000000) (r:Bool):∀ (n i:Nat),i+n=l.length->hZ l n i=r->
  To E Tryz.f91 (.pure (.ret (.bool r))) (.head (stk Tryz.f91 0) [(0,.slice 11 (pav l) .no),(3,.int .i64 i)] []):=by
 have o:(pav l).length=l.length:=by simp
 intro n
 induction n with
 | zero=>
  intro i q c
  refine gV ?_
  refine ⟨fun h=>?_,fun h=>?_⟩
  .exact zqca14
  .refine gV ?_
   rw [<-c]
   rfl
 | succ n s=>
  intro i q c
  have d:i<l.length:=o_
  have c:(qAb l i&&hZ l n (i+1))=r:=c
  have back:hZ l n (i+1)=r->inR .i64 ((i:Int)+1)/\To E Tryz.f91 (.pure (.ret (.bool r))) (.head (stk Tryz.f91 0) [(0,.slice 11 (pav l) .no),(3,.int .i64 ((i:Int)+1))] []):=fun h=>
   ⟨vR o_ o_,by have:=s (i+1) o_ h;push_cast at this;exact this⟩
  refine gV ?_
  refine ⟨fun h=>?_,fun h=>?_⟩
  .refine gV ?_
   refine ⟨fun h1=>?_,fun h1=>?_⟩
   .have g:0<i:=by have:=of_decide_eq_true h1;omega
    have b:i-1<l.length:=o_
    have a:qAb l i= !((true&& !decide (l[i-1].seq<l[i].seq))||(findP l[i].id l !=(i:Int))):=by
     unfold qAb
     rw [Ab d,Ab b,decide_eq_true g]
    have k:(!decide (l[i-1].seq<l[i].seq))=decide (l[i].seq<=l[i-1].seq):=by
     by_cases m:l[i-1].seq<l[i].seq
     .rw [decide_eq_true m,decide_eq_false o_];rfl
     .rw [decide_eq_false m,decide_eq_true o_];rfl
    rw [k] at a
    refine gV ?_
    refine ⟨i,rfl,?_⟩
    refine gV ?_
    refine ⟨_,kP d,?_⟩
    refine gV ?_
    refine .inl ⟨vR o_ o_,?_⟩
    refine gV ?_
    refine ⟨i-1,by omega,?_⟩
    refine gV ?_
    refine ⟨_,kP b,?_⟩
    refine gV ?_
    refine ⟨fun e=>?_,fun e=>?_⟩
    .refine gV ?_
     refine ⟨fun _=>?_,fun h3=>(by cases h3)⟩
     refine gV ?_
     rw [a,e] at c
     rw [<-c]
     rfl
    .refine gV ?_
     refine ⟨i,rfl,?_⟩
     refine gV ?_
     refine ⟨_,kP d,?_⟩
     refine gV ?_
     refine .pure _ [] (findref_ok _ _) ?_
     refine gV ?_
     refine ⟨fun h3=>?_,fun h3=>?_⟩
     .refine gV ?_
      rw [a,e,h3] at c
      rw [<-c]
      rfl
     .refine gV ?_
      rw [a,e,h3] at c
      obtain ⟨j,t⟩:=back c
      refine .inl ⟨j,?_⟩
      exact zW
   .have p:i=0:=by have:=of_decide_eq_false h1;omega
    have a:qAb l i= !((false&&false)||(findP l[i].id l !=(i:Int))):=by
     unfold qAb
     have b:i-1<l.length:=o_
     rw [Ab d,Ab b]
     subst p
     simp
    refine gV ?_
    refine ⟨fun e=>(by cases e),fun _=>?_⟩
    refine gV ?_
    refine ⟨i,rfl,?_⟩
    refine gV ?_
    refine ⟨_,kP d,?_⟩
    refine gV ?_
    refine .pure _ [] (findref_ok _ _) ?_
    refine gV ?_
    refine ⟨fun h3=>?_,fun h3=>?_⟩
    .refine gV ?_
     rw [a,h3] at c
     rw [<-c]
     rfl
    .refine gV ?_
     rw [a,h3] at c
     obtain ⟨j,t⟩:=back c
     refine .inl ⟨j,?_⟩
     exact zW
  .exact zqca13
theorem checkref_ok (l:List Pend) (hl:l.length<=1000000):aA Tryz.prog 91 [.slice 11 (pav l) .no] [] (.ret (.bool (checkP l))) []:=by
 refine c_ Tryz.f91 fun _=>?_
 have a:=EY l hl _ l.length 0 o_ rfl
 exact zW
def eqP (x y:Pend):Bool:=(x.id==y.id)&&((x.tenant==y.tenant)&&((x.pods==y.pods)&&((x.n0==y.n0)&&((x.n1==y.n1)&&((x.n2==y.n2)&&((x.run==y.run)&&((x.level==y.level)&&((x.prefer==y.prefer)&&((x.seq==y.seq)&&((x.since==y.since)&&true))))))))))
theorem VE {x y:Pend}:eqP x y=true↔x=y:=by
 obtain ⟨l,i,g,n,q,h,c,r,f,m,a⟩:=x
 obtain ⟨p,e,u,t,j,k,d,v,o,s,b⟩:=y
 simp [eqP]
theorem WR (a b:List Pend) (o:a.length=b.length) (hl:((pav a).length:Int)<=9223372036854775807) (r:Bool):∀ (n i:Nat),i+n=a.length->decide (a.drop i=b.drop i)=r->
  To E Tryz.f46 (.pure (.ret (.bool r))) (.head (stk Tryz.f46 0) [(0,.slice 11 (pav a) .no),(1,.slice 11 (pav b) .no),(5,.int .i64 i)] []):=by
 have l:(pav a).length=a.length:=by simp
 intro n
 induction n with
 | zero=>
  intro i p d
  refine gV ?_
  refine ⟨fun h=>?_,fun h=>?_⟩
  .exact zqca14
  .refine gV ?_
   rw [Ae o_,Ae o_] at d
   rw [<-d]
   rfl
 | succ n q=>
  intro i p d
  have g:i<a.length:=o_
  have c:i<b.length:=o_
  rw [Ac g,Ac c] at d
  refine gV ?_
  refine ⟨fun h=>?_,fun h=>?_⟩
  .refine gV ?_
   refine ⟨i,rfl,?_⟩
   refine gV ?_
   refine ⟨_,kP g,?_⟩
   refine gV ?_
   refine ⟨i,rfl,?_⟩
   refine gV ?_
   refine ⟨_,kP c,?_⟩
   refine gV ?_
   refine ⟨fun j=>?_,fun j=>?_⟩
   .have h3:(!eqP a[i] b[i])=true:=j
    refine gV ?_
    have k:a[i]≠b[i]:=fun e=>by rw [VE.2 e] at h3;cases h3
    rw [<-d,decide_eq_false fun e=>k (Dt e).1]
   .have h3:(!eqP a[i] b[i])=false:=j
    have m:a[i]=b[i]:=VE.1 (by simpa using h3)
    refine gV ?_
    refine .inl ⟨vR o_ o_,?_⟩
    refine gV ?_
    refine To.head [0,1,5] ?_
    have:=q (i+1) o_ (by rw [<-d,m];exact decide_eq_decide.2 ⟨fun e=>by rw [e],fun e=>(Dt e).2⟩)
    push_cast at this
    exact this
  .exact zqca13
theorem same_ok (a b:List Pend):aA Tryz.prog 46 [.slice 11 (pav a) .no,.slice 11 (pav b) .no] [] (.ret (.bool (decide (a=b)))) []:=by
 have j:(pav a).length=a.length:=by simp
 have c:(pav b).length=b.length:=by simp
 refine c_ Tryz.f46 fun k=>?_
 refine gV ?_
 refine ⟨fun h=>?_,fun h=>?_⟩
 .refine gV ?_
  have d:a≠b:=fun e=>by subst e;simp at h
  rw [decide_eq_false d]
 .have i:a.length=b.length:=by
   have:((a.length:Nat):Int)=b.length:=by simpa using h
   omega
  refine gV ?_
  refine To.head [0,1,5] ?_
  exact WR a b i k.1 _ a.length 0 o_ s_
theorem C1 (p:Pend->Bool):∀ (l:List Pend) (i:Int) (k:Nat) (h:k<l.length),p l[k]=true->(∀ (j:Nat) (a:j<l.length),j<k->p l[j]=false)->idx p l i=i+k
 | [],i,k,h,_,_=>by simp at h
 | x::r,i,0,h,h1,_=>by
  have:p x=true:=h1
  simp [idx,this]
 | x::r,i,k+1,h,h1,h2=>by
  have b:p x=false:=h2 0 s_ o_
  have:=C1 p r (i+1) k (by simpa using h) (by simpa using h1) (fun j a c=>by have:=h2 (j+1) (by simpa using a) o_;simpa using this)
  unfold idx
  rw [if_neg (by rw [b];simp),this]
  push_cast
  omega
theorem aCj {p:Pend->Bool}:∀ {l:List Pend} {i:Int} {k:Nat} (h:k<l.length),p l[k]=true->idx p l i<=i+k
 | [],i,k,h,_=>by simp at h
 | x::r,i,0,h,h1=>by
  have:p x=true:=h1
  simp [idx,this]
 | x::r,i,k+1,h,h1=>by
  unfold idx
  split
  .omega
  .have:=aCj (l:=r) (i:=i+1) (k:=k) (by simpa using h) (by simpa using h1)
   push_cast at this⊢
   omega
structure Good (l:List Pend):Prop where
 seq:l.Pairwise fun a b=>a.seq<b.seq
 id:l.Pairwise fun a b=>a.id≠b.id
theorem sV {l:List Pend}:∀ {n i:Nat},hZ l n i=true↔ ∀ j,i<=j->j<i+n->qAb l j=true
 | 0,i=>by simp [hZ];omega
 | n+1,i=>by
  simp only [hZ,Ag,sV (n:=n) (i:=i+1)]
  constructor
  .rintro ⟨h1,a⟩ j c b
   by_cases h:j=i
   .subst h;exact h1
   .exact a j o_ o_
  .intro h
   exact ⟨h i (Ba _) o_,fun j h1 a=>h j o_ o_⟩
theorem CH {l:List Pend} {j:Nat} (c:j<l.length):qAb l j=true↔(∀ (h:0<j),(l[j-1]' o_).seq<l[j].seq)/\findP l[j].id l=(j:Int):=by
 have b:j-1<l.length:=o_
 unfold qAb
 rw [Ab c,Ab b]
 simp only [Bool.not_or,Ag,Eb,bne_eq_false_iff_eq,Bool.and_eq_false_iff,decide_eq_false_iff_not]
 constructor
 .rintro ⟨h1,a⟩
  refine ⟨fun h=>?_,a⟩
  rcases h1 with h1 | h1
  .exact absurd h h1
  .simpa using h1
 .rintro ⟨h1,a⟩
  refine ⟨?_,a⟩
  by_cases h:0<j
  .right;simpa using h1 h
  .exact .inl h
theorem check_good {l:List Pend}:checkP l=true↔Good l:=by
 unfold checkP
 rw [sV]
 constructor
 .intro h
  have hs:∀ (j i:Nat) (b:j<l.length) (c:i<j),(l[i]' o_).seq<l[j].seq:=by
   intro j
   induction j with
   | zero=>intro i _ c;omega
   | succ j f=>
    intro i b c
    have h1:=((CH b).1 (h (j+1) o_ o_)).1 o_
    have h1:(l[j]' o_).seq<(l[j+1]).seq:=h1
    by_cases a:i=j
    .subst a;exact h1
    .exact Int.lt_trans (f i o_ o_) h1
  refine ⟨Dn.2 fun i j c b a=>hs j i b a,Dn.2 fun i j c b a e=>?_⟩
  have d:=((CH b).1 (h j o_ o_)).2
  have:=aCj (p:=fun x=>x.id==l[j].id) (l:=l) (i:=0) (k:=i) c (by simpa using e)
  unfold findP at d
  omega
 .intro h j _ b
  have b:j<l.length:=o_
  refine (CH b).2 ⟨fun g=>Dn.1 h.seq _ _ o_ b o_,?_⟩
  have:=C1 (fun x=>x.id==l[j].id) l 0 j b s_ fun i c a=>by
   have:=Dn.1 h.id i j c b a
   simpa using this
  unfold findP
  omega
def insP (p:Pend):List Pend->List Pend
 | []=>[p]
 | x::r=>if p.seq<x.seq then p::x::r else x::insP p r
theorem P5 (p x:Pend) (r:List Pend):putAt p (x::r)=if p.seq<x.seq then 0 else putAt p r+1:=by
 by_cases h:p.seq<x.seq
 .rw [if_pos h]
  have:idx (fun x=>decide (p.seq<x.seq)) (x::r) 0=0:=by unfold idx;rw [if_pos (by simpa using h)]
  unfold putAt
  rw [this]
  rfl
 .rw [if_neg h]
  have e:idx (fun x=>decide (p.seq<x.seq)) (x::r) 0=idx (fun x=>decide (p.seq<x.seq)) r 1:=by
   conv=>lhs;unfold idx
   rw [if_neg (by simpa using h)]
   rfl
  have d:∀ (q:Pend->Bool) (l:List Pend) (i:Int),(idx q l i= -1/\idx q l (i+1)= -1)\/(i<=idx q l i/\idx q l (i+1)=idx q l i+1):=by
   intro q l
   induction l with
   | nil=>intro i;exact .inl ⟨rfl,rfl⟩
   | cons y t c=>
    intro i
    unfold idx
    by_cases a:q y=true
    .rw [if_pos a,if_pos a];right;omega
    .rw [if_neg a,if_neg a]
     rcases c (i+1) with h | h
     .exact .inl h
     .right;omega
  rcases d (fun x=>decide (p.seq<x.seq)) r 0 with ⟨h1,b⟩ | ⟨h1,b⟩
  .unfold putAt
   rw [e,show (1:Int)=0+1 from rfl,b,h1]
   simp
  .unfold putAt
   rw [e,show (1:Int)=0+1 from rfl,b,if_neg o_,if_neg o_]
   omega
theorem putP_ins (p:Pend):∀ (l:List Pend),putP l p=insP p l
 | []=>rfl
 | x::r=>by
  have a:=putP_ins p r
  unfold putP at a⊢
  rw [P5]
  unfold insP
  by_cases h:p.seq<x.seq
  .rw [if_pos h,if_pos h];rfl
  .rw [if_neg h,if_neg h,<-a];rfl
def shift (n k q:Nat):Nat:=if k<=q then q-k else q+n-k
end Go.Proofs.YticlgfdibfobdaaGreat.Q2
namespace Go.Proofs.YticlgfdibfobdaaGreat
open Go Go.AW Go.Proofs
structure Pn where
 g:Gan
 (seq at':Int)
 deriving DecidableEq
def Pn.cs (x:Pn):List AVal:=[ii x.g.id,ii x.g.ten,ii x.g.pods,ii x.g.need.a,ii x.g.need.b,ii x.g.need.c,ii x.g.run,ii x.g.lev,ii x.g.pref,ii x.seq,ii x.at']
def Pn.av (x:Pn):AVal:=.agg x.cs
abbrev pnv (l:List Pn):List AVal:=l.map Pn.av
theorem rR {l:List Pn} {i:Nat} (h:i<l.length):(pnv l)[i]? =some l[i].av:=by simp [pnv,h]
abbrev fv (l:List Nat):List AVal:=l.map fun x:Nat=>.int .u64 (x:Int)
structure Sta where
 c:Con
 (now nxt:Int)
 pend:List Pn
 run:List Rn
 hist:List Nat
 deriving DecidableEq
def Sta.cs (s:Sta):List AVal:=[.slice 11 (nav s.c.ns) .no,.slice 6 (hav s.c.hs) .no,ii s.c.half,ii s.c.age,ii s.now,ii s.nxt,.slice 11 (pnv s.pend) .no,.slice 14 (rav s.run) .no,.slice 1 (fv s.hist) .no]
def Sta.av (s:Sta):AVal:=.agg s.cs
def nE (c:Con):Bool:=decide (c.ns=[])&&(decide (c.hs=[])&&(decide (c.half=0)&&decide (c.age=0)))
def OK (g:Gan):Bool:=decide (1<=g.id/\g.id<=1073741824/\1<=g.pods/\g.pods<=16)&&(aQ g.need&&decide (1<=g.run/\g.run<=1048576/\0<=g.lev/\g.lev<=3/\0<=g.pref/\g.pref<=g.lev))
def fN (c:Con) (g:Gan):Int:=if OK g=true then (if aX c.ns g.ten=true then 0 else 3) else 1
def Rn.pn (r:Rn):Pn:=⟨r.g,r.seq,r.at'⟩
def rnB (s:Sta) (r:Rn):Bool:=decide ((r.at'<=r.st/\r.st<=s.now)/\s.now<cO r)&&(JU s.c (iK s.c (s.run.filter fun x=>!(x.g.id==r.g.id))) r.g r.hs&&decide ((bE s.c.hs (r.hs.headD 0)).f=r.fl))
def MT (c:Con) (n:Int):V3:=if aX c.ns n=true then dL (iD c.ns n (lL c.ns)) (bR c.ns n).b else iD c.ns n (lL c.ns)
def Pn.q (x:Pn):Q2.Pend:=⟨x.g.id,x.g.ten,x.g.pods,x.g.need.a,x.g.need.b,x.g.need.c,x.g.run,x.g.lev,x.g.pref,x.seq,x.at'⟩
theorem nR (l:List Pn):Q2.pav (l.map Pn.q)=pnv l:=by simp [Q2.pav,pnv,Pn.q,Q2.Pend.av,Q2.Pend.cs,Pn.av,Pn.cs]
def aEM (l:List Pn):Bool:=Q2.checkP (l.map Pn.q)
def ids (s:Sta):List Int:=s.pend.map (fun p=>p.g.id)++s.run.map fun r=>r.g.id
def seqs (s:Sta):List Int:=s.pend.map (fun p=>p.seq)++s.run.map fun r=>r.seq
theorem xK {c:Con} {g:Gan}:fN c g=0↔OK g=true/\aX c.ns g.ten=true:=by
 unfold fN
 cases OK g<;>cases aX c.ns g.ten<;>decide
def BG (p:V3->Int) (u:Int) (x:Rn):Int:=p x.g.need*((x.hs.count u:Nat):Int)
theorem xH {p:V3->Int} (hp:Prj p) (need:V3) (b:0<=p need/\p need<=1048576) (j:Nat):∀ (hs:List Int) (xs:List V3) (v:Int),j<xs.length->v<=cX->p ((xs[j]?).getD V3.zero)=max v (-cX)->p (((hs.foldl (oC need) xs)[j]?).getD V3.zero)=max (v-p need*((hs.count (j:Int):Nat):Int)) (-cX)
 | [],xs,v,_,_,h=>by simpa using h
 | u::r,xs,v,hj,hv,h=>by
  rw [Al]
  have e:=YE need xs u j
  by_cases a:u=(j:Int)
  .subst a
   rw [if_pos ⟨by omega,by omega,by omega⟩] at e
   rw [Mf]
   have hm:p need*(((r.count (j:Int)+1:Nat):Nat):Int)=p need*((r.count (j:Int):Nat):Int)+p need:=by rw [Int.natCast_add,Int.mul_add];simp
   rw [hm]
   have c:p (((oC need xs (j:Int))[j]?).getD V3.zero)=max (v-p need) (-cX):=by
    rw [e,hp.sub,h]
    unfold WK fL cX at *
    omega
   rw [xH hp need b j r _ (v-p need) (by rw [oB];exact hj) o_ c]
   omega
  .rw [if_neg o_] at e
   rw [Mb (by simpa using a)]
   exact xH hp need b j r _ v (by rw [oB];exact hj) hv (by rw [e];exact h)
theorem M9 {p:V3->Int} (hp:Prj p) (j:Nat):∀ (l:List Rn) (xs:List V3) (v:Int),(∀ x∈l,0<=p x.g.need/\p x.g.need<=1048576)->j<xs.length->v<=cX->p ((xs[j]?).getD V3.zero)=max v (-cX)->p (((l.foldl sT xs)[j]?).getD V3.zero)=max (v-cK (l.map (BG p (j:Int)))) (-cX)
 | [],xs,v,_,_,_,h=>by
  show _=max (v-0) _
  rw [Int.sub_zero]
  exact h
 | x::r,xs,v,hn,hj,hv,h=>by
  have a:=hn x (Ax ..)
  have e:=xH hp x.g.need a j x.hs xs v hj hv h
  have hz:0<=p x.g.need*((x.hs.count (j:Int):Nat):Int):=Je a.1 o_
  rw [Al,Bp]
  have b:=M9 hp j r (sT xs x) (v-p x.g.need*((x.hs.count (j:Int):Nat):Int)) (fun y c=>hn y (Bd _ c)) (by rw [rZ];exact hj) o_ e
  rw [b]
  show _=max (v-(BG p (j:Int) x+cK _)) _
  unfold BG
  congr 1
  omega
structure RnOK (s:Sta) (r:Rn):Prop where
 gang:fN s.c r.g=0
 st:0<=r.st/\r.st<=s.now
 chk:JU s.c (iK s.c (s.run.filter fun x=>!(x.g.id==r.g.id))) r.g r.hs=true
theorem aGO {c:Con} {free:List V3} {g:Gan} {hs:List Int} (h:JU c free g hs=true):(hs.length:Int)=g.pods/\∀ u∈hs,0<=u/\u<(free.length:Int)/\((hs.count u:Nat):Int)<=dV ((free[u.toNat]?).getD V3.zero) g.need:=by
 unfold JU at h
 by_cases hl:(hs.length:Int)=g.pods
 .rw [if_pos hl,Ij] at h
  obtain ⟨G,_,b⟩:=h
  refine ⟨hl,fun u f=>?_⟩
  unfold tY UV at b
  simp only [Ag,Cu] at b
  have a:=b.2 u f
  unfold aF2 at a
  by_cases h1:u<0
  .rw [if_pos (decide_eq_true h1)] at a
   cases a
  .rw [if_neg (by rw [decide_eq_false h1];decide)] at a
   by_cases d:(free.length:Int)<=u
   .rw [if_pos (decide_eq_true d)] at a
    cases a
   .rw [if_neg (by rw [decide_eq_false d];decide)] at a
    have e:RU u hs=((hs.count u:Nat):Int):=by unfold RU;rw [JQ];omega
    rw [e] at a
    simp at a
    exact ⟨by omega,by omega,a⟩
 .rw [if_neg hl] at h
  cases h
theorem aCw (c:Con) (l:List Rn):(iK c l).length=c.hs.length:=by
 have key:∀ (l:List Rn) (xs:List V3),(l.foldl sT xs).length=xs.length:=fun l=>by
  induction l with
  | nil=>intro xs;rfl
  | cons x r a=>intro xs;rw [Al,a,rZ]
 unfold iK
 rw [key]
 simp
theorem aJ6 (c:Con) {j:Nat} (a:j<c.hs.length):(((Dh c.hs.length).map fun i:Nat=>(bE c.hs (i:Int)).c)[j]?).getD V3.zero=(bE c.hs (j:Int)).c:=by
 rw [Bj,Dm a]
 rfl
theorem aDA {c:Con} (h:bC c=0) {j:Nat} (b:j<c.hs.length):aQ (bE c.hs (j:Int)).c=true:=by
 unfold bC at h
 split at h
 .split at h
  .split at h
   .rename_i a
    rw [Cu] at a
    have d:bE c.hs (j:Int)=c.hs[j]:=by unfold bE;rw [Cz,Ab b];rfl
    have:=a c.hs[j] (Bb b)
    unfold oA at this
    split at this
    .cases this
    .rw [d];exact this
   .cases h
  .cases h
 .cases h
theorem aFZ {p:V3->Int} (hp:Prj p) {c:Con} (a:∀ j:Nat,j<c.hs.length->0<=p (bE c.hs (j:Int)).c/\p (bE c.hs (j:Int)).c<=1048576) {l:List Rn} (d:∀ x∈l,0<=p x.g.need/\p x.g.need<=1048576) {j:Nat} (b:j<c.hs.length):p (((iK c l)[j]?).getD V3.zero)=max (p (bE c.hs (j:Int)).c-cK (l.map (BG p (j:Int)))) (-cX):=by
 have e:=a j b
 unfold iK
 exact M9 hp j l _ _ d (by simpa using b) (by unfold cX;omega) (by rw [aJ6 c b];unfold cX;omega)
theorem wR {free need:V3} {n:Int} (f:aQ need=true) (h1:1<=n) (h:n<=dV free need):need.a*n<=free.a/\need.b*n<=free.b/\need.c*n<=free.c:=by
 have d:cF need free=true:=by
  cases e:cF need free with
  | true=>rfl
  | false=>
   unfold dV at h
   rw [if_neg (by rw [e];decide)] at h
   omega
 exact ((H7 f d _).1 h).2
set_option maxRecDepth 10000
def fU (n lo a:Int):Bool:=decide (lo<=n)&&decide (n<=a)
theorem fT {n lo a:Int}:fU n lo a=true↔lo<=n/\n<=a:=by unfold fU;simp
theorem iO (n lo a:Int):aA Tryz.prog 75 [ii n,ii lo,ii a] [] (.ret (.bool (fU n lo a))) []:=by
 unfold fU
 by_cases h1:lo<=n
 .rw [decide_eq_true h1,Bo]
  exact c_ Tryz.f75 fun _=>zW
 .rw [decide_eq_false h1,Cj]
  exact c_ Tryz.f75 fun _=>zW
theorem uY (n lo a:Int):aA Tryz.prog 113 [ii n,ii lo,ii a] [] (.ret (.bool (fU n lo a))) []:=by
 unfold fU
 by_cases h1:lo<=n
 .rw [decide_eq_true h1,Bo]
  exact c_ Tryz.f113 fun _=>zW
 .rw [decide_eq_false h1,Cj]
  exact c_ Tryz.f113 fun _=>zW
theorem P2 (v:V3) (b:Bool) (d:aQ v=b):aA Tryz.prog 151 [v.av] [] (.ret (.bool b)) []:=by
 unfold aQ at d
 refine c_ Tryz.f151 fun _=>?_
 repeat' first
  | (refine gW hE ?_;conv=>whnf)
  | exact d
  | refine aY ?_
  | refine aN ?_
  | refine Aa (fun h=>?_) (fun h=>?_)
  | refine aJ ?_
  | refine Ah _ (Aa rfl ?_)
  | refine Aa d_ ?_
 all_goals (refine congrArg (fun b=>Res.ret (AVal.bool b)) ?_;rw [<-d];simp only [decide_eq_true_eq,decide_eq_false_iff_not] at *)
 .rw [decide_eq_false (p:=0<=v.a/\v.a<=1048576) o_];rfl
 .rw [decide_eq_false (p:=0<=v.a/\v.a<=1048576) o_];rfl
 .rw [decide_eq_false (p:=0<=v.b/\v.b<=1048576) o_,Bt];rfl
 .rw [decide_eq_false (p:=0<=v.b/\v.b<=1048576) o_,Bt];rfl
 .rw [decide_eq_false (p:=0<=v.c/\v.c<=1048576) o_,Bt]
 .rw [decide_eq_false (p:=0<=v.c/\v.c<=1048576) o_,Bt]
 .rw [decide_eq_true (p:=0<=v.a/\v.a<=1048576) o_,decide_eq_true (p:=0<=v.b/\v.b<=1048576) o_,decide_eq_true (p:=0<=v.c/\v.c<=1048576) o_];rfl
theorem dW (v:V3):aA Tryz.prog 151 [v.av] [] (.ret (.bool (aQ v))) []:=P2 v _ rfl
def GC (x:Hos):Bool:=fU x.f 0 100&&(fU x.b 0 100&&(fU x.r 0 100&&aQ x.c))
theorem aFS (x:Hos):aA Tryz.prog 77 [x.av] [] (.ret (.bool (GC x))) []:=by
 have h1:=iO x.f 0 100
 have a:=iO x.b 0 100
 have h3:=iO x.r 0 100
 have d:=dW x.c
 unfold GC
 generalize fU x.f 0 100=b1 at h1
 generalize fU x.b 0 100=b2 at a
 generalize fU x.r 0 100=b3 at h3
 generalize aQ x.c=b4 at d
 cases b1<;>cases b2<;>cases b3<;>cases b4
 all_goals
  exact c_ Tryz.f77 fun _=>zW
theorem aCl (x:Hos):GC x=oA x:=by
 rw [Kl]
 unfold GC oA
 by_cases h:JX x
 .rw [if_pos h]
  unfold JX at h
  simp only [Ag,fT]
  constructor
  .intro q;omega
  .intro q;cases q
 .rw [if_neg h]
  unfold JX at h
  simp only [Ag,fT]
  constructor
  .intro q;exact q.2.2.2
  .intro q;exact ⟨by omega,by omega,by omega,q⟩
theorem XL (c:Con) (i:Nat) (t:i<1048576) (x:Nod) (get:(nav c.ns)[i]? =some x.av) (s:rH i x):aA Tryz.prog 76 [c.av,ii i] [] (.ret (.bool false)) []:=by
 have d:=iO x.p 0 ((i:Int)-1)
 have e:=iO x.w 1 1000
 have hl:=iO x.w 1 1000
 have o:=dW x.n
 have q:=dW x.b
 have k:=dW x.l
 have j:=lC x.l x.n
 unfold rH at s
 by_cases r:i=0
 .by_cases hp:x.p= -1
  .have m:fU x.w 1 1000=false:=by
    cases a:fU x.w 1 1000 with
    | false=>rfl
    | true=>have:=fT.1 a;omega
   rw [m] at e
   subst r
   refine c_ Tryz.f76 fun _=>?_
   repeat' first | (refine gN hE ?_;conv=>whnf) | refine ⟨i,rfl,?_⟩ | refine ⟨_,get,?_⟩ | refine .pure _ [] d ?_ | refine .pure _ [] e ?_ | refine .pure _ [] hl ?_ | refine .pure _ [] o ?_ | refine .pure _ [] q ?_ | refine .pure _ [] k ?_ | refine .pure _ [] j ?_ | exact rfl | refine aY ?_ | refine aN ?_ | refine aT fun h=>?_ | refine aF fun h=>?_ | refine ⟨fun h=>?_,fun h=>?_⟩ | refine aJ ?_ | refine ⟨_,rfl,?_⟩ | refine aD ?_ | fail
  .subst r
   refine c_ Tryz.f76 fun _=>?_
   repeat' first | (refine gN hE ?_;conv=>whnf) | refine ⟨i,rfl,?_⟩ | refine ⟨_,get,?_⟩ | refine .pure _ [] d ?_ | refine .pure _ [] e ?_ | refine .pure _ [] hl ?_ | refine .pure _ [] o ?_ | refine .pure _ [] q ?_ | refine .pure _ [] k ?_ | refine .pure _ [] j ?_ | exact rfl | refine aY ?_ | refine aN ?_ | refine aT fun h=>?_ | refine aF fun h=>?_ | refine ⟨fun h=>?_,fun h=>?_⟩ | refine aJ ?_ | refine ⟨_,rfl,?_⟩ | refine aD ?_ | fail
   all_goals (exfalso;simp at *;omega)
 .cases a:fU x.p 0 ((i:Int)-1) with
  | false=>
   rw [a] at d
   exact c_ Tryz.f76 fun _=>zW
  | true=>
   rw [a] at d
   have:=fT.1 a
   have m:fU x.w 1 1000=false:=by
    cases a:fU x.w 1 1000 with
    | false=>rfl
    | true=>have:=fT.1 a;omega
   rw [m] at e
   refine c_ Tryz.f76 fun _=>?_
   repeat' first | (refine gN hE ?_;conv=>whnf) | refine ⟨i,rfl,?_⟩ | refine ⟨_,get,?_⟩ | refine .pure _ [] d ?_ | refine .pure _ [] e ?_ | refine .pure _ [] hl ?_ | refine .pure _ [] o ?_ | refine .pure _ [] q ?_ | refine .pure _ [] k ?_ | refine .pure _ [] j ?_ | exact rfl | refine aY ?_ | refine aN ?_ | refine aT fun h=>?_ | refine aF fun h=>?_ | refine ⟨fun h=>?_,fun h=>?_⟩ | refine aJ ?_ | refine ⟨_,rfl,?_⟩ | refine aD ?_ | fail
set_option maxHeartbeats 2000000 in
theorem P6 (c:Con) (i:Nat) (s:i<1048576) (x:Nod) (get:(nav c.ns)[i]? =some x.av) (q:¬ rH i x) (a:aX c.ns (i:Int)=true):aA Tryz.prog 76 [c.av,ii i] [] (.ret (.bool (aQ x.n&&(aQ x.b&&(aQ x.l&&cF x.l x.n))))) []:=by
 have d:=iO x.p 0 ((i:Int)-1)
 have m:=iO x.w 1 1000
 have hl:=kS c (i:Int)
 rw [a] at hl
 have k:=dW x.n
 have o:=dW x.b
 have j:=dW x.l
 have e:=lC x.l x.n
 unfold rH at q
 rw [fT.2 (show 1<=x.w/\x.w<=1000 by omega)] at m
 generalize aQ x.n=q1 at k
 generalize aQ x.b=q2 at o
 generalize aQ x.l=q3 at j
 generalize cF x.l x.n=q4 at e
 by_cases r:i=0
 .have hp:x.p= -1:=o_
  subst r
  cases q1<;>cases q2<;>cases q3<;>cases q4
  all_goals
   refine c_ Tryz.f76 fun _=>?_
   repeat' first | (refine gN hE ?_;conv=>whnf) | refine ⟨i,rfl,?_⟩ | refine ⟨_,get,?_⟩ | refine .pure _ [] d ?_ | refine .pure _ [] m ?_ | refine .pure _ [] hl ?_ | refine .pure _ [] k ?_ | refine .pure _ [] o ?_ | refine .pure _ [] j ?_ | refine .pure _ [] e ?_ | exact rfl | refine aY ?_ | refine aN ?_ | refine aT fun h=>?_ | refine aF fun h=>?_ | refine ⟨fun h=>?_,fun h=>?_⟩ | refine aJ ?_ | refine ⟨_,rfl,?_⟩ | refine aD ?_ | fail
   all_goals (exfalso;simp at *;omega)
 .rw [fT.2 (show 0<=x.p/\x.p<=(i:Int)-1 by omega)] at d
  cases q1<;>cases q2<;>cases q3<;>cases q4
  all_goals
   exact c_ Tryz.f76 fun _=>zW
theorem aBn (c:Con) (i:Nat) (v:i<1048576) (x:Nod) (get:(nav c.ns)[i]? =some x.av) (s:¬ rH i x) (e:aX c.ns (i:Int)=false) (r:Bool) (u:(zB x.n&&(zB x.b&&zB x.l))=r):aA Tryz.prog 76 [c.av,ii i] [] (.ret (.bool r)) []:=by
 have d:=iO x.p 0 ((i:Int)-1)
 have j:=iO x.w 1 1000
 have hl:=kS c (i:Int)
 rw [e] at hl
 have o:=dW x.n
 have q:=dW x.b
 have m:=dW x.l
 have k:=lC x.l x.n
 unfold rH at s
 rw [fT.2 (show 1<=x.w/\x.w<=1000 by omega)] at j
 have fin:(((x.p==x.p)&&((x.w==x.w)&&((x.n.a==0)&&((x.n.b==0)&&((x.n.c==0)&&((x.b.a==0)&&((x.b.b==0)&&((x.b.c==0)&&((x.l.a==0)&&((x.l.b==0)&&((x.l.c==0)&&true)))))))))))=r):=by
  rw [<-u]
  unfold zB
  simp [Gw]
 by_cases t:i=0
 .have hp:x.p= -1:=o_
  subst t
  refine c_ Tryz.f76 fun _=>?_
  repeat' first | (refine gN hE ?_;conv=>whnf) | refine ⟨i,rfl,?_⟩ | refine ⟨_,get,?_⟩ | refine .pure _ [] d ?_ | refine .pure _ [] j ?_ | refine .pure _ [] hl ?_ | refine .pure _ [] o ?_ | refine .pure _ [] q ?_ | refine .pure _ [] m ?_ | refine .pure _ [] k ?_ | exact rfl | refine aY ?_ | refine aN ?_ | refine aT fun h=>?_ | refine aF fun h=>?_ | refine ⟨fun h=>?_,fun h=>?_⟩ | refine aJ ?_ | refine ⟨_,rfl,?_⟩ | refine aD ?_ | fail
  .exact absurd (show (x.p != -1)=true by assumption) (by rw [hp];decide)
  .exact congrArg (fun b=>Res.ret (AVal.bool b)) fin
 .rw [fT.2 (show 0<=x.p/\x.p<=(i:Int)-1 by omega)] at d
  refine c_ Tryz.f76 fun _=>?_
  repeat' first | (refine gN hE ?_;conv=>whnf) | refine ⟨i,rfl,?_⟩ | refine ⟨_,get,?_⟩ | refine .pure _ [] d ?_ | refine .pure _ [] j ?_ | refine .pure _ [] hl ?_ | refine .pure _ [] o ?_ | refine .pure _ [] q ?_ | refine .pure _ [] m ?_ | refine .pure _ [] k ?_ | exact rfl | refine aY ?_ | refine aN ?_ | refine aT fun h=>?_ | refine aF fun h=>?_ | refine ⟨fun h=>?_,fun h=>?_⟩ | refine aJ ?_ | refine ⟨_,rfl,?_⟩ | refine aD ?_ | fail
  exact congrArg (fun b=>Res.ret (AVal.bool b)) fin
theorem aBm (c:Con) (i:Nat) (b:i<1048576) (x:Nod) (get:(nav c.ns)[i]? =some x.av):aA Tryz.prog 76 [c.av,ii i] [] (.ret (.bool (nW (aX c.ns (i:Int)) i x))) []:=by
 unfold nW
 by_cases a:rH i x
 .rw [if_pos a]
  exact XL c i b x get a
 .rw [if_neg a]
  cases hl:aX c.ns (i:Int) with
  | false=>rw [if_neg d_];exact aBn c i b x get a hl _ rfl
  | true=>rw [if_pos rfl];exact P6 c i b x get a hl
noncomputable abbrev U9:Func:=Tryz.f29
def CL (ns:List Nod):Nat->List Nod->Bool
 | _,[]=>true
 | i,x::r=>nW (aX ns (i:Int)) i x&&CL ns (i+1) r
theorem B7 (c:Con) (g:c.sm) (r:Int):∀ (m i:Nat) (b:Bool),i+m=c.hs.length->(if (b&&(c.hs.drop i).all oA)=true then (0:Int) else 2)=r->
  To E U9 (.pure (.ret (ii r))) (.head (stk U9 1) [(1,.ref 0 0),(3,.bool b),(5,ii i)] [.cells 26 c.cs]):=by
 have f:(hav c.hs).length=c.hs.length:=by simp
 have h1:=g.hs
 intro m
 induction m with
 | zero=>
  intro i b j a
  rw [Ae o_] at a
  cases b with
  | false=>
   have a:2=r:=a
   subst a
   refine gV ?_
   exact zW
  | true=>
   have a:0=r:=a
   subst a
   refine gV ?_
   exact zW
 | succ m h=>
  intro i b j a
  cases b with
  | false=>
   have a:2=r:=a
   subst a
   refine gV ?_
   exact zW
  | true=>
   have e:i<c.hs.length:=o_
   rw [Ac e,Ei,<-aCl] at a
   have get:=oW e
   generalize c.hs[i]=x at a get
   have d:=aFS x
   have next:=h (i+1) (GC x) o_ a
   generalize GC x=q at d next
   refine gV ?_
   exact zW
theorem P7 (c:Con) (f:c.sm) (r:Int):∀ (m i:Nat) (b:Bool),i+m=c.ns.length->(if ((b&&CL c.ns i (c.ns.drop i))&&c.hs.all oA)=true then (0:Int) else 2)=r->
  To E U9 (.pure (.ret (ii r))) (.head (stk U9 0) [(1,.ref 0 0),(3,.bool b),(4,ii i)] [.cells 26 c.cs]):=by
 have g:(nav c.ns).length=c.ns.length:=by simp
 have h1:=f.ns
 intro m
 induction m with
 | zero=>
  intro i b j a
  rw [Ae o_] at a
  have next:=B7 c f r c.hs.length 0 b o_ (by rw [<-a];show _=if ((b&&true)&&_)=true then (0:Int) else 2;rw [Iv];rfl)
  cases b with
  | false=>
   refine gV ?_
   exact zW
  | true=>
   refine gV ?_
   exact zW
 | succ m h=>
  intro i b j a
  cases b with
  | false=>
   have next:=B7 c f r c.hs.length 0 false o_ (by rw [<-a];rfl)
   refine gV ?_
   exact zW
  | true=>
   have e:i<c.ns.length:=o_
   rw [Ac e] at a
   have get:=fM e
   generalize c.ns[i]=x at a get
   have d:=aBm c i o_ x get
   have next:=h (i+1) (nW (aX c.ns (i:Int)) i x) o_ a
   generalize nW (aX c.ns (i:Int)) i x=q at d next
   refine gV ?_
   exact zW
theorem MN (ns:List Nod):∀ (l:List Nod) (i:Nat),CL ns i l=nA ns i l
 | [],_=>rfl
 | x::r,i=>by
  unfold CL nA
  rw [MN ns r (i+1),qH]
  cases nW (aX ns (i:Int)) i x<;>rfl
def WM (c:Con):Bool:=fU c.ns.length 1 12&&(fU c.hs.length 1 24&&(fU c.half 1 1048576&&fU c.age 0 1048576))
theorem KZ (c:Con):WM c=true↔zN c:=by
 unfold WM zN
 simp only [Ag,fT]
 omega
theorem Y4 (c:Con):(if ((WM c&&CL c.ns 0 (c.ns.drop 0))&&c.hs.all oA)=true then (0:Int) else 2)=bC c:=by
 unfold bC
 rw [Bn,MN]
 cases hs:WM c with
 | false=>
  rw [if_neg (c:=zN c) (fun q=>by rw [(KZ c).2 q] at hs;cases hs)]
  rfl
 | true=>
  rw [if_pos (c:=zN c) ((KZ c).1 hs)]
  cases nA c.ns 0 c.ns<;>cases c.hs.all oA<;>rfl
set_option maxHeartbeats 2000000 in
theorem xB (c:Con) (e:c.sm):aA Tryz.prog 29 [c.av] [] (.ret (ii (bC c))) []:=by
 have b:(nav c.ns).length=c.ns.length:=by simp
 have a:(hav c.hs).length=c.hs.length:=by simp
 have h:=P7 c e (bC c) c.ns.length 0 (WM c) o_ (Y4 c)
 have d:=iO ((nav c.ns).length:Nat) 1 12
 have i:=iO ((hav c.hs).length:Nat) 1 24
 have j:=iO c.half 1 1048576
 have k:=iO c.age 0 1048576
 unfold WM at h
 rw [<-b,<-a] at h
 generalize fU ((nav c.ns).length:Nat) 1 12=q1 at d h
 generalize fU ((hav c.hs).length:Nat) 1 24=q2 at i h
 generalize fU c.half 1 1048576=q3 at j h
 generalize fU c.age 0 1048576=q4 at k h
 generalize bC c=r at h
 cases q1<;>cases q2<;>cases q3<;>cases q4
 all_goals
  exact c_ Tryz.f29 fun _=>zW
def aKb (g:Gan):Bool:=fU g.id 1 1073741824&&(fU g.pods 1 16&&(aQ g.need&&(fU g.run 1 1048576&&(fU g.lev 0 3&&fU g.pref 0 g.lev))))
theorem aGY (g:Gan):aKb g=OK g:=by
 rw [Kl]
 unfold aKb OK
 simp only [Ag,fT,decide_eq_true_eq]
 constructor
 .rintro ⟨a,b,c,d,e,f⟩
  exact ⟨⟨a.1,a.2,b.1,b.2⟩,c,d.1,d.2,e.1,e.2,f.1,f.2⟩
 .rintro ⟨⟨a,b,c,d⟩,v,e,f,h,i,j,k⟩
  exact ⟨⟨a,b⟩,⟨c,d⟩,v,⟨e,f⟩,⟨h,i⟩,j,k⟩
theorem aAl (c:Con) (g:Gan):aA Tryz.prog 82 [c.av,g.av] [] (.ret (ii (fN c g))) []:=by
 have b:=uY g.id 1 1073741824
 have e:=uY g.pods 1 16
 have d:=dW g.need
 have h:=uY g.run 1 1048576
 have j:=uY g.lev 0 3
 have a:=uY g.pref 0 g.lev
 have i:=kS c g.ten
 unfold fN
 rw [<-aGY]
 unfold aKb
 generalize fU g.id 1 1073741824=q1 at b
 generalize fU g.pods 1 16=q2 at e
 generalize aQ g.need=q3 at d
 generalize fU g.run 1 1048576=q4 at h
 generalize fU g.lev 0 3=q5 at j
 generalize fU g.pref 0 g.lev=q6 at a
 generalize aX c.ns g.ten=q7 at i
 cases q1 with
 | false=>
  exact zqca4
 | true=>
  cases q2 with
  | false=>
   exact zqca4
  | true=>
   cases q3 with
   | false=>
    exact zqca4
   | true=>
    cases q4 with
    | false=>
     exact zqca4
    | true=>
     cases q5 with
     | false=>
      exact zqca4
     | true=>
      cases q6 with
      | false=>
       exact zqca4
      | true=>
       cases q7 with
       | false=>
        exact zqca4
       | true=>
        exact zqca4
theorem PZ (c:Con) (d:c.sm) (g:Gan):aA Tryz.prog 64 [c.av,g.av] [] (.ret (ii (fN c g))) []:=by
 have e:=nI g.need
 have hl:=iG c d g.ten
 rw [qH] at hl
 unfold fN OK
 generalize aQ g.need=q3 at e
 generalize aX c.ns g.ten=q7 at hl
 by_cases b:1<=g.id/\g.id<=1073741824/\1<=g.pods/\g.pods<=16
 .rw [decide_eq_true b]
  cases q3 with
  | false=>
   exact zqca7
  | true=>
   by_cases a:1<=g.run/\g.run<=1048576/\0<=g.lev/\g.lev<=3/\0<=g.pref/\g.pref<=g.lev
   .rw [decide_eq_true a]
    cases q7 with
    | false=>
     exact zqca7
    | true=>
     exact zqca7
   .rw [decide_eq_false a]
    exact zqca7
 .rw [decide_eq_false b]
  exact zqca7
def aGL:Con:=⟨[],[],0,0⟩
abbrev itP (p:Pn):AVal:=.iface 78 p.av
abbrev itR (r:Rn):AVal:=.iface 127 r.av
inductive It where
 | p (x:Pn)
 | r (x:Rn)
def It.av:It->AVal
 | .p x=>itP x
 | .r x=>itR x
def It.pn:It->Pn
 | .p x=>x
 | .r x=>x.pn
def It.q (s:Sta):It->Bool
 | .p _=>true
 | .r x=>rnB s x
def It.sm:It->Prop
 | .p _=>True
 | .r x=>x.hs.length<=1048576
def aHp (s:Sta):Prop:=(0<=s.now/\s.now<=1099511627776)/\(1<=s.nxt/\s.nxt<=1099511627776)/\s.hist.length=s.c.ns.length/\s.pend.length+s.run.length<=32
instance (s:Sta):Decidable (aHp s):=by unfold aHp;infer_instance
end Go.Proofs.YticlgfdibfobdaaGreat
