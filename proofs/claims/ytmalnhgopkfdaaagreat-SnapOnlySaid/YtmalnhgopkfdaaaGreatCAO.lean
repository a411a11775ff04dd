/-
  Commands as bytes, by the program and by the document's answer.
-/
import Derived.Lib.Builder
import Derived.Lib.UnsafeStr
import Derived.Lib.Walk
import Derived.Shelf.RegionOpenPlain
import Derived.Test.YtmalnhgopkfdaaaGreatRAO
set_option linter.all false
set_option maxHeartbeats 1000000
open And renaming intro->Ad
open Bool renaming and_assoc->Hn,and_eq_true->Ac,and_false->Ch,and_true->Fi,eq_false_iff->Fm,eq_false_or_eq_true->Cw,false_and->Ek,false_eq_true->Ci,or_eq_true->De,true_and->Co
open Go.Builtin renaming unsafeSliceData_->Ig,unsafeString_->Jj
open Go.Result renaming andThen->Dp
open Go.World renaming shape?->Jx
open Int renaming fdiv_eq_ediv_of_nonneg->Fq,toNat_natCast->Br
open List renaming append_assoc->Al,append_nil->Bd,cons_append->Gr,drop_drop->Ho,drop_eq_getElem_cons->Ag,drop_eq_nil_of_le->Ai,drop_left->Hp,drop_zero->Dq,getElem?_eq_getElem->Ab,getElem?_eq_some_iff->Aa,getElem_mem->Bw,length_append->Aj,length_cons->Ap,length_drop->Fa,length_nil->Bq,length_pos_iff->Ez,map_append->Cu,map_cons->Cx,mem_cons->Bk,nil_append->Eg,not_mem_nil->Gs,take_append_drop->Ep
open Nat renaming add_mul->Bu,add_sub_cancel_left->Ea,beq->Ao,mod_eq_of_lt->Dm,mul_add->Eu,mul_assoc->Jw,mul_comm->Cz,mul_le_mul_right->Bi,pow_add->Ev,pow_le_pow_right->Ew,strongRecOn->Jd,sub_zero->Fw,zero_add->Bj,zero_le->Bh
open Option renaming map_eq_some_iff->Bo
open Option.some renaming injEq->Cf
open Or renaming inl->Fk
open Prod.mk renaming injEq->Gb
open UInt8 renaming ofNat->Dz,toNat_ofNat'->Ff
namespace Go.Proofs.YtmalnhgopkfdaaaGreat
open Go Go.AW Go.Proofs
structure Cmd where
 k:Int
 c:Con
 g:Gan
 n:Int
 deriving DecidableEq
def Cmd.cs (x:Cmd):List AVal:=[ii x.k,.slice 11 (nav x.c.ns) .no,.slice 6 (hav x.c.hs) .no,ii x.c.half,ii x.c.age,ii x.g.id,ii x.g.ten,ii x.g.pods,ii x.g.need.a,ii x.g.need.b,ii x.g.need.c,ii x.g.run,ii x.g.lev,ii x.g.pref,ii x.n]
def Cmd.av (x:Cmd):AVal:=.agg x.cs
def kD (x:Int):Bool:=decide (0<=x)&&decide (x<=1099511627776)
def okI:List Int->Bool
 | []=>true
 | x::r=>kD x&&okI r
def V3.l (v:V3):List Int:=[v.a,v.b,v.c]
def Nod.ok (x:Nod):Bool:=(decide (-1<=x.p)&&decide (x.p<=1099511627776))&&okI [x.w]&&okI x.n.l&&okI x.b.l&&okI x.l.l
def Hos.ok (x:Hos):Bool:=okI [x.f,x.b,x.r]&&okI x.c.l
def pT:List Nod->Bool
 | []=>true
 | x::r=>x.ok&&pT r
def mQ:List Hos->Bool
 | []=>true
 | x::r=>x.ok&&mQ r
def Con.tok (c:Con):Bool:=pT c.ns&&mQ c.hs&&okI [c.half,c.age]
def Gan.ok (g:Gan):Bool:=okI [g.id,g.ten,g.pods,g.run,g.lev,g.pref]&&okI g.need.l
def Con.none (c:Con):Bool:=decide ((c.ns.length:Int)=0)&&decide ((c.hs.length:Int)=0)&&decide (c.half=0)&&decide (c.age=0)
def Gan.zero:Gan:=⟨0,0,0,⟨0,0,0⟩,0,0,0⟩
end Go.Proofs.YtmalnhgopkfdaaaGreat
namespace Go.Proofs.YtmalnhgopkfdaaaGreat.C8
open Go Go.AW Go.Proofs
set_option maxRecDepth 10000
def aS (e:Int):AVal:=.iface 156 (.agg [ii e])
theorem dR (b:Bool) (e:Int) (h:b=true):aA Tryz.prog 102 [.bool b,ii e] [] (.ret (.tup [])) []:=by
 subst h
 refine cT (E:=E) (fn:=Tryz.f102) (g:=.pure _) fun _=>?_
 refine gW hE ?_;conv=>whnf
 refine ⟨fun h=>absurd h (by decide),fun h=>?_⟩
 refine gW hE ?_;conv=>whnf
theorem cE (b:Bool) (e:Int) (h:b=false):aA Tryz.prog 102 [.bool b,ii e] [] (.pan (aS e)) []:=by
 subst h
 refine cT (E:=E) (fn:=Tryz.f102) (g:=.pure _) fun _=>?_
 refine gW hE ?_;conv=>whnf
 refine ⟨fun h=>?_,fun h=>absurd h (by decide)⟩
 refine gW hE ?_;conv=>whnf
 rfl
def RB (l:List Int):Res:=if okI l then .ret (.tup []) else .pan (aS 1)
theorem FV (l:List Int) (hl:((iv l).length:Int)<=9223372036854775807) (r:Res):∀ (n i:Nat),i+n=l.length->RB (l.drop i)=r->
  To E Tryz.f119 (.pure r) (.head (stk Tryz.f119 0) [(4,.slice 1 (iv l) .no),(5,.int .i64 ((iv l).length:Nat)),(6,.int .i64 i)] []):=by
 have hlen:(iv l).length=l.length:=by simp
 intro n
 induction n with
 | zero=>
  intro i hi hr
  rw [Ai (by omega)] at hr
  refine gW hE ?_;conv=>whnf
  refine ⟨fun h=>absurd (of_decide_eq_true h) (by omega),fun h=>?_⟩
  refine gW hE ?_;conv=>whnf
  exact hr
 | succ n ih=>
  intro i hi hr
  have hlt:i<l.length:=by omega
  rw [Ag hlt] at hr
  have hr:(if kD l[i]&&okI (l.drop (i+1)) then Res.ret (.tup []) else .pan (aS 1))=r:=hr
  refine gW hE ?_;conv=>whnf
  refine ⟨fun h=>?_,fun h=>absurd (of_decide_eq_false h) (by omega)⟩
  refine gW hE ?_;conv=>whnf
  refine ⟨i,rfl,?_⟩
  refine gW hE ?_;conv=>whnf
  refine ⟨_,gU hlt,?_⟩
  refine gW hE ?_;conv=>whnf
  refine ⟨fun h1=>?_,fun h1=>?_⟩
  .refine gW hE ?_;conv=>whnf
   rcases Cw (decide (l[i]<=1099511627776)) with h2 | h2
   .refine .pure _ [] (dR _ _ h2) ?_
    refine gW hE ?_;conv=>whnf
    refine .inl ⟨⟨by simp only [cU];omega,by simp only [bQ];omega⟩,?_⟩
    refine gW hE ?_;conv=>whnf
    refine To.head [4,5,6] ?_
    refine ih (i+1) (by omega) ?_
    have h3:kD l[i]=true:=by unfold kD;rw [h2];simpa using h1
    rw [h3,Co] at hr
    exact hr
   .refine .pan _ (cE _ _ h2) ?_
    have h3:kD l[i]=false:=by unfold kD;rw [h2];simp
    rw [h3] at hr
    exact hr
  .refine gW hE ?_;conv=>whnf
   refine .pan _ (cE _ _ rfl) ?_
   have h3:kD l[i]=false:=by
    unfold kD
    have:decide (0<=l[i])=false:=h1
    rw [this];rfl
   rw [h3] at hr
   exact hr
theorem zI (l:List Int) (r:Res) (hr:RB l=r):aA Tryz.prog 119 [.slice 1 (iv l) .no] [] r []:=by
 refine cT (E:=E) (fn:=Tryz.f119) (g:=.pure _) fun ho=>?_
 refine gW hE ?_;conv=>whnf
 refine To.head [4,5,6] ?_
 exact FV l ho.1 _ l.length 0 (by omega) hr
theorem fO (l:List Int) (h:okI l=true):aA Tryz.prog 119 [.slice 1 (iv l) .no] [] (.ret (.tup [])) []:=zI l _ (if_pos h)
theorem eG (l:List Int) (h:okI l=false):aA Tryz.prog 119 [.slice 1 (iv l) .no] [] (.pan (aS 1)) []:=zI l _ (if_neg (by rw [h];simp))
def oR (b:Bool):Res:=if b then .ret (.tup []) else .pan (aS 1)
theorem sS {b:Bool} {r:Res} (hr:oR b=r) (h:b=false):Res.pan (aS 1)=r:=by subst h;exact hr
theorem DH (c:Con) (r:Res) (hl:((hav c.hs).length:Int)<=9223372036854775807):∀ (n i:Nat),i+n=c.hs.length->oR (mQ (c.hs.drop i)&&okI [c.half,c.age])=r->
  To E Tryz.f117 (.pure r) (.head (stk Tryz.f117 1) [(1,.ref 0 0),(37,.slice 6 (hav c.hs) .no),(38,.int .i64 ((hav c.hs).length:Nat)),(39,.int .i64 i)] [.cells 26 c.cs]):=by
 have hlen:(hav c.hs).length=c.hs.length:=by simp
 intro n
 induction n with
 | zero=>
  intro i hi hr
  rw [Ai (by omega)] at hr
  refine gW hE ?_;conv=>whnf
  refine ⟨fun h=>absurd (of_decide_eq_true h) (by omega),fun h=>?_⟩
  refine gW hE ?_;conv=>whnf
  cases h2:okI [c.half,c.age] with
  | true=>
   refine .pure _ [] (aA.strip (fO [c.half,c.age] h2)) ?_
   refine gW hE ?_;conv=>whnf
   rw [h2] at hr
   exact hr
  | false=>
   refine .pan _ (aA.strip (eG [c.half,c.age] h2)) ?_
   rw [h2] at hr
   exact hr
 | succ n ih=>
  intro i hi hr
  have hlt:i<c.hs.length:=by omega
  rw [Ag hlt] at hr
  have hr:oR ((c.hs[i].ok&&mQ (c.hs.drop (i+1)))&&okI [c.half,c.age])=r:=hr
  generalize hx:c.hs[i]=x at hr
  refine gW hE ?_;conv=>whnf
  refine ⟨fun h=>?_,fun h=>absurd (of_decide_eq_false h) (by omega)⟩
  refine gW hE ?_;conv=>whnf
  refine ⟨i,rfl,?_⟩
  refine gW hE ?_;conv=>whnf
  refine ⟨_,(rG hlt).trans (by rw [hx]),?_⟩
  refine gW hE ?_;conv=>whnf
  cases h2:okI [x.f,x.b,x.r] with
  | false=>
   refine .pan _ (aA.strip (eG [x.f,x.b,x.r] h2)) ?_
   exact sS hr (by unfold Hos.ok;rw [h2];rfl)
  | true=>
   refine .pure _ [] (aA.strip (fO [x.f,x.b,x.r] h2)) ?_
   refine gW hE ?_;conv=>whnf
   refine ⟨by decide,?_⟩
   refine gW hE ?_;conv=>whnf
   cases h3:okI x.c.l with
   | false=>
    refine .pan _ (aA.strip (eG x.c.l h3)) ?_
    exact sS hr (by unfold Hos.ok;rw [h2,h3];rfl)
   | true=>
    refine .pure _ [] (aA.strip (fO x.c.l h3)) ?_
    refine gW hE ?_;conv=>whnf
    refine .inl ⟨⟨by simp only [cU];omega,by simp only [bQ];omega⟩,?_⟩
    refine gW hE ?_;conv=>whnf
    refine To.cut [1,37,38,39] 1 rfl rfl rfl rfl ?_
    refine ih (i+1) (by omega) ?_
    have:x.ok=true:=by unfold Hos.ok;rw [h2,h3];rfl
    rw [this,Co] at hr
    exact hr
theorem HB (c:Con) (r:Res) (hl:((nav c.ns).length:Int)<=9223372036854775807) (hh:((hav c.hs).length:Int)<=9223372036854775807):∀ (n i:Nat),i+n=c.ns.length->oR (pT (c.ns.drop i)&&(mQ c.hs&&okI [c.half,c.age]))=r->
  To E Tryz.f117 (.pure r) (.head (stk Tryz.f117 0) [(1,.ref 0 0),(7,.slice 11 (nav c.ns) .no),(8,.int .i64 ((nav c.ns).length:Nat)),(9,.int .i64 i)] [.cells 26 c.cs]):=by
 have hlen:(nav c.ns).length=c.ns.length:=by simp
 intro n
 induction n with
 | zero=>
  intro i hi hr
  rw [Ai (by omega)] at hr
  refine gW hE ?_;conv=>whnf
  refine ⟨fun h=>absurd (of_decide_eq_true h) (by omega),fun h=>?_⟩
  refine gW hE ?_;conv=>whnf
  refine To.cut [1,37,38,39] 1 rfl rfl rfl rfl ?_
  exact DH c r hh c.hs.length 0 (by omega) hr
 | succ n ih=>
  intro i hi hr
  have hlt:i<c.ns.length:=by omega
  rw [Ag hlt] at hr
  have hr:oR ((c.ns[i].ok&&pT (c.ns.drop (i+1)))&&(mQ c.hs&&okI [c.half,c.age]))=r:=hr
  generalize hx:c.ns[i]=x at hr
  have bad:x.ok=false->Res.pan (aS 1)=r:=fun h=>sS hr (by rw [h];rfl)
  refine gW hE ?_;conv=>whnf
  refine ⟨fun h=>?_,fun h=>absurd (of_decide_eq_false h) (by omega)⟩
  refine gW hE ?_;conv=>whnf
  refine ⟨i,rfl,?_⟩
  refine gW hE ?_;conv=>whnf
  refine ⟨_,(jX hlt).trans (by rw [hx]),?_⟩
  refine gW hE ?_;conv=>whnf
  refine ⟨fun h1=>?_,fun h1=>?_⟩
  .have h1:decide (-1<=x.p)=true:=h1
   refine gW hE ?_;conv=>whnf
   rcases Cw (decide (x.p<=1099511627776)) with h2 | h2
   .refine .pure _ [] (dR _ _ h2) ?_
    refine gW hE ?_;conv=>whnf
    cases h3:okI [x.w] with
    | false=>
     refine .pan _ (aA.strip (eG [x.w] h3)) ?_
     exact bad (by unfold Nod.ok;rw [h3];simp)
    | true=>
    refine .pure _ [] (aA.strip (fO [x.w] h3)) ?_
    refine gW hE ?_;conv=>whnf
    refine ⟨by decide,?_⟩
    refine gW hE ?_;conv=>whnf
    cases h4:okI x.n.l with
    | false=>
     refine .pan _ (aA.strip (eG x.n.l h4)) ?_
     exact bad (by unfold Nod.ok;rw [h4];simp)
    | true=>
    refine .pure _ [] (aA.strip (fO x.n.l h4)) ?_
    refine gW hE ?_;conv=>whnf
    refine ⟨by decide,?_⟩
    refine gW hE ?_;conv=>whnf
    cases h5:okI x.b.l with
    | false=>
     refine .pan _ (aA.strip (eG x.b.l h5)) ?_
     exact bad (by unfold Nod.ok;rw [h5];simp)
    | true=>
    refine .pure _ [] (aA.strip (fO x.b.l h5)) ?_
    refine gW hE ?_;conv=>whnf
    refine ⟨by decide,?_⟩
    refine gW hE ?_;conv=>whnf
    cases h6:okI x.l.l with
    | false=>
     refine .pan _ (aA.strip (eG x.l.l h6)) ?_
     exact bad (by unfold Nod.ok;rw [h6];simp)
    | true=>
    refine .pure _ [] (aA.strip (fO x.l.l h6)) ?_
    refine gW hE ?_;conv=>whnf
    refine .inl ⟨⟨by simp only [cU];omega,by simp only [bQ];omega⟩,?_⟩
    refine gW hE ?_;conv=>whnf
    refine To.cut [1,7,8,9] 1 rfl rfl rfl rfl ?_
    refine ih (i+1) (by omega) ?_
    have:x.ok=true:=by unfold Nod.ok;rw [h1,h2,h3,h4,h5,h6];rfl
    rw [this,Co] at hr
    exact hr
   .refine .pan _ (cE _ _ h2) ?_
    exact bad (by unfold Nod.ok;rw [h2];simp)
  .have h1:decide (-1<=x.p)=false:=h1
   refine gW hE ?_;conv=>whnf
   refine .pan _ (cE _ _ rfl) ?_
   exact bad (by unfold Nod.ok;rw [h1];simp)
theorem QP (c:Con) (M:Imm) (ob:Hs) (vs:List Value) (h:bS M ob vs [c.av]):((nav c.ns).length:Int)<=9223372036854775807/\((hav c.hs).length:Int)<=9223372036854775807:=by
 have hl:0<vs.length:=by rw [h.1];simp
 have:=h.2 0 _ c.av (Ab hl) rfl
 exact ⟨dC this 0 _ rfl,dC this 1 _ rfl⟩
theorem tZ (c:Con) (r:Res) (hr:oR c.tok=r):aA Tryz.prog 117 [c.av] [] r []:=by
 refine aA.get _ (QP c) fun ⟨hl,hh⟩=>?_
 refine cT (E:=E) (fn:=Tryz.f117) (g:=.pure _) fun _=>?_
 refine gW hE ?_;conv=>whnf
 refine To.cut [1,7,8,9] 1 rfl rfl rfl rfl ?_
 exact HB c r hl hh c.ns.length 0 (by omega) (by rw [<-hr];unfold Con.tok;rw [Hn];rfl)
theorem G9 (c:Con) (h:c.tok=true):aA Tryz.prog 117 [c.av] [] (.ret (.tup [])) []:=tZ c _ (if_pos h)
theorem DF (c:Con) (h:c.tok=false):aA Tryz.prog 117 [c.av] [] (.pan (aS 1)) []:=tZ c _ (if_neg (by rw [h];simp))
theorem BB (x:Gan) (r:Res) (hr:oR x.ok=r):aA Tryz.prog 118 [x.av] [] r []:=by
 refine cT (E:=E) (fn:=Tryz.f118) (g:=.pure _) fun _=>?_
 refine gW hE ?_;conv=>whnf
 cases h1:okI [x.id,x.ten,x.pods,x.run,x.lev,x.pref] with
 | false=>
  refine .pan _ (aA.strip (eG [x.id,x.ten,x.pods,x.run,x.lev,x.pref] h1)) ?_
  exact sS hr (by unfold Gan.ok;rw [h1];rfl)
 | true=>
  refine .pure _ [] (aA.strip (fO [x.id,x.ten,x.pods,x.run,x.lev,x.pref] h1)) ?_
  refine gW hE ?_;conv=>whnf
  refine ⟨by decide,?_⟩
  refine gW hE ?_;conv=>whnf
  cases h2:okI x.need.l with
  | false=>
   refine .pan _ (aA.strip (eG x.need.l h2)) ?_
   exact sS hr (by unfold Gan.ok;rw [h1,h2];rfl)
  | true=>
   refine .pure _ [] (aA.strip (fO x.need.l h2)) ?_
   refine gW hE ?_;conv=>whnf
   rw [<-hr];unfold Gan.ok;rw [h1,h2];rfl
theorem PK (x:Gan) (h:x.ok=true):aA Tryz.prog 118 [x.av] [] (.ret (.tup [])) []:=BB x _ (if_pos h)
theorem K6 (x:Gan) (h:x.ok=false):aA Tryz.prog 118 [x.av] [] (.pan (aS 1)) []:=BB x _ (if_neg (by rw [h];simp))
theorem catch_ret (x:Int):qO Tryz.prog 53 [.ref 0 0] [.cells 32 [ii x]] none [.cells 32 [ii x]]:=by
 refine qO.of (E:=E) (fn:=Tryz.f53) (n0:=1) (r:=.tup []) (by rfl) (by rfl) (by rfl) (fun _ _=>by rfl) (by rfl) (by decide+kernel) (by rfl) (by rfl) (by rfl) (by rfl) fun _=>?_
 refine gW hE ?_;conv=>whnf
 refine ⟨fun _=>?_,fun h=>absurd h (by decide)⟩
 refine gW hE ?_;conv=>whnf
 exact ⟨[],[0],⟨rfl,rfl⟩,rfl,rfl⟩
theorem catch_pan (x e:Int):qO Tryz.prog 53 [.ref 0 0] [.cells 32 [ii x]] (some (aS e)) [.cells 32 [ii e]]:=by
 refine qO.of (E:=E) (fn:=Tryz.f53) (n0:=1) (r:=.tup []) (by rfl) (by rfl) (by rfl) (fun _ _=>by rfl) (by rfl) (by decide+kernel) (by rfl) (by rfl) (by rfl) (by rfl) fun _=>?_
 refine gW hE ?_;conv=>whnf
 refine ⟨fun h=>absurd h (by decide),fun _=>?_⟩
 refine gW hE ?_;conv=>whnf
 refine ⟨fun _=>?_,fun h=>absurd h (by decide)⟩
 refine gW hE ?_;conv=>whnf
 exact ⟨[],[0],⟨rfl,rfl⟩,rfl,rfl⟩
def _root_.Go.Proofs.YtmalnhgopkfdaaaGreat.Gan.isZ (g:Gan):Bool:=((g.id==0)&&((g.ten==0)&&((g.pods==0)&&((g.need.a==0)&&((g.need.b==0)&&((g.need.c==0)&&((g.run==0)&&((g.lev==0)&&((g.pref==0)&&true)))))))))
def chkL (x:Cmd):Int:=if decide (((nav x.c.ns).length:Int)<=12)&&decide (((hav x.c.hs).length:Int)<=24) then 0 else 8
def chkN (x:Cmd):Int:=if okI [x.n] then chkL x else 1
def chkG (x:Cmd):Int:=if x.g.ok then chkN x else 1
def chkC (x:Cmd):Int:=if x.c.tok then chkG x else 1
def chk4 (x:Cmd):Int:=if ((x.k==3||x.k==4)||x.k==5)||x.n==0 then chkC x else 1
def chk3 (x:Cmd):Int:=if x.k==2||x.g.isZ then chk4 x else 1
def _root_.Go.Proofs.YtmalnhgopkfdaaaGreat.Con.non (c:Con):Bool:=((((nav c.ns).length:Int)==0&&((hav c.hs).length:Int)==0)&&c.half==0)&&c.age==0
def chk2 (x:Cmd):Int:=if x.k==1||x.c.non then chk3 x else 1
def chk (x:Cmd):Int:=if decide (1<=x.k)&&decide (x.k<=6) then chk2 x else 1
abbrev chF:List (Nat×AVal):=[(1,.ref 0 0),(2,.ref 1 0)]
abbrev chO (x:Cmd):List AObj:=[.cells 61 x.cs,.cells 32 [ii 0]]
noncomputable abbrev Ec:Env:=Ed [(53,[.ref 1 0])]
theorem hEc:EnvOK Ec:=hEd _
theorem QT (x:Cmd) (r:Int) (h:0=r):To Ec Tryz.f74 (.pure (.ret (ii r))) (.code (fB Tryz.f74 9) chF (chO x)):=by
 subst h
 refine gW hEc ?_;conv=>whnf
 refine To.leave (f:=53) (args:=[.ref 1 0]) [] rfl [] [1] rfl (catch_ret 0) ?_
 exact To.left hE rfl rfl rfl
theorem VE (x:Cmd) (r:Int) (hr:chkL x=r):To Ec Tryz.f74 (.pure (.ret (ii r))) (.code (fB Tryz.f74 8) chF (chO x)):=by
 unfold chkL at hr
 refine gW hEc ?_;conv=>whnf
 refine ⟨fun h1=>?_,fun h1=>?_⟩
 .refine gW hEc ?_;conv=>whnf
  rcases Cw (decide (((hav x.c.hs).length:Int)<=24)) with h2 | h2
  .rw [h2,h1] at hr
   refine .pure _ [] (dR _ _ h2) ?_
   refine dI hEc 2 ?_;conv=>whnf
   refine To.cutC [1,2] 2 rfl rfl rfl rfl ?_
   exact (QT x r hr)
  .rw [h2,Ch] at hr
   subst hr
   refine .pan _ (cE _ _ h2) ?_;conv=>whnf
   refine To.leave (f:=53) (args:=[.ref 1 0]) [] rfl [] [1] rfl (catch_pan 0 8) ?_
   exact To.left hE rfl rfl rfl
 .rw [h1,Ek] at hr
  subst hr
  refine gW hEc ?_;conv=>whnf
  refine .pan _ (cE _ _ rfl) ?_;conv=>whnf
  refine To.leave (f:=53) (args:=[.ref 1 0]) [] rfl [] [1] rfl (catch_pan 0 8) ?_
  exact To.left hE rfl rfl rfl
theorem VF (x:Cmd) (r:Int) (hr:chkN x=r):To Ec Tryz.f74 (.pure (.ret (ii r))) (.code (fB Tryz.f74 7) chF (chO x)):=by
 unfold chkN at hr
 refine gW hEc ?_;conv=>whnf
 cases h:okI [x.n] with
 | true=>
  rw [h] at hr
  refine .pure _ [] (aA.strip (fO [x.n] h)) ?_
  refine dI hEc 2 ?_;conv=>whnf
  refine To.cutC [1,2] 2 rfl rfl rfl rfl ?_
  exact (VE x r hr)
 | false=>
  rw [h] at hr
  subst hr
  refine .pan _ (aA.strip (eG [x.n] h)) ?_;conv=>whnf
  refine To.leave (f:=53) (args:=[.ref 1 0]) [] rfl [] [1] rfl (catch_pan 0 1) ?_
  exact To.left hE rfl rfl rfl
theorem VG (x:Cmd) (r:Int) (hr:chkG x=r):To Ec Tryz.f74 (.pure (.ret (ii r))) (.code (fB Tryz.f74 6) chF (chO x)):=by
 unfold chkG at hr
 refine gW hEc ?_;conv=>whnf
 cases h:x.g.ok with
 | true=>
  rw [h] at hr
  refine .pure _ [] (PK x.g h) ?_
  refine dI hEc 2 ?_;conv=>whnf
  refine To.cutC [1,2] 2 rfl rfl rfl rfl ?_
  exact (VF x r hr)
 | false=>
  rw [h] at hr
  subst hr
  refine .pan _ (K6 x.g h) ?_;conv=>whnf
  refine To.leave (f:=53) (args:=[.ref 1 0]) [] rfl [] [1] rfl (catch_pan 0 1) ?_
  exact To.left hE rfl rfl rfl
theorem FL (x:Cmd) (r:Int) (hr:chkC x=r):To Ec Tryz.f74 (.pure (.ret (ii r))) (.code (fB Tryz.f74 5) chF (chO x)):=by
 unfold chkC at hr
 refine gW hEc ?_;conv=>whnf
 cases h:x.c.tok with
 | true=>
  rw [h] at hr
  refine .pure _ [] (G9 x.c h) ?_
  refine dI hEc 2 ?_;conv=>whnf
  refine To.cutC [1,2] 2 rfl rfl rfl rfl ?_
  exact (VG x r hr)
 | false=>
  rw [h] at hr
  subst hr
  refine .pan _ (DF x.c h) ?_;conv=>whnf
  refine To.leave (f:=53) (args:=[.ref 1 0]) [] rfl [] [1] rfl (catch_pan 0 1) ?_
  exact To.left hE rfl rfl rfl
theorem iI {b:Bool} {p q r:Int} (hr:(if b then p else q)=r) (h:b=true):p=r:=by subst h;exact hr
theorem pI {b:Bool} {p q r:Int} (hr:(if b then p else q)=r) (h:b=false):q=r:=by subst h;exact hr
theorem RO (x:Cmd) (r:Int) (hr:chk4 x=r):To Ec Tryz.f74 (.pure (.ret (ii r))) (.code (fB Tryz.f74 4) chF (chO x)):=by
 unfold chk4 at hr
 refine gW hEc ?_;conv=>whnf
 refine ⟨fun h1=>?_,fun h1=>?_⟩
 .have h1:(x.k==3)=true:=h1
  replace hr:=iI hr (by simp [h1])
  refine gW hEc ?_;conv=>whnf
  refine aY ?_
  refine gW hEc ?_;conv=>whnf
  refine aY ?_
  refine gW hEc ?_;conv=>whnf
  refine .pure _ [] (dR _ _ rfl) ?_
  refine dI hEc 2 ?_;conv=>whnf
  refine To.cutC [1,2] 2 rfl rfl rfl rfl ?_
  exact (FL x r hr)
 .have h1:(x.k==3)=false:=h1
  refine gW hEc ?_;conv=>whnf
  refine ⟨fun h2=>?_,fun h2=>?_⟩
  .have h2:(x.k==4)=true:=h2
   replace hr:=iI hr (by simp [h2])
   refine gW hEc ?_;conv=>whnf
   refine aY ?_
   refine gW hEc ?_;conv=>whnf
   refine .pure _ [] (dR _ _ rfl) ?_
   refine dI hEc 2 ?_;conv=>whnf
   refine To.cutC [1,2] 2 rfl rfl rfl rfl ?_
   exact (FL x r hr)
  .have h2:(x.k==4)=false:=h2
   refine gW hEc ?_;conv=>whnf
   refine ⟨fun h3=>?_,fun h3=>?_⟩
   .have h3:(x.k==5)=true:=h3
    replace hr:=iI hr (by simp [h3])
    refine gW hEc ?_;conv=>whnf
    refine .pure _ [] (dR _ _ rfl) ?_
    refine dI hEc 2 ?_;conv=>whnf
    refine To.cutC [1,2] 2 rfl rfl rfl rfl ?_
    exact (FL x r hr)
   .have h3:(x.k==5)=false:=h3
    refine gW hEc ?_;conv=>whnf
    refine (Cw (x.n==0)).elim (fun h4=>?_) (fun h4=>?_)
    .replace hr:=iI hr (by simp [h4])
     refine .pure _ [] (dR _ _ h4) ?_
     refine dI hEc 2 ?_;conv=>whnf
     refine To.cutC [1,2] 2 rfl rfl rfl rfl ?_
     exact (FL x r hr)
    .replace hr:=pI hr (by simp [h1,h2,h3,h4])
     subst hr
     refine .pan _ (cE _ _ h4) ?_;conv=>whnf
     refine To.leave (f:=53) (args:=[.ref 1 0]) [] rfl [] [1] rfl (catch_pan 0 1) ?_
     exact To.left hE rfl rfl rfl
theorem RP (x:Cmd) (r:Int) (hr:chk3 x=r):To Ec Tryz.f74 (.pure (.ret (ii r))) (.code (fB Tryz.f74 3) chF (chO x)):=by
 unfold chk3 at hr
 refine gW hEc ?_;conv=>whnf
 refine ⟨fun h1=>?_,fun h1=>?_⟩
 .have h1:(x.k==2)=true:=h1
  replace hr:=iI hr (by simp [h1])
  refine gW hEc ?_;conv=>whnf
  refine .pure _ [] (dR _ _ rfl) ?_
  refine dI hEc 2 ?_;conv=>whnf
  refine To.cutC [1,2] 2 rfl rfl rfl rfl ?_
  exact (RO x r hr)
 .have h1:(x.k==2)=false:=h1
  refine gW hEc ?_;conv=>whnf
  refine (Cw x.g.isZ).elim (fun h4=>?_) (fun h4=>?_)
  .replace hr:=iI hr (by simp [h4])
   refine .pure _ [] (dR _ _ h4) ?_
   refine dI hEc 2 ?_;conv=>whnf
   refine To.cutC [1,2] 2 rfl rfl rfl rfl ?_
   exact (RO x r hr)
  .replace hr:=pI hr (by simp [h1,h4])
   subst hr
   refine .pan _ (cE _ _ h4) ?_;conv=>whnf
   refine To.leave (f:=53) (args:=[.ref 1 0]) [] rfl [] [1] rfl (catch_pan 0 1) ?_
   exact To.left hE rfl rfl rfl
theorem VH (x:Cmd) (r:Int) (hr:chk2 x=r):To Ec Tryz.f74 (.pure (.ret (ii r))) (.code (fB Tryz.f74 2) chF (chO x)):=by
 unfold chk2 Con.non at hr
 refine gW hEc ?_;conv=>whnf
 refine ⟨fun h1=>?_,fun h1=>?_⟩
 .have h1:(x.k==1)=true:=h1
  replace hr:=iI hr (by rw [h1];rfl)
  refine gW hEc ?_;conv=>whnf
  refine .pure _ [] (dR _ _ rfl) ?_
  refine dI hEc 2 ?_;conv=>whnf
  refine To.cutC [1,2] 2 rfl rfl rfl rfl ?_
  exact (RP x r hr)
 .have h1:(x.k==1)=false:=h1
  refine gW hEc ?_;conv=>whnf
  refine ⟨fun h2=>?_,fun h2=>?_⟩
  .have h2:(((nav x.c.ns).length:Int)==0)=true:=h2
   refine gW hEc ?_;conv=>whnf
   refine ⟨fun h3=>?_,fun h3=>?_⟩
   .have h3:(((hav x.c.hs).length:Int)==0)=true:=h3
    refine gW hEc ?_;conv=>whnf
    refine ⟨fun h4=>?_,fun h4=>?_⟩
    .have h4:(x.c.half==0)=true:=h4
     refine gW hEc ?_;conv=>whnf
     refine (Cw (x.c.age==0)).elim (fun h5=>?_) (fun h5=>?_)
     .replace hr:=iI hr (by rw [h1,h2,h3,h4,h5];rfl)
      refine .pure _ [] (dR _ _ h5) ?_
      refine dI hEc 2 ?_;conv=>whnf
      refine To.cutC [1,2] 2 rfl rfl rfl rfl ?_
      exact (RP x r hr)
     .replace hr:=pI hr (by rw [h1,h5,Ch];rfl)
      subst hr
      refine .pan _ (cE _ _ h5) ?_;conv=>whnf
      refine To.leave (f:=53) (args:=[.ref 1 0]) [] rfl [] [1] rfl (catch_pan 0 1) ?_
      exact To.left hE rfl rfl rfl
    .have h4:(x.c.half==0)=false:=h4
     replace hr:=pI hr (by rw [h1,h4,Ch,Ek];rfl)
     subst hr
     refine gW hEc ?_;conv=>whnf
     refine .pan _ (cE _ _ rfl) ?_;conv=>whnf
     refine To.leave (f:=53) (args:=[.ref 1 0]) [] rfl [] [1] rfl (catch_pan 0 1) ?_
     exact To.left hE rfl rfl rfl
   .have h3:(((hav x.c.hs).length:Int)==0)=false:=h3
    replace hr:=pI hr (by rw [h1,h3,Ch];rfl)
    subst hr
    refine gW hEc ?_;conv=>whnf
    refine aN ?_
    refine gW hEc ?_;conv=>whnf
    refine .pan _ (cE _ _ rfl) ?_;conv=>whnf
    refine To.leave (f:=53) (args:=[.ref 1 0]) [] rfl [] [1] rfl (catch_pan 0 1) ?_
    exact To.left hE rfl rfl rfl
  .have h2:(((nav x.c.ns).length:Int)==0)=false:=h2
   replace hr:=pI hr (by rw [h1,h2];rfl)
   subst hr
   refine gW hEc ?_;conv=>whnf
   refine aN ?_
   refine gW hEc ?_;conv=>whnf
   refine aN ?_
   refine gW hEc ?_;conv=>whnf
   refine .pan _ (cE _ _ rfl) ?_;conv=>whnf
   refine To.leave (f:=53) (args:=[.ref 1 0]) [] rfl [] [1] rfl (catch_pan 0 1) ?_
   exact To.left hE rfl rfl rfl
theorem VI (x:Cmd) (r:Int) (hr:chk x=r):To Ec Tryz.f74 (.pure (.ret (ii r))) (.code (fB Tryz.f74 1) chF (chO x)):=by
 unfold chk at hr
 refine gW hEc ?_;conv=>whnf
 refine ⟨fun h1=>?_,fun h1=>?_⟩
 .have h1:decide (1<=x.k)=true:=h1
  refine gW hEc ?_;conv=>whnf
  refine (Cw (decide (x.k<=6))).elim (fun h2=>?_) (fun h2=>?_)
  .rw [h1,h2] at hr
   refine .pure _ [] (dR _ _ h2) ?_
   refine dI hEc 2 ?_;conv=>whnf
   refine To.cutC [1,2] 2 rfl rfl rfl rfl ?_
   exact (VH x r hr)
  .rw [h2,Ch] at hr
   subst hr
   refine .pan _ (cE _ _ h2) ?_;conv=>whnf
   refine To.leave (f:=53) (args:=[.ref 1 0]) [] rfl [] [1] rfl (catch_pan 0 1) ?_
   exact To.left hE rfl rfl rfl
 .have h1:decide (1<=x.k)=false:=h1
  rw [h1,Ek] at hr
  subst hr
  refine gW hEc ?_;conv=>whnf
  refine .pan _ (cE _ _ rfl) ?_;conv=>whnf
  refine To.leave (f:=53) (args:=[.ref 1 0]) [] rfl [] [1] rfl (catch_pan 0 1) ?_
  exact To.left hE rfl rfl rfl
theorem HE (x:Cmd) (r:Int) (hr:chk x=r):aA Tryz.prog 74 [x.av] [] (.ret (ii r)) []:=by
 refine cT (E:=E) (fn:=Tryz.f74) (g:=.pure _) fun _=>?_
 refine gW hE ?_;conv=>whnf
 refine To.defer (f:=53) (args:=[.ref 1 0]) _ rfl rfl ?_
 refine To.cutC [1,2] 2 rfl rfl rfl rfl ?_
 exact VI x r hr
theorem check_ok (x:Cmd):aA Tryz.prog 74 [x.av] [] (.ret (ii (chk x))) []:=HE x _ rfl
def iB (r:Nat):Code->List KI->Option (List KI)
 | .region id o d,ks=>bif Ao id r then some (.code (.region id o d)::ks) else none
 | .seq a b,ks=>(match iB r a (.code b::ks) with | some x=>some x | none=>iB r b ks)
 | .cond _ a b,ks=>(match iB r a ks with | some x=>some x | none=>iB r b ks)
 | .block id b,ks=>iB r b (.inB id::ks)
 | .loop b,ks=>iB r b (.inL b::ks)
 | _,_=>none
def yU (fn:Func) (r:Nat):List KI:=match iB r (cG fn) [] with | some ks=>ks | none=>[]
open Go Go.AW Go.Proofs Go.RowKit
set_option maxRecDepth 100000
set_option maxHeartbeats 2000000
abbrev tWr:TypeId:=134
theorem xX:liesAt Tryz.prog Tryz.prog.depth tWr (2 / Tryz.prog.cellsOf tWr) 0 81 1=true:=by kernel_rfl
theorem xD:(Tryz.prog.info? 81).map (·.size)=some 2:=by kernel_rfl
theorem H2:Tryz.prog.underlying 78=some (.pointer 81):=by kernel_rfl
theorem H1:Tryz.prog.underlying 168=some .unsafePointer:=by kernel_rfl
theorem LN:Tryz.prog.funcs[121]? =some Tryz.f121:=by kernel_rfl
theorem hS (b:Nat) (w:World) (h0:w.cell? ⟨b,0,none⟩=some (.pointer none)) (hsh:w.shape? b=some (tWr,2)) (hfz:w.frozen? ⟨b,0,none⟩=false):
  Calls Tryz.prog 79 #[.pointer (some ⟨b,0,none⟩)] w fun e w'=>e= .returned (.tuple #[])/\w'=w.setCell ⟨b,0,none⟩ (.pointer (some ⟨b,0,none⟩)):=by
 obtain ⟨j,hj,hjs⟩:=Bo.1 xD
 go_enter Tryz.func79,Tryz.ntmps79
 go_wp2
 rw [Lib.run_to_unsafe w ⟨b,0,none⟩ H2 H1 hj (by rw [hjs];decide) hsh (Nat.zero_lt_succ 1)]
 simp only [Dp]
 rw [Oper.upon_value]
 go_wp2
 rw [run_callFunc_extern LN (by kernel_rfl) (by kernel_rfl) (by kernel_rfl) (e:=Extern.AbiNoEscape.same) (by kernel_rfl)]
 rw [Lib.run_noEscape]
 simp only [Dp]
 rw [Oper.upon_value]
 go_wp2
 rw [Lib.run_from_unsafe w ⟨b,0,none⟩ H1 H2 hj hsh xX]
 simp only [Dp]
 rw [Oper.upon_value]
 go_wp2
 go_end0
 exact ⟨rfl,rfl⟩
theorem RY:Tryz.prog.underlying 137=some (.pointer 5):=by kernel_rfl
theorem T4:Tryz.prog.cellsOf 5=1:=by kernel_rfl
theorem oU (b g cap:Nat) (p:Value) (cur:Array Value) (l:List UInt8) (w:World) (hbk:w.heap[b]? =some (.cells #[p,.slice (some ⟨g,0,none⟩) l.length cap] tWr (0,0))) (hg:w.heap[g]? =some (.cells cur 5 (0,0))) (h0:l≠[])
  (hcap:l.length<=cap) (hcm:cap<=maxLen) (hcs:cur.size=cap) (hcell:∀ (j:Nat) x,l[j]? =some x->w.cell? ⟨g,j,none⟩=some (.int .u8 x.toNat)):
  Calls Tryz.prog 36 #[.pointer (some ⟨b,0,none⟩)] w fun e w'=>e= .returned (.string ⟨l.toArray⟩)/\B4 g l.length w w':=by
 have hl0:l.length≠0:=by simpa using h0
 have c1:w.drew.cell? ⟨b,1,none⟩=some (.slice (some ⟨g,0,none⟩) l.length cap):=by
  have:w.drew.heap[b]? =some (.cells #[p,.slice (some ⟨g,0,none⟩) l.length cap] tWr (0,0)):=hbk
  rw [Lib.cell_of_heap this];rfl
 have hSD:(Ig #[79] 137 #[.slice (some ⟨g,0,none⟩) l.length cap]).run Tryz.prog w.drew= .ok (.pointer (some ⟨g,0,none⟩)) w.drew:=
  Lib.run_unsafeSliceData_row _ _ _ _ _ _ (by omega)
 have hUS:(Jj #[137,3] 9 #[.pointer (some ⟨g,0,none⟩),.int .i64 l.length]).run Tryz.prog w.drew= .ok (.string ⟨l.toArray⟩) (w.drew.freeze ⟨g,0,none⟩ l.length):=by
  refine Lib.run_unsafeString_row w.drew 137 3 9 5 RY T4 g cur.size (by have hg':w.drew.heap[g]? =some (.cells cur 5 (0,0)):=hg;simp [Jx,hg']) l h0 (by omega) (by unfold maxLen at hcm;omega) ?_
  intro j x hx
  rw [aZ,Bj]
  exact hcell j x hx
 have mixed:Tryz.prog.follows Departure.mixedOrders=true:=hE.mix
 go_enter Tryz.func36,Tryz.ntmps36
 go_wp2
 go_region_o
 all_goals (go_wp2;go_ret;exact ⟨rfl,LB hl0⟩)
theorem uD (s:AVal):aA Tryz.prog 79 [.ref 0 0] [.cells tWr [.nilptr,s]] (.ret (.tup [])) [.cells tWr [.ref 0 0,s]]:=
 mW (fun _ _=>by rfl) hS s
theorem str_ok (l:List UInt8) (h0:l≠[]) (p:AVal):aA Tryz.prog 36 [.ref 0 0] [.cells tWr [p,.slice 1 (l.map ub) (.own 1 0)],.tail 0 1 5] (.ret (.str l)) [.dead,.dead]:=
 lT (fun _ _=>by rfl) oU l h0 p
def oH:Nat->Nat->Nat->List UInt8->Option (Nat×Nat)
 | 0,_,_,_=>none
 | _+1,_,_,[]=>none
 | f+1,i,acc,c::r=>if c.toNat<128 then (if c.toNat=0/\0<i then none else some (acc+(c.toNat % 128)*2 ^ (7*i),i+1)) else oH f (i+1) (acc+(c.toNat % 128)*2 ^ (7*i)) r
def bZ (l:List UInt8):Option (Nat×Nat):=oH 9 0 0 l
def UW:Option (Nat×Nat)->AVal
 | some (n,k)=>.tup [.int .i64 n,.int .i64 k,.int .i64 0]
 | none=>.tup [.int .i64 0,.int .i64 0,.int .i64 10]
def putN (n:Nat):List UInt8:=if n<128 then [Dz n] else Dz (128+n % 128)::putN (n / 128)
termination_by n
decreasing_by omega
theorem yD:∀ (f i acc:Nat) (l:List UInt8) (n k:Nat),i+f=9->acc<2 ^ (7*i)->oH f i acc l=some (n,k)->n<2 ^ 63/\i<k/\k<=9/\k<=i+l.length
 | 0,_,_,_,_,_,_,_,h=>by cases h
 | f+1,i,acc,[],_,_,_,_,h=>by cases h
 | f+1,i,acc,c::r,n,k,hi,ha,h=>by
  have h2:acc+(c.toNat % 128)*2 ^ (7*i)<2 ^ (7*(i+1)):=by
   have h3:c.toNat % 128<=127:=by omega
   have h4:(c.toNat % 128)*2 ^ (7*i)<=127*2 ^ (7*i):=Bi _ h3
   have h5:2 ^ (7*(i+1))=128*2 ^ (7*i):=by rw [Eu,Ev];omega
   omega
  simp only [oH] at h
  split at h
  .split at h
   .cases h
   .cases h
    have:2 ^ (7*(i+1))<=2 ^ 63:=Ew (by decide) (by omega)
    simp only [Ap]
    omega
  .have:=yD f (i+1) _ r n k (by omega) h2 h
   simp only [Ap]
   omega
theorem AC:∀ (f i acc:Nat) (l:List UInt8) (n k:Nat),i+f=9->acc<2 ^ (7*i)->oH f i acc l=some (n,k)->∃ m,n=acc+m*2 ^ (7*i)/\putN m=l.take (k-i)/\(0<i->0<m)
 | 0,_,_,_,_,_,_,_,h=>by cases h
 | f+1,i,acc,[],_,_,_,_,h=>by cases h
 | f+1,i,acc,c::r,n,k,hi,ha,h=>by
  have h5:2 ^ (7*(i+1))=128*2 ^ (7*i):=by rw [Eu,Ev];omega
  simp only [oH] at h
  split at h
  .rename_i hc
   split at h
   .cases h
   .rename_i hz
    cases h
    refine ⟨c.toNat,by rw [Dm hc],?_,fun hi=>by omega⟩
    rw [putN,if_pos hc,Ea]
    simp
  .rename_i hc
   have h2:acc+(c.toNat % 128)*2 ^ (7*i)<2 ^ (7*(i+1)):=by
    have h3:c.toNat % 128<=127:=by omega
    have h4:(c.toNat % 128)*2 ^ (7*i)<=127*2 ^ (7*i):=Bi _ h3
    omega
   obtain ⟨m,e1,e2,e3⟩:=AC f (i+1) _ r n k (by omega) h2 h
   have hm:=e3 (by omega)
   have hk:=(yD f (i+1) _ r n k (by omega) h2 h).2.1
   have hc2:c.toNat<256:=c.toNat_lt
   refine ⟨c.toNat % 128+128*m,?_,?_,fun _=>by omega⟩
   .rw [e1,h5,Bu]
    have:m*(128*2 ^ (7*i))=128*m*2 ^ (7*i):=by rw [Nat.mul_left_comm,Jw]
    omega
   .rw [putN,if_neg (by omega),show (c.toNat % 128+128*m) / 128=m from by omega,show 128+(c.toNat % 128+128*m) % 128=c.toNat from by omega,e2,show k-i=(k-(i+1))+1 from by omega]
    simp
theorem A9:∀ (f i acc n:Nat) (s:List UInt8),i+f=9->n<2 ^ (7*f)->(0<i->0<n)->oH f i acc (putN n++s)=some (acc+n*2 ^ (7*i),i+(putN n).length)
 | 0,i,acc,n,s,_,hn,h0=>by simp at hn;omega
 | f+1,i,acc,n,s,hi,hn,h0=>by
  have h5:2 ^ (7*(f+1))=128*2 ^ (7*f):=by rw [Eu,Ev];omega
  have h6:2 ^ (7*(i+1))=128*2 ^ (7*i):=by rw [Eu,Ev];omega
  rw [putN]
  by_cases h:n<128
  .have e:(Dz n).toNat=n:=by rw [Ff,Dm (by omega)]
   rw [if_pos h]
   simp only [Gr,Eg,oH,e,if_pos h,Dm h]
   rw [if_neg (by omega)]
   simp
  .have e:(Dz (128+n % 128)).toNat=128+n % 128:=by rw [Ff,Dm (by omega)]
   rw [if_neg h]
   simp only [Gr,oH,e]
   rw [if_neg (by omega),A9 f (i+1) _ (n / 128) s (by omega) (by omega) (fun _=>by omega)]
   have e2:(128+n % 128) % 128=n % 128:=by omega
   rw [e2,h6]
   have e3:n*2 ^ (7*i)=(n % 128)*2 ^ (7*i)+n / 128*(128*2 ^ (7*i)):=by
    rw [<-Jw,<-Bu]
    congr 1
    omega
   simp only [Ap,Cf,Gb]
   omega
theorem E2 {l:List UInt8} {n k:Nat} (h:bZ l=some (n,k)):n<2 ^ 63/\0<k/\k<=9/\k<=l.length:=by
 have:=yD 9 0 0 l n k rfl (by decide) h
 omega
def leN:List UInt8->Nat
 | []=>0
 | c::r=>c.toNat+256*leN r
theorem pG:∀ (l:List UInt8),leN l<2 ^ (8*l.length)
 | []=>by simp [leN]
 | c::r=>by
  have:=pG r
  have h:=c.toNat_lt
  simp only [leN,Ap,Eu,Ev]
  omega
theorem lI:∀ (l:List UInt8) (c:UInt8),leN (l++[c])=leN l+c.toNat*2 ^ (8*l.length)
 | [],c=>by simp [leN]
 | d::r,c=>by
  simp only [Gr,leN,lI r c,Ap,Eu,Ev]
  have:c.toNat*(2 ^ (8*r.length)*2 ^ (8*1))=256*(c.toNat*2 ^ (8*r.length)):=by
   rw [<-Jw,Cz]
  omega
theorem vL {l:List UInt8} {i:Nat} {c:UInt8} (h:l[i]? =some c):l.take (i+1)=l.take i++[c]:=by
 rw [List.take_add_one,h]
 rfl
theorem AB (n:Nat):∀ b,n<2 ^ (7*b)->(putN n).length<=b+1:=by
 induction n using Jd with
 | ind n ih=>
  intro b hb
  rw [putN]
  split
  .simp
  .rename_i h
   cases b with
   | zero=>simp at hb;omega
   | succ b=>
    have:=ih (n / 128) (by omega) b (by rw [Eu,Ev] at hb;omega)
    simp only [Ap]
    omega
theorem K2 (n:Nat) (s:List UInt8) (hn:n<2 ^ 63):bZ (putN n++s)=some (n,(putN n).length):=by
 have:=A9 9 0 0 n s rfl (by omega) (fun h=>by omega)
 simpa [bZ] using this
set_option maxRecDepth 10000
theorem JG (n:Nat):∀ (acc:List UInt8),acc.length+(putN n).length<=100->(n:Int)<=9223372036854775807->
  To (Eo [3] []) Tryz.f78 (.pure (.ret (.str (acc++putN n)))) (.head (stk Tryz.f78 0) [(0,.int .i64 n),(3,.slice 1 (acc.map ub) (.own 0 0))] [.tail 0 1 5]):=by
 induction n using Jd with
 | ind n ih=>
  intro acc hlen hn
  have e1:(n:Int).fdiv (2 ^ Int.toNat 7)=((n / 128:Nat):Int):=by
   rw [Fq _ (by decide)]
   simp
  have e2:=DZ n
  have hp:1<=(putN n).length:=by rw [putN];split<;>simp
  have hl:(acc.map ub).length=acc.length:=by simp
  refine gW (hEo [3] []) ?_;conv=>whnf
  refine ⟨fun h=>?_,fun h=>?_⟩
  .have h:127<n:=by
    have:=of_decide_eq_true h
    omega
   have e3:fY .or .u8 ((n % 256:Nat):Int) 128=((128+n % 128:Nat):Int):=by
    have:=tT .u8 (n % 256) 128 (by simp only [bQ];omega) (by decide)
    rw [SP ⟨n % 256,by omega⟩] at this
    simp only at this
    rw [show n % 256 % 128=n % 128 from by omega] at this
    exact this
   have hput:putN n=Dz (128+n % 128)::putN (n / 128):=by rw [putN,if_neg (by omega)]
   refine gW (hEo [3] []) ?_;conv=>whnf
   refine .inr ?_
   refine gW (hEo [3] []) ?_;conv=>whnf
   refine ⟨⟨by simp only [maxLen];simp;omega,by simp;omega⟩,?_⟩
   refine gW (hEo [3] []) ?_;conv=>whnf
   refine ⟨⟨by decide,by decide⟩,?_⟩
   refine gW (hEo [3] []) ?_;conv=>whnf
   rw [e1,e2,e3]
   refine To.part [0,3] [0] rfl rfl rfl ?_
   have:=ih (n / 128) (by omega) (acc++[Dz (128+n % 128)]) (by rw [hput] at hlen;simp at hlen⊢;omega) (by omega)
   rw [hput]
   rw [Al,Cu,Cx,zF (by omega)] at this
   exact this
  .have h:¬ 127<n:=by
    have:=of_decide_eq_false h
    omega
   have hput:putN n=[Dz n]:=by rw [putN,if_pos (by omega)]
   refine gW (hEo [3] []) ?_;conv=>whnf
   refine .inr ?_
   refine gW (hEo [3] []) ?_;conv=>whnf
   refine ⟨⟨by simp only [maxLen];simp;omega,by simp;omega⟩,?_⟩
   refine gW (hEo [3] []) ?_;conv=>whnf
   refine ⟨acc++[Dz n],?_,by simp;omega,?_⟩
   .rw [e2,Dm (by omega),<-zF (by omega),Cu]
    rfl
   refine gW (hEo [3] []) ?_;conv=>whnf
   rw [hput]
theorem put_ok (n:Int):aA Tryz.prog 78 [.int .i64 n] [] (.ret (.str (putN n.toNat))) []:=by
 refine cT (E:=(Eo [3] [])) (fn:=Tryz.f78) (g:=.pure _) fun ho=>?_
 have hn:n<=9223372036854775807:=ho.1.2
 have:=AB n.toNat 9 (by omega)
 have e:max n 0=(n.toNat:Int):=by omega
 refine gW (hEo [3] []) ?_;conv=>whnf
 rw [e]
 refine To.head [0,3] ?_
 exact JG n.toNat [] (by simpa using (by omega:(putN n.toNat).length<=100)) (by omega)
def eqL {α:Type} (f:α->α->Bool):List α->List α->Bool
 | [],[]=>true
 | x::r,y::s=>f x y&&eqL f r s
 | _,_=>false
theorem oI {α:Type} {f:α->α->Bool}:∀ {a b:List α},a.length≠b.length->eqL f a b=false
 | [],[],h=>absurd rfl h
 | [],_::_,_=>rfl
 | _::_,[],_=>rfl
 | x::r,y::s,h=>by
  have:=oI (f:=f) (a:=r) (b:=s) (by simpa using h)
  simp [eqL,this]
theorem tO {α:Type} {f:α->α->Bool} (hf:∀ x,f x x=true):∀ (a:List α),eqL f a a=true
 | []=>rfl
 | x::r=>by simp [eqL,hf x,tO hf r]
def _root_.Go.Proofs.YtmalnhgopkfdaaaGreat.Nod.eqb (x y:Nod):Bool:=(x.p==y.p)&&((x.w==y.w)&&((x.n.a==y.n.a)&&((x.n.b==y.n.b)&&((x.n.c==y.n.c)&&((x.b.a==y.b.a)&&((x.b.b==y.b.b)&&((x.b.c==y.b.c)&&((x.l.a==y.l.a)&&((x.l.b==y.l.b)&&((x.l.c==y.l.c)&&true))))))))))
def _root_.Go.Proofs.YtmalnhgopkfdaaaGreat.Hos.eqb (x y:Hos):Bool:=(x.f==y.f)&&((x.b==y.b)&&((x.r==y.r)&&((x.c.a==y.c.a)&&((x.c.b==y.c.b)&&((x.c.c==y.c.c)&&true)))))
def _root_.Go.Proofs.YtmalnhgopkfdaaaGreat.Gan.eqb (x y:Gan):Bool:=(x.id==y.id)&&((x.ten==y.ten)&&((x.pods==y.pods)&&((x.need.a==y.need.a)&&((x.need.b==y.need.b)&&((x.need.c==y.need.c)&&((x.run==y.run)&&((x.lev==y.lev)&&((x.pref==y.pref)&&true))))))))
theorem _root_.Go.Proofs.YtmalnhgopkfdaaaGreat.Nod.eqb_eq {x y:Nod}:x.eqb y=true↔x=y:=by
 obtain ⟨_,_,⟨_,_,_⟩,⟨_,_,_⟩,⟨_,_,_⟩⟩:=x
 obtain ⟨_,_,⟨_,_,_⟩,⟨_,_,_⟩,⟨_,_,_⟩⟩:=y
 simp [Nod.eqb,and_assoc]
theorem _root_.Go.Proofs.YtmalnhgopkfdaaaGreat.Hos.eqb_eq {x y:Hos}:x.eqb y=true↔x=y:=by
 obtain ⟨_,_,_,⟨_,_,_⟩⟩:=x
 obtain ⟨_,_,_,⟨_,_,_⟩⟩:=y
 simp [Hos.eqb]
theorem _root_.Go.Proofs.YtmalnhgopkfdaaaGreat.Gan.eqb_eq {x y:Gan}:x.eqb y=true↔x=y:=by
 obtain ⟨_,_,_,⟨_,_,_⟩,_,_,_⟩:=x
 obtain ⟨_,_,_,⟨_,_,_⟩,_,_,_⟩:=y
 simp [Gan.eqb,and_assoc]
theorem LR (a b:List Nod) (hab:a.length=b.length) (hl:((nav a).length:Int)<=9223372036854775807) (r:Bool):∀ (n i:Nat),i+n=a.length->eqL Nod.eqb (a.drop i) (b.drop i)=r->
  To E Tryz.f122 (.pure (.ret (.bool r))) (.head (stk Tryz.f122 0) [(0,.slice 11 (nav a) .no),(1,.slice 11 (nav b) .no),(12,.int .i64 ((nav a).length:Nat)),(13,.int .i64 i)] []):=by
 have hlen:(nav a).length=a.length:=by simp
 intro n
 induction n with
 | zero=>
  intro i hi hr
  rw [Ai (by omega),Ai (by omega)] at hr
  subst hr
  refine gW hE ?_;conv=>whnf
  refine aF fun h=>?_
  refine gW hE ?_;conv=>whnf
  rfl
 | succ n ih=>
  intro i hi hr
  have h1:i<a.length:=by omega
  have h2:i<b.length:=by omega
  rw [Ag h1,Ag h2] at hr
  have hr:(Nod.eqb a[i] b[i]&&eqL Nod.eqb (a.drop (i+1)) (b.drop (i+1)))=r:=hr
  generalize hx:a[i]=x at hr
  generalize hy:b[i]=y at hr
  have ga:(nav a)[i]? =some (Nod.av x):=by simp [hx,h1]
  have gb:(nav b)[i]? =some (Nod.av y):=by simp [hy,h2]
  refine gW hE ?_;conv=>whnf
  refine aT fun h=>?_
  repeat' first | (refine gN hE ?_;conv=>whnf) | refine ⟨_,ga,?_⟩ | refine ⟨_,gb,?_⟩ | exact rfl | refine aY ?_ | refine aN ?_ | refine aT fun h=>?_ | refine aF fun h=>?_ | refine ⟨fun h=>?_,fun h=>?_⟩ | refine aJ ?_ | refine ⟨_,rfl,?_⟩ | refine aD ?_ | fail
  .rename_i h
   have h:Nod.eqb x y=false:=nZ h
   rw [h] at hr
   rw [<-hr];rfl
  .rename_i h
   have h:Nod.eqb x y=true:=oA h
   rw [h,Co] at hr
   refine To.head [0,1,12,13] ?_
   exact ih (i+1) (by omega) hr
theorem eqN_ok (a b:List Nod):aA Tryz.prog 122 [.slice 11 (nav a) .no,.slice 11 (nav b) .no] [] (.ret (.bool (eqL Nod.eqb a b))) []:=by
 have hla:(nav a).length=a.length:=by simp
 have hlb:(nav b).length=b.length:=by simp
 refine cT (E:=E) (fn:=Tryz.f122) (g:=.pure _) fun ho=>?_
 have hl:((nav a).length:Int)<=9223372036854775807:=ho.1
 refine gW hE ?_;conv=>whnf
 refine ⟨fun h=>?_,fun h=>?_⟩
 .have h:(((nav a).length:Int) !=((nav b).length:Int))=true:=h
  rw [oI (by intro e;rw [hla,hlb,e] at h;simp at h)]
  refine gW hE ?_;conv=>whnf
 .have h:(((nav a).length:Int) !=((nav b).length:Int))=false:=h
  refine gW hE ?_;conv=>whnf
  refine To.head [0,1,12,13] ?_
  exact LR a b (by simp at h;omega) hl _ a.length 0 (by omega) rfl
theorem LS (a b:List Hos) (hab:a.length=b.length) (hl:((hav a).length:Int)<=9223372036854775807) (r:Bool):∀ (n i:Nat),i+n=a.length->eqL Hos.eqb (a.drop i) (b.drop i)=r->
  To E Tryz.f123 (.pure (.ret (.bool r))) (.head (stk Tryz.f123 0) [(0,.slice 6 (hav a) .no),(1,.slice 6 (hav b) .no),(12,.int .i64 ((hav a).length:Nat)),(13,.int .i64 i)] []):=by
 have hlen:(hav a).length=a.length:=by simp
 intro n
 induction n with
 | zero=>
  intro i hi hr
  rw [Ai (by omega),Ai (by omega)] at hr
  subst hr
  refine gW hE ?_;conv=>whnf
  refine aF fun h=>?_
  refine gW hE ?_;conv=>whnf
  rfl
 | succ n ih=>
  intro i hi hr
  have h1:i<a.length:=by omega
  have h2:i<b.length:=by omega
  rw [Ag h1,Ag h2] at hr
  have hr:(Hos.eqb a[i] b[i]&&eqL Hos.eqb (a.drop (i+1)) (b.drop (i+1)))=r:=hr
  generalize hx:a[i]=x at hr
  generalize hy:b[i]=y at hr
  have ga:(hav a)[i]? =some (Hos.av x):=by simp [hx,h1]
  have gb:(hav b)[i]? =some (Hos.av y):=by simp [hy,h2]
  refine gW hE ?_;conv=>whnf
  refine aT fun h=>?_
  repeat' first | (refine gN hE ?_;conv=>whnf) | refine ⟨_,ga,?_⟩ | refine ⟨_,gb,?_⟩ | exact rfl | refine aY ?_ | refine aN ?_ | refine aT fun h=>?_ | refine aF fun h=>?_ | refine ⟨fun h=>?_,fun h=>?_⟩ | refine aJ ?_ | refine ⟨_,rfl,?_⟩ | refine aD ?_ | fail
  .rename_i h
   have h:Hos.eqb x y=false:=nZ h
   rw [h] at hr
   rw [<-hr];rfl
  .rename_i h
   have h:Hos.eqb x y=true:=oA h
   rw [h,Co] at hr
   refine To.head [0,1,12,13] ?_
   exact ih (i+1) (by omega) hr
theorem eqH_ok (a b:List Hos):aA Tryz.prog 123 [.slice 6 (hav a) .no,.slice 6 (hav b) .no] [] (.ret (.bool (eqL Hos.eqb a b))) []:=by
 have hla:(hav a).length=a.length:=by simp
 have hlb:(hav b).length=b.length:=by simp
 refine cT (E:=E) (fn:=Tryz.f123) (g:=.pure _) fun ho=>?_
 have hl:((hav a).length:Int)<=9223372036854775807:=ho.1
 refine gW hE ?_;conv=>whnf
 refine ⟨fun h=>?_,fun h=>?_⟩
 .have h:(((hav a).length:Int) !=((hav b).length:Int))=true:=h
  rw [oI (by intro e;rw [hla,hlb,e] at h;simp at h)]
  refine gW hE ?_;conv=>whnf
 .have h:(((hav a).length:Int) !=((hav b).length:Int))=false:=h
  refine gW hE ?_;conv=>whnf
  refine To.head [0,1,12,13] ?_
  exact LS a b (by simp at h;omega) hl _ a.length 0 (by omega) rfl
def pl:List Int->List UInt8
 | []=>[]
 | n::r=>putN n.toNat++pl r
theorem pl_append (a b:List Int):pl (a++b)=pl a++pl b:=by
 induction a with
 | nil=>rfl
 | cons n r ih=>simp [pl,ih]
theorem pn_len {n:Int} (h:n<=9223372036854775807):(putN n.toNat).length<=10:=by
 have:=AB n.toNat 9 (by omega)
 omega
theorem pl_len:∀ {l:List Int},(∀ n∈l,n<=9223372036854775807)->(pl l).length<=10*l.length
 | [],_=>by simp [pl]
 | n::r,h=>by
  have h1:=pn_len (h n (by simp))
  have h2:=pl_len (l:=r) fun m hm=>h m (by simp [hm])
  simp only [pl,Aj,Ap]
  omega
theorem S5 {n:Int} (h:kD n=true):0<=n/\n<=1099511627776:=by
 simpa [kD] using h
theorem okI_b:∀ {l:List Int},okI l=true->∀ n∈l,0<=n/\n<=1099511627776
 | [],_,n,hn=>by cases hn
 | x::r,h,n,hn=>by
  simp only [okI,Ac] at h
  rcases Bk.1 hn with rfl | hn
  .exact S5 h.1
  .exact okI_b h.2 n hn
def _root_.Go.Proofs.YtmalnhgopkfdaaaGreat.Gan.il (g:Gan):List Int:=[g.id,g.ten,g.pods,g.need.a,g.need.b,g.need.c,g.run,g.lev,g.pref]
def _root_.Go.Proofs.YtmalnhgopkfdaaaGreat.Nod.il (x:Nod):List Int:=[x.p+1,x.w,x.n.a,x.n.b,x.n.c,x.b.a,x.b.b,x.b.c,x.l.a,x.l.b,x.l.c]
def _root_.Go.Proofs.YtmalnhgopkfdaaaGreat.Hos.il (x:Hos):List Int:=[x.f,x.b,x.r,x.c.a,x.c.b,x.c.c]
def nodL:List Nod->List Int
 | []=>[]
 | x::r=>x.il++nodL r
def hosL:List Hos->List Int
 | []=>[]
 | x::r=>x.il++hosL r
def _root_.Go.Proofs.YtmalnhgopkfdaaaGreat.Con.il (c:Con):List Int:=[((nav c.ns).length:Int)]++nodL c.ns++([((hav c.hs).length:Int)]++hosL c.hs++[c.half,c.age])
def _root_.Go.Proofs.YtmalnhgopkfdaaaGreat.Cmd.il (x:Cmd):List Int:=x.k::(if x.k==1 then x.c.il else if x.k==2 then x.g.il else if x.k==6 then [] else [x.n])
theorem HV {v:V3} (h:okI v.l=true):(0<=v.a/\v.a<=1099511627776)/\(0<=v.b/\v.b<=1099511627776)/\(0<=v.c/\v.c<=1099511627776):=
 ⟨okI_b h _ (by simp [V3.l]),okI_b h _ (by simp [V3.l]),okI_b h _ (by simp [V3.l])⟩
abbrev wrO (bs:List UInt8) (g:Nat):List AObj:=[.cells tWr [.ref 0 0,.slice 1 (bs.map ub) (.own 1 g)],.tail g 1 5]
theorem yR (xs:List AVal):aA Tryz.prog 79 [.ref 0 0] [.cells tWr [.ref 0 0,.slice 1 xs (.own 1 0)],.tail 0 1 5] (.ret (.tup [])) [.cells tWr [.ref 0 0,.slice 1 xs (.own 1 0)],.tail 0 1 5]:=by
 refine cT (E:=E) (fn:=Tryz.f79) (g:=.full 2 _ _) fun _=>?_
 repeat' first | (refine gN hE ?_;conv=>whnf) | exact rfl | refine aY ?_ | refine aN ?_ | refine aT fun h=>?_ | refine aF fun h=>?_ | refine ⟨fun h=>?_,fun h=>?_⟩ | refine aJ ?_ | refine ⟨_,rfl,?_⟩ | refine aD ?_ | fail
 exact ⟨[],[0,1],⟨rfl,rfl⟩,rfl,rfl⟩
theorem nL (s:List UInt8) (hs:s.length<=1000):aA Tryz.prog 33 [.ref 0 0,.str s] [.cells tWr [.nilptr,.slice 1 [] .nil]] (.ret (.tup [ii s.length,.nilif])) (wrO s 0):=by
 refine cT (E:=(Eo [14] [])) (fn:=Tryz.f33) (g:=.full 1 _ _) fun _=>?_
 refine gW (hEo [14] []) ?_;conv=>whnf
 refine .eff [] [0] _ _ rfl (uD _) ?_
 refine gW (hEo [14] []) ?_;conv=>whnf
 refine ⟨⟨by simp only [maxLen];simp;omega,by simp;omega⟩,?_⟩
 refine gW (hEo [14] []) ?_;conv=>whnf
 exact ⟨[],[0,1],⟨rfl,rfl⟩,rfl,rfl⟩
theorem ws_ok (bs s:List UInt8) (hs:bs.length+s.length<=1000000):aA Tryz.prog 33 [.ref 0 0,.str s] (wrO bs 0) (.ret (.tup [ii s.length,.nilif])) (wrO (bs++s) 1):=by
 refine cT (E:=(Eo [14] [])) (fn:=Tryz.f33) (g:=.full 2 _ _) fun _=>?_
 refine gW (hEo [14] []) ?_;conv=>whnf
 refine .eff [] [0,1] _ _ rfl (yR _) ?_
 refine gW (hEo [14] []) ?_;conv=>whnf
 refine ⟨⟨by simp only [maxLen];simp;omega,by simp;omega⟩,?_⟩
 refine gW (hEo [14] []) ?_;conv=>whnf
 refine ⟨[],[0,1],⟨rfl,rfl⟩,?_⟩;conv=>whnf
 refine ⟨rfl,?_⟩
 rw [Cu]
 rfl
noncomputable abbrev BG:Func:=Tryz.f75
theorem pE (l:List Int) (hl:((iv l).length:Int)<=9223372036854775807) (hb:∀ n∈l,n<=9223372036854775807) (B:List UInt8) (g0:Nat) (hlen:10*l.length<=1000):∀ (n i g:Nat) (bs:List UInt8),i+n=l.length->(g=0\/g=1)->(n=0->g=g0)->(0<n->g0=1)->bs.length+10*n<=100000->bs++pl (l.drop i)=B->
  To E BG (.full 2 (.ret (.tup [])) (wrO B g0)) (.head (stk BG 0) [(0,.ref 0 0),(6,.slice 1 (iv l) .no),(7,.int .i64 ((iv l).length:Nat)),(8,.int .i64 i)] (wrO bs g)):=by
 have hln:(iv l).length=l.length:=by simp
 intro n
 induction n with
 | zero=>
  intro i g bs hi hg hg0 _ hbl hB
  have e:=hg0 rfl
  subst e
  rw [Ai (by omega)] at hB
  have hB:bs++[]=B:=hB
  rw [Bd] at hB
  subst hB
  refine gW hE ?_;conv=>whnf
  refine aF fun h=>?_
  refine gW hE ?_;conv=>whnf
  refine ⟨[],[0,1],⟨rfl,rfl⟩,?_⟩
  rcases hg with rfl | rfl
  .exact ⟨rfl,rfl⟩
  .exact ⟨rfl,rfl⟩
 | succ n ih=>
  intro i g bs hi hg _ hg1 hbl hB
  have e1:=hg1 (by omega)
  subst e1
  have hlt:i<l.length:=by omega
  rw [Ag hlt] at hB
  have hbx:=hb l[i] (Bw hlt)
  generalize hx:l[i]=x at hB hbx
  have hB:bs++(putN x.toNat++pl (l.drop (i+1)))=B:=hB
  rw [<-Al] at hB
  have get:(iv l)[i]? =some (ii x):=(gU hlt).trans (by rw [hx])
  have hp:=pn_len hbx
  refine gW hE ?_;conv=>whnf
  refine aT fun h=>?_
  refine gW hE ?_;conv=>whnf
  refine ⟨i,rfl,?_⟩
  refine gW hE ?_;conv=>whnf
  refine ⟨_,get,?_⟩
  refine gW hE ?_;conv=>whnf
  refine .pure _ [] (put_ok x) ?_
  refine gW hE ?_;conv=>whnf
  have next:=ih (i+1) 1 (bs++putN x.toNat) (by omega) (.inr rfl) (fun _=>rfl) (fun _=>rfl) (by simp;omega) hB
  rcases hg with rfl | rfl
  .refine .sole rfl (.eff [] [0,1] _ _ rfl (ws_ok bs _ (by omega)) ?_)
   refine gW hE ?_;conv=>whnf
   refine aJ ?_
   refine gW hE ?_;conv=>whnf
   refine To.part [0,6,7,8] [0,1] rfl rfl rfl ?_
   exact next
  .refine .sole rfl (.eff [] [0,1] _ _ rfl (ws_ok bs _ (by omega)) ?_)
   refine gW hE ?_;conv=>whnf
   refine aJ ?_
   refine gW hE ?_;conv=>whnf
   refine To.part [0,6,7,8] [0,1] rfl rfl rfl ?_
   exact next
theorem nums_ok (l:List Int) (h0:l≠[]) (hb:∀ n∈l,n<=9223372036854775807) (hlen:l.length<=100) (bs:List UInt8) (hbs:bs.length+10*l.length<=100000):
  aA Tryz.prog 75 [.ref 0 0,.slice 1 (iv l) .no] (wrO bs 0) (.ret (.tup [])) (wrO (bs++pl l) 1):=by
 have hln:(iv l).length=l.length:=by simp
 have hpos:0<l.length:=Ez.2 h0
 refine cT (E:=E) (fn:=Tryz.f75) (g:=.full 2 _ _) fun _=>?_
 refine gW hE ?_;conv=>whnf
 refine To.part [0,6,7,8] [0,1] rfl rfl rfl ?_
 exact pE l (by omega) hb _ 1 (by omega) l.length 0 0 bs (by omega) (.inl rfl) (fun h=>by omega) (fun _=>rfl) (by omega) rfl
theorem nums_fresh (k:Int) (hk:k<=9223372036854775807):aA Tryz.prog 75 [.ref 0 0,.slice 1 [ii k] .no] [.cells tWr [.nilptr,.slice 1 [] .nil]] (.ret (.tup [])) (wrO (putN k.toNat) 0):=by
 have hp:=pn_len hk
 refine cT (E:=E) (fn:=Tryz.f75) (g:=.full 1 _ _) fun _=>?_
 refine gW hE ?_;conv=>whnf
 refine gW hE ?_;conv=>whnf
 refine Ad (fun _=>?_) (fun h=>absurd (of_decide_eq_false h) (by simp))
 refine gW hE ?_;conv=>whnf
 refine ⟨0,rfl,?_⟩
 refine gW hE ?_;conv=>whnf
 refine ⟨_,rfl,?_⟩
 refine gW hE ?_;conv=>whnf
 refine .pure _ [] (put_ok k) ?_
 refine gW hE ?_;conv=>whnf
 refine .sole rfl (.eff [] [0] _ _ rfl (nL _ (by omega)) ?_)
 refine gW hE ?_;conv=>whnf
 refine aJ ?_
 refine gW hE ?_;conv=>whnf
 refine gW hE ?_;conv=>whnf
 refine Ad (fun h=>absurd (of_decide_eq_true h) (by simp)) (fun _=>?_)
 refine gW hE ?_;conv=>whnf
 refine ⟨[],[0,1],⟨rfl,rfl⟩,?_⟩
 exact ⟨rfl,rfl⟩
theorem v3_m {v:V3} (h:okI v.l=true):∀ n∈v.l,n<=9223372036854775807:=fun n hn=>by
 have:=okI_b h n hn
 omega
theorem l3_m {a b c:Int} (h:okI [a,b,c]=true):∀ n∈[a,b,c],n<=9223372036854775807:=fun n hn=>by
 have:=okI_b h n hn
 omega
theorem lZ (v:V3) (h:okI v.l=true) (bs:List UInt8) (hbs:bs.length<=90000):aA Tryz.prog 120 [.ref 0 0,.agg v.cs] (wrO bs 0) (.ret (.tup [])) (wrO (bs++pl v.l) 1):=by
 refine cT (E:=E) (fn:=Tryz.f120) (g:=.full 2 _ _) fun _=>?_
 refine gW hE ?_;conv=>whnf
 refine ⟨by decide,?_⟩
 refine gW hE ?_;conv=>whnf
 refine .eff [2] [0,1] _ _ rfl (aA.strip (nums_ok v.l (by simp [V3.l]) (v3_m h) (by simp [V3.l]) bs (by simp [V3.l];omega))) ?_
 refine gW hE ?_;conv=>whnf
 refine ⟨[],[0,1],⟨rfl,rfl⟩,?_⟩
 exact ⟨rfl,rfl⟩
theorem gan_b {g:Gan} (h:g.ok=true):okI [g.id,g.ten,g.pods]=true/\okI g.need.l=true/\okI [g.run,g.lev,g.pref]=true:=by
 simp only [Gan.ok,okI,Ac,Fi] at h⊢
 obtain ⟨⟨h1,h2,h3,h4,h5,h6⟩,h7⟩:=h
 exact ⟨⟨h1,h2,h3⟩,h7,h4,h5,h6⟩
theorem HS (g:Gan) (h:g.ok=true) (bs:List UInt8) (hbs:bs.length<=80000):aA Tryz.prog 77 [.ref 0 0,g.av] (wrO bs 0) (.ret (.tup [])) (wrO (bs++pl g.il) 1):=by
 obtain ⟨h1,h2,h3⟩:=gan_b h
 have l1:=pl_len (l3_m h1)
 have l2:=pl_len (v3_m h2)
 have e:bs++pl g.il=((bs++pl [g.id,g.ten,g.pods])++pl g.need.l)++pl [g.run,g.lev,g.pref]:=by
  rw [Al,Al,<-pl_append,<-pl_append];rfl
 rw [e]
 simp only [V3.l,Ap,Bq] at l1 l2
 refine cT (E:=E) (fn:=Tryz.f77) (g:=.full 2 _ _) fun _=>?_
 refine gW hE ?_;conv=>whnf
 refine .eff [] [0,1] _ _ rfl (aA.strip (nums_ok [g.id,g.ten,g.pods] (by simp) (l3_m h1) (by simp) bs (by simp;omega))) ?_
 refine gW hE ?_;conv=>whnf
 refine .eff [] [0,1] _ _ rfl (lZ g.need h2 _ (by simp;omega)) ?_
 refine gW hE ?_;conv=>whnf
 refine .eff [] [0,1] _ _ rfl (aA.strip (nums_ok [g.run,g.lev,g.pref] (by simp) (l3_m h3) (by simp) _ (by simp [V3.l];omega))) ?_
 refine gW hE ?_;conv=>whnf
 refine ⟨[],[0,1],⟨rfl,rfl⟩,?_⟩
 exact ⟨rfl,rfl⟩
noncomputable abbrev FB:Func:=Tryz.f76
theorem JY {x:Nod} (h:x.ok=true):(-1<=x.p/\x.p<=1099511627776)/\(0<=x.w/\x.w<=1099511627776)/\okI x.n.l=true/\okI x.b.l=true/\okI x.l.l=true:=by
 simp only [Nod.ok,Ac,decide_eq_true_eq] at h
 obtain ⟨⟨⟨⟨h1,h2⟩,h3⟩,h4⟩,h5⟩:=h
 exact ⟨h1,okI_b h2 _ (by simp),h3,h4,h5⟩
theorem KU {x:Hos} (h:x.ok=true):okI [x.f,x.b,x.r]=true/\okI x.c.l=true:=by
 simpa only [Hos.ok,Ac] using h
theorem Q3 {l:List Nod} (h:pT l=true):∀ (i:Nat) (hi:i<l.length),l[i].ok=true:=by
 induction l with
 | nil=>intro i hi;simp at hi
 | cons x r ih=>
  simp only [pT,Ac] at h
  intro i hi
  cases i with
  | zero=>exact h.1
  | succ i=>exact ih h.2 i (by simpa using hi)
theorem Q4 {l:List Hos} (h:mQ l=true):∀ (i:Nat) (hi:i<l.length),l[i].ok=true:=by
 induction l with
 | nil=>intro i hi;simp at hi
 | cons x r ih=>
  simp only [mQ,Ac] at h
  intro i hi
  cases i with
  | zero=>exact h.1
  | succ i=>exact ih h.2 i (by simpa using hi)
theorem il_len (x:Nod) (h:x.ok=true):(pl x.il).length<=110:=by
 obtain ⟨h1,h2,h3,h4,h5⟩:=JY h
 have:=pl_len (l:=x.il) (fun n hn=>by
  simp only [Nod.il,Bk,Gs,or_false] at hn
  have a1:=HV h3
  have a2:=HV h4
  have a3:=HV h5
  rcases hn with rfl | rfl | rfl | rfl | rfl | rfl | rfl | rfl | rfl | rfl | rfl<;>omega)
 simpa [Nod.il] using this
theorem ih_len (x:Hos) (h:x.ok=true):(pl x.il).length<=60:=by
 obtain ⟨h1,h2⟩:=KU h
 have:=pl_len (l:=x.il) (fun n hn=>by
  simp only [Hos.il,Bk,Gs,or_false] at hn
  have a1:=okI_b h1
  have a2:=HV h2
  have b1:=a1 x.f (by simp)
  have b2:=a1 x.b (by simp)
  have b3:=a1 x.r (by simp)
  rcases hn with rfl | rfl | rfl | rfl | rfl | rfl<;>omega)
 simpa [Hos.il] using this
theorem FR (c:Con) (hh:((hav c.hs).length:Int)<=24) (hc:mQ c.hs=true) (ht:okI [c.half,c.age]=true) (B:List UInt8):∀ (n i:Nat) (bs:List UInt8),i+n=c.hs.length->bs.length+60*n<=20000->bs++(pl (hosL (c.hs.drop i))++pl [c.half,c.age])=B->
  To E FB (.full 2 (.ret (.tup [])) (wrO B 1)) (.head (stk FB 1) [(0,.ref 0 0),(3,.ref 2 0),(49,.slice 6 (hav c.hs) .no),(50,.int .i64 ((hav c.hs).length:Nat)),(51,.int .i64 i)] (wrO bs 1++[.cells 26 c.cs])):=by
 have hln:(hav c.hs).length=c.hs.length:=by simp
 have hm:∀ n∈[c.half,c.age],n<=9223372036854775807:=fun n hn=>by have:=okI_b ht n hn;omega
 intro n
 induction n with
 | zero=>
  intro i bs hi hbl hB
  rw [Ai (by omega)] at hB
  have hB:bs++pl [c.half,c.age]=B:=hB
  subst hB
  refine gW hE ?_;conv=>whnf
  refine aF fun h=>?_
  refine gW hE ?_;conv=>whnf
  refine .eff [] [0,1] _ _ rfl (aA.strip (nums_ok [c.half,c.age] (by simp) hm (by simp) bs (by simp;omega))) ?_
  refine gW hE ?_;conv=>whnf
  refine ⟨[],[0,1],⟨rfl,rfl⟩,?_⟩
  exact ⟨rfl,rfl⟩
 | succ n ih=>
  intro i bs hi hbl hB
  have hlt:i<c.hs.length:=by omega
  rw [Ag hlt] at hB
  have hx1:=Q4 hc i hlt
  generalize hx:c.hs[i]=x at hB hx1
  have hB:bs++(pl (x.il++hosL (c.hs.drop (i+1)))++pl [c.half,c.age])=B:=hB
  obtain ⟨h1,h2⟩:=KU hx1
  have l1:=pl_len (l3_m h1)
  have l2:=pl_len (v3_m h2)
  have l3:=ih_len x hx1
  simp only [V3.l,Ap,Bq] at l1 l2
  have ex:bs++pl x.il=(bs++pl [x.f,x.b,x.r])++pl x.c.l:=by rw [Al,<-pl_append];rfl
  rw [pl_append,Al,<-Al,ex] at hB
  have get:(hav c.hs)[i]? =some x.av:=(rG hlt).trans (by rw [hx])
  refine gW hE ?_;conv=>whnf
  refine aT fun h=>?_
  refine gW hE ?_;conv=>whnf
  refine ⟨i,rfl,?_⟩
  refine gW hE ?_;conv=>whnf
  refine ⟨_,get,?_⟩
  refine gW hE ?_;conv=>whnf
  refine .eff [] [0,1] _ _ rfl (aA.strip (nums_ok [x.f,x.b,x.r] (by simp) (l3_m h1) (by simp) bs (by simp;omega))) ?_
  refine gW hE ?_;conv=>whnf
  refine .eff [] [0,1] _ _ rfl (lZ x.c h2 _ (by simp;omega)) ?_
  refine gW hE ?_;conv=>whnf
  refine aJ ?_
  refine gW hE ?_;conv=>whnf
  refine To.part [0,3,49,50,51] [0,1,2] rfl rfl rfl ?_
  exact ih (i+1) _ (by omega) (by rw [<-ex];simp;omega) hB
theorem FQ (c:Con) (hn:((nav c.ns).length:Int)<=12) (hh:((hav c.hs).length:Int)<=24) (hcn:pT c.ns=true) (hc:mQ c.hs=true) (ht:okI [c.half,c.age]=true) (B:List UInt8):∀ (n i:Nat) (bs:List UInt8),i+n=c.ns.length->bs.length+110*n<=10000->
  bs++(pl (nodL (c.ns.drop i))++(pl [((hav c.hs).length:Int)]++(pl (hosL c.hs)++pl [c.half,c.age])))=B->
  To E FB (.full 2 (.ret (.tup [])) (wrO B 1)) (.head (stk FB 0) [(0,.ref 0 0),(3,.ref 2 0),(15,.slice 11 (nav c.ns) .no),(16,.int .i64 ((nav c.ns).length:Nat)),(17,.int .i64 i)] (wrO bs 1++[.cells 26 c.cs])):=by
 have hln:(nav c.ns).length=c.ns.length:=by simp
 have hlh:(hav c.hs).length=c.hs.length:=by simp
 intro n
 induction n with
 | zero=>
  intro i bs hi hbl hB
  rw [Ai (by omega)] at hB
  have hB:bs++(pl [((hav c.hs).length:Int)]++(pl (hosL c.hs)++pl [c.half,c.age]))=B:=hB
  rw [<-Al] at hB
  have hml:∀ n∈[((hav c.hs).length:Int)],n<=9223372036854775807:=fun n hn=>by simp at hn;omega
  have l1:=pl_len hml
  simp only [Ap,Bq] at l1
  refine gW hE ?_;conv=>whnf
  refine aF fun h=>?_
  refine gW hE ?_;conv=>whnf
  refine .eff [] [0,1] _ _ rfl (aA.strip (nums_ok [((hav c.hs).length:Int)] (by simp) hml (by simp) bs (by simp;omega))) ?_
  refine gW hE ?_;conv=>whnf
  refine To.part [0,3,49,50,51] [0,1,2] rfl rfl rfl ?_
  exact FR c hh hc ht B c.hs.length 0 _ (by omega) (by simp only [Aj];omega) hB
 | succ n ih=>
  intro i bs hi hbl hB
  have hlt:i<c.ns.length:=by omega
  rw [Ag hlt] at hB
  have hx1:=Q3 hcn i hlt
  generalize hx:c.ns[i]=x at hB hx1
  have hB:bs++(pl (x.il++nodL (c.ns.drop (i+1)))++_)=B:=hB
  obtain ⟨h1,h2,h3,h4,h5⟩:=JY hx1
  have hm:∀ n∈[x.p+1,x.w],n<=9223372036854775807:=fun n hn=>by simp at hn;omega
  have l1:=pl_len hm
  have l2:=pl_len (v3_m h3)
  have l3:=pl_len (v3_m h4)
  have l4:=pl_len (v3_m h5)
  have l5:=il_len x hx1
  simp only [V3.l,Ap,Bq] at l1 l2 l3 l4
  have ex:bs++pl x.il=(((bs++pl [x.p+1,x.w])++pl x.n.l)++pl x.b.l)++pl x.l.l:=by rw [Al,Al,Al,<-pl_append,<-pl_append,<-pl_append];rfl
  rw [pl_append,Al,<-Al,ex] at hB
  have get:(nav c.ns)[i]? =some x.av:=(jX hlt).trans (by rw [hx])
  refine gW hE ?_;conv=>whnf
  refine aT fun h=>?_
  refine gW hE ?_;conv=>whnf
  refine ⟨i,rfl,?_⟩
  refine gW hE ?_;conv=>whnf
  refine ⟨_,get,?_⟩
  refine gW hE ?_;conv=>whnf
  refine aJ ?_
  refine gW hE ?_;conv=>whnf
  refine .eff [] [0,1] _ _ rfl (aA.strip (nums_ok [x.p+1,x.w] (by simp) hm (by simp) bs (by simp;omega))) ?_
  refine gW hE ?_;conv=>whnf
  refine .eff [] [0,1] _ _ rfl (lZ x.n h3 _ (by simp;omega)) ?_
  refine gW hE ?_;conv=>whnf
  refine .eff [] [0,1] _ _ rfl (lZ x.b h4 _ (by simp [V3.l];omega)) ?_
  refine gW hE ?_;conv=>whnf
  refine .eff [] [0,1] _ _ rfl (lZ x.l h5 _ (by simp [V3.l];omega)) ?_
  refine gW hE ?_;conv=>whnf
  refine aJ ?_
  refine gW hE ?_;conv=>whnf
  refine To.part [0,3,15,16,17] [0,1,2] rfl rfl rfl ?_
  exact ih (i+1) _ (by omega) (by rw [<-ex];simp;omega) hB
theorem HT (c:Con) (hn:((nav c.ns).length:Int)<=12) (hh:((hav c.hs).length:Int)<=24) (hc:c.tok=true) (bs:List UInt8) (hbs:bs.length<=100):
  aA Tryz.prog 76 [.ref 0 0,c.av] (wrO bs 0) (.ret (.tup [])) (wrO (bs++pl c.il) 1):=by
 have hln:(nav c.ns).length=c.ns.length:=by simp
 simp only [Con.tok,Ac] at hc
 obtain ⟨⟨h1,h2⟩,h3⟩:=hc
 have hml:∀ n∈[((nav c.ns).length:Int)],n<=9223372036854775807:=fun n hn=>by simp at hn;omega
 have l1:=pl_len hml
 simp only [Ap,Bq] at l1
 refine cT (E:=E) (fn:=Tryz.f76) (g:=.full 2 _ _) fun _=>?_
 refine gW hE ?_;conv=>whnf
 refine .eff [] [0,1] _ _ rfl (aA.strip (nums_ok [((nav c.ns).length:Int)] (by simp) hml (by simp) bs (by simp;omega))) ?_
 refine gW hE ?_;conv=>whnf
 refine To.part [0,3,15,16,17] [0,1,2] rfl rfl rfl ?_
 exact FQ c hn hh h1 h2 h3 _ c.ns.length 0 _ (by omega) (by simp only [Aj];omega) (by simp only [Con.il,pl_append,Al,Dq])
structure Told (x:Cmd):Prop where
 k:1<=x.k/\x.k<=6
 c:x.k=1\/x.c.non=true
 g:x.k=2\/x.g.isZ=true
 n:(x.k=3\/x.k=4\/x.k=5)\/x.n=0
 cok:x.c.tok=true
 gok:x.g.ok=true
 nok:0<=x.n/\x.n<=1099511627776
 ln:((nav x.c.ns).length:Int)<=12
 lh:((hav x.c.hs).length:Int)<=24
theorem kC {b:Bool} {y:Int} (h:(if b then y else 1)=0):b=true/\y=0:=by
 cases b with
 | true=>exact ⟨rfl,h⟩
 | false=>cases h
theorem chk_told {x:Cmd} (h:chk x=0):Told x:=by
 unfold chk at h
 obtain ⟨h1,h⟩:=kC h
 unfold chk2 at h
 obtain ⟨h2,h⟩:=kC h
 unfold chk3 at h
 obtain ⟨h3,h⟩:=kC h
 unfold chk4 at h
 obtain ⟨h4,h⟩:=kC h
 unfold chkC at h
 obtain ⟨h5,h⟩:=kC h
 unfold chkG at h
 obtain ⟨h6,h⟩:=kC h
 unfold chkN at h
 obtain ⟨h7,h⟩:=kC h
 unfold chkL at h
 simp only [Ac,De,decide_eq_true_eq,beq_iff_eq] at h1 h2 h3 h4
 have h8:decide (((nav x.c.ns).length:Int)<=12)=true/\decide (((hav x.c.hs).length:Int)<=24)=true:=by
  split at h
  .rename_i hh
   simpa using hh
  .cases h
 exact ⟨h1,h2,h3,by rcases h4 with ((h4 | h4) | h4) | h4
                    .exact .inl (.inl h4)
                    .exact .inl (.inr (.inl h4))
                    .exact .inl (.inr (.inr h4))
                    .exact .inr h4,h5,h6,okI_b h7 _ (by simp),of_decide_eq_true h8.1,of_decide_eq_true h8.2⟩
def encB (x:Cmd):List UInt8:=if chk x=0 then pl x.il else []
theorem pl_ne (k:Int) (r:List Int):pl (k::r)≠[]:=by
 have:1<=(putN k.toNat).length:=by rw [putN];split<;>simp
 intro h
 have h1:(pl (k::r)).length=0:=by rw [h];rfl
 simp only [pl,Aj] at h1
 omega
theorem fQ (x:Cmd) (r:List Int) (h:(if x.k==1 then x.c.il else if x.k==2 then x.g.il else if x.k==6 then [] else [x.n])=r):putN x.k.toNat++pl r=pl x.il:=by
 subst h
 rfl
theorem enc_ok (x:Cmd):aA Tryz.prog 31 [x.av] [] (.ret (.tup [.str (encB x),ii (chk x)])) []:=by
 refine cT (E:=E) (fn:=Tryz.f31) (g:=.pure _) fun _=>?_
 refine gW hE ?_;conv=>whnf
 refine .pure _ [] (check_ok x) ?_
 refine gW hE ?_;conv=>whnf
 refine ⟨fun h=>?_,fun h=>?_⟩
 .have h:(chk x !=0)=true:=h
  have h0:¬ chk x=0:=by simpa using h
  have e:encB x=[]:=if_neg h0
  rw [e]
  refine gW hE ?_;conv=>whnf
 .have h:(chk x !=0)=false:=h
  have h0:chk x=0:=by simpa using h
  have e:encB x=pl x.il:=if_pos h0
  rw [e,h0]
  have T:=chk_told h0
  have hk:x.k<=9223372036854775807:=by have:=T.k;omega
  have hp:=pn_len hk
  refine gW hE ?_;conv=>whnf
  refine .eff [] [1] _ _ rfl (aA.strip (nums_fresh x.k hk)) ?_
  refine gW hE ?_;conv=>whnf
  refine Ad (fun h1=>?_) (fun h1=>?_)
  .have h1:(x.k==1)=true:=h1
   have il:=fQ x x.c.il (by rw [h1];rfl)
   have hne:putN x.k.toNat++pl x.c.il≠[]:=by rw [il];exact pl_ne _ _
   refine gW hE ?_;conv=>whnf
   refine .eff [] [1,2] _ _ rfl (HT x.c T.ln T.lh T.cok _ (by omega)) ?_
   refine gW hE ?_;conv=>whnf
   refine .eff [] [1,2] _ _ rfl (str_ok _ hne _) ?_
   refine gW hE ?_;conv=>whnf
   rw [il]
  .have h1:(x.k==1)=false:=h1
   refine gW hE ?_;conv=>whnf
   refine Ad (fun h2=>?_) (fun h2=>?_)
   .have h2:(x.k==2)=true:=h2
    have il:=fQ x x.g.il (by rw [h1,h2];rfl)
    have hne:putN x.k.toNat++pl x.g.il≠[]:=by rw [il];exact pl_ne _ _
    refine gW hE ?_;conv=>whnf
    refine .eff [] [1,2] _ _ rfl (HS x.g T.gok _ (by omega)) ?_
    refine gW hE ?_;conv=>whnf
    refine .eff [] [1,2] _ _ rfl (str_ok _ hne _) ?_
    refine gW hE ?_;conv=>whnf
    rw [il]
   .have h2:(x.k==2)=false:=h2
    have hn:∀ n∈[x.n],n<=9223372036854775807:=fun n hn=>by have:=T.nok;simp at hn;omega
    refine gW hE ?_;conv=>whnf
    refine Ad (fun h3=>?_) (fun h3=>?_)
    .have h3:(x.k==3)=true:=h3
     have h6:(x.k==6)=false:=by have:=eq_of_beq h3;rw [this];rfl
     refine gW hE ?_;conv=>whnf
     refine Ad (fun _=>?_) (fun h=>absurd (h3.symm.trans h) (by decide))
     refine gW hE ?_;conv=>whnf
     refine .eff [] [1,2] _ _ rfl (aA.strip (nums_ok [x.n] (by simp) hn (by simp) _ (by simp;omega))) ?_
     refine gW hE ?_;conv=>whnf
     have il:=fQ x [x.n] (by rw [h1,h2,h6];rfl)
     have hne:putN x.k.toNat++pl [x.n]≠[]:=by rw [il];exact pl_ne _ _
     refine .eff [] [1,2] _ _ rfl (str_ok _ hne _) ?_
     refine gW hE ?_;conv=>whnf
     rw [il]
    .have h3:(x.k==3)=false:=h3
     refine gW hE ?_;conv=>whnf
     refine Ad (fun h4=>?_) (fun h4=>?_)
     .have h4:(x.k==4)=true:=h4
      have h6:(x.k==6)=false:=by have:=eq_of_beq h4;rw [this];rfl
      refine gW hE ?_;conv=>whnf
      refine Ad (fun _=>?_) (fun h=>absurd (h4.symm.trans h) (by decide))
      refine gW hE ?_;conv=>whnf
      refine .eff [] [1,2] _ _ rfl (aA.strip (nums_ok [x.n] (by simp) hn (by simp) _ (by simp;omega))) ?_
      refine gW hE ?_;conv=>whnf
      have il:=fQ x [x.n] (by rw [h1,h2,h6];rfl)
      have hne:putN x.k.toNat++pl [x.n]≠[]:=by rw [il];exact pl_ne _ _
      refine .eff [] [1,2] _ _ rfl (str_ok _ hne _) ?_
      refine gW hE ?_;conv=>whnf
      rw [il]
     .have h4:(x.k==4)=false:=h4
      refine gW hE ?_;conv=>whnf
      refine Ad (fun h5=>?_) (fun h5=>?_)
      .have h5:(x.k==5)=true:=h5
       have h6:(x.k==6)=false:=by have:=eq_of_beq h5;rw [this];rfl
       refine gW hE ?_;conv=>whnf
       refine .eff [] [1,2] _ _ rfl (aA.strip (nums_ok [x.n] (by simp) hn (by simp) _ (by simp;omega))) ?_
       refine gW hE ?_;conv=>whnf
       have il:=fQ x [x.n] (by rw [h1,h2,h6];rfl)
       have hne:putN x.k.toNat++pl [x.n]≠[]:=by rw [il];exact pl_ne _ _
       refine .eff [] [1,2] _ _ rfl (str_ok _ hne _) ?_
       refine gW hE ?_;conv=>whnf
       rw [il]
      .have h5:(x.k==5)=false:=h5
       have h6:(x.k==6)=true:=by
              have:=T.k
              simp at h1 h2 h3 h4 h5⊢
              omega
       have il:=fQ x [] (by rw [h1,h2,h6];rfl)
       rw [show putN x.k.toNat++pl []=putN x.k.toNat from Bd _] at il
       have hne:putN x.k.toNat≠[]:=by rw [il];exact pl_ne _ _
       refine gW hE ?_;conv=>whnf
       refine .eff [] [1,2] _ _ rfl (str_ok _ hne _) ?_
       refine gW hE ?_;conv=>whnf
       rw [il]
theorem K1 (l:List UInt8):∀ (f i acc:Nat) (rest:List UInt8),i+f=9->rest=l.drop i->i<=l.length->acc<2 ^ (7*i)->
  To E Tryz.f105 (.pure (.ret (UW (oH f i acc rest)))) (.head (stk Tryz.f105 0) [(0,.str l),(5,.int .i64 acc),(10,.int .i64 (min (l.length:Int) 9)),(11,.int .i64 i)] []):=by
 intro f
 induction f with
 | zero=>
  intro i acc rest hi hr hl ha
  refine gW hE ?_;conv=>whnf
  refine aF fun h=>?_
  refine gW hE ?_;conv=>whnf
  rfl
 | succ f ih=>
  intro i acc rest hi hr hl ha
  cases rest with
  | nil=>
   have hle:l.length<=i:=by simpa using hr.symm
   refine gW hE ?_;conv=>whnf
   refine aF fun h=>?_
   refine gW hE ?_;conv=>whnf
   rfl
  | cons c r=>
   have hc:l[i]? =some c:=by
    have:(l.drop i)[0]? =some c:=by rw [<-hr];rfl
    simpa using this
   have hil:i<l.length:=(Aa.1 hc).1
   have hr':r=l.drop (i+1):=by rw [<-Ho,<-hr];rfl
   have h5:2 ^ (7*(i+1))=128*2 ^ (7*i):=by rw [Eu,Ev];omega
   have h3:c.toNat % 128<=127:=by omega
   have h4:(c.toNat % 128)*2 ^ (7*i)<=127*2 ^ (7*i):=Bi _ h3
   have h6:2 ^ (7*(i+1))<=2 ^ 63:=Ew (by decide) (by omega)
   have hc2:c.toNat<256:=c.toNat_lt
   have e1:fY .and .u8 (c.toNat:Int) 127=((c.toNat % 128:Nat):Int):=by
    have:=G5 .u8 c.toNat 127 (by simp only [bQ];omega) (by decide)
    rw [show (127:Nat)=2 ^ 7-1 from rfl,QZ] at this
    exact this
   have e2:(7*(i:Int)).toNat=7*i:=by omega
   have e3:((c.toNat % 128:Nat):Int)*2 ^ (7*i)=((c.toNat % 128*2 ^ (7*i):Nat):Int):=by simp
   have e4:fY .or .i64 (acc:Int) ((c.toNat % 128*2 ^ (7*i):Nat):Int)=((acc+c.toNat % 128*2 ^ (7*i):Nat):Int):=by
    rw [tT .i64 _ _ (by simp only [bQ];omega) (by simp only [bQ];omega),JQ ha]
   refine gW hE ?_;conv=>whnf
   refine aT fun h=>?_
   refine gW hE ?_;conv=>whnf
   refine ⟨i,rfl,?_⟩
   refine gW hE ?_;conv=>whnf
   refine ⟨c,hc,?_⟩
   refine gW hE ?_;conv=>whnf
   refine .inl ⟨by rw [e1];exact mG (by simp only [bQ];omega),?_⟩
   refine gW hE ?_;conv=>whnf
   refine Fk (Ad (Ad (by simp only [cU];omega) (by simp only [bQ];omega)) ?_)
   refine gW hE ?_;conv=>whnf
   refine ⟨by omega,?_⟩
   refine gW hE ?_;conv=>whnf
   refine .inl ⟨⟨by rw [e2];simp only [IntKind.bits];omega,by rw [e1,e2,e3];exact mG (by simp only [bQ];omega)⟩,?_⟩
   refine gW hE ?_;conv=>whnf
   rw [e1,e2,e3,e4]
   refine ⟨fun h=>?_,fun h=>?_⟩
   .have hlt:c.toNat<128:=by have:=of_decide_eq_true h;omega
    have hd:¬ (c.toNat=0/\0<i)->oH (f+1) i acc (c::r)=some (acc+(c.toNat % 128)*2 ^ (7*i),i+1):=fun hz=>by
     rw [oH,if_pos hlt,if_neg hz]
    refine gW hE ?_;conv=>whnf
    refine Ad (fun hz=>?_) (fun hz=>?_)
    .have hz:c.toNat=0:=by
      have hz:((c.toNat:Int)==0)=true:=hz
      have:=eq_of_beq hz
      omega
     refine gW hE ?_;conv=>whnf
     refine Ad (fun h0=>?_) (fun h0=>?_)
     .have h0:0<i:=by have:=of_decide_eq_true h0;omega
      refine gW hE ?_;conv=>whnf
      rw [oH,if_pos hlt,if_pos ⟨hz,h0⟩]
      rfl
     .have h0:¬ 0<i:=by have:=of_decide_eq_false h0;omega
      rw [hd (by omega)]
      refine gW hE ?_;conv=>whnf
      refine Fk (Ad (Ad (by simp only [cU];omega) (by simp only [bQ];omega)) ?_)
      refine gW hE ?_;conv=>whnf
      rfl
    .have hz:¬ c.toNat=0:=by
      have hz:((c.toNat:Int)==0)=false:=hz
      intro e
      rw [e] at hz
      cases hz
     rw [hd (by omega)]
     refine gW hE ?_;conv=>whnf
     refine aN ?_
     refine gW hE ?_;conv=>whnf
     refine Fk (Ad (Ad (by simp only [cU];omega) (by simp only [bQ];omega)) ?_)
     refine gW hE ?_;conv=>whnf
     rfl
   .have hlt:¬ c.toNat<128:=by have:=of_decide_eq_false h;omega
    rw [oH,if_neg hlt]
    refine gW hE ?_;conv=>whnf
    refine Fk (Ad (Ad (by simp only [cU];omega) (by simp only [bQ];omega)) ?_)
    refine gW hE ?_;conv=>whnf
    refine To.head [0,5,10,11] ?_
    exact ih (i+1) (acc+(c.toNat % 128)*2 ^ (7*i)) r (by omega) hr' (by omega) (by omega)
theorem K0 (l:List UInt8):aA Tryz.prog 105 [.str l] [] (.ret (UW (bZ l))) []:=by
 refine cT (E:=E) (fn:=Tryz.f105) (g:=.pure _) fun _=>?_
 refine gW hE ?_;conv=>whnf
 refine To.head [0,5,10,11] ?_
 exact K1 l 9 0 0 l rfl rfl (Bh _) (by decide)
theorem aH {α:Type} {o:Option α} {C:Prop} (h0:o=none->C) (h1:∀ x,o=some x->C):C:=by
 cases o with
 | none=>exact h0 rfl
 | some x=>exact h1 x rfl
abbrev tRd:TypeId:=51
abbrev rdO (s:List UInt8):List AObj:=[.cells tRd [.str s]]
abbrev rdU:List AObj:=[.cells tRd [.undef]]
def bA (s:List UInt8):Option (Int×List UInt8):=match bZ s with
 | some (n,k)=>some ((n:Int),s.drop k)
 | none=>none
def oY {α:Type} (av:α->AVal):Option (α×List UInt8)->Res
 | some (a,_)=>.ret (av a)
 | none=>.pan (aS 10)
def pD {α:Type}:Option (α×List UInt8)->List AObj
 | some (_,s)=>rdO s
 | none=>rdU
theorem aW {s s':List UInt8} {n:Int} (h:bA s=some (n,s')):aA Tryz.prog 56 [.ref 0 0] (rdO s) (.ret (ii n)) (rdO s'):=by
 unfold bA at h
 split at h
 .rename_i m k hg
  cases h
  have hc:=K0 s
  rw [hg] at hc
  have hb:=E2 hg
  refine cT (E:=E) (fn:=Tryz.f56) (g:=.full 1 _ _) fun _=>?_
  refine gW hE ?_;conv=>whnf
  refine .pure _ [] hc ?_
  refine gW hE ?_;conv=>whnf
  refine .pure _ [] (dR _ _ rfl) ?_
  refine gW hE ?_;conv=>whnf
  refine ⟨k,rfl,?_⟩
  refine gW hE ?_;conv=>whnf
  refine ⟨by omega,?_⟩
  refine gW hE ?_;conv=>whnf
  exact ⟨[],[0],⟨rfl,rfl⟩,rfl,rfl⟩
 .cases h
theorem bC {s:List UInt8} (h:bA s=none):aA Tryz.prog 56 [.ref 0 0] (rdO s) (.pan (aS 10)) rdU:=by
 unfold bA at h
 split at h
 .cases h
 .rename_i hg
  have hc:=K0 s
  rw [hg] at hc
  refine aA.blur (obs':=rdO s) ?_
  refine cT (E:=E) (fn:=Tryz.f56) (g:=.full 1 _ _) fun _=>?_
  refine gW hE ?_;conv=>whnf
  refine .pure _ [] hc ?_
  refine gW hE ?_;conv=>whnf
  refine .pan _ (cE _ _ rfl) ?_
  exact ⟨[],[0],⟨rfl,rfl⟩,rfl,rfl⟩
def bY (s:List UInt8):Option (Int×List UInt8):=match bA s with
 | some (n,s')=>if decide (n<=(s'.length:Int)) then some (n,s') else none
 | none=>none
theorem hD {s s':List UInt8} {n:Int} (h:bY s=some (n,s')):aA Tryz.prog 54 [.ref 0 0] (rdO s) (.ret (ii n)) (rdO s'):=by
 unfold bY at h
 split at h
 .rename_i m s2 hn
  split at h
  .rename_i hd
   cases h
   refine cT (E:=E) (fn:=Tryz.f54) (g:=.full 1 _ _) fun _=>?_
   refine gW hE ?_;conv=>whnf
   refine .eff [] [0] _ _ rfl (aW hn) ?_
   refine gW hE ?_;conv=>whnf
   refine .pure _ [] (dR _ _ hd) ?_
   refine gW hE ?_;conv=>whnf
   exact ⟨[],[0],⟨rfl,rfl⟩,rfl,rfl⟩
  .cases h
 .cases h
theorem fL {s:List UInt8} (h:bY s=none):aA Tryz.prog 54 [.ref 0 0] (rdO s) (.pan (aS 10)) rdU:=by
 unfold bY at h
 split at h
 .rename_i m s2 hn
  split at h
  .cases h
  .rename_i hd
   refine aA.blur (obs':=rdO s2) ?_
   refine cT (E:=E) (fn:=Tryz.f54) (g:=.full 1 _ _) fun _=>?_
   refine gW hE ?_;conv=>whnf
   refine .eff [] [0] _ _ rfl (aW hn) ?_
   refine gW hE ?_;conv=>whnf
   refine .pan _ (cE _ _ (by simpa using hd)) ?_
   exact ⟨[],[0],⟨rfl,rfl⟩,rfl,rfl⟩
 .rename_i hn
  refine cT (E:=E) (fn:=Tryz.f54) (g:=.full 1 _ _) fun _=>?_
  refine gW hE ?_;conv=>whnf
  refine .effp [] [0] _ _ rfl (bC hn) ?_
  exact ⟨[],[0],⟨rfl,rfl⟩,rfl,rfl⟩
def iQ (s:List UInt8):Option (V3×List UInt8):=match bA s with
 | none=>none
 | some (a,s)=>match bA s with
  | none=>none
  | some (b,s)=>match bA s with
   | none=>none
   | some (c,s)=>some (⟨a,b,c⟩,s)
theorem D2 (s:List UInt8) (r:Res) (O:List AObj) (hr:oY (fun v:V3=>.agg v.cs) (iQ s)=r) (ho:pD (iQ s)=O):aA Tryz.prog 106 [.ref 0 0] (rdO s) r O:=by
 unfold iQ at hr ho
 refine cT (E:=E) (fn:=Tryz.f106) (g:=.full 1 _ _) fun _=>?_
 refine gW hE ?_;conv=>whnf
 refine gW hE ?_;conv=>whnf
 refine aY ?_
 refine gW hE ?_;conv=>whnf
 refine aH (o:=bA s) (fun h1=>?_) (fun ⟨a,s1⟩ h1=>?_)
 .simp only [h1] at hr ho
  have hr:Res.pan (aS 10)=r:=hr
  have ho:rdU=O:=ho
  subst hr ho
  refine .effp [] [0] _ _ rfl (bC h1) ?_
  exact ⟨[],[0],⟨rfl,rfl⟩,rfl,rfl⟩
 simp only [h1] at hr ho
 refine .eff [] [0] _ _ rfl (aW h1) ?_
 refine gW hE ?_;conv=>whnf
 refine ⟨⟨by decide,by decide⟩,?_⟩
 refine gW hE ?_;conv=>whnf
 refine aJ ?_
 refine gW hE ?_;conv=>whnf
 refine gW hE ?_;conv=>whnf
 refine aY ?_
 refine gW hE ?_;conv=>whnf
 refine aH (o:=bA s1) (fun h2=>?_) (fun ⟨b,s2⟩ h2=>?_)
 .simp only [h2] at hr ho
  have hr:Res.pan (aS 10)=r:=hr
  have ho:rdU=O:=ho
  subst hr ho
  refine .effp [] [0] _ _ rfl (bC h2) ?_
  exact ⟨[],[0],⟨rfl,rfl⟩,rfl,rfl⟩
 simp only [h2] at hr ho
 refine .eff [] [0] _ _ rfl (aW h2) ?_
 refine gW hE ?_;conv=>whnf
 refine ⟨⟨by decide,by decide⟩,?_⟩
 refine gW hE ?_;conv=>whnf
 refine aJ ?_
 refine gW hE ?_;conv=>whnf
 refine gW hE ?_;conv=>whnf
 refine aY ?_
 refine gW hE ?_;conv=>whnf
 refine aH (o:=bA s2) (fun h3=>?_) (fun ⟨c,s3⟩ h3=>?_)
 .simp only [h3] at hr ho
  have hr:Res.pan (aS 10)=r:=hr
  have ho:rdU=O:=ho
  subst hr ho
  refine .effp [] [0] _ _ rfl (bC h3) ?_
  exact ⟨[],[0],⟨rfl,rfl⟩,rfl,rfl⟩
 simp only [h3] at hr ho
 refine .eff [] [0] _ _ rfl (aW h3) ?_
 refine gW hE ?_;conv=>whnf
 refine ⟨⟨by decide,by decide⟩,?_⟩
 refine gW hE ?_;conv=>whnf
 refine aJ ?_
 refine gW hE ?_;conv=>whnf
 refine gW hE ?_;conv=>whnf
 refine aN ?_
 refine gW hE ?_;conv=>whnf
 subst hr ho
 refine ⟨[],[0],⟨rfl,rfl⟩,?_⟩
 exact ⟨rfl,rfl⟩
theorem nN {s s':List UInt8} {v:V3} (h:iQ s=some (v,s')):aA Tryz.prog 106 [.ref 0 0] (rdO s) (.ret (.agg v.cs)) (rdO s'):=D2 s _ _ (by rw [h];rfl) (by rw [h];rfl)
theorem nO {s:List UInt8} (h:iQ s=none):aA Tryz.prog 106 [.ref 0 0] (rdO s) (.pan (aS 10)) rdU:=D2 s _ _ (by rw [h];rfl) (by rw [h];rfl)
def rGan (s:List UInt8):Option (Gan×List UInt8):=match bA s with
 | none=>none
 | some (a,s)=>match bA s with
  | none=>none
  | some (b,s)=>match bA s with
   | none=>none
   | some (c,s)=>match iQ s with
    | none=>none
    | some (v,s)=>match bA s with
         | none=>none
         | some (d,s)=>match bA s with
          | none=>none
          | some (e,s)=>match bA s with
           | none=>none
           | some (f,s)=>some (⟨a,b,c,v,d,e,f⟩,s)
theorem zR (s:List UInt8) (r:Res) (O:List AObj) (hr:oY Gan.av (rGan s)=r) (ho:pD (rGan s)=O):aA Tryz.prog 58 [.ref 0 0] (rdO s) r O:=by
 unfold rGan at hr ho
 refine cT (E:=E) (fn:=Tryz.f58) (g:=.full 1 _ _) fun _=>?_
 refine gW hE ?_;conv=>whnf
 refine aH (o:=bA s) (fun h1=>?_) (fun ⟨a,s1⟩ h1=>?_)
 .simp only [h1] at hr ho
  have hr:Res.pan (aS 10)=r:=hr
  have ho:rdU=O:=ho
  subst hr ho
  refine .effp [] [0] _ _ rfl (bC h1) ?_
  exact ⟨[],[0],⟨rfl,rfl⟩,rfl,rfl⟩
 simp only [h1] at hr ho
 refine .eff [] [0] _ _ rfl (aW h1) ?_
 refine gW hE ?_;conv=>whnf
 refine aH (o:=bA s1) (fun h2=>?_) (fun ⟨b,s2⟩ h2=>?_)
 .simp only [h2] at hr ho
  have hr:Res.pan (aS 10)=r:=hr
  have ho:rdU=O:=ho
  subst hr ho
  refine .effp [] [0] _ _ rfl (bC h2) ?_
  exact ⟨[],[0],⟨rfl,rfl⟩,rfl,rfl⟩
 simp only [h2] at hr ho
 refine .eff [] [0] _ _ rfl (aW h2) ?_
 refine gW hE ?_;conv=>whnf
 refine aH (o:=bA s2) (fun h3=>?_) (fun ⟨c,s3⟩ h3=>?_)
 .simp only [h3] at hr ho
  have hr:Res.pan (aS 10)=r:=hr
  have ho:rdU=O:=ho
  subst hr ho
  refine .effp [] [0] _ _ rfl (bC h3) ?_
  exact ⟨[],[0],⟨rfl,rfl⟩,rfl,rfl⟩
 simp only [h3] at hr ho
 refine .eff [] [0] _ _ rfl (aW h3) ?_
 refine gW hE ?_;conv=>whnf
 refine aH (o:=iQ s3) (fun h4=>?_) (fun ⟨v,s4⟩ h4=>?_)
 .simp only [h4] at hr ho
  have hr:Res.pan (aS 10)=r:=hr
  have ho:rdU=O:=ho
  subst hr ho
  refine .effp [] [0] _ _ rfl (nO h4) ?_
  exact ⟨[],[0],⟨rfl,rfl⟩,rfl,rfl⟩
 simp only [h4] at hr ho
 refine .eff [] [0] _ _ rfl (nN h4) ?_
 refine gW hE ?_;conv=>whnf
 refine aH (o:=bA s4) (fun h5=>?_) (fun ⟨d,s5⟩ h5=>?_)
 .simp only [h5] at hr ho
  have hr:Res.pan (aS 10)=r:=hr
  have ho:rdU=O:=ho
  subst hr ho
  refine .effp [] [0] _ _ rfl (bC h5) ?_
  exact ⟨[],[0],⟨rfl,rfl⟩,rfl,rfl⟩
 simp only [h5] at hr ho
 refine .eff [] [0] _ _ rfl (aW h5) ?_
 refine gW hE ?_;conv=>whnf
 refine aH (o:=bA s5) (fun h6=>?_) (fun ⟨e,s6⟩ h6=>?_)
 .simp only [h6] at hr ho
  have hr:Res.pan (aS 10)=r:=hr
  have ho:rdU=O:=ho
  subst hr ho
  refine .effp [] [0] _ _ rfl (bC h6) ?_
  exact ⟨[],[0],⟨rfl,rfl⟩,rfl,rfl⟩
 simp only [h6] at hr ho
 refine .eff [] [0] _ _ rfl (aW h6) ?_
 refine gW hE ?_;conv=>whnf
 refine aH (o:=bA s6) (fun h7=>?_) (fun ⟨f,s7⟩ h7=>?_)
 .simp only [h7] at hr ho
  have hr:Res.pan (aS 10)=r:=hr
  have ho:rdU=O:=ho
  subst hr ho
  refine .effp [] [0] _ _ rfl (bC h7) ?_
  exact ⟨[],[0],⟨rfl,rfl⟩,rfl,rfl⟩
 simp only [h7] at hr ho
 refine .eff [] [0] _ _ rfl (aW h7) ?_
 refine gW hE ?_;conv=>whnf
 subst hr ho
 refine ⟨[],[0],⟨rfl,rfl⟩,?_⟩
 exact ⟨rfl,rfl⟩
theorem rC {s s':List UInt8} {v:Gan} (h:rGan s=some (v,s')):aA Tryz.prog 58 [.ref 0 0] (rdO s) (.ret v.av) (rdO s'):=zR s _ _ (by rw [h];rfl) (by rw [h];rfl)
theorem nS {s:List UInt8} (h:rGan s=none):aA Tryz.prog 58 [.ref 0 0] (rdO s) (.pan (aS 10)) rdU:=zR s _ _ (by rw [h];rfl) (by rw [h];rfl)
theorem bD {s s':List UInt8} {n:Int} (h:bA s=some (n,s')):0<=n/\n<=9223372036854775807/\s'.length+1<=s.length:=by
 unfold bA at h
 split at h
 .rename_i m k hg
  cases h
  have:=E2 hg
  simp only [Fa]
  omega
 .cases h
theorem bT {s s':List UInt8} {n:Int} (h:bY s=some (n,s')):0<=n/\n<=9223372036854775807/\s'.length+1<=s.length/\n<=s'.length:=by
 unfold bY at h
 split at h
 .rename_i m s2 hn
  split at h
  .rename_i hd
   cases h
   have:=bD hn
   have:=of_decide_eq_true hd
   omega
  .cases h
 .cases h
theorem rVec_b {s s':List UInt8} {v:V3} (h:iQ s=some (v,s')):s'.length+1<=s.length:=by
 unfold iQ at h
 split at h
 .cases h
 .rename_i h1
  split at h
  .cases h
  .rename_i h2
   split at h
   .cases h
   .rename_i h3
    cases h
    have:=bD h1
    have:=bD h2
    have:=bD h3
    omega
def F8 (s:List UInt8):Option (Nod×List UInt8):=match bA s with
 | none=>none
 | some (p,s)=>match bA s with
  | none=>none
  | some (w,s)=>match iQ s with
   | none=>none
   | some (a,s)=>match iQ s with
    | none=>none
    | some (b,s)=>match iQ s with
         | none=>none
         | some (c,s)=>some (⟨p-1,w,a,b,c⟩,s)
def kR (s:List UInt8):Option (Hos×List UInt8):=match bA s with
 | none=>none
 | some (f,s)=>match bA s with
  | none=>none
  | some (b,s)=>match bA s with
   | none=>none
   | some (r,s)=>match iQ s with
    | none=>none
    | some (c,s)=>some (⟨f,b,r,c⟩,s)
def JD (ns:List Nod) (hs:List Hos) (s:List UInt8):Option (Con×List UInt8):=match bA s with
 | none=>none
 | some (a,s)=>match bA s with
  | none=>none
  | some (b,s)=>some (⟨ns,hs,a,b⟩,s)
def rH (ns:List Nod):Nat->List Hos->List UInt8->Option (Con×List UInt8)
 | 0,hs,s=>JD ns hs s
 | m+1,hs,s=>match kR s with
  | none=>none
  | some (x,s)=>rH ns m (hs++[x]) s
def rHs (ns:List Nod) (s:List UInt8):Option (Con×List UInt8):=match bY s with
 | none=>none
 | some (n,s)=>rH ns n.toNat [] s
def rN:Nat->List Nod->List UInt8->Option (Con×List UInt8)
 | 0,ns,s=>rHs ns s
 | m+1,ns,s=>match F8 s with
  | none=>none
  | some (x,s)=>rN m (ns++[x]) s
def qR (s:List UInt8):Option (Con×List UInt8):=match bY s with
 | none=>none
 | some (n,s)=>rN n.toNat [] s
noncomputable abbrev fRc:Func:=Tryz.f104
theorem I3 (ns:List Nod) (n:Int) (hn:n<=9223372036854775807) (r:Res) (O:List AObj):∀ (m i:Nat) (s:List UInt8) (hs:List Hos),(i+m:Int)=n->hs.length+s.length<=1000000000->oY Con.av (rH ns m hs s)=r->pD (rH ns m hs s)=O->
  To E fRc (.full 1 r O) (.head (stk fRc 1) [(0,.ref 0 0),(2,.ref 1 0),(32,.int .i64 n),(33,.int .i64 i)] [.cells tRd [.str s],.cells 26 [.slice 11 (nav ns) .no,.slice 6 (hav hs) (.own 2 0),ii 0,ii 0],.tail 0 6 99]):=by
 intro m
 induction m with
 | zero=>
  intro i s hs hi hl hr ho
  unfold rH JD at hr ho
  refine gW hE ?_;conv=>whnf
  refine aF fun h=>?_
  refine gW hE ?_;conv=>whnf
  refine aH (o:=bA s) (fun h1=>?_) (fun ⟨a,s1⟩ h1=>?_)
  .simp only [h1] at hr ho
   have hr:Res.pan (aS 10)=r:=hr
   have ho:rdU=O:=ho
   subst hr ho
   refine .effp [] [0] _ _ rfl (bC h1) ?_
   exact ⟨[],[0],⟨rfl,rfl⟩,rfl,rfl⟩
  simp only [h1] at hr ho
  refine .eff [] [0] _ _ rfl (aW h1) ?_
  refine gW hE ?_;conv=>whnf
  refine aH (o:=bA s1) (fun h2=>?_) (fun ⟨b,s2⟩ h2=>?_)
  .simp only [h2] at hr ho
   have hr:Res.pan (aS 10)=r:=hr
   have ho:rdU=O:=ho
   subst hr ho
   refine .effp [] [0] _ _ rfl (bC h2) ?_
   exact ⟨[],[0],⟨rfl,rfl⟩,rfl,rfl⟩
  simp only [h2] at hr ho
  refine .eff [] [0] _ _ rfl (aW h2) ?_
  refine gW hE ?_;conv=>whnf
  subst hr ho
  refine ⟨[],[0],⟨rfl,rfl⟩,?_⟩
  exact ⟨rfl,rfl⟩
 | succ m ih=>
  intro i s hs hi hl hr ho
  unfold rH kR at hr ho
  have hlen:(hav hs).length=hs.length:=by simp
  refine gW hE ?_;conv=>whnf
  refine aT fun h=>?_
  refine gW hE ?_;conv=>whnf
  refine aH (o:=bA s) (fun h1=>?_) (fun ⟨a,s1⟩ h1=>?_)
  .simp only [h1] at hr ho
   have hr:Res.pan (aS 10)=r:=hr
   have ho:rdU=O:=ho
   subst hr ho
   refine .effp [] [0] _ _ rfl (bC h1) ?_
   exact ⟨[],[0],⟨rfl,rfl⟩,rfl,rfl⟩
  simp only [h1] at hr ho
  refine .eff [] [0] _ _ rfl (aW h1) ?_
  refine gW hE ?_;conv=>whnf
  refine aH (o:=bA s1) (fun h2=>?_) (fun ⟨b,s2⟩ h2=>?_)
  .simp only [h2] at hr ho
   have hr:Res.pan (aS 10)=r:=hr
   have ho:rdU=O:=ho
   subst hr ho
   refine .effp [] [0] _ _ rfl (bC h2) ?_
   exact ⟨[],[0],⟨rfl,rfl⟩,rfl,rfl⟩
  simp only [h2] at hr ho
  refine .eff [] [0] _ _ rfl (aW h2) ?_
  refine gW hE ?_;conv=>whnf
  refine aH (o:=bA s2) (fun h3=>?_) (fun ⟨c,s3⟩ h3=>?_)
  .simp only [h3] at hr ho
   have hr:Res.pan (aS 10)=r:=hr
   have ho:rdU=O:=ho
   subst hr ho
   refine .effp [] [0] _ _ rfl (bC h3) ?_
   exact ⟨[],[0],⟨rfl,rfl⟩,rfl,rfl⟩
  simp only [h3] at hr ho
  refine .eff [] [0] _ _ rfl (aW h3) ?_
  refine gW hE ?_;conv=>whnf
  refine aH (o:=iQ s3) (fun h4=>?_) (fun ⟨v,s4⟩ h4=>?_)
  .simp only [h4] at hr ho
   have hr:Res.pan (aS 10)=r:=hr
   have ho:rdU=O:=ho
   subst hr ho
   refine .effp [] [0] _ _ rfl (nO h4) ?_
   exact ⟨[],[0],⟨rfl,rfl⟩,rfl,rfl⟩
  simp only [h4] at hr ho
  refine .eff [] [0] _ _ rfl (nN h4) ?_
  refine gW hE ?_;conv=>whnf
  have b1:=bD h1
  have b2:=bD h2
  have b3:=bD h3
  have b4:=rVec_b h4
  refine Ad ⟨by simp only [maxLen];simp;omega,by simp;omega⟩ ?_
  refine gW hE ?_;conv=>whnf
  refine aJ ?_
  refine gW hE ?_;conv=>whnf
  refine To.part [0,2,32,33] [0,1,2] rfl rfl rfl ?_
  have next:=ih (i+1) s4 (hs++[⟨a,b,c,v⟩]) (by omega) (by simp;omega) hr ho
  have e:hav (hs++[⟨a,b,c,v⟩])=hav hs++[Hos.av ⟨a,b,c,v⟩]:=by simp
  rw [e] at next
  exact next
theorem I0 (n:Int) (hn:n<=9223372036854775807) (r:Res) (O:List AObj):∀ (m i:Nat) (s:List UInt8) (ns:List Nod),(i+m:Int)=n->ns.length+s.length<=1000000000->oY Con.av (rN m ns s)=r->pD (rN m ns s)=O->
  To E fRc (.full 1 r O) (.head (stk fRc 0) [(0,.ref 0 0),(2,.ref 1 0),(6,.int .i64 n),(7,.int .i64 i)] [.cells tRd [.str s],.cells 26 [.slice 11 (nav ns) (.own 2 0),.slice 6 [] .nil,ii 0,ii 0],.tail 0 11 109]):=by
 intro m
 induction m with
 | zero=>
  intro i s ns hi hl hr ho
  unfold rN rHs at hr ho
  refine gW hE ?_;conv=>whnf
  refine aF fun h=>?_
  refine gW hE ?_;conv=>whnf
  refine aH (o:=bY s) (fun h1=>?_) (fun ⟨k,s1⟩ h1=>?_)
  .simp only [h1] at hr ho
   have hr:Res.pan (aS 10)=r:=hr
   have ho:rdU=O:=ho
   subst hr ho
   refine .effp [] [0] _ _ rfl (fL h1) ?_
   exact ⟨[],[0],⟨rfl,rfl⟩,rfl,rfl⟩
  simp only [h1] at hr ho
  refine .eff [] [0] _ _ rfl (hD h1) ?_
  refine gW hE ?_;conv=>whnf
  have b1:=bT h1
  refine To.part [0,2,32,33] [0,1] rfl rfl rfl ?_
  refine To.begin 1 1 99 rfl rfl ?_
  exact I3 ns k (by omega) r O k.toNat 0 s1 [] (by omega) (by simp;omega) hr ho
 | succ m ih=>
  intro i s ns hi hl hr ho
  unfold rN F8 at hr ho
  have hlen:(nav ns).length=ns.length:=by simp
  refine gW hE ?_;conv=>whnf
  refine aT fun h=>?_
  refine gW hE ?_;conv=>whnf
  refine aH (o:=bA s) (fun h1=>?_) (fun ⟨a,s1⟩ h1=>?_)
  .simp only [h1] at hr ho
   have hr:Res.pan (aS 10)=r:=hr
   have ho:rdU=O:=ho
   subst hr ho
   refine .effp [] [0] _ _ rfl (bC h1) ?_
   exact ⟨[],[0],⟨rfl,rfl⟩,rfl,rfl⟩
  simp only [h1] at hr ho
  refine .eff [] [0] _ _ rfl (aW h1) ?_
  refine gW hE ?_;conv=>whnf
  have b1:=bD h1
  refine aJ ?_
  refine gW hE ?_;conv=>whnf
  refine aH (o:=bA s1) (fun h2=>?_) (fun ⟨b,s2⟩ h2=>?_)
  .simp only [h2] at hr ho
   have hr:Res.pan (aS 10)=r:=hr
   have ho:rdU=O:=ho
   subst hr ho
   refine .effp [] [0] _ _ rfl (bC h2) ?_
   exact ⟨[],[0],⟨rfl,rfl⟩,rfl,rfl⟩
  simp only [h2] at hr ho
  refine .eff [] [0] _ _ rfl (aW h2) ?_
  refine gW hE ?_;conv=>whnf
  refine aH (o:=iQ s2) (fun h3=>?_) (fun ⟨c,s3⟩ h3=>?_)
  .simp only [h3] at hr ho
   have hr:Res.pan (aS 10)=r:=hr
   have ho:rdU=O:=ho
   subst hr ho
   refine .effp [] [0] _ _ rfl (nO h3) ?_
   exact ⟨[],[0],⟨rfl,rfl⟩,rfl,rfl⟩
  simp only [h3] at hr ho
  refine .eff [] [0] _ _ rfl (nN h3) ?_
  refine gW hE ?_;conv=>whnf
  refine aH (o:=iQ s3) (fun h4=>?_) (fun ⟨d,s4⟩ h4=>?_)
  .simp only [h4] at hr ho
   have hr:Res.pan (aS 10)=r:=hr
   have ho:rdU=O:=ho
   subst hr ho
   refine .effp [] [0] _ _ rfl (nO h4) ?_
   exact ⟨[],[0],⟨rfl,rfl⟩,rfl,rfl⟩
  simp only [h4] at hr ho
  refine .eff [] [0] _ _ rfl (nN h4) ?_
  refine gW hE ?_;conv=>whnf
  refine aH (o:=iQ s4) (fun h5=>?_) (fun ⟨e,s5⟩ h5=>?_)
  .simp only [h5] at hr ho
   have hr:Res.pan (aS 10)=r:=hr
   have ho:rdU=O:=ho
   subst hr ho
   refine .effp [] [0] _ _ rfl (nO h5) ?_
   exact ⟨[],[0],⟨rfl,rfl⟩,rfl,rfl⟩
  simp only [h5] at hr ho
  refine .eff [] [0] _ _ rfl (nN h5) ?_
  refine gW hE ?_;conv=>whnf
  have b2:=bD h2
  have b3:=rVec_b h3
  have b4:=rVec_b h4
  have b5:=rVec_b h5
  refine Ad ⟨by simp only [maxLen];simp;omega,by simp;omega⟩ ?_
  refine gW hE ?_;conv=>whnf
  refine aJ ?_
  refine gW hE ?_;conv=>whnf
  refine To.part [0,2,6,7] [0,1,2] rfl rfl rfl ?_
  have next:=ih (i+1) s5 (ns++[⟨a-1,b,c,d,e⟩]) (by omega) (by simp;omega) hr ho
  have e:nav (ns++[⟨a-1,b,c,d,e⟩])=nav ns++[Nod.av ⟨a-1,b,c,d,e⟩]:=by simp
  rw [e] at next
  exact next
theorem zY (s:List UInt8) (hs:s.length<=1000000000) (r:Res) (O:List AObj) (hr:oY Con.av (qR s)=r) (ho:pD (qR s)=O):aA Tryz.prog 104 [.ref 0 0] (rdO s) r O:=by
 unfold qR at hr ho
 refine cT (E:=E) (fn:=Tryz.f104) (g:=.full 1 _ _) fun _=>?_
 refine gW hE ?_;conv=>whnf
 refine aH (o:=bY s) (fun h1=>?_) (fun ⟨k,s1⟩ h1=>?_)
 .simp only [h1] at hr ho
  have hr:Res.pan (aS 10)=r:=hr
  have ho:rdU=O:=ho
  subst hr ho
  refine .effp [] [0] _ _ rfl (fL h1) ?_
  exact ⟨[],[0],⟨rfl,rfl⟩,rfl,rfl⟩
 simp only [h1] at hr ho
 refine .eff [] [0] _ _ rfl (hD h1) ?_
 refine gW hE ?_;conv=>whnf
 have b1:=bT h1
 refine To.part [0,2,6,7] [0,1] rfl rfl rfl ?_
 refine To.begin 1 0 109 rfl rfl ?_
 exact I0 k (by omega) r O k.toNat 0 s1 [] (by omega) (by simp;omega) hr ho
theorem N5 {s s':List UInt8} (hs:s.length<=1000000000) {v:Con} (h:qR s=some (v,s')):aA Tryz.prog 104 [.ref 0 0] (rdO s) (.ret v.av) (rdO s'):=zY s hs _ _ (by rw [h];rfl) (by rw [h];rfl)
theorem IZ {s:List UInt8} (hs:s.length<=1000000000) (h:qR s=none):aA Tryz.prog 104 [.ref 0 0] (rdO s) (.pan (aS 10)) rdU:=zY s hs _ _ (by rw [h];rfl) (by rw [h];rfl)
def _root_.Go.Proofs.YtmalnhgopkfdaaaGreat.Con.zero:Con:=⟨[],[],0,0⟩
def pB (s:List UInt8):Option (Cmd×List UInt8):=match bA s with
 | none=>none
 | some (k,s)=>if k==1 then (match qR s with
   | none=>none
   | some (c,s)=>some (⟨k,c,Gan.zero,0⟩,s))
  else if k==2 then (match rGan s with
   | none=>none
   | some (g,s)=>some (⟨k,Con.zero,g,0⟩,s))
  else if (k==3||k==4)||k==5 then (match bA s with
   | none=>none
   | some (n,s)=>some (⟨k,Con.zero,Gan.zero,n⟩,s))
  else some (⟨k,Con.zero,Gan.zero,0⟩,s)
abbrev zCs:List AVal:=[ii 0,.slice 11 [] .nil,.slice 6 [] .nil,ii 0,ii 0,ii 0,ii 0,ii 0,ii 0,ii 0,ii 0,ii 0,ii 0,ii 0,ii 0]
abbrev dcO (s:List UInt8):List AObj:=[.cells 61 zCs,.cells tRd [.str s],.cells 49 [.ref 1 0]]
abbrev dcX (x:Cmd) (s:List UInt8):List AObj:=[.cells 61 x.cs,.cells tRd [.str s],.cells 49 [.ref 1 0]]
abbrev dcU:List AObj:=mV (fun _=>.undef) (dcO [])
theorem QN {s:List UInt8} (h:bA s=none):aA Tryz.prog 103 [.ref 2 0,.ref 0 0] (dcO s) (.pan (aS 10)) dcU:=by
 refine aA.blur (obs':=[.cells 61 zCs,.cells tRd [.undef],.cells 49 [.ref 1 0]]) ?_
 refine cT (E:=E) (fn:=Tryz.f103) (g:=.full 3 _ _) fun _=>?_
 refine gW hE ?_;conv=>whnf
 refine .effp [] [1] _ _ rfl (bC h) ?_
 exact ⟨[],[0,1,2],⟨rfl,rfl⟩,rfl,rfl⟩
theorem VC {s s1:List UInt8} (hs:s1.length<=1000000000) (h:bA s=some (1,s1)) (h2:qR s1=none):aA Tryz.prog 103 [.ref 2 0,.ref 0 0] (dcO s) (.pan (aS 10)) dcU:=by
 refine aA.blur (obs':=[.cells 61 (ii 1::zCs.tail),.cells tRd [.undef],.cells 49 [.ref 1 0]]) ?_
 refine cT (E:=E) (fn:=Tryz.f103) (g:=.full 3 _ _) fun _=>?_
 refine gW hE ?_;conv=>whnf
 refine .eff [] [1] _ _ rfl (aW h) ?_
 refine gW hE ?_;conv=>whnf
 refine aY ?_
 refine gW hE ?_;conv=>whnf
 refine .effp [] [1] _ _ rfl (IZ hs h2) ?_
 exact ⟨[],[0,1,2],⟨rfl,rfl⟩,rfl,rfl⟩
theorem VY {s s1 s2:List UInt8} {c:Con} (hs:s1.length<=1000000000) (h:bA s=some (1,s1)) (h2:qR s1=some (c,s2)):aA Tryz.prog 103 [.ref 2 0,.ref 0 0] (dcO s) (.ret (.tup [])) (dcX ⟨1,c,Gan.zero,0⟩ s2):=by
 refine cT (E:=E) (fn:=Tryz.f103) (g:=.full 3 _ _) fun _=>?_
 refine gW hE ?_;conv=>whnf
 refine .eff [] [1] _ _ rfl (aW h) ?_
 refine gW hE ?_;conv=>whnf
 refine aY ?_
 refine gW hE ?_;conv=>whnf
 refine .eff [] [1] _ _ rfl (N5 hs h2) ?_
 refine gW hE ?_;conv=>whnf
 exact ⟨[],[0,1,2],⟨rfl,rfl⟩,rfl,rfl⟩
theorem VB {s s1:List UInt8} (h:bA s=some (2,s1)) (h2:rGan s1=none):aA Tryz.prog 103 [.ref 2 0,.ref 0 0] (dcO s) (.pan (aS 10)) dcU:=by
 refine aA.blur (obs':=[.cells 61 (ii 2::zCs.tail),.cells tRd [.undef],.cells 49 [.ref 1 0]]) ?_
 refine cT (E:=E) (fn:=Tryz.f103) (g:=.full 3 _ _) fun _=>?_
 refine gW hE ?_;conv=>whnf
 refine .eff [] [1] _ _ rfl (aW h) ?_
 refine gW hE ?_;conv=>whnf
 refine aN ?_
 refine gW hE ?_;conv=>whnf
 refine aY ?_
 refine gW hE ?_;conv=>whnf
 refine .effp [] [1] _ _ rfl (nS h2) ?_
 exact ⟨[],[0,1,2],⟨rfl,rfl⟩,rfl,rfl⟩
theorem VX {s s1 s2:List UInt8} {g:Gan} (h:bA s=some (2,s1)) (h2:rGan s1=some (g,s2)):aA Tryz.prog 103 [.ref 2 0,.ref 0 0] (dcO s) (.ret (.tup [])) (dcX ⟨2,Con.zero,g,0⟩ s2):=by
 refine aA.loose (obs':=[.cells 61 [ii 2,.slice 11 [] .nil,.slice 6 [] .nil,ii 0,ii 0,ii g.id,ii g.ten,ii g.pods,ii g.need.a,ii g.need.b,ii g.need.c,ii g.run,ii g.lev,ii g.pref,ii 0],.cells tRd [.str s2],.cells 49 [.ref 1 0]]) ?_
 refine cT (E:=E) (fn:=Tryz.f103) (g:=.full 3 _ _) fun _=>?_
 refine gW hE ?_;conv=>whnf
 refine .eff [] [1] _ _ rfl (aW h) ?_
 refine gW hE ?_;conv=>whnf
 refine aN ?_
 refine gW hE ?_;conv=>whnf
 refine aY ?_
 refine gW hE ?_;conv=>whnf
 refine .eff [] [1] _ _ rfl (rC h2) ?_
 refine gW hE ?_;conv=>whnf
 exact ⟨[],[0,1,2],⟨rfl,rfl⟩,rfl,rfl⟩
theorem VA {s s1:List UInt8} {k:Int} (hk:k=3\/k=4\/k=5) (h:bA s=some (k,s1)) (h2:bA s1=none):aA Tryz.prog 103 [.ref 2 0,.ref 0 0] (dcO s) (.pan (aS 10)) dcU:=by
 rcases hk with rfl | rfl | rfl
 .refine aA.blur (obs':=[.cells 61 (ii 3::zCs.tail),.cells tRd [.undef],.cells 49 [.ref 1 0]]) ?_
  refine cT (E:=E) (fn:=Tryz.f103) (g:=.full 3 _ _) fun _=>?_
  refine gW hE ?_;conv=>whnf
  refine .eff [] [1] _ _ rfl (aW h) ?_
  refine gW hE ?_;conv=>whnf
  repeat' first | (refine gN hE ?_;conv=>whnf) | refine .effp [] [1] _ _ rfl (bC h2) ?_ | exact rfl | refine aY ?_ | refine aN ?_ | refine aT fun h=>?_ | refine aF fun h=>?_ | refine ⟨fun h=>?_,fun h=>?_⟩ | refine aJ ?_ | refine ⟨_,rfl,?_⟩ | refine aD ?_ | fail
  exact ⟨[],[0,1,2],⟨rfl,rfl⟩,rfl,rfl⟩
 .refine aA.blur (obs':=[.cells 61 (ii 4::zCs.tail),.cells tRd [.undef],.cells 49 [.ref 1 0]]) ?_
  refine cT (E:=E) (fn:=Tryz.f103) (g:=.full 3 _ _) fun _=>?_
  refine gW hE ?_;conv=>whnf
  refine .eff [] [1] _ _ rfl (aW h) ?_
  refine gW hE ?_;conv=>whnf
  repeat' first | (refine gN hE ?_;conv=>whnf) | refine .effp [] [1] _ _ rfl (bC h2) ?_ | exact rfl | refine aY ?_ | refine aN ?_ | refine aT fun h=>?_ | refine aF fun h=>?_ | refine ⟨fun h=>?_,fun h=>?_⟩ | refine aJ ?_ | refine ⟨_,rfl,?_⟩ | refine aD ?_ | fail
  exact ⟨[],[0,1,2],⟨rfl,rfl⟩,rfl,rfl⟩
 .refine aA.blur (obs':=[.cells 61 (ii 5::zCs.tail),.cells tRd [.undef],.cells 49 [.ref 1 0]]) ?_
  refine cT (E:=E) (fn:=Tryz.f103) (g:=.full 3 _ _) fun _=>?_
  refine gW hE ?_;conv=>whnf
  refine .eff [] [1] _ _ rfl (aW h) ?_
  refine gW hE ?_;conv=>whnf
  repeat' first | (refine gN hE ?_;conv=>whnf) | refine .effp [] [1] _ _ rfl (bC h2) ?_ | exact rfl | refine aY ?_ | refine aN ?_ | refine aT fun h=>?_ | refine aF fun h=>?_ | refine ⟨fun h=>?_,fun h=>?_⟩ | refine aJ ?_ | refine ⟨_,rfl,?_⟩ | refine aD ?_ | fail
  exact ⟨[],[0,1,2],⟨rfl,rfl⟩,rfl,rfl⟩
abbrev nCs (k n:Int):List AVal:=[ii k,.slice 11 [] .nil,.slice 6 [] .nil,ii 0,ii 0,ii 0,ii 0,ii 0,ii 0,ii 0,ii 0,ii 0,ii 0,ii 0,ii n]
theorem VW {s s1 s2:List UInt8} {k n:Int} (hk:k=3\/k=4\/k=5) (h:bA s=some (k,s1)) (h2:bA s1=some (n,s2)):aA Tryz.prog 103 [.ref 2 0,.ref 0 0] (dcO s) (.ret (.tup [])) (dcX ⟨k,Con.zero,Gan.zero,n⟩ s2):=by
 refine aA.loose (obs':=[.cells 61 (nCs k n),.cells tRd [.str s2],.cells 49 [.ref 1 0]]) ?_
 rcases hk with rfl | rfl | rfl
 .refine cT (E:=E) (fn:=Tryz.f103) (g:=.full 3 _ _) fun _=>?_
  refine gW hE ?_;conv=>whnf
  refine .eff [] [1] _ _ rfl (aW h) ?_
  refine gW hE ?_;conv=>whnf
  repeat' first | (refine gN hE ?_;conv=>whnf) | refine .eff [] [1] _ _ rfl (aW h2) ?_ | exact rfl | refine aY ?_ | refine aN ?_ | refine aT fun h=>?_ | refine aF fun h=>?_ | refine ⟨fun h=>?_,fun h=>?_⟩ | refine aJ ?_ | refine ⟨_,rfl,?_⟩ | refine aD ?_ | fail
  exact ⟨[],[0,1,2],⟨rfl,rfl⟩,rfl,rfl⟩
 .refine cT (E:=E) (fn:=Tryz.f103) (g:=.full 3 _ _) fun _=>?_
  refine gW hE ?_;conv=>whnf
  refine .eff [] [1] _ _ rfl (aW h) ?_
  refine gW hE ?_;conv=>whnf
  repeat' first | (refine gN hE ?_;conv=>whnf) | refine .eff [] [1] _ _ rfl (aW h2) ?_ | exact rfl | refine aY ?_ | refine aN ?_ | refine aT fun h=>?_ | refine aF fun h=>?_ | refine ⟨fun h=>?_,fun h=>?_⟩ | refine aJ ?_ | refine ⟨_,rfl,?_⟩ | refine aD ?_ | fail
  exact ⟨[],[0,1,2],⟨rfl,rfl⟩,rfl,rfl⟩
 .refine cT (E:=E) (fn:=Tryz.f103) (g:=.full 3 _ _) fun _=>?_
  refine gW hE ?_;conv=>whnf
  refine .eff [] [1] _ _ rfl (aW h) ?_
  refine gW hE ?_;conv=>whnf
  repeat' first | (refine gN hE ?_;conv=>whnf) | refine .eff [] [1] _ _ rfl (aW h2) ?_ | exact rfl | refine aY ?_ | refine aN ?_ | refine aT fun h=>?_ | refine aF fun h=>?_ | refine ⟨fun h=>?_,fun h=>?_⟩ | refine aJ ?_ | refine ⟨_,rfl,?_⟩ | refine aD ?_ | fail
  exact ⟨[],[0,1,2],⟨rfl,rfl⟩,rfl,rfl⟩
theorem VV {s s1:List UInt8} {k:Int} (h1:(k==1)=false) (h2:(k==2)=false) (h3:(k==3)=false) (h4:(k==4)=false) (h5:(k==5)=false) (h:bA s=some (k,s1)):
  aA Tryz.prog 103 [.ref 2 0,.ref 0 0] (dcO s) (.ret (.tup [])) (dcX ⟨k,Con.zero,Gan.zero,0⟩ s1):=by
 refine aA.loose (obs':=[.cells 61 (nCs k 0),.cells tRd [.str s1],.cells 49 [.ref 1 0]]) ?_
 refine cT (E:=E) (fn:=Tryz.f103) (g:=.full 3 _ _) fun _=>?_
 refine gW hE ?_;conv=>whnf
 refine .eff [] [1] _ _ rfl (aW h) ?_
 refine gW hE ?_;conv=>whnf
 refine Ad (fun h=>absurd (h.symm.trans h1) (by decide)) (fun _=>?_)
 refine gW hE ?_;conv=>whnf
 refine Ad (fun h=>absurd (h.symm.trans h2) (by decide)) (fun _=>?_)
 refine gW hE ?_;conv=>whnf
 refine Ad (fun h=>absurd (h.symm.trans h3) (by decide)) (fun _=>?_)
 refine gW hE ?_;conv=>whnf
 refine Ad (fun h=>absurd (h.symm.trans h4) (by decide)) (fun _=>?_)
 refine gW hE ?_;conv=>whnf
 refine Ad (fun h=>absurd (h.symm.trans h5) (by decide)) (fun _=>?_)
 refine gW hE ?_;conv=>whnf
 exact ⟨[],[0,1,2],⟨rfl,rfl⟩,rfl,rfl⟩
theorem U9 {s s':List UInt8} {x:Cmd} (hs:s.length<=1000000000) (h:pB s=some (x,s')):aA Tryz.prog 103 [.ref 2 0,.ref 0 0] (dcO s) (.ret (.tup [])) (dcX x s'):=by
 unfold pB at h
 split at h
 .cases h
 .rename_i k s1 h1
  have hb:=bD h1
  split at h
  .rename_i hk
   have hk:=eq_of_beq hk
   subst hk
   split at h
   .cases h
   .rename_i h2
    cases h
    exact VY (by omega) h1 h2
  .rename_i hk1
   split at h
   .rename_i hk
    have hk:=eq_of_beq hk
    subst hk
    split at h
    .cases h
    .rename_i h2
     cases h
     exact VX h1 h2
   .rename_i hk2
    split at h
    .rename_i hk
     simp at hk
     split at h
     .cases h
     .rename_i h2
      cases h
      exact VW (by omega) h1 h2
    .rename_i hk3
     cases h
     simp only [De,not_or,Bool.not_eq_true] at hk1 hk2 hk3
     exact VV hk1 hk2 hk3.1.1 hk3.1.2 hk3.2 h1
theorem TZ {s:List UInt8} (hs:s.length<=1000000000) (h:pB s=none):aA Tryz.prog 103 [.ref 2 0,.ref 0 0] (dcO s) (.pan (aS 10)) dcU:=by
 unfold pB at h
 split at h
 .rename_i h1
  exact QN h1
 .rename_i k s1 h1
  have hb:=bD h1
  split at h
  .rename_i hk
   have hk:=eq_of_beq hk
   subst hk
   split at h
   .rename_i h2
    exact VC (by omega) h1 h2
   .cases h
  .split at h
   .rename_i hk
    have hk:=eq_of_beq hk
    subst hk
    split at h
    .rename_i h2
     exact VB h1 h2
    .cases h
   .split at h
    .rename_i hk
     simp at hk
     split at h
     .rename_i h2
      exact VA (by omega) h1 h2
     .cases h
    .cases h
abbrev d1V:AVal:=.func (.func 103) [] [.ref 2 0,.ref 0 0]
noncomputable abbrev Et:Env:=Ed [(53,[.ref 3 0])]
theorem hEt:EnvOK Et:=hEd _
theorem RZ {s s':List UInt8} {x:Cmd} (hs:s.length<=1000000000) (h:pB s=some (x,s')):aA Tryz.prog 18 [d1V] (dcO s) (.ret (ii 0)) (dcX x s'):=by
 refine cT (E:=E) (fn:=Tryz.f18) (g:=.full 3 _ _) fun _=>?_
 refine gW hE ?_;conv=>whnf
 refine To.defer (f:=53) (args:=[.ref 3 0]) _ rfl rfl ?_
 refine gW hEt ?_;conv=>whnf
 refine .eff [] [0,1,2] _ _ rfl (U9 hs h) ?_
 refine gW hEt ?_;conv=>whnf
 refine To.leave (f:=53) (args:=[.ref 3 0]) [] rfl [] [3] rfl (catch_ret 0) ?_
 refine To.left hE rfl rfl ?_
 refine ⟨[],[0,1,2],⟨rfl,rfl⟩,?_⟩
 exact ⟨rfl,rfl⟩
theorem NH {s:List UInt8} (hs:s.length<=1000000000) (h:pB s=none):aA Tryz.prog 18 [d1V] (dcO s) (.ret (ii 10)) dcU:=by
 refine cT (E:=E) (fn:=Tryz.f18) (g:=.full 3 _ _) fun _=>?_
 refine gW hE ?_;conv=>whnf
 refine To.defer (f:=53) (args:=[.ref 3 0]) _ rfl rfl ?_
 refine gW hEt ?_;conv=>whnf
 refine .effp [] [0,1,2] _ _ rfl (TZ hs h) ?_;conv=>whnf
 refine To.leave (f:=53) (args:=[.ref 3 0]) [] rfl [] [3] rfl (catch_pan 0 10) ?_
 refine To.left hE rfl rfl ?_
 refine ⟨[],[0,1,2],⟨rfl,rfl⟩,?_⟩
 exact ⟨rfl,rfl⟩
def _root_.Go.Proofs.YtmalnhgopkfdaaaGreat.Cmd.zero:Cmd:=⟨0,Con.zero,Gan.zero,0⟩
def dec (s:List UInt8):Option Cmd:=match pB s with
 | some (x,r)=>if r=[]/\chk x=0 then some x else none
 | none=>none
def decX (s:List UInt8):Cmd:=(dec s).getD Cmd.zero
def decE (s:List UInt8):Int:=match dec s with | some _=>0 | none=>10
theorem decode_ok (s:List UInt8) (hs:s.length<=1000000000):aA Tryz.prog 55 [.str s] [] (.ret (.tup [(decX s).av,ii (decE s)])) []:=by
 refine cT (E:=E) (fn:=Tryz.f55) (g:=.pure _) fun _=>?_
 refine gW hE ?_;conv=>whnf
 refine aH (o:=pB s) (fun h=>?_) (fun ⟨x,r⟩ h=>?_)
 .have e1:decX s=Cmd.zero:=by unfold decX dec;rw [h];rfl
  have e2:decE s=10:=by unfold decE dec;rw [h]
  rw [e1,e2]
  refine .eff [] [1,2,3] _ _ rfl (NH hs h) ?_
  repeat' first | (refine gN hE ?_;conv=>whnf) | exact rfl | refine aY ?_ | refine aN ?_ | refine aT fun h=>?_ | refine aF fun h=>?_ | refine ⟨fun h=>?_,fun h=>?_⟩ | refine aJ ?_ | refine ⟨_,rfl,?_⟩ | refine aD ?_ | fail
 .refine .eff [] [1,2,3] _ _ rfl (RZ hs h) ?_
  refine gW hE ?_;conv=>whnf
  refine aN ?_
  refine gW hE ?_;conv=>whnf
  refine Ad (fun hr=>?_) (fun hr=>?_)
  .have hr:(!(r==[]))=true:=hr
   have hr0:¬ r=[]:=by intro e;rw [e] at hr;simp at hr
   have e0:dec s=none:=by unfold dec;rw [h];exact if_neg (fun h=>hr0 h.1)
   have e1:decX s=Cmd.zero:=by unfold decX;rw [e0];rfl
   have e2:decE s=10:=by unfold decE;rw [e0]
   rw [e1,e2]
   repeat' first | (refine gN hE ?_;conv=>whnf) | exact rfl | refine aY ?_ | refine aN ?_ | refine aT fun h=>?_ | refine aF fun h=>?_ | refine ⟨fun h=>?_,fun h=>?_⟩ | refine aJ ?_ | refine ⟨_,rfl,?_⟩ | refine aD ?_ | fail
  .have hr:(!(r==[]))=false:=hr
   have hr0:r=[]:=by simpa using hr
   refine gW hE ?_;conv=>whnf
   refine .pure _ [] (check_ok x) ?_
   refine gW hE ?_;conv=>whnf
   refine Ad (fun hc=>?_) (fun hc=>?_)
   .have hc:(chk x !=0)=true:=hc
    have hc0:¬ chk x=0:=by simpa using hc
    have e0:dec s=none:=by unfold dec;rw [h];exact if_neg (fun h=>hc0 h.2)
    have e1:decX s=Cmd.zero:=by unfold decX;rw [e0];rfl
    have e2:decE s=10:=by unfold decE;rw [e0]
    rw [e1,e2]
    repeat' first | (refine gN hE ?_;conv=>whnf) | exact rfl | refine aY ?_ | refine aN ?_ | refine aT fun h=>?_ | refine aF fun h=>?_ | refine ⟨fun h=>?_,fun h=>?_⟩ | refine aJ ?_ | refine ⟨_,rfl,?_⟩ | refine aD ?_ | fail
   .have hc:(chk x !=0)=false:=hc
    have hc0:chk x=0:=by simpa using hc
    have e0:dec s=some x:=by unfold dec;rw [h];exact if_pos ⟨hr0,hc0⟩
    have e1:decX s=x:=by unfold decX;rw [e0];rfl
    have e2:decE s=0:=by unfold decE;rw [e0]
    rw [e1,e2]
    repeat' first | (refine gN hE ?_;conv=>whnf) | exact rfl | refine aY ?_ | refine aN ?_ | refine aT fun h=>?_ | refine aF fun h=>?_ | refine ⟨fun h=>?_,fun h=>?_⟩ | refine aJ ?_ | refine ⟨_,rfl,?_⟩ | refine aD ?_ | fail
structure PS where
 s:List UInt8
 b:Bool
noncomputable abbrev fRd:Func:=Tryz.f22
def sameC (a b:Con):Bool:=eqL Nod.eqb a.ns b.ns&&(eqL Hos.eqb a.hs b.hs&&((a.half==b.half)&&(a.age==b.age)))
def same (a b:Cmd):Bool:=(a.k==b.k)&&(a.g.eqb b.g&&((a.n==b.n)&&sameC a.c b.c))
noncomputable abbrev PU:Func:=Tryz.f27
theorem IP (a b:Con) (hab:a.hs.length=b.hs.length) (hl:((hav a.hs).length:Int)<=9223372036854775807) (r:Bool):∀ (n i:Nat),i+n=a.hs.length->eqL Hos.eqb (a.hs.drop i) (b.hs.drop i)=r->
  To E PU (.pure (.ret (.bool r))) (.head (stk PU 1) [(2,.ref 0 0),(3,.ref 1 0),(6,.int .i64 i)] [.cells 26 a.cs,.cells 26 b.cs]):=by
 have hlen:(hav a.hs).length=a.hs.length:=by simp
 intro n
 induction n with
 | zero=>
  intro i hi hr
  rw [Ai (by omega),Ai (by omega)] at hr
  subst hr
  refine gW hE ?_;conv=>whnf
  repeat' first | (refine gN hE ?_;conv=>whnf) | exact rfl | refine aY ?_ | refine aN ?_ | refine aT fun h=>?_ | refine aF fun h=>?_ | refine ⟨fun h=>?_,fun h=>?_⟩ | refine aJ ?_ | refine ⟨_,rfl,?_⟩ | refine aD ?_ | fail
 | succ n ih=>
  intro i hi hr
  have h1:i<a.hs.length:=by omega
  have h2:i<b.hs.length:=by omega
  rw [Ag h1,Ag h2] at hr
  have hr:(Hos.eqb a.hs[i] b.hs[i]&&eqL Hos.eqb (a.hs.drop (i+1)) (b.hs.drop (i+1)))=r:=hr
  generalize hx:a.hs[i]=x at hr
  generalize hy:b.hs[i]=y at hr
  have ga:(hav a.hs)[i]? =some (Hos.av x):=by simp [hx,h1]
  have gb:(hav b.hs)[i]? =some (Hos.av y):=by simp [hy,h2]
  refine gW hE ?_;conv=>whnf
  refine aT fun h=>?_
  repeat' first | (refine gN hE ?_;conv=>whnf) | refine ⟨_,ga,?_⟩ | refine ⟨_,gb,?_⟩ | exact rfl | refine aY ?_ | refine aN ?_ | refine aT fun h=>?_ | refine aF fun h=>?_ | refine ⟨fun h=>?_,fun h=>?_⟩ | refine aJ ?_ | refine ⟨_,rfl,?_⟩ | refine aD ?_ | fail
  .have h:Hos.eqb x y=false:=nZ h
   rw [h] at hr
   rw [<-hr];rfl
  .have h:Hos.eqb x y=true:=oA h
   rw [h,Co] at hr
   refine To.head [2,3,6] ?_
   exact ih (i+1) (by omega) hr
theorem qAb (a b:Con) (hab:a.ns.length=b.ns.length) (hhs:a.hs.length=b.hs.length) (hl:((nav a.ns).length:Int)<=9223372036854775807) (hlh:((hav a.hs).length:Int)<=9223372036854775807) (r:Bool):∀ (n i:Nat),i+n=a.ns.length->(eqL Nod.eqb (a.ns.drop i) (b.ns.drop i)&&eqL Hos.eqb a.hs b.hs)=r->
  To E PU (.pure (.ret (.bool r))) (.head (stk PU 0) [(2,.ref 0 0),(3,.ref 1 0),(5,.int .i64 i)] [.cells 26 a.cs,.cells 26 b.cs]):=by
 have hlen:(nav a.ns).length=a.ns.length:=by simp
 intro n
 induction n with
 | zero=>
  intro i hi hr
  rw [Ai (by omega),Ai (by omega)] at hr
  have hr:eqL Hos.eqb a.hs b.hs=r:=hr
  refine gW hE ?_;conv=>whnf
  refine aF fun h=>?_
  refine gW hE ?_;conv=>whnf
  refine To.head [2,3,6] ?_
  exact IP a b hhs hlh r a.hs.length 0 (by omega) hr
 | succ n ih=>
  intro i hi hr
  have h1:i<a.ns.length:=by omega
  have h2:i<b.ns.length:=by omega
  rw [Ag h1,Ag h2] at hr
  have hr:((Nod.eqb a.ns[i] b.ns[i]&&eqL Nod.eqb (a.ns.drop (i+1)) (b.ns.drop (i+1)))&&eqL Hos.eqb a.hs b.hs)=r:=hr
  generalize hx:a.ns[i]=x at hr
  generalize hy:b.ns[i]=y at hr
  have ga:(nav a.ns)[i]? =some (Nod.av x):=by simp [hx,h1]
  have gb:(nav b.ns)[i]? =some (Nod.av y):=by simp [hy,h2]
  refine gW hE ?_;conv=>whnf
  refine aT fun h=>?_
  repeat' first | (refine gN hE ?_;conv=>whnf) | refine ⟨_,ga,?_⟩ | refine ⟨_,gb,?_⟩ | exact rfl | refine aY ?_ | refine aN ?_ | refine aT fun h=>?_ | refine aF fun h=>?_ | refine ⟨fun h=>?_,fun h=>?_⟩ | refine aJ ?_ | refine ⟨_,rfl,?_⟩ | refine aD ?_ | fail
  .have h:Nod.eqb x y=false:=nZ h
   rw [h] at hr
   rw [<-hr];rfl
  .have h:Nod.eqb x y=true:=oA h
   rw [h,Co] at hr
   refine To.head [2,3,5] ?_
   exact ih (i+1) (by omega) hr
theorem MI (a b:Con) (M:Imm) (ob:Hs) (vs:List Value) (h:bS M ob vs [a.av,b.av]):((nav a.ns).length:Int)<=9223372036854775807/\((hav a.hs).length:Int)<=9223372036854775807:=by
 have hl:0<vs.length:=by rw [h.1];simp
 have:=h.2 0 _ a.av (Ab hl) rfl
 exact ⟨dC this 0 _ rfl,dC this 1 _ rfl⟩
theorem EO {a b:Nat} (h:((a:Int) !=(b:Int))=true):a≠b:=by
 intro e;rw [e] at h;simp at h
theorem FC {a b:Nat} (h:((a:Int) !=(b:Int))=false):a=b:=by
 simp at h;omega
theorem IQ (a b:Con) (r:Bool) (hr:sameC a b=r):aA Tryz.prog 27 [a.av,b.av] [] (.ret (.bool r)) []:=by
 refine aA.get _ (MI a b) fun ⟨hl,hlh⟩=>?_
 have la:(nav a.ns).length=a.ns.length:=by simp
 have lb:(nav b.ns).length=b.ns.length:=by simp
 have ka:(hav a.hs).length=a.hs.length:=by simp
 have kb:(hav b.hs).length=b.hs.length:=by simp
 refine cT (E:=E) (fn:=Tryz.f27) (g:=.pure _) fun _=>?_
 refine gW hE ?_;conv=>whnf
 refine Ad (fun h1=>?_) (fun h1=>?_)
 .have h1:(((nav a.ns).length:Int) !=((nav b.ns).length:Int))=true:=h1
  have e:sameC a b=false:=by unfold sameC;rw [oI (by rw [<-la,<-lb];exact EO h1)];rfl
  rw [e] at hr
  subst hr
  repeat' first | (refine gN hE ?_;conv=>whnf) | exact rfl | refine aY ?_ | refine aN ?_ | refine aT fun h=>?_ | refine aF fun h=>?_ | refine ⟨fun h=>?_,fun h=>?_⟩ | refine aJ ?_ | refine ⟨_,rfl,?_⟩ | refine aD ?_ | fail
 .have h1:(((nav a.ns).length:Int) !=((nav b.ns).length:Int))=false:=h1
  refine gW hE ?_;conv=>whnf
  refine Ad (fun h2=>?_) (fun h2=>?_)
  .have h2:(((hav a.hs).length:Int) !=((hav b.hs).length:Int))=true:=h2
   have e:sameC a b=false:=by unfold sameC;rw [oI (f:=Hos.eqb) (by rw [<-ka,<-kb];exact EO h2),Ek,Ch]
   rw [e] at hr
   subst hr
   repeat' first | (refine gN hE ?_;conv=>whnf) | exact rfl | refine aY ?_ | refine aN ?_ | refine aT fun h=>?_ | refine aF fun h=>?_ | refine ⟨fun h=>?_,fun h=>?_⟩ | refine aJ ?_ | refine ⟨_,rfl,?_⟩ | refine aD ?_ | fail
  .have h2:(((hav a.hs).length:Int) !=((hav b.hs).length:Int))=false:=h2
   have p1:=FC h1
   have p2:=FC h2
   refine gW hE ?_;conv=>whnf
   refine Ad (fun h3=>?_) (fun h3=>?_)
   .have h3:(!(a.half==b.half))=true:=h3
    have h3:=nZ h3
    have e:sameC a b=false:=by unfold sameC;rw [h3,Ek,Ch,Ch]
    rw [e] at hr
    subst hr
    repeat' first | (refine gN hE ?_;conv=>whnf) | exact rfl | refine aY ?_ | refine aN ?_ | refine aT fun h=>?_ | refine aF fun h=>?_ | refine ⟨fun h=>?_,fun h=>?_⟩ | refine aJ ?_ | refine ⟨_,rfl,?_⟩ | refine aD ?_ | fail
   .have h3:(!(a.half==b.half))=false:=h3
    have h3:=oA h3
    refine gW hE ?_;conv=>whnf
    refine Ad (fun h4=>?_) (fun h4=>?_)
    .have h4:(!(a.age==b.age))=true:=h4
     have h4:=nZ h4
     have e:sameC a b=false:=by unfold sameC;rw [h4,Ch,Ch,Ch]
     rw [e] at hr
     subst hr
     repeat' first | (refine gN hE ?_;conv=>whnf) | exact rfl | refine aY ?_ | refine aN ?_ | refine aT fun h=>?_ | refine aF fun h=>?_ | refine ⟨fun h=>?_,fun h=>?_⟩ | refine aJ ?_ | refine ⟨_,rfl,?_⟩ | refine aD ?_ | fail
    .have h4:(!(a.age==b.age))=false:=h4
     have h4:=oA h4
     have e:sameC a b=(eqL Nod.eqb a.ns b.ns&&eqL Hos.eqb a.hs b.hs):=by unfold sameC;rw [h3,h4,Fi,Fi]
     rw [e] at hr
     refine gW hE ?_;conv=>whnf
     refine To.head [2,3,5] ?_
     exact qAb a b (by omega) (by omega) hl hlh _ a.ns.length 0 (by omega) hr
theorem rsame_c (a b:Con):aA Tryz.prog 27 [a.av,b.av] [] (.ret (.bool (sameC a b))) []:=IQ a b _ rfl
theorem aU {n:Int} (h0:0<=n) (h:n<=1099511627777) (s:List UInt8):bA (putN n.toNat++s)=some (n,s):=by
 unfold bA
 rw [K2 n.toNat s (by omega)]
 simp only [Hp,Cf,Gb,and_true]
 omega
theorem lC {v:V3} (h:okI v.l=true) (s:List UInt8):iQ (pl v.l++s)=some (v,s):=by
 obtain ⟨h1,h2,h3⟩:=HV h
 have e:pl v.l++s=putN v.a.toNat++(putN v.b.toNat++(putN v.c.toNat++s)):=by simp [pl,V3.l]
 rw [e]
 unfold iQ
 rw [aU h1.1 (by omega)]
 dsimp only
 rw [aU h2.1 (by omega)]
 dsimp only
 rw [aU h3.1 (by omega)]
theorem jD {g:Gan} (h:g.ok=true) (s:List UInt8):rGan (pl g.il++s)=some (g,s):=by
 obtain ⟨h1,h2,h3⟩:=gan_b h
 have b1:=okI_b h1 g.id (by simp)
 have b2:=okI_b h1 g.ten (by simp)
 have b3:=okI_b h1 g.pods (by simp)
 have b4:=okI_b h3 g.run (by simp)
 have b5:=okI_b h3 g.lev (by simp)
 have b6:=okI_b h3 g.pref (by simp)
 have e:pl g.il++s=putN g.id.toNat++(putN g.ten.toNat++(putN g.pods.toNat++(pl g.need.l++(putN g.run.toNat++(putN g.lev.toNat++(putN g.pref.toNat++s)))))):=by simp [pl,Gan.il,V3.l]
 rw [e]
 unfold rGan
 rw [aU b1.1 (by omega)]
 dsimp only
 rw [aU b2.1 (by omega)]
 dsimp only
 rw [aU b3.1 (by omega)]
 dsimp only
 rw [lC h2]
 dsimp only
 rw [aU b4.1 (by omega)]
 dsimp only
 rw [aU b5.1 (by omega)]
 dsimp only
 rw [aU b6.1 (by omega)]
theorem I8 {x:Nod} (h:x.ok=true) (s:List UInt8):F8 (pl x.il++s)=some (x,s):=by
 obtain ⟨h1,h2,h3,h4,h5⟩:=JY h
 have e:pl x.il++s=putN (x.p+1).toNat++(putN x.w.toNat++(pl x.n.l++(pl x.b.l++(pl x.l.l++s)))):=by simp [pl,Nod.il,V3.l]
 rw [e]
 unfold F8
 rw [aU (by omega) (by omega)]
 dsimp only
 rw [aU h2.1 (by omega)]
 dsimp only
 rw [lC h3]
 dsimp only
 rw [lC h4]
 dsimp only
 rw [lC h5]
 simp
theorem nU {x:Hos} (h:x.ok=true) (s:List UInt8):kR (pl x.il++s)=some (x,s):=by
 obtain ⟨h1,h2⟩:=KU h
 have b1:=okI_b h1 x.f (by simp)
 have b2:=okI_b h1 x.b (by simp)
 have b3:=okI_b h1 x.r (by simp)
 have e:pl x.il++s=putN x.f.toNat++(putN x.b.toNat++(putN x.r.toNat++(pl x.c.l++s))):=by simp [pl,Hos.il,V3.l]
 rw [e]
 unfold kR
 rw [aU b1.1 (by omega)]
 dsimp only
 rw [aU b2.1 (by omega)]
 dsimp only
 rw [aU b3.1 (by omega)]
 dsimp only
 rw [lC h2]
theorem putN_pos (n:Nat):1<=(putN n).length:=by rw [putN];split<;>simp
theorem AO:∀ (l:List Nod),l.length<=(pl (nodL l)).length
 | []=>by simp
 | x::r=>by
  have h1:=AO r
  have h2:=putN_pos (x.p+1).toNat
  simp only [nodL,pl_append,Aj,Ap]
  have:1<=(pl x.il).length:=by simp only [Nod.il,pl,Aj];omega
  omega
theorem A3:∀ (l:List Hos),l.length<=(pl (hosL l)).length
 | []=>by simp
 | x::r=>by
  have h1:=A3 r
  have h2:=putN_pos x.f.toNat
  simp only [hosL,pl_append,Aj,Ap]
  have:1<=(pl x.il).length:=by simp only [Hos.il,pl,Aj];omega
  omega
theorem dX {n:Int} (h0:0<=n) (h:n<=1099511627777) (s:List UInt8) (hs:n<=s.length):bY (putN n.toNat++s)=some (n,s):=by
 unfold bY
 rw [aU h0 h]
 dsimp only
 rw [if_pos (by simpa using hs)]
theorem JA:∀ (l:List Nod) (acc:List Nod) (s:List UInt8),pT l=true->rN l.length acc (pl (nodL l)++s)=rHs (acc++l) s
 | [],acc,s,_=>by simp [rN,nodL,pl]
 | x::r,acc,s,h=>by
  simp only [pT,Ac] at h
  have e:pl (nodL (x::r))++s=pl x.il++(pl (nodL r)++s):=by simp [nodL,pl_append]
  rw [e,Ap]
  unfold rN
  rw [I8 h.1]
  dsimp only
  rw [JA r (acc++[x]) s h.2]
  simp
theorem sI (ns:List Nod):∀ (l:List Hos) (acc:List Hos) (s:List UInt8),mQ l=true->rH ns l.length acc (pl (hosL l)++s)=JD ns (acc++l) s
 | [],acc,s,_=>by simp [rH,hosL,pl]
 | x::r,acc,s,h=>by
  simp only [mQ,Ac] at h
  have e:pl (hosL (x::r))++s=pl x.il++(pl (hosL r)++s):=by simp [hosL,pl_append]
  rw [e,Ap]
  unfold rH
  rw [nU h.1]
  dsimp only
  rw [sI ns r (acc++[x]) s h.2]
  simp
theorem zZ {c:Con} (h:c.tok=true) (hn:c.ns.length<=12) (hh:c.hs.length<=24) (s:List UInt8):qR (pl c.il++s)=some (c,s):=by
 simp only [Con.tok,Ac] at h
 obtain ⟨⟨h1,h2⟩,h3⟩:=h
 have b1:=okI_b h3 c.half (by simp)
 have b2:=okI_b h3 c.age (by simp)
 have l1:(nav c.ns).length=c.ns.length:=by simp
 have l2:(hav c.hs).length=c.hs.length:=by simp
 have k1:=AO c.ns
 have k2:=A3 c.hs
 have e:pl c.il++s=putN ((nav c.ns).length:Int).toNat++(pl (nodL c.ns)++(putN ((hav c.hs).length:Int).toNat++(pl (hosL c.hs)++(putN c.half.toNat++(putN c.age.toNat++s))))):=by simp [pl,pl_append,Con.il]
 rw [e]
 unfold qR
 rw [dX (by omega) (by omega) _ (by simp only [Aj];omega)]
 dsimp only
 rw [Br,l1,JA c.ns [] _ h1]
 unfold rHs
 rw [dX (by omega) (by omega) _ (by simp only [Aj];omega)]
 dsimp only
 rw [Br,l2,sI _ c.hs [] _ h2]
 unfold JD
 rw [aU b1.1 (by omega)]
 dsimp only
 rw [aU b2.1 (by omega)]
 simp
theorem MH {c:Con} (h:c.non=true):c=Con.zero:=by
 simp only [Con.non,Ac,beq_iff_eq] at h
 obtain ⟨⟨⟨h1,h2⟩,h3⟩,h4⟩:=h
 obtain ⟨ns,hs,half,age⟩:=c
 dsimp only at h1 h2 h3 h4
 have e1:ns=[]:=by cases ns with | nil=>rfl | cons a l=>simp at h1;omega
 have e2:hs=[]:=by cases hs with | nil=>rfl | cons a l=>simp at h2;omega
 subst e1 e2 h3 h4
 rfl
theorem gan_none {g:Gan} (h:g.isZ=true):g=Gan.zero:=Gan.eqb_eq.1 h
theorem rCmd_put {x:Cmd} (T:Told x):pB (pl x.il)=some (x,[]):=by
 obtain ⟨k,c,g,n⟩:=x
 have l1:(nav c.ns).length=c.ns.length:=by simp
 have l2:(hav c.hs).length=c.hs.length:=by simp
 have hln:((nav c.ns).length:Int)<=12:=T.ln
 have hlh:((hav c.hs).length:Int)<=24:=T.lh
 have hkk:1<=k/\k<=6:=T.k
 have Tc:k=1\/c.non=true:=T.c
 have Tg:k=2\/g.isZ=true:=T.g
 have Tn:(k=3\/k=4\/k=5)\/n=0:=T.n
 have Tnn:0<=n/\n<=1099511627776:=T.nok
 have cok:c.tok=true:=T.cok
 have gok:g.ok=true:=T.gok
 clear T
 have e:pl (Cmd.il ⟨k,c,g,n⟩)=putN k.toNat++pl (if k==1 then c.il else if k==2 then g.il else if k==6 then [] else [n]):=rfl
 rw [e]
 unfold pB
 rw [aU (by omega) (by omega)]
 dsimp only
 rcases Tc with rfl | hc
 .have hg:g=Gan.zero:=gan_none (Tg.resolve_left (by omega))
  have hn:n=0:=Tn.resolve_left (by omega)
  subst hg hn
  have:=zZ cok (by omega) (by omega) []
  rw [Bd] at this
  simp only [beq_self_eq_true,if_true]
  rw [this]
 .have hc:c=Con.zero:=MH hc
  subst hc
  rcases Tg with rfl | hg
  .have hn:n=0:=Tn.resolve_left (by omega)
   subst hn
   have:=jD gok []
   rw [Bd] at this
   simp only [show ((2:Int)==1)=false from rfl,show ((2:Int)==2)=true from rfl,if_true,Ci,if_false]
   rw [this]
  .have hg:g=Gan.zero:=gan_none hg
   subst hg
   have one:bA (pl [n])=some (n,[]):=aU Tnn.1 (by omega) []
   have t3:(match bA (pl [n]) with | none=>none | some (n,s)=>some ((⟨3,Con.zero,Gan.zero,n⟩:Cmd),s))=some (⟨3,Con.zero,Gan.zero,n⟩,[]):=by rw [one]
   have t4:(match bA (pl [n]) with | none=>none | some (n,s)=>some ((⟨4,Con.zero,Gan.zero,n⟩:Cmd),s))=some (⟨4,Con.zero,Gan.zero,n⟩,[]):=by rw [one]
   have t5:(match bA (pl [n]) with | none=>none | some (n,s)=>some ((⟨5,Con.zero,Gan.zero,n⟩:Cmd),s))=some (⟨5,Con.zero,Gan.zero,n⟩,[]):=by rw [one]
   have hk:k=1\/k=2\/k=3\/k=4\/k=5\/k=6:=by omega
   rcases hk with rfl | rfl | rfl | rfl | rfl | rfl
   .have hn:n=0:=Tn.resolve_left (by omega)
    subst hn
    have:=zZ (c:=Con.zero) rfl (by decide) (by decide) []
    rw [Bd] at this
    simp only [beq_self_eq_true,if_true]
    rw [this]
   .have hn:n=0:=Tn.resolve_left (by omega)
    subst hn
    have:=jD (g:=Gan.zero) rfl []
    rw [Bd] at this
    simp only [show ((2:Int)==1)=false from rfl,show ((2:Int)==2)=true from rfl,if_true,Ci,if_false]
    rw [this]
   .exact t3
   .exact t4
   .exact t5
   .have hn:n=0:=Tn.resolve_left (by omega)
    subst hn
    rfl
theorem aP {s s':List UInt8} {n:Int} (h:bA s=some (n,s')):s=putN n.toNat++s':=by
 unfold bA at h
 split at h
 .rename_i m k hg
  cases h
  obtain ⟨x,e1,e2,_⟩:=AC 9 0 0 s m k rfl (by decide) hg
  have:x=m:=by omega
  subst this
  rw [Br,e2,Fw,Ep]
 .cases h
theorem lD {s s':List UInt8} {v:V3} (h:iQ s=some (v,s')):s=pl v.l++s':=by
 unfold iQ at h
 split at h
 .cases h
 .rename_i h1
  split at h
  .cases h
  .rename_i h2
   split at h
   .cases h
   .rename_i h3
    cases h
    rw [aP h1,aP h2,aP h3]
    simp [pl,V3.l]
theorem lE {s s':List UInt8} {v:Gan} (h:rGan s=some (v,s')):s=pl v.il++s':=by
 unfold rGan at h
 split at h
 .cases h
 .rename_i h1
  split at h
  .cases h
  .rename_i h2
   split at h
   .cases h
   .rename_i h3
    split at h
    .cases h
    .rename_i h4
     split at h
     .cases h
     .rename_i h5
      split at h
      .cases h
      .rename_i h6
       split at h
       .cases h
       .rename_i h7
        cases h
        rw [aP h1,aP h2,aP h3,lD h4,aP h5,aP h6,aP h7]
        simp [pl,Gan.il,V3.l]
theorem I9 {s s':List UInt8} {v:Nod} (h:F8 s=some (v,s')):s=pl v.il++s':=by
 unfold F8 at h
 split at h
 .cases h
 .rename_i h1
  split at h
  .cases h
  .rename_i h2
   split at h
   .cases h
   .rename_i h3
    split at h
    .cases h
    .rename_i h4
     split at h
     .cases h
     .rename_i h5
      cases h
      rw [aP h1,aP h2,lD h3,lD h4,lD h5]
      simp [pl,Nod.il,V3.l]
theorem nV {s s':List UInt8} {v:Hos} (h:kR s=some (v,s')):s=pl v.il++s':=by
 unfold kR at h
 split at h
 .cases h
 .rename_i h1
  split at h
  .cases h
  .rename_i h2
   split at h
   .cases h
   .rename_i h3
    split at h
    .cases h
    .rename_i h4
     cases h
     rw [aP h1,aP h2,aP h3,lD h4]
     simp [pl,Hos.il,V3.l]
theorem dY {s s':List UInt8} {n:Int} (h:bY s=some (n,s')):bA s=some (n,s'):=by
 unfold bY at h
 split at h
 .rename_i h1
  split at h
  .cases h;exact h1
  .cases h
 .cases h
theorem sJ (ns:List Nod):∀ (m:Nat) (acc:List Hos) (s s':List UInt8) (c:Con),rH ns m acc s=some (c,s')->∃ l,c.ns=ns/\c.hs=acc++l/\l.length=m/\s=pl (hosL l)++(pl [c.half,c.age]++s')
 | 0,acc,s,s',c,h=>by
  unfold rH JD at h
  split at h
  .cases h
  .rename_i h1
   split at h
   .cases h
   .rename_i h2
    cases h
    exact ⟨[],rfl,by simp,rfl,by rw [aP h1,aP h2];simp [pl,hosL]⟩
 | m+1,acc,s,s',c,h=>by
  unfold rH at h
  split at h
  .cases h
  .rename_i x s1 h1
   obtain ⟨l,e1,e2,e3,e4⟩:=sJ ns m _ _ _ _ h
   exact ⟨x::l,e1,by rw [e2];simp,by simp [e3],by rw [nV h1,e4];simp [hosL,pl_append]⟩
theorem JB:∀ (m:Nat) (acc:List Nod) (s s':List UInt8) (c:Con),rN m acc s=some (c,s')->∃ l,c.ns=acc++l/\l.length=m/\s=pl (nodL l)++(pl [((hav c.hs).length:Int)]++(pl (hosL c.hs)++(pl [c.half,c.age]++s')))
 | 0,acc,s,s',c,h=>by
  unfold rN rHs at h
  split at h
  .cases h
  .rename_i n s1 h1
   have hb:=bT h1
   obtain ⟨l,e1,e2,e3,e4⟩:=sJ acc n.toNat [] s1 s' c h
   refine ⟨[],by simp [e1],rfl,?_⟩
   have hl:(((hav c.hs).length:Nat):Int)=n:=by
    have:(hav c.hs).length=l.length:=by rw [e2];simp
    rw [this,e3]
    omega
   have e2:c.hs=l:=by rw [e2];simp
   rw [aP (dY h1),e4,hl,e2]
   simp [pl,nodL]
 | m+1,acc,s,s',c,h=>by
  unfold rN at h
  split at h
  .cases h
  .rename_i x s1 h1
   obtain ⟨l,e1,e2,e3⟩:=JB m _ _ _ _ h
   exact ⟨x::l,by rw [e1];simp,by simp [e2],by rw [I9 h1,e3];simp [nodL,pl_append]⟩
theorem JE {s s':List UInt8} {c:Con} (h:qR s=some (c,s')):s=pl c.il++s':=by
 unfold qR at h
 split at h
 .cases h
 .rename_i n s1 h1
  have hb:=bT h1
  obtain ⟨l,e1,e2,e3⟩:=JB n.toNat [] s1 s' c h
  have e1:c.ns=l:=by rw [e1];simp
  have hl:(((nav c.ns).length:Nat):Int)=n:=by
   have:(nav c.ns).length=l.length:=by rw [e1];simp
   rw [this,e2]
   omega
  rw [aP (dY h1),e3]
  simp only [Con.il,pl_append,Al,hl,e1]
  simp [pl]
  rw [e2]
theorem JF {s s':List UInt8} {x:Cmd} (hk:1<=x.k/\x.k<=6) (h:pB s=some (x,s')):s=pl x.il++s':=by
 unfold pB at h
 split at h
 .cases h
 .rename_i k s1 h1
  have e0:=aP h1
  split at h
  .rename_i h2
   split at h
   .cases h
   .rename_i h3
    cases h
    rw [e0,JE h3,<-fQ ⟨k,_,Gan.zero,0⟩ _ rfl,h2]
    simp
  .rename_i h2
   split at h
   .rename_i h3
    split at h
    .cases h
    .rename_i h4
     cases h
     rw [e0,lE h4,<-fQ ⟨k,Con.zero,_,0⟩ _ rfl,h3,Fm.2 h2]
     simp
   .rename_i h3
    split at h
    .rename_i h4
     have h6:(k==6)=false:=by
      simp at h4
      rcases h4 with (rfl | rfl) | rfl<;>rfl
     split at h
     .cases h
     .rename_i h5
      cases h
      rw [e0,aP h5,<-fQ ⟨k,Con.zero,Gan.zero,_⟩ _ rfl,Fm.2 h2,Fm.2 h3,h6]
      simp [pl]
    .rename_i h4
     cases h
     have h6:(k==6)=true:=by
      simp at h2 h3 h4⊢
      have hk:1<=k/\k<=6:=hk
      omega
     rw [e0,<-fQ ⟨k,Con.zero,Gan.zero,_⟩ _ rfl,Fm.2 h2,Fm.2 h3,h6]
     simp [pl]
theorem dec_spec {s:List UInt8} {x:Cmd} (h:dec s=some x):pB s=some (x,[])/\chk x=0:=by
 unfold dec at h
 split at h
 .rename_i y r h1
  split at h
  .rename_i h2
   cases h
   exact ⟨by rw [h1,h2.1],h2.2⟩
  .cases h
 .cases h
theorem dec_can {s:List UInt8} {x:Cmd} (h:dec s=some x):pl x.il=s:=by
 obtain ⟨h1,h2⟩:=dec_spec h
 have:=JF (chk_told h2).k h1
 rw [Bd] at this
 exact this.symm
theorem same_self (x:Cmd):same x x=true:=by
 have h1:x.g.eqb x.g=true:=Gan.eqb_eq.2 rfl
 have h2:eqL Nod.eqb x.c.ns x.c.ns=true:=tO (fun y=>Nod.eqb_eq.2 rfl) _
 have h3:eqL Hos.eqb x.c.hs x.c.hs=true:=tO (fun y=>Hos.eqb_eq.2 rfl) _
 simp [same,sameC,h1,h2,h3]
end Go.Proofs.YtmalnhgopkfdaaaGreat.C8
