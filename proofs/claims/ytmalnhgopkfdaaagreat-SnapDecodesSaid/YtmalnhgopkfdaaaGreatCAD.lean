/-
  Commands as bytes, by the program and by the document's answer.
-/
import Derived.Lib.Builder
import Derived.Lib.UnsafeStr
import Derived.Lib.Walk
import Derived.Shelf.RegionOpenPlain
import Derived.Test.YtmalnhgopkfdaaaGreatRAD
set_option linter.all false
set_option maxHeartbeats 1000000
open And renaming intro->Aa
open Bool renaming and_assoc->Gv,and_eq_true->Ad,and_false->Bo,and_true->Ga,eq_false_iff->Ge,eq_false_or_eq_true->Dh,false_and->Ce,false_eq_true->Bq,or_eq_true->Dg,true_and->Bt
open Go.Builtin renaming unsafeSliceData_->Jh,unsafeString_->Kd
open Go.Result renaming andThen->Eb
open Go.World renaming shape?->Kr
open Int renaming fdiv_eq_ediv_of_nonneg->Gh,tdiv->Ks,tdiv_eq_ediv_of_nonneg->Il,tmod_eq_emod_of_nonneg->Ik,toNat_natCast->Br
open List renaming append_assoc->Aj,append_nil->Ay,cons_append->Hj,drop_drop->Gx,drop_eq_getElem_cons->Ae,drop_eq_nil_of_le->Af,drop_left->Im,drop_zero->Db,getElem?_eq_getElem->Ac,getElem?_eq_some_iff->Ab,getElem_mem->Bn,length_append->Ag,length_cons->Ao,length_drop->Dy,length_nil->Bg,length_pos_iff->Fp,map_append->Cf,map_cons->Cn,mem_cons->Bh,nil_append->Ez,not_mem_nil->Fs,take_add_one->Gw,take_append_drop->Fj
open Nat renaming add_mul->Cc,add_sub_cancel_left->Ev,beq->Ar,mod_eq_of_lt->Dx,mul_add->Fc,mul_assoc->Ko,mul_comm->Dj,mul_le_mul_right->Bp,pow_add->Fe,pow_le_pow_right->Dm,strongRecOn->Hz,sub_zero->Fy,zero_add->Bk,zero_le->Bm
open Option renaming map_eq_some_iff->Bx
open Option.some renaming injEq->Cu
open Or renaming inl->Em
open Prod.mk renaming injEq->Gq
open UInt8 renaming ofNat->Di,toNat_ofNat'->Fx
namespace Go.Proofs.YtmalnhgopkfdaaaGreat
open Go Go.AW Go.Proofs
structure Cmd where
 k:Int
 c:Con
 g:Gan
 n:Int
 deriving DecidableEq
def Cmd.cs (x:Cmd):List AVal:=[ii x.k,.slice 11 (nav x.c.ns) .no,.slice 6 (hav x.c.hs) .no,ii x.c.half,ii x.c.age,ii x.g.id,ii x.g.ten,ii x.g.pods,ii x.g.need.a,ii x.g.need.b,ii x.g.need.c,ii x.g.run,ii x.g.lev,ii x.g.pref,ii x.n]
def Cmd.av (x:Cmd):AVal:=.agg x.cs
def hO (x:Int):Bool:=decide (0<=x)&&decide (x<=1099511627776)
def okI:List Int->Bool
 | []=>true
 | x::r=>hO x&&okI r
def V3.l (v:V3):List Int:=[v.a,v.b,v.c]
def Nod.ok (x:Nod):Bool:=(decide (-1<=x.p)&&decide (x.p<=1099511627776))&&okI [x.w]&&okI x.n.l&&okI x.b.l&&okI x.l.l
def Hos.ok (x:Hos):Bool:=okI [x.f,x.b,x.r]&&okI x.c.l
def pB:List Nod->Bool
 | []=>true
 | x::r=>x.ok&&pB r
def jY:List Hos->Bool
 | []=>true
 | x::r=>x.ok&&jY r
def Con.tok (c:Con):Bool:=pB c.ns&&jY c.hs&&okI [c.half,c.age]
def Gan.ok (g:Gan):Bool:=okI [g.id,g.ten,g.pods,g.run,g.lev,g.pref]&&okI g.need.l
def Con.none (c:Con):Bool:=decide ((c.ns.length:Int)=0)&&decide ((c.hs.length:Int)=0)&&decide (c.half=0)&&decide (c.age=0)
def Gan.zero:Gan:=⟨0,0,0,⟨0,0,0⟩,0,0,0⟩
end Go.Proofs.YtmalnhgopkfdaaaGreat
namespace Go.Proofs.YtmalnhgopkfdaaaGreat.C8
open Go Go.AW Go.Proofs
set_option maxRecDepth 10000
def aW (e:Int):AVal:=.iface 156 (.agg [ii e])
theorem eG (b:Bool) (e:Int) (h:b=true):aA Tryz.prog 102 [.bool b,ii e] [] (.ret (.tup [])) []:=by
 subst h
 refine cT (E:=E) (fn:=Tryz.f102) (g:=.pure _) fun _=>?_
 refine gW hE ?_;conv=>whnf
 refine ⟨fun h=>absurd h (by decide),fun h=>?_⟩
 refine gW hE ?_;conv=>whnf
theorem cO (b:Bool) (e:Int) (h:b=false):aA Tryz.prog 102 [.bool b,ii e] [] (.pan (aW e)) []:=by
 subst h
 refine cT (E:=E) (fn:=Tryz.f102) (g:=.pure _) fun _=>?_
 refine gW hE ?_;conv=>whnf
 refine ⟨fun h=>?_,fun h=>absurd h (by decide)⟩
 refine gW hE ?_;conv=>whnf
 rfl
def Y4 (l:List Int):Res:=if okI l then .ret (.tup []) else .pan (aW 1)
theorem LL (l:List Int) (hl:((iv l).length:Int)<=9223372036854775807) (r:Res):∀ (n i:Nat),i+n=l.length->Y4 (l.drop i)=r->
  To E Tryz.f119 (.pure r) (.head (stk Tryz.f119 0) [(4,.slice 1 (iv l) .no),(5,.int .i64 ((iv l).length:Nat)),(6,.int .i64 i)] []):=by
 have hlen:(iv l).length=l.length:=by simp
 intro n
 induction n with
 | zero=>
  intro i hi hr
  rw [Af (by omega)] at hr
  refine gW hE ?_;conv=>whnf
  refine ⟨fun h=>absurd (of_decide_eq_true h) (by omega),fun h=>?_⟩
  refine gW hE ?_;conv=>whnf
  exact hr
 | succ n ih=>
  intro i hi hr
  have hlt:i<l.length:=by omega
  rw [Ae hlt] at hr
  have hr:(if hO l[i]&&okI (l.drop (i+1)) then Res.ret (.tup []) else .pan (aW 1))=r:=hr
  refine gW hE ?_;conv=>whnf
  refine ⟨fun h=>?_,fun h=>absurd (of_decide_eq_false h) (by omega)⟩
  refine gW hE ?_;conv=>whnf
  refine ⟨i,rfl,?_⟩
  refine gW hE ?_;conv=>whnf
  refine ⟨_,cG hlt,?_⟩
  refine gW hE ?_;conv=>whnf
  refine ⟨fun h1=>?_,fun h1=>?_⟩
  .refine gW hE ?_;conv=>whnf
   rcases Dh (decide (l[i]<=1099511627776)) with h2 | h2
   .refine .pure _ [] (eG _ _ h2) ?_
    refine gW hE ?_;conv=>whnf
    refine .inl ⟨⟨by simp only [cC];omega,by simp only [bF];omega⟩,?_⟩
    refine gW hE ?_;conv=>whnf
    refine To.head [4,5,6] ?_
    refine ih (i+1) (by omega) ?_
    have h3:hO l[i]=true:=by unfold hO;rw [h2];simpa using h1
    rw [h3,Bt] at hr
    exact hr
   .refine .pan _ (cO _ _ h2) ?_
    have h3:hO l[i]=false:=by unfold hO;rw [h2];simp
    rw [h3] at hr
    exact hr
  .refine gW hE ?_;conv=>whnf
   refine .pan _ (cO _ _ rfl) ?_
   have h3:hO l[i]=false:=by
    unfold hO
    have:decide (0<=l[i])=false:=h1
    rw [this];rfl
   rw [h3] at hr
   exact hr
theorem DF (l:List Int) (r:Res) (hr:Y4 l=r):aA Tryz.prog 119 [.slice 1 (iv l) .no] [] r []:=by
 refine cT (E:=E) (fn:=Tryz.f119) (g:=.pure _) fun ho=>?_
 refine gW hE ?_;conv=>whnf
 refine To.head [4,5,6] ?_
 exact LL l ho.1 _ l.length 0 (by omega) hr
theorem gT (l:List Int) (h:okI l=true):aA Tryz.prog 119 [.slice 1 (iv l) .no] [] (.ret (.tup [])) []:=DF l _ (if_pos h)
theorem eX (l:List Int) (h:okI l=false):aA Tryz.prog 119 [.slice 1 (iv l) .no] [] (.pan (aW 1)) []:=DF l _ (if_neg (by rw [h];simp))
def oR (b:Bool):Res:=if b then .ret (.tup []) else .pan (aW 1)
theorem xC {b:Bool} {r:Res} (hr:oR b=r) (h:b=false):Res.pan (aW 1)=r:=by subst h;exact hr
theorem IL (c:Con) (r:Res) (hl:((hav c.hs).length:Int)<=9223372036854775807):∀ (n i:Nat),i+n=c.hs.length->oR (jY (c.hs.drop i)&&okI [c.half,c.age])=r->
  To E Tryz.f117 (.pure r) (.head (stk Tryz.f117 1) [(1,.ref 0 0),(37,.slice 6 (hav c.hs) .no),(38,.int .i64 ((hav c.hs).length:Nat)),(39,.int .i64 i)] [.cells 26 c.cs]):=by
 have hlen:(hav c.hs).length=c.hs.length:=by simp
 intro n
 induction n with
 | zero=>
  intro i hi hr
  rw [Af (by omega)] at hr
  refine gW hE ?_;conv=>whnf
  refine ⟨fun h=>absurd (of_decide_eq_true h) (by omega),fun h=>?_⟩
  refine gW hE ?_;conv=>whnf
  cases h2:okI [c.half,c.age] with
  | true=>
   refine .pure _ [] (aA.strip (gT [c.half,c.age] h2)) ?_
   refine gW hE ?_;conv=>whnf
   rw [h2] at hr
   exact hr
  | false=>
   refine .pan _ (aA.strip (eX [c.half,c.age] h2)) ?_
   rw [h2] at hr
   exact hr
 | succ n ih=>
  intro i hi hr
  have hlt:i<c.hs.length:=by omega
  rw [Ae hlt] at hr
  have hr:oR ((c.hs[i].ok&&jY (c.hs.drop (i+1)))&&okI [c.half,c.age])=r:=hr
  generalize hx:c.hs[i]=x at hr
  refine gW hE ?_;conv=>whnf
  refine ⟨fun h=>?_,fun h=>absurd (of_decide_eq_false h) (by omega)⟩
  refine gW hE ?_;conv=>whnf
  refine ⟨i,rfl,?_⟩
  refine gW hE ?_;conv=>whnf
  refine ⟨_,(lZ hlt).trans (by rw [hx]),?_⟩
  refine gW hE ?_;conv=>whnf
  cases h2:okI [x.f,x.b,x.r] with
  | false=>
   refine .pan _ (aA.strip (eX [x.f,x.b,x.r] h2)) ?_
   exact xC hr (by unfold Hos.ok;rw [h2];rfl)
  | true=>
   refine .pure _ [] (aA.strip (gT [x.f,x.b,x.r] h2)) ?_
   refine gW hE ?_;conv=>whnf
   refine ⟨by decide,?_⟩
   refine gW hE ?_;conv=>whnf
   cases h3:okI x.c.l with
   | false=>
    refine .pan _ (aA.strip (eX x.c.l h3)) ?_
    exact xC hr (by unfold Hos.ok;rw [h2,h3];rfl)
   | true=>
    refine .pure _ [] (aA.strip (gT x.c.l h3)) ?_
    refine gW hE ?_;conv=>whnf
    refine .inl ⟨⟨by simp only [cC];omega,by simp only [bF];omega⟩,?_⟩
    refine gW hE ?_;conv=>whnf
    refine To.cut [1,37,38,39] 1 rfl rfl rfl rfl ?_
    refine ih (i+1) (by omega) ?_
    have:x.ok=true:=by unfold Hos.ok;rw [h2,h3];rfl
    rw [this,Bt] at hr
    exact hr
theorem NJ (c:Con) (r:Res) (hl:((nav c.ns).length:Int)<=9223372036854775807) (hh:((hav c.hs).length:Int)<=9223372036854775807):∀ (n i:Nat),i+n=c.ns.length->oR (pB (c.ns.drop i)&&(jY c.hs&&okI [c.half,c.age]))=r->
  To E Tryz.f117 (.pure r) (.head (stk Tryz.f117 0) [(1,.ref 0 0),(7,.slice 11 (nav c.ns) .no),(8,.int .i64 ((nav c.ns).length:Nat)),(9,.int .i64 i)] [.cells 26 c.cs]):=by
 have hlen:(nav c.ns).length=c.ns.length:=by simp
 intro n
 induction n with
 | zero=>
  intro i hi hr
  rw [Af (by omega)] at hr
  refine gW hE ?_;conv=>whnf
  refine ⟨fun h=>absurd (of_decide_eq_true h) (by omega),fun h=>?_⟩
  refine gW hE ?_;conv=>whnf
  refine To.cut [1,37,38,39] 1 rfl rfl rfl rfl ?_
  exact IL c r hh c.hs.length 0 (by omega) hr
 | succ n ih=>
  intro i hi hr
  have hlt:i<c.ns.length:=by omega
  rw [Ae hlt] at hr
  have hr:oR ((c.ns[i].ok&&pB (c.ns.drop (i+1)))&&(jY c.hs&&okI [c.half,c.age]))=r:=hr
  generalize hx:c.ns[i]=x at hr
  have bad:x.ok=false->Res.pan (aW 1)=r:=fun h=>xC hr (by rw [h];rfl)
  refine gW hE ?_;conv=>whnf
  refine ⟨fun h=>?_,fun h=>absurd (of_decide_eq_false h) (by omega)⟩
  refine gW hE ?_;conv=>whnf
  refine ⟨i,rfl,?_⟩
  refine gW hE ?_;conv=>whnf
  refine ⟨_,(eF hlt).trans (by rw [hx]),?_⟩
  refine gW hE ?_;conv=>whnf
  refine ⟨fun h1=>?_,fun h1=>?_⟩
  .have h1:decide (-1<=x.p)=true:=h1
   refine gW hE ?_;conv=>whnf
   rcases Dh (decide (x.p<=1099511627776)) with h2 | h2
   .refine .pure _ [] (eG _ _ h2) ?_
    refine gW hE ?_;conv=>whnf
    cases h3:okI [x.w] with
    | false=>
     refine .pan _ (aA.strip (eX [x.w] h3)) ?_
     exact bad (by unfold Nod.ok;rw [h3];simp)
    | true=>
    refine .pure _ [] (aA.strip (gT [x.w] h3)) ?_
    refine gW hE ?_;conv=>whnf
    refine ⟨by decide,?_⟩
    refine gW hE ?_;conv=>whnf
    cases h4:okI x.n.l with
    | false=>
     refine .pan _ (aA.strip (eX x.n.l h4)) ?_
     exact bad (by unfold Nod.ok;rw [h4];simp)
    | true=>
    refine .pure _ [] (aA.strip (gT x.n.l h4)) ?_
    refine gW hE ?_;conv=>whnf
    refine ⟨by decide,?_⟩
    refine gW hE ?_;conv=>whnf
    cases h5:okI x.b.l with
    | false=>
     refine .pan _ (aA.strip (eX x.b.l h5)) ?_
     exact bad (by unfold Nod.ok;rw [h5];simp)
    | true=>
    refine .pure _ [] (aA.strip (gT x.b.l h5)) ?_
    refine gW hE ?_;conv=>whnf
    refine ⟨by decide,?_⟩
    refine gW hE ?_;conv=>whnf
    cases h6:okI x.l.l with
    | false=>
     refine .pan _ (aA.strip (eX x.l.l h6)) ?_
     exact bad (by unfold Nod.ok;rw [h6];simp)
    | true=>
    refine .pure _ [] (aA.strip (gT x.l.l h6)) ?_
    refine gW hE ?_;conv=>whnf
    refine .inl ⟨⟨by simp only [cC];omega,by simp only [bF];omega⟩,?_⟩
    refine gW hE ?_;conv=>whnf
    refine To.cut [1,7,8,9] 1 rfl rfl rfl rfl ?_
    refine ih (i+1) (by omega) ?_
    have:x.ok=true:=by unfold Nod.ok;rw [h1,h2,h3,h4,h5,h6];rfl
    rw [this,Bt] at hr
    exact hr
   .refine .pan _ (cO _ _ h2) ?_
    exact bad (by unfold Nod.ok;rw [h2];simp)
  .have h1:decide (-1<=x.p)=false:=h1
   refine gW hE ?_;conv=>whnf
   refine .pan _ (cO _ _ rfl) ?_
   exact bad (by unfold Nod.ok;rw [h1];simp)
theorem K4 (c:Con) (M:Imm) (ob:Hs) (vs:List Value) (h:cB M ob vs [c.av]):((nav c.ns).length:Int)<=9223372036854775807/\((hav c.hs).length:Int)<=9223372036854775807:=by
 have hl:0<vs.length:=by rw [h.1];simp
 have:=h.2 0 _ c.av (Ac hl) rfl
 exact ⟨dP this 0 _ rfl,dP this 1 _ rfl⟩
theorem yR (c:Con) (r:Res) (hr:oR c.tok=r):aA Tryz.prog 117 [c.av] [] r []:=by
 refine aA.get _ (K4 c) fun ⟨hl,hh⟩=>?_
 refine cT (E:=E) (fn:=Tryz.f117) (g:=.pure _) fun _=>?_
 refine gW hE ?_;conv=>whnf
 refine To.cut [1,7,8,9] 1 rfl rfl rfl rfl ?_
 exact NJ c r hl hh c.ns.length 0 (by omega) (by rw [<-hr];unfold Con.tok;rw [Gv];rfl)
theorem NI (c:Con) (h:c.tok=true):aA Tryz.prog 117 [c.av] [] (.ret (.tup [])) []:=yR c _ (if_pos h)
theorem IJ (c:Con) (h:c.tok=false):aA Tryz.prog 117 [c.av] [] (.pan (aW 1)) []:=yR c _ (if_neg (by rw [h];simp))
theorem FG (x:Gan) (r:Res) (hr:oR x.ok=r):aA Tryz.prog 118 [x.av] [] r []:=by
 refine cT (E:=E) (fn:=Tryz.f118) (g:=.pure _) fun _=>?_
 refine gW hE ?_;conv=>whnf
 cases h1:okI [x.id,x.ten,x.pods,x.run,x.lev,x.pref] with
 | false=>
  refine .pan _ (aA.strip (eX [x.id,x.ten,x.pods,x.run,x.lev,x.pref] h1)) ?_
  exact xC hr (by unfold Gan.ok;rw [h1];rfl)
 | true=>
  refine .pure _ [] (aA.strip (gT [x.id,x.ten,x.pods,x.run,x.lev,x.pref] h1)) ?_
  refine gW hE ?_;conv=>whnf
  refine ⟨by decide,?_⟩
  refine gW hE ?_;conv=>whnf
  cases h2:okI x.need.l with
  | false=>
   refine .pan _ (aA.strip (eX x.need.l h2)) ?_
   exact xC hr (by unfold Gan.ok;rw [h1,h2];rfl)
  | true=>
   refine .pure _ [] (aA.strip (gT x.need.l h2)) ?_
   refine gW hE ?_;conv=>whnf
   rw [<-hr];unfold Gan.ok;rw [h1,h2];rfl
theorem XG (x:Gan) (h:x.ok=true):aA Tryz.prog 118 [x.av] [] (.ret (.tup [])) []:=FG x _ (if_pos h)
theorem SC (x:Gan) (h:x.ok=false):aA Tryz.prog 118 [x.av] [] (.pan (aW 1)) []:=FG x _ (if_neg (by rw [h];simp))
theorem catch_ret (x:Int):uK Tryz.prog 53 [.ref 0 0] [.cells 32 [ii x]] none [.cells 32 [ii x]]:=by
 refine uK.of (E:=E) (fn:=Tryz.f53) (n0:=1) (r:=.tup []) (by rfl) (by rfl) (by rfl) (fun _ _=>by rfl) (by rfl) (by decide+kernel) (by rfl) (by rfl) (by rfl) (by rfl) fun _=>?_
 refine gW hE ?_;conv=>whnf
 refine ⟨fun _=>?_,fun h=>absurd h (by decide)⟩
 refine gW hE ?_;conv=>whnf
 exact ⟨[],[0],⟨rfl,rfl⟩,rfl,rfl⟩
theorem catch_pan (x e:Int):uK Tryz.prog 53 [.ref 0 0] [.cells 32 [ii x]] (some (aW e)) [.cells 32 [ii e]]:=by
 refine uK.of (E:=E) (fn:=Tryz.f53) (n0:=1) (r:=.tup []) (by rfl) (by rfl) (by rfl) (fun _ _=>by rfl) (by rfl) (by decide+kernel) (by rfl) (by rfl) (by rfl) (by rfl) fun _=>?_
 refine gW hE ?_;conv=>whnf
 refine ⟨fun h=>absurd h (by decide),fun _=>?_⟩
 refine gW hE ?_;conv=>whnf
 refine ⟨fun _=>?_,fun h=>absurd h (by decide)⟩
 refine gW hE ?_;conv=>whnf
 exact ⟨[],[0],⟨rfl,rfl⟩,rfl,rfl⟩
def _root_.Go.Proofs.YtmalnhgopkfdaaaGreat.Gan.isZ (g:Gan):Bool:=((g.id==0)&&((g.ten==0)&&((g.pods==0)&&((g.need.a==0)&&((g.need.b==0)&&((g.need.c==0)&&((g.run==0)&&((g.lev==0)&&((g.pref==0)&&true)))))))))
def chkL (x:Cmd):Int:=if decide (((nav x.c.ns).length:Int)<=12)&&decide (((hav x.c.hs).length:Int)<=24) then 0 else 8
def chkN (x:Cmd):Int:=if okI [x.n] then chkL x else 1
def chkG (x:Cmd):Int:=if x.g.ok then chkN x else 1
def chkC (x:Cmd):Int:=if x.c.tok then chkG x else 1
def chk4 (x:Cmd):Int:=if ((x.k==3||x.k==4)||x.k==5)||x.n==0 then chkC x else 1
def chk3 (x:Cmd):Int:=if x.k==2||x.g.isZ then chk4 x else 1
def _root_.Go.Proofs.YtmalnhgopkfdaaaGreat.Con.non (c:Con):Bool:=((((nav c.ns).length:Int)==0&&((hav c.hs).length:Int)==0)&&c.half==0)&&c.age==0
def chk2 (x:Cmd):Int:=if x.k==1||x.c.non then chk3 x else 1
def chk (x:Cmd):Int:=if decide (1<=x.k)&&decide (x.k<=6) then chk2 x else 1
abbrev chF:List (Nat×AVal):=[(1,.ref 0 0),(2,.ref 1 0)]
abbrev chO (x:Cmd):List AObj:=[.cells 61 x.cs,.cells 32 [ii 0]]
noncomputable abbrev Ec:Env:=Ed [(53,[.ref 1 0])]
theorem hEc:EnvOK Ec:=hEd _
theorem YO (x:Cmd) (r:Int) (h:0=r):To Ec Tryz.f74 (.pure (.ret (ii r))) (.code (fG Tryz.f74 9) chF (chO x)):=by
 subst h
 refine gW hEc ?_;conv=>whnf
 refine To.leave (f:=53) (args:=[.ref 1 0]) [] rfl [] [1] rfl (catch_ret 0) ?_
 exact To.left hE rfl rfl rfl
theorem aCh (x:Cmd) (r:Int) (hr:chkL x=r):To Ec Tryz.f74 (.pure (.ret (ii r))) (.code (fG Tryz.f74 8) chF (chO x)):=by
 unfold chkL at hr
 refine gW hEc ?_;conv=>whnf
 refine ⟨fun h1=>?_,fun h1=>?_⟩
 .refine gW hEc ?_;conv=>whnf
  rcases Dh (decide (((hav x.c.hs).length:Int)<=24)) with h2 | h2
  .rw [h2,h1] at hr
   refine .pure _ [] (eG _ _ h2) ?_
   refine bW hEc 2 ?_;conv=>whnf
   refine To.cutC [1,2] 2 rfl rfl rfl rfl ?_
   exact (YO x r hr)
  .rw [h2,Bo] at hr
   subst hr
   refine .pan _ (cO _ _ h2) ?_;conv=>whnf
   refine To.leave (f:=53) (args:=[.ref 1 0]) [] rfl [] [1] rfl (catch_pan 0 8) ?_
   exact To.left hE rfl rfl rfl
 .rw [h1,Ce] at hr
  subst hr
  refine gW hEc ?_;conv=>whnf
  refine .pan _ (cO _ _ rfl) ?_;conv=>whnf
  refine To.leave (f:=53) (args:=[.ref 1 0]) [] rfl [] [1] rfl (catch_pan 0 8) ?_
  exact To.left hE rfl rfl rfl
theorem aCi (x:Cmd) (r:Int) (hr:chkN x=r):To Ec Tryz.f74 (.pure (.ret (ii r))) (.code (fG Tryz.f74 7) chF (chO x)):=by
 unfold chkN at hr
 refine gW hEc ?_;conv=>whnf
 cases h:okI [x.n] with
 | true=>
  rw [h] at hr
  refine .pure _ [] (aA.strip (gT [x.n] h)) ?_
  refine bW hEc 2 ?_;conv=>whnf
  refine To.cutC [1,2] 2 rfl rfl rfl rfl ?_
  exact (aCh x r hr)
 | false=>
  rw [h] at hr
  subst hr
  refine .pan _ (aA.strip (eX [x.n] h)) ?_;conv=>whnf
  refine To.leave (f:=53) (args:=[.ref 1 0]) [] rfl [] [1] rfl (catch_pan 0 1) ?_
  exact To.left hE rfl rfl rfl
theorem aCj (x:Cmd) (r:Int) (hr:chkG x=r):To Ec Tryz.f74 (.pure (.ret (ii r))) (.code (fG Tryz.f74 6) chF (chO x)):=by
 unfold chkG at hr
 refine gW hEc ?_;conv=>whnf
 cases h:x.g.ok with
 | true=>
  rw [h] at hr
  refine .pure _ [] (XG x.g h) ?_
  refine bW hEc 2 ?_;conv=>whnf
  refine To.cutC [1,2] 2 rfl rfl rfl rfl ?_
  exact (aCi x r hr)
 | false=>
  rw [h] at hr
  subst hr
  refine .pan _ (SC x.g h) ?_;conv=>whnf
  refine To.leave (f:=53) (args:=[.ref 1 0]) [] rfl [] [1] rfl (catch_pan 0 1) ?_
  exact To.left hE rfl rfl rfl
theorem K6 (x:Cmd) (r:Int) (hr:chkC x=r):To Ec Tryz.f74 (.pure (.ret (ii r))) (.code (fG Tryz.f74 5) chF (chO x)):=by
 unfold chkC at hr
 refine gW hEc ?_;conv=>whnf
 cases h:x.c.tok with
 | true=>
  rw [h] at hr
  refine .pure _ [] (NI x.c h) ?_
  refine bW hEc 2 ?_;conv=>whnf
  refine To.cutC [1,2] 2 rfl rfl rfl rfl ?_
  exact (aCj x r hr)
 | false=>
  rw [h] at hr
  subst hr
  refine .pan _ (IJ x.c h) ?_;conv=>whnf
  refine To.leave (f:=53) (args:=[.ref 1 0]) [] rfl [] [1] rfl (catch_pan 0 1) ?_
  exact To.left hE rfl rfl rfl
theorem dF {b:Bool} {p q r:Int} (hr:(if b then p else q)=r) (h:b=true):p=r:=by subst h;exact hr
theorem fE {b:Bool} {p q r:Int} (hr:(if b then p else q)=r) (h:b=false):q=r:=by subst h;exact hr
theorem ZP (x:Cmd) (r:Int) (hr:chk4 x=r):To Ec Tryz.f74 (.pure (.ret (ii r))) (.code (fG Tryz.f74 4) chF (chO x)):=by
 unfold chk4 at hr
 refine gW hEc ?_;conv=>whnf
 refine ⟨fun h1=>?_,fun h1=>?_⟩
 .have h1:(x.k==3)=true:=h1
  replace hr:=dF hr (by simp [h1])
  refine gW hEc ?_;conv=>whnf
  refine aY ?_
  refine gW hEc ?_;conv=>whnf
  refine aY ?_
  refine gW hEc ?_;conv=>whnf
  refine .pure _ [] (eG _ _ rfl) ?_
  refine bW hEc 2 ?_;conv=>whnf
  refine To.cutC [1,2] 2 rfl rfl rfl rfl ?_
  exact (K6 x r hr)
 .have h1:(x.k==3)=false:=h1
  refine gW hEc ?_;conv=>whnf
  refine ⟨fun h2=>?_,fun h2=>?_⟩
  .have h2:(x.k==4)=true:=h2
   replace hr:=dF hr (by simp [h2])
   refine gW hEc ?_;conv=>whnf
   refine aY ?_
   refine gW hEc ?_;conv=>whnf
   refine .pure _ [] (eG _ _ rfl) ?_
   refine bW hEc 2 ?_;conv=>whnf
   refine To.cutC [1,2] 2 rfl rfl rfl rfl ?_
   exact (K6 x r hr)
  .have h2:(x.k==4)=false:=h2
   refine gW hEc ?_;conv=>whnf
   refine ⟨fun h3=>?_,fun h3=>?_⟩
   .have h3:(x.k==5)=true:=h3
    replace hr:=dF hr (by simp [h3])
    refine gW hEc ?_;conv=>whnf
    refine .pure _ [] (eG _ _ rfl) ?_
    refine bW hEc 2 ?_;conv=>whnf
    refine To.cutC [1,2] 2 rfl rfl rfl rfl ?_
    exact (K6 x r hr)
   .have h3:(x.k==5)=false:=h3
    refine gW hEc ?_;conv=>whnf
    refine (Dh (x.n==0)).elim (fun h4=>?_) (fun h4=>?_)
    .replace hr:=dF hr (by simp [h4])
     refine .pure _ [] (eG _ _ h4) ?_
     refine bW hEc 2 ?_;conv=>whnf
     refine To.cutC [1,2] 2 rfl rfl rfl rfl ?_
     exact (K6 x r hr)
    .replace hr:=fE hr (by simp [h1,h2,h3,h4])
     subst hr
     refine .pan _ (cO _ _ h4) ?_;conv=>whnf
     refine To.leave (f:=53) (args:=[.ref 1 0]) [] rfl [] [1] rfl (catch_pan 0 1) ?_
     exact To.left hE rfl rfl rfl
theorem ZQ (x:Cmd) (r:Int) (hr:chk3 x=r):To Ec Tryz.f74 (.pure (.ret (ii r))) (.code (fG Tryz.f74 3) chF (chO x)):=by
 unfold chk3 at hr
 refine gW hEc ?_;conv=>whnf
 refine ⟨fun h1=>?_,fun h1=>?_⟩
 .have h1:(x.k==2)=true:=h1
  replace hr:=dF hr (by simp [h1])
  refine gW hEc ?_;conv=>whnf
  refine .pure _ [] (eG _ _ rfl) ?_
  refine bW hEc 2 ?_;conv=>whnf
  refine To.cutC [1,2] 2 rfl rfl rfl rfl ?_
  exact (ZP x r hr)
 .have h1:(x.k==2)=false:=h1
  refine gW hEc ?_;conv=>whnf
  refine (Dh x.g.isZ).elim (fun h4=>?_) (fun h4=>?_)
  .replace hr:=dF hr (by simp [h4])
   refine .pure _ [] (eG _ _ h4) ?_
   refine bW hEc 2 ?_;conv=>whnf
   refine To.cutC [1,2] 2 rfl rfl rfl rfl ?_
   exact (ZP x r hr)
  .replace hr:=fE hr (by simp [h1,h4])
   subst hr
   refine .pan _ (cO _ _ h4) ?_;conv=>whnf
   refine To.leave (f:=53) (args:=[.ref 1 0]) [] rfl [] [1] rfl (catch_pan 0 1) ?_
   exact To.left hE rfl rfl rfl
theorem aCk (x:Cmd) (r:Int) (hr:chk2 x=r):To Ec Tryz.f74 (.pure (.ret (ii r))) (.code (fG Tryz.f74 2) chF (chO x)):=by
 unfold chk2 Con.non at hr
 refine gW hEc ?_;conv=>whnf
 refine ⟨fun h1=>?_,fun h1=>?_⟩
 .have h1:(x.k==1)=true:=h1
  replace hr:=dF hr (by rw [h1];rfl)
  refine gW hEc ?_;conv=>whnf
  refine .pure _ [] (eG _ _ rfl) ?_
  refine bW hEc 2 ?_;conv=>whnf
  refine To.cutC [1,2] 2 rfl rfl rfl rfl ?_
  exact (ZQ x r hr)
 .have h1:(x.k==1)=false:=h1
  refine gW hEc ?_;conv=>whnf
  refine ⟨fun h2=>?_,fun h2=>?_⟩
  .have h2:(((nav x.c.ns).length:Int)==0)=true:=h2
   refine gW hEc ?_;conv=>whnf
   refine ⟨fun h3=>?_,fun h3=>?_⟩
   .have h3:(((hav x.c.hs).length:Int)==0)=true:=h3
    refine gW hEc ?_;conv=>whnf
    refine ⟨fun h4=>?_,fun h4=>?_⟩
    .have h4:(x.c.half==0)=true:=h4
     refine gW hEc ?_;conv=>whnf
     refine (Dh (x.c.age==0)).elim (fun h5=>?_) (fun h5=>?_)
     .replace hr:=dF hr (by rw [h1,h2,h3,h4,h5];rfl)
      refine .pure _ [] (eG _ _ h5) ?_
      refine bW hEc 2 ?_;conv=>whnf
      refine To.cutC [1,2] 2 rfl rfl rfl rfl ?_
      exact (ZQ x r hr)
     .replace hr:=fE hr (by rw [h1,h5,Bo];rfl)
      subst hr
      refine .pan _ (cO _ _ h5) ?_;conv=>whnf
      refine To.leave (f:=53) (args:=[.ref 1 0]) [] rfl [] [1] rfl (catch_pan 0 1) ?_
      exact To.left hE rfl rfl rfl
    .have h4:(x.c.half==0)=false:=h4
     replace hr:=fE hr (by rw [h1,h4,Bo,Ce];rfl)
     subst hr
     refine gW hEc ?_;conv=>whnf
     refine .pan _ (cO _ _ rfl) ?_;conv=>whnf
     refine To.leave (f:=53) (args:=[.ref 1 0]) [] rfl [] [1] rfl (catch_pan 0 1) ?_
     exact To.left hE rfl rfl rfl
   .have h3:(((hav x.c.hs).length:Int)==0)=false:=h3
    replace hr:=fE hr (by rw [h1,h3,Bo];rfl)
    subst hr
    refine gW hEc ?_;conv=>whnf
    refine aN ?_
    refine gW hEc ?_;conv=>whnf
    refine .pan _ (cO _ _ rfl) ?_;conv=>whnf
    refine To.leave (f:=53) (args:=[.ref 1 0]) [] rfl [] [1] rfl (catch_pan 0 1) ?_
    exact To.left hE rfl rfl rfl
  .have h2:(((nav x.c.ns).length:Int)==0)=false:=h2
   replace hr:=fE hr (by rw [h1,h2];rfl)
   subst hr
   refine gW hEc ?_;conv=>whnf
   refine aN ?_
   refine gW hEc ?_;conv=>whnf
   refine aN ?_
   refine gW hEc ?_;conv=>whnf
   refine .pan _ (cO _ _ rfl) ?_;conv=>whnf
   refine To.leave (f:=53) (args:=[.ref 1 0]) [] rfl [] [1] rfl (catch_pan 0 1) ?_
   exact To.left hE rfl rfl rfl
theorem aCl (x:Cmd) (r:Int) (hr:chk x=r):To Ec Tryz.f74 (.pure (.ret (ii r))) (.code (fG Tryz.f74 1) chF (chO x)):=by
 unfold chk at hr
 refine gW hEc ?_;conv=>whnf
 refine ⟨fun h1=>?_,fun h1=>?_⟩
 .have h1:decide (1<=x.k)=true:=h1
  refine gW hEc ?_;conv=>whnf
  refine (Dh (decide (x.k<=6))).elim (fun h2=>?_) (fun h2=>?_)
  .rw [h1,h2] at hr
   refine .pure _ [] (eG _ _ h2) ?_
   refine bW hEc 2 ?_;conv=>whnf
   refine To.cutC [1,2] 2 rfl rfl rfl rfl ?_
   exact (aCk x r hr)
  .rw [h2,Bo] at hr
   subst hr
   refine .pan _ (cO _ _ h2) ?_;conv=>whnf
   refine To.leave (f:=53) (args:=[.ref 1 0]) [] rfl [] [1] rfl (catch_pan 0 1) ?_
   exact To.left hE rfl rfl rfl
 .have h1:decide (1<=x.k)=false:=h1
  rw [h1,Ce] at hr
  subst hr
  refine gW hEc ?_;conv=>whnf
  refine .pan _ (cO _ _ rfl) ?_;conv=>whnf
  refine To.leave (f:=53) (args:=[.ref 1 0]) [] rfl [] [1] rfl (catch_pan 0 1) ?_
  exact To.left hE rfl rfl rfl
theorem tG (x:Cmd) (r:Int) (hr:chk x=r):aA Tryz.prog 74 [x.av] [] (.ret (ii r)) []:=by
 refine cT (E:=E) (fn:=Tryz.f74) (g:=.pure _) fun _=>?_
 refine gW hE ?_;conv=>whnf
 refine To.defer (f:=53) (args:=[.ref 1 0]) _ rfl rfl ?_
 refine To.cutC [1,2] 2 rfl rfl rfl rfl ?_
 exact aCl x r hr
theorem check_ok (x:Cmd):aA Tryz.prog 74 [x.av] [] (.ret (ii (chk x))) []:=tG x _ rfl
theorem CF (l:List Int) (hl:((iv l).length:Int)<=9223372036854775807) (r:Bool):∀ (n i:Nat),i+n=l.length->okI (l.drop i)=r->
  To E Tryz.f110 (.pure (.ret (.bool r))) (.head (stk Tryz.f110 0) [(0,.slice 1 (iv l) .no),(3,.int .i64 i)] []):=by
 have hlen:(iv l).length=l.length:=by simp
 intro n
 induction n with
 | zero=>
  intro i hi hr
  rw [Af (by omega)] at hr
  subst hr
  refine gW hE ?_;conv=>whnf
  refine ⟨fun h=>absurd (of_decide_eq_true h) (by omega),fun h=>?_⟩
  refine gW hE ?_;conv=>whnf
  rfl
 | succ n ih=>
  intro i hi hr
  have hlt:i<l.length:=by omega
  rw [Ae hlt] at hr
  have hr:(hO l[i]&&okI (l.drop (i+1)))=r:=hr
  generalize hx:l[i]=x at hr
  have get:(iv l)[i]? =some (ii x):=(cG hlt).trans (by rw [hx])
  refine gW hE ?_;conv=>whnf
  refine ⟨fun h=>?_,fun h=>absurd (of_decide_eq_false h) (by omega)⟩
  refine gW hE ?_;conv=>whnf
  refine ⟨i,rfl,?_⟩
  refine gW hE ?_;conv=>whnf
  refine ⟨_,get,?_⟩
  refine gW hE ?_;conv=>whnf
  refine ⟨fun h1=>?_,fun h1=>?_⟩
  .have h1:decide (x<0)=true:=h1
   have h3:hO x=false:=by
    have:=of_decide_eq_true h1
    unfold hO
    rw [decide_eq_false (by omega)];rfl
   rw [h3] at hr
   subst hr
   refine gW hE ?_;conv=>whnf
   refine ⟨fun _=>?_,fun h=>absurd h (by decide)⟩
   refine gW hE ?_;conv=>whnf
   rfl
  .have h1:decide (x<0)=false:=h1
   have h1:=of_decide_eq_false h1
   refine gW hE ?_;conv=>whnf
   refine ⟨i,rfl,?_⟩
   refine gW hE ?_;conv=>whnf
   refine ⟨_,get,?_⟩
   refine gW hE ?_;conv=>whnf
   refine ⟨fun h2=>?_,fun h2=>?_⟩
   .have h2:decide (1099511627776<x)=true:=h2
    have h3:hO x=false:=by
     have:=of_decide_eq_true h2
     unfold hO
     rw [decide_eq_false (p:=x<=1099511627776) (by omega),Bo]
    rw [h3] at hr
    subst hr
    refine gW hE ?_;conv=>whnf
    rfl
   .have h2:decide (1099511627776<x)=false:=h2
    have h2:=of_decide_eq_false h2
    have h3:hO x=true:=by
     unfold hO
     rw [decide_eq_true (by omega),decide_eq_true (by omega)];rfl
    rw [h3,Bt] at hr
    refine gW hE ?_;conv=>whnf
    refine .inl ⟨⟨by simp only [cC];omega,by simp only [bF];omega⟩,?_⟩
    refine gW hE ?_;conv=>whnf
    refine To.head [0,3] ?_
    exact ih (i+1) (by omega) hr
theorem uA (l:List Int):aA Tryz.prog 110 [.slice 1 (iv l) .no] [] (.ret (.bool (okI l))) []:=by
 refine cT (E:=E) (fn:=Tryz.f110) (g:=.pure _) fun ho=>?_
 refine gW hE ?_;conv=>whnf
 refine To.head [0,3] ?_
 exact CF l ho.1 _ l.length 0 (by omega) rfl
theorem vU (v:V3):aA Tryz.prog 148 [.agg v.cs] [] (.ret (.bool (okI v.l))) []:=by
 refine cT (E:=E) (fn:=Tryz.f148) (g:=.pure _) fun _=>?_
 refine gW hE ?_;conv=>whnf
 refine ⟨by decide,?_⟩
 refine gW hE ?_;conv=>whnf
 refine ⟨by decide,?_⟩
 refine gW hE ?_;conv=>whnf
 refine ⟨by decide,?_⟩
 refine gW hE ?_;conv=>whnf
 refine .pure _ [] (aA.strip (uA v.l)) ?_
 refine gW hE ?_;conv=>whnf
theorem PG (g:Gan):aA Tryz.prog 109 [g.av] [] (.ret (.bool g.ok)) []:=by
 refine cT (E:=E) (fn:=Tryz.f109) (g:=.pure _) fun _=>?_
 refine gW hE ?_;conv=>whnf
 refine .pure _ [] (aA.strip (uA [g.id,g.ten,g.pods,g.run,g.lev,g.pref])) ?_
 refine gW hE ?_;conv=>whnf
 refine ⟨fun h=>?_,fun h=>?_⟩
 .refine gW hE ?_;conv=>whnf
  refine .pure _ [] (vU g.need) ?_
  refine gW hE ?_;conv=>whnf
  unfold Gan.ok
  rw [h]
  rfl
 .refine gW hE ?_;conv=>whnf
  unfold Gan.ok
  rw [h]
  rfl
theorem nW (c:Con):aA Tryz.prog 108 [c.av] [] (.ret (.bool c.non)) []:=by
 refine cT (E:=E) (fn:=Tryz.f108) (g:=.pure _) fun _=>?_
 unfold Con.non
 refine gW hE ?_;conv=>whnf
 refine ⟨fun h1=>?_,fun h1=>?_⟩
 .have h1:(((nav c.ns).length:Int)==0)=true:=h1
  refine gW hE ?_;conv=>whnf
  refine ⟨fun h2=>?_,fun h2=>?_⟩
  .have h2:(((hav c.hs).length:Int)==0)=true:=h2
   refine gW hE ?_;conv=>whnf
   refine ⟨fun h3=>?_,fun h3=>?_⟩
   .have h3:(c.half==0)=true:=h3
    refine gW hE ?_;conv=>whnf
    rw [h1,h2,h3];rfl
   .have h3:(c.half==0)=false:=h3
    refine gW hE ?_;conv=>whnf
    rw [h1,h2,h3];rfl
  .have h2:(((hav c.hs).length:Int)==0)=false:=h2
   refine gW hE ?_;conv=>whnf
   refine ⟨fun h=>absurd h (by decide),fun _=>?_⟩
   refine gW hE ?_;conv=>whnf
   rw [h1,h2];rfl
 .have h1:(((nav c.ns).length:Int)==0)=false:=h1
  refine gW hE ?_;conv=>whnf
  refine ⟨fun h=>absurd h (by decide),fun _=>?_⟩
  refine gW hE ?_;conv=>whnf
  refine ⟨fun h=>absurd h (by decide),fun _=>?_⟩
  refine gW hE ?_;conv=>whnf
  rw [h1];rfl
theorem GZ (c:Con) (hh:((hav c.hs).length:Int)<=9223372036854775807) (r:Bool):∀ (n i:Nat),i+n=c.hs.length->(jY (c.hs.drop i)&&okI [c.half,c.age])=r->
  To E Tryz.f107 (.pure (.ret (.bool r))) (.head (stk Tryz.f107 1) [(1,.ref 0 0),(5,.int .i64 i)] [.cells 26 c.cs]):=by
 have hlen:(hav c.hs).length=c.hs.length:=by simp
 intro n
 induction n with
 | zero=>
  intro i hi hr
  rw [Af (by omega)] at hr
  subst hr
  refine gW hE ?_;conv=>whnf
  refine ⟨fun h=>absurd (of_decide_eq_true h) (by omega),fun h=>?_⟩
  refine gW hE ?_;conv=>whnf
  refine .pure _ [] (aA.strip (uA [c.half,c.age])) ?_
  refine gW hE ?_;conv=>whnf
  rfl
 | succ n ih=>
  intro i hi hr
  have hlt:i<c.hs.length:=by omega
  rw [Ae hlt] at hr
  have hr:((c.hs[i].ok&&jY (c.hs.drop (i+1)))&&okI [c.half,c.age])=r:=hr
  generalize hx:c.hs[i]=x at hr
  have get:(hav c.hs)[i]? =some x.av:=(lZ hlt).trans (by rw [hx])
  have bad:x.ok=false->r=false:=fun h=>by rw [h] at hr;exact hr.symm
  refine gW hE ?_;conv=>whnf
  refine ⟨fun h=>?_,fun h=>absurd (of_decide_eq_false h) (by omega)⟩
  refine gW hE ?_;conv=>whnf
  refine ⟨i,rfl,?_⟩
  refine gW hE ?_;conv=>whnf
  refine ⟨_,get,?_⟩
  refine gW hE ?_;conv=>whnf
  refine .pure _ [] (aA.strip (uA [x.f,x.b,x.r])) ?_
  refine gW hE ?_;conv=>whnf
  refine ⟨fun h1=>?_,fun h1=>?_⟩
  .have h1:=iL h1
   have:=bad (by unfold Hos.ok;rw [h1];rfl)
   subst this
   refine gW hE ?_;conv=>whnf
   refine aY ?_
   refine gW hE ?_;conv=>whnf
  .have h1:=iM h1
   refine gW hE ?_;conv=>whnf
   refine .pure _ [] (vU x.c) ?_
   refine gW hE ?_;conv=>whnf
   refine ⟨fun h2=>?_,fun h2=>?_⟩
   .have h2:=iL h2
    have:=bad (by unfold Hos.ok;rw [h2,Bo])
    subst this
    refine gW hE ?_;conv=>whnf
   .have h2:=iM h2
    refine gW hE ?_;conv=>whnf
    refine .inl ⟨⟨by simp only [cC];omega,by simp only [bF];omega⟩,?_⟩
    refine gW hE ?_;conv=>whnf
    refine To.cut [1,5] 1 rfl rfl rfl rfl ?_
    refine ih (i+1) (by omega) ?_
    have:x.ok=true:=by unfold Hos.ok;rw [h1,h2];rfl
    rw [this,Bt] at hr
    exact hr
theorem LY (c:Con) (hl:((nav c.ns).length:Int)<=9223372036854775807) (hh:((hav c.hs).length:Int)<=9223372036854775807) (r:Bool):∀ (n i:Nat),i+n=c.ns.length->(pB (c.ns.drop i)&&(jY c.hs&&okI [c.half,c.age]))=r->
  To E Tryz.f107 (.pure (.ret (.bool r))) (.head (stk Tryz.f107 0) [(1,.ref 0 0),(3,.int .i64 i)] [.cells 26 c.cs]):=by
 have hlen:(nav c.ns).length=c.ns.length:=by simp
 intro n
 induction n with
 | zero=>
  intro i hi hr
  rw [Af (by omega)] at hr
  refine gW hE ?_;conv=>whnf
  refine ⟨fun h=>absurd (of_decide_eq_true h) (by omega),fun h=>?_⟩
  refine gW hE ?_;conv=>whnf
  refine To.cut [1,5] 1 rfl rfl rfl rfl ?_
  exact GZ c hh r c.hs.length 0 (by omega) hr
 | succ n ih=>
  intro i hi hr
  have hlt:i<c.ns.length:=by omega
  rw [Ae hlt] at hr
  have hr:((c.ns[i].ok&&pB (c.ns.drop (i+1)))&&(jY c.hs&&okI [c.half,c.age]))=r:=hr
  generalize hx:c.ns[i]=x at hr
  have get:(nav c.ns)[i]? =some x.av:=(eF hlt).trans (by rw [hx])
  have bad:x.ok=false->r=false:=fun h=>by rw [h] at hr;exact hr.symm
  refine gW hE ?_;conv=>whnf
  refine ⟨fun h=>?_,fun h=>absurd (of_decide_eq_false h) (by omega)⟩
  refine gW hE ?_;conv=>whnf
  refine ⟨i,rfl,?_⟩
  refine gW hE ?_;conv=>whnf
  refine ⟨_,get,?_⟩
  refine gW hE ?_;conv=>whnf
  refine ⟨fun h1=>?_,fun h1=>?_⟩
  .have h1:decide (x.p< -1)=true:=h1
   have h1:=of_decide_eq_true h1
   have:=bad (by unfold Nod.ok;rw [decide_eq_false (p:= -1<=x.p) (by omega)];simp only [Ce])
   subst this
   refine gW hE ?_;conv=>whnf
   refine aY ?_
   refine gW hE ?_;conv=>whnf
   refine aY ?_
   refine gW hE ?_;conv=>whnf
   refine aY ?_
   refine gW hE ?_;conv=>whnf
   refine aY ?_
   refine gW hE ?_;conv=>whnf
   refine aY ?_
   refine gW hE ?_;conv=>whnf
  .have h1:decide (x.p< -1)=false:=h1
   have h1:=of_decide_eq_false h1
   refine gW hE ?_;conv=>whnf
   refine ⟨fun h2=>?_,fun h2=>?_⟩
   .have h2:decide (1099511627776<x.p)=true:=h2
    have h2:=of_decide_eq_true h2
    have:=bad (by unfold Nod.ok;rw [decide_eq_false (p:=x.p<=1099511627776) (by omega)];simp only [Ce,Bo])
    subst this
    refine gW hE ?_;conv=>whnf
    refine aY ?_
    refine gW hE ?_;conv=>whnf
    refine aY ?_
    refine gW hE ?_;conv=>whnf
    refine aY ?_
    refine gW hE ?_;conv=>whnf
    refine aY ?_
    refine gW hE ?_;conv=>whnf
   .have h2:decide (1099511627776<x.p)=false:=h2
    have h2:=of_decide_eq_false h2
    refine gW hE ?_;conv=>whnf
    refine .pure _ [] (aA.strip (uA [x.w])) ?_
    refine gW hE ?_;conv=>whnf
    refine ⟨fun h3=>?_,fun h3=>?_⟩
    .have h3:=iL h3
     have:=bad (by unfold Nod.ok;rw [h3];simp only [Ce,Bo])
     subst this
     refine gW hE ?_;conv=>whnf
     refine aY ?_
     refine gW hE ?_;conv=>whnf
     refine aY ?_
     refine gW hE ?_;conv=>whnf
     refine aY ?_
     refine gW hE ?_;conv=>whnf
    .have h3:=iM h3
     refine gW hE ?_;conv=>whnf
     refine .pure _ [] (vU x.n) ?_
     refine gW hE ?_;conv=>whnf
     refine ⟨fun h4=>?_,fun h4=>?_⟩
     .have h4:=iL h4
      have:=bad (by unfold Nod.ok;rw [h4];simp only [Ce,Bo])
      subst this
      refine gW hE ?_;conv=>whnf
      refine aY ?_
      refine gW hE ?_;conv=>whnf
      refine aY ?_
      refine gW hE ?_;conv=>whnf
     .have h4:=iM h4
      refine gW hE ?_;conv=>whnf
      refine .pure _ [] (vU x.b) ?_
      refine gW hE ?_;conv=>whnf
      refine ⟨fun h5=>?_,fun h5=>?_⟩
      .have h5:=iL h5
       have:=bad (by unfold Nod.ok;rw [h5];simp only [Ce,Bo])
       subst this
       refine gW hE ?_;conv=>whnf
       refine aY ?_
       refine gW hE ?_;conv=>whnf
      .have h5:=iM h5
       refine gW hE ?_;conv=>whnf
       refine .pure _ [] (vU x.l) ?_
       refine gW hE ?_;conv=>whnf
       refine ⟨fun h6=>?_,fun h6=>?_⟩
       .have h6:=iL h6
        have:=bad (by unfold Nod.ok;rw [h6];simp only [Bo])
        subst this
        refine gW hE ?_;conv=>whnf
       .have h6:=iM h6
        refine gW hE ?_;conv=>whnf
        refine .inl ⟨⟨by simp only [cC];omega,by simp only [bF];omega⟩,?_⟩
        refine gW hE ?_;conv=>whnf
        refine To.cut [1,3] 1 rfl rfl rfl rfl ?_
        refine ih (i+1) (by omega) ?_
        have:x.ok=true:=by unfold Nod.ok;rw [h3,h4,h5,h6,decide_eq_true (p:= -1<=x.p) (by omega),decide_eq_true (p:=x.p<=1099511627776) (by omega)];rfl
        rw [this,Bt] at hr
        exact hr
theorem YL (c:Con):aA Tryz.prog 107 [c.av] [] (.ret (.bool c.tok)) []:=by
 refine aA.get _ (K4 c) fun ⟨hl,hh⟩=>?_
 refine cT (E:=E) (fn:=Tryz.f107) (g:=.pure _) fun _=>?_
 refine gW hE ?_;conv=>whnf
 refine To.cut [1,3] 1 rfl rfl rfl rfl ?_
 exact LY c hl hh _ c.ns.length 0 (by omega) (by unfold Con.tok;rw [Gv];rfl)
def jU (r:Nat):Code->List KI->Option (List KI)
 | .region id o d,ks=>bif Ar id r then some (.code (.region id o d)::ks) else none
 | .seq a b,ks=>(match jU r a (.code b::ks) with | some x=>some x | none=>jU r b ks)
 | .cond _ a b,ks=>(match jU r a ks with | some x=>some x | none=>jU r b ks)
 | .block id b,ks=>jU r b (.inB id::ks)
 | .loop b,ks=>jU r b (.inL b::ks)
 | _,_=>none
def oD (fn:Func) (r:Nat):List KI:=match jU r (cR fn) [] with | some ks=>ks | none=>[]
theorem eP (x:Cmd) (b:Bool) (r:Int) (hr:(if b then chkL x else 1)=r):To E Tryz.f61 (.pure (.ret (ii r))) (.code (fG Tryz.f61 5) [(1,.ref 0 0),(4,.bool b)] [.cells 61 x.cs]):=by
 refine gW hE ?_;conv=>whnf
 refine ⟨fun h=>?_,fun h=>?_⟩
 .have h:=iL h
  subst h
  refine gW hE ?_;conv=>whnf
  rw [<-hr];rfl
 .have h:=iM h
  subst h
  have hr:chkL x=r:=hr
  unfold chkL at hr
  refine gW hE ?_;conv=>whnf
  refine ⟨fun h1=>?_,fun h1=>?_⟩
  .have h1:decide ((12:Int)<((nav x.c.ns).length:Int))=true:=h1
   have h1:=of_decide_eq_true h1
   rw [decide_eq_false (by omega),Ce] at hr
   subst hr
   refine gW hE ?_;conv=>whnf
   refine aY ?_
   refine gW hE ?_;conv=>whnf
   rfl
  .have h1:decide ((12:Int)<((nav x.c.ns).length:Int))=false:=h1
   have h1:=of_decide_eq_false h1
   rw [decide_eq_true (by omega),Bt] at hr
   refine gW hE ?_;conv=>whnf
   refine ⟨fun h2=>?_,fun h2=>?_⟩
   .have h2:decide ((24:Int)<((hav x.c.hs).length:Int))=true:=h2
    have h2:=of_decide_eq_true h2
    rw [decide_eq_false (by omega)] at hr
    subst hr
    refine gW hE ?_;conv=>whnf
    rfl
   .have h2:decide ((24:Int)<((hav x.c.hs).length:Int))=false:=h2
    have h2:=of_decide_eq_false h2
    rw [decide_eq_true (by omega)] at hr
    subst hr
    refine gW hE ?_;conv=>whnf
    rfl
theorem HR {g:Gan} (h:g.isZ=true):g.ok=true:=by
 simp only [Gan.isZ,Ad,beq_iff_eq,and_true] at h
 obtain ⟨h1,h2,h3,h4,h5,h6,h7,h8,h9⟩:=h
 unfold Gan.ok V3.l
 rw [h1,h2,h3,h4,h5,h6,h7,h8,h9]
 rfl
theorem aCv (x:Cmd) (r:Int) (hr:chk x=r) (h1:(x.k==1)=true):To E Tryz.f61 (.pure (.ret (ii r))) (.code (oD Tryz.f61 5) [(1,.ref 0 0),(3,.ref 1 0)] [.cells 61 x.cs,.cells 59 Gan.zero.cs]):=by
 have hk:x.k=1:=by simpa using h1
 have hc:chk x=if x.g.isZ then (if x.n==0 then (if x.c.tok then chkG x else 1) else 1) else 1:=by
  unfold chk chk2 chk3 chk4 chkC
  rw [hk]
  rfl
 rw [hc] at hr
 refine gW hE ?_;conv=>whnf
 refine ⟨fun h2=>?_,fun h2=>?_⟩
 .have h2:x.g.isZ=true:=h2
  replace hr:=dF hr h2
  refine gW hE ?_;conv=>whnf
  refine ⟨fun h3=>?_,fun h3=>?_⟩
  .have h3:(x.n==0)=true:=h3
   replace hr:=dF hr h3
   have hn:x.n=0:=by simpa using h3
   have e:chkG x=chkL x:=by unfold chkG chkN;rw [HR h2,hn];rfl
   rw [e] at hr
   refine gW hE ?_;conv=>whnf
   refine .pure _ [] (YL x.c) ?_
   refine bW hE 8 ?_;conv=>whnf
   refine To.cutC [1,4] 1 rfl rfl rfl rfl ?_
   exact (eP x _ r hr)
  .have h3:(x.n==0)=false:=h3
   replace hr:=fE hr h3
   refine bW hE 10 ?_;conv=>whnf
   refine To.cutC [1,4] 1 rfl rfl rfl rfl ?_
   exact (eP x false r hr)
 .have h2:x.g.isZ=false:=h2
  replace hr:=fE hr h2
  refine gW hE ?_;conv=>whnf
  refine aN ?_
  refine bW hE 10 ?_;conv=>whnf
  refine To.cutC [1,4] 1 rfl rfl rfl rfl ?_
  exact (eP x false r hr)
theorem HL {c:Con} (h:c.non=true):c.tok=true:=by
 simp only [Con.non,Ad,beq_iff_eq] at h
 obtain ⟨⟨⟨h1,h2⟩,h3⟩,h4⟩:=h
 obtain ⟨ns,hs,half,age⟩:=c
 dsimp only at h1 h2 h3 h4
 have e1:ns=[]:=by cases ns with | nil=>rfl | cons a l=>simp at h1;omega
 have e2:hs=[]:=by cases hs with | nil=>rfl | cons a l=>simp at h2;omega
 subst e1 e2 h3 h4
 rfl
theorem aCu (x:Cmd) (r:Int) (hr:chk x=r) (h1:(x.k==2)=true):To E Tryz.f61 (.pure (.ret (ii r))) (.code (oD Tryz.f61 7) [(1,.ref 0 0),(3,.ref 1 0)] [.cells 61 x.cs,.cells 59 Gan.zero.cs]):=by
 have hk:x.k=2:=by simpa using h1
 have hc:chk x=if x.c.non then (if x.n==0 then chkC x else 1) else 1:=by
  unfold chk chk2 chk3 chk4
  rw [hk]
  rfl
 rw [hc] at hr
 refine gW hE ?_;conv=>whnf
 refine .pure _ [] (nW x.c) ?_
 refine gW hE ?_;conv=>whnf
 refine ⟨fun h2=>?_,fun h2=>?_⟩
 .have h2:x.c.non=true:=h2
  replace hr:=dF hr h2
  refine gW hE ?_;conv=>whnf
  refine ⟨fun h3=>?_,fun h3=>?_⟩
  .have h3:(x.n==0)=true:=h3
   replace hr:=dF hr h3
   have hn:x.n=0:=by simpa using h3
   have e:chkC x=if x.g.ok then chkL x else 1:=by unfold chkC chkG chkN;rw [HL h2,hn];rfl
   rw [e] at hr
   refine gW hE ?_;conv=>whnf
   refine .pure _ [] (PG x.g) ?_
   refine bW hE 8 ?_;conv=>whnf
   refine To.cutC [1,4] 1 rfl rfl rfl rfl ?_
   exact (eP x _ r hr)
  .have h3:(x.n==0)=false:=h3
   replace hr:=fE hr h3
   refine bW hE 10 ?_;conv=>whnf
   refine To.cutC [1,4] 1 rfl rfl rfl rfl ?_
   exact (eP x false r hr)
 .have h2:x.c.non=false:=h2
  replace hr:=fE hr h2
  refine gW hE ?_;conv=>whnf
  refine aN ?_
  refine bW hE 10 ?_;conv=>whnf
  refine To.cutC [1,4] 1 rfl rfl rfl rfl ?_
  exact (eP x false r hr)
theorem aAj (x:Cmd) (r:Int) (hr:chk x=r) (h1:x.k=3\/x.k=4\/x.k=5):To E Tryz.f61 (.pure (.ret (ii r))) (.code (oD Tryz.f61 11) [(1,.ref 0 0),(3,.ref 1 0)] [.cells 61 x.cs,.cells 59 Gan.zero.cs]):=by
 have hc:chk x=if x.c.non then (if x.g.isZ then chkC x else 1) else 1:=by
  unfold chk chk2 chk3 chk4
  rcases h1 with h | h | h<;>rw [h]<;>rfl
 rw [hc] at hr
 refine gW hE ?_;conv=>whnf
 refine .pure _ [] (nW x.c) ?_
 refine gW hE ?_;conv=>whnf
 refine ⟨fun h2=>?_,fun h2=>?_⟩
 .have h2:x.c.non=true:=h2
  replace hr:=dF hr h2
  refine gW hE ?_;conv=>whnf
  refine ⟨fun h3=>?_,fun h3=>?_⟩
  .have h3:x.g.isZ=true:=h3
   replace hr:=dF hr h3
   have e:chkC x=if okI [x.n] then chkL x else 1:=by unfold chkC chkG chkN;rw [HL h2,HR h3];rfl
   rw [e] at hr
   refine gW hE ?_;conv=>whnf
   refine .pure _ [] (aA.strip (uA [x.n])) ?_
   refine bW hE 8 ?_;conv=>whnf
   refine To.cutC [1,4] 1 rfl rfl rfl rfl ?_
   exact (eP x _ r hr)
  .have h3:x.g.isZ=false:=h3
   replace hr:=fE hr h3
   refine bW hE 11 ?_;conv=>whnf
   refine To.cutC [1,4] 1 rfl rfl rfl rfl ?_
   exact (eP x false r hr)
 .have h2:x.c.non=false:=h2
  replace hr:=fE hr h2
  refine gW hE ?_;conv=>whnf
  refine aN ?_
  refine bW hE 11 ?_;conv=>whnf
  refine To.cutC [1,4] 1 rfl rfl rfl rfl ?_
  exact (eP x false r hr)
theorem aCt (x:Cmd) (r:Int) (hr:chk x=r) (h1:x.k=6):To E Tryz.f61 (.pure (.ret (ii r))) (.code (oD Tryz.f61 13) [(1,.ref 0 0),(3,.ref 1 0)] [.cells 61 x.cs,.cells 59 Gan.zero.cs]):=by
 have hc:chk x=if x.c.non then (if x.g.isZ then (if x.n==0 then chkC x else 1) else 1) else 1:=by
  unfold chk chk2 chk3 chk4
  rw [h1]
  rfl
 rw [hc] at hr
 refine gW hE ?_;conv=>whnf
 refine .pure _ [] (nW x.c) ?_
 refine gW hE ?_;conv=>whnf
 refine ⟨fun h2=>?_,fun h2=>?_⟩
 .have h2:x.c.non=true:=h2
  replace hr:=dF hr h2
  refine gW hE ?_;conv=>whnf
  refine ⟨fun h3=>?_,fun h3=>?_⟩
  .have h3:x.g.isZ=true:=h3
   replace hr:=dF hr h3
   have e:(if x.n==0 then chkC x else 1)=if (x.n==0) then chkL x else 1:=by
    cases h:(x.n==0) with
    | false=>rfl
    | true=>
     have hn:x.n=0:=by simpa using h
     show chkC x=chkL x
     unfold chkC chkG chkN
     rw [HL h2,HR h3,hn]
     rfl
   rw [e] at hr
   refine bW hE 16 ?_;conv=>whnf
   refine To.cutC [1,4] 1 rfl rfl rfl rfl ?_
   exact (eP x _ r hr)
  .have h3:x.g.isZ=false:=h3
   replace hr:=fE hr h3
   refine bW hE 10 ?_;conv=>whnf
   refine To.cutC [1,4] 1 rfl rfl rfl rfl ?_
   exact (eP x false r hr)
 .have h2:x.c.non=false:=h2
  replace hr:=fE hr h2
  refine gW hE ?_;conv=>whnf
  refine aN ?_
  refine bW hE 10 ?_;conv=>whnf
  refine To.cutC [1,4] 1 rfl rfl rfl rfl ?_
  exact (eP x false r hr)
theorem G6 (x:Cmd) (r:Int) (hr:chk x=r):aA Tryz.prog 61 [x.av] [] (.ret (ii r)) []:=by
 refine cT (E:=E) (fn:=Tryz.f61) (g:=.pure _) fun _=>?_
 refine gW hE ?_;conv=>whnf
 refine ⟨fun h1=>?_,fun h1=>?_⟩
 .refine To.cutC [1,3] 2 rfl rfl rfl rfl ?_
  exact aCv x r hr h1
 .have h1:(x.k==1)=false:=h1
  refine gW hE ?_;conv=>whnf
  refine ⟨fun h2=>?_,fun h2=>?_⟩
  .refine To.cutC [1,3] 2 rfl rfl rfl rfl ?_
   exact aCu x r hr h2
  .have h2:(x.k==2)=false:=h2
   refine gW hE ?_;conv=>whnf
   refine ⟨fun h3=>?_,fun h3=>?_⟩
   .have h3:(x.k==3)=true:=h3
    have hk:x.k=3:=by simpa using h3
    refine gW hE ?_;conv=>whnf
    refine ⟨fun _=>?_,fun h=>absurd (h3.symm.trans h) (by decide)⟩
    refine To.cutC [1,3] 2 rfl rfl rfl rfl ?_
    exact aAj x r hr (.inl hk)
   .have h3:(x.k==3)=false:=h3
    refine gW hE ?_;conv=>whnf
    refine ⟨fun h4=>?_,fun h4=>?_⟩
    .have h4:(x.k==4)=true:=h4
     have hk:x.k=4:=by simpa using h4
     refine gW hE ?_;conv=>whnf
     refine ⟨fun _=>?_,fun h=>absurd (h4.symm.trans h) (by decide)⟩
     refine To.cutC [1,3] 2 rfl rfl rfl rfl ?_
     exact aAj x r hr (.inr (.inl hk))
    .have h4:(x.k==4)=false:=h4
     refine gW hE ?_;conv=>whnf
     refine ⟨fun h5=>?_,fun h5=>?_⟩
     .have h5:(x.k==5)=true:=h5
      have hk:x.k=5:=by simpa using h5
      refine To.cutC [1,3] 2 rfl rfl rfl rfl ?_
      exact aAj x r hr (.inr (.inr hk))
     .have h5:(x.k==5)=false:=h5
      refine gW hE ?_;conv=>whnf
      refine ⟨fun h6=>?_,fun h6=>?_⟩
      .have h6:(x.k==6)=true:=h6
       have hk:x.k=6:=by simpa using h6
       refine To.cutC [1,3] 2 rfl rfl rfl rfl ?_
       exact aCt x r hr hk
      .have h6:(x.k==6)=false:=h6
       have e:(decide (1<=x.k)&&decide (x.k<=6))=false:=by
        simp only [beq_eq_false_iff_ne] at h1 h2 h3 h4 h5 h6
        by_cases hk:1<=x.k
        .rw [decide_eq_false (p:=x.k<=6) (by omega),Bo]
        .rw [decide_eq_false hk,Ce]
       replace hr:=fE hr e
       refine bW hE 1 ?_;conv=>whnf
       refine To.cutC [1,4] 1 rfl rfl rfl rfl ?_
       exact (eP x false r hr)
theorem gI (x:Cmd):aA Tryz.prog 61 [x.av] [] (.ret (ii (chk x))) []:=G6 x _ rfl
open Go Go.AW Go.Proofs Go.RowKit
set_option maxRecDepth 100000
set_option maxHeartbeats 2000000
abbrev tWr:TypeId:=134
theorem CD:liesAt Tryz.prog Tryz.prog.depth tWr (2 / Tryz.prog.cellsOf tWr) 0 81 1=true:=by kernel_rfl
theorem BL:(Tryz.prog.info? 81).map (·.size)=some 2:=by kernel_rfl
theorem OB:Tryz.prog.underlying 78=some (.pointer 81):=by kernel_rfl
theorem OA:Tryz.prog.underlying 168=some .unsafePointer:=by kernel_rfl
theorem ST:Tryz.prog.funcs[121]? =some Tryz.f121:=by kernel_rfl
theorem jQ (b:Nat) (w:World) (h0:w.cell? ⟨b,0,none⟩=some (.pointer none)) (hsh:w.shape? b=some (tWr,2)) (hfz:w.frozen? ⟨b,0,none⟩=false):
  Calls Tryz.prog 79 #[.pointer (some ⟨b,0,none⟩)] w fun e w'=>e= .returned (.tuple #[])/\w'=w.setCell ⟨b,0,none⟩ (.pointer (some ⟨b,0,none⟩)):=by
 obtain ⟨j,hj,hjs⟩:=Bx.1 BL
 go_enter Tryz.func79,Tryz.ntmps79
 go_wp2
 rw [Lib.run_to_unsafe w ⟨b,0,none⟩ OB OA hj (by rw [hjs];decide) hsh (Nat.zero_lt_succ 1)]
 simp only [Eb]
 rw [Oper.upon_value]
 go_wp2
 rw [run_callFunc_extern ST (by kernel_rfl) (by kernel_rfl) (by kernel_rfl) (e:=Extern.AbiNoEscape.same) (by kernel_rfl)]
 rw [Lib.run_noEscape]
 simp only [Eb]
 rw [Oper.upon_value]
 go_wp2
 rw [Lib.run_from_unsafe w ⟨b,0,none⟩ OA OB hj hsh CD]
 simp only [Eb]
 rw [Oper.upon_value]
 go_wp2
 go_end0
 exact ⟨rfl,rfl⟩
theorem ZY:Tryz.prog.underlying 137=some (.pointer 5):=by kernel_rfl
theorem aBi:Tryz.prog.cellsOf 5=1:=by kernel_rfl
theorem sA (b g cap:Nat) (p:Value) (cur:Array Value) (l:List UInt8) (w:World) (hbk:w.heap[b]? =some (.cells #[p,.slice (some ⟨g,0,none⟩) l.length cap] tWr (0,0))) (hg:w.heap[g]? =some (.cells cur 5 (0,0))) (h0:l≠[])
  (hcap:l.length<=cap) (hcm:cap<=maxLen) (hcs:cur.size=cap) (hcell:∀ (j:Nat) x,l[j]? =some x->w.cell? ⟨g,j,none⟩=some (.int .u8 x.toNat)):
  Calls Tryz.prog 36 #[.pointer (some ⟨b,0,none⟩)] w fun e w'=>e= .returned (.string ⟨l.toArray⟩)/\GD g l.length w w':=by
 have hl0:l.length≠0:=by simpa using h0
 have c1:w.drew.cell? ⟨b,1,none⟩=some (.slice (some ⟨g,0,none⟩) l.length cap):=by
  have:w.drew.heap[b]? =some (.cells #[p,.slice (some ⟨g,0,none⟩) l.length cap] tWr (0,0)):=hbk
  rw [Lib.cell_of_heap this];rfl
 have hSD:(Jh #[79] 137 #[.slice (some ⟨g,0,none⟩) l.length cap]).run Tryz.prog w.drew= .ok (.pointer (some ⟨g,0,none⟩)) w.drew:=
  Lib.run_unsafeSliceData_row _ _ _ _ _ _ (by omega)
 have hUS:(Kd #[137,3] 9 #[.pointer (some ⟨g,0,none⟩),.int .i64 l.length]).run Tryz.prog w.drew= .ok (.string ⟨l.toArray⟩) (w.drew.freeze ⟨g,0,none⟩ l.length):=by
  refine Lib.run_unsafeString_row w.drew 137 3 9 5 ZY aBi g cur.size (by have hg':w.drew.heap[g]? =some (.cells cur 5 (0,0)):=hg;simp [Kr,hg']) l h0 (by omega) (by unfold maxLen at hcm;omega) ?_
  intro j x hx
  rw [bH,Bk]
  exact hcell j x hx
 have mixed:Tryz.prog.follows Departure.mixedOrders=true:=hE.mix
 go_enter Tryz.func36,Tryz.ntmps36
 go_wp2
 go_region_o
 all_goals (go_wp2;go_ret;exact ⟨rfl,SH hl0⟩)
theorem yW (s:AVal):aA Tryz.prog 79 [.ref 0 0] [.cells tWr [.nilptr,s]] (.ret (.tup [])) [.cells tWr [.ref 0 0,s]]:=
 pG (fun _ _=>by rfl) jQ s
theorem str_ok (l:List UInt8) (h0:l≠[]) (p:AVal):aA Tryz.prog 36 [.ref 0 0] [.cells tWr [p,.slice 1 (l.map ub) (.own 1 0)],.tail 0 1 5] (.ret (.str l)) [.dead,.dead]:=
 oB (fun _ _=>by rfl) sA l h0 p
def mD:Nat->Nat->Nat->List UInt8->Option (Nat×Nat)
 | 0,_,_,_=>none
 | _+1,_,_,[]=>none
 | f+1,i,acc,c::r=>if c.toNat<128 then (if c.toNat=0/\0<i then none else some (acc+(c.toNat % 128)*2 ^ (7*i),i+1)) else mD f (i+1) (acc+(c.toNat % 128)*2 ^ (7*i)) r
def cH (l:List UInt8):Option (Nat×Nat):=mD 9 0 0 l
def M3:Option (Nat×Nat)->AVal
 | some (n,k)=>.tup [.int .i64 n,.int .i64 k,.int .i64 0]
 | none=>.tup [.int .i64 0,.int .i64 0,.int .i64 10]
def putN (n:Nat):List UInt8:=if n<128 then [Di n] else Di (128+n % 128)::putN (n / 128)
termination_by n
decreasing_by omega
theorem CI:∀ (f i acc:Nat) (l:List UInt8) (n k:Nat),i+f=9->acc<2 ^ (7*i)->mD f i acc l=some (n,k)->n<2 ^ 63/\i<k/\k<=9/\k<=i+l.length
 | 0,_,_,_,_,_,_,_,h=>by cases h
 | f+1,i,acc,[],_,_,_,_,h=>by cases h
 | f+1,i,acc,c::r,n,k,hi,ha,h=>by
  have h2:acc+(c.toNat % 128)*2 ^ (7*i)<2 ^ (7*(i+1)):=by
   have h3:c.toNat % 128<=127:=by omega
   have h4:(c.toNat % 128)*2 ^ (7*i)<=127*2 ^ (7*i):=Bp _ h3
   have h5:2 ^ (7*(i+1))=128*2 ^ (7*i):=by rw [Fc,Fe];omega
   omega
  simp only [mD] at h
  split at h
  .split at h
   .cases h
   .cases h
    have:2 ^ (7*(i+1))<=2 ^ 63:=Dm (by decide) (by omega)
    simp only [Ao]
    omega
  .have:=CI f (i+1) _ r n k (by omega) h2 h
   simp only [Ao]
   omega
theorem D7:∀ (f i acc:Nat) (l:List UInt8) (n k:Nat),i+f=9->acc<2 ^ (7*i)->mD f i acc l=some (n,k)->∃ m,n=acc+m*2 ^ (7*i)/\putN m=l.take (k-i)/\(0<i->0<m)
 | 0,_,_,_,_,_,_,_,h=>by cases h
 | f+1,i,acc,[],_,_,_,_,h=>by cases h
 | f+1,i,acc,c::r,n,k,hi,ha,h=>by
  have h5:2 ^ (7*(i+1))=128*2 ^ (7*i):=by rw [Fc,Fe];omega
  simp only [mD] at h
  split at h
  .rename_i hc
   split at h
   .cases h
   .rename_i hz
    cases h
    refine ⟨c.toNat,by rw [Dx hc],?_,fun hi=>by omega⟩
    rw [putN,if_pos hc,Ev]
    simp
  .rename_i hc
   have h2:acc+(c.toNat % 128)*2 ^ (7*i)<2 ^ (7*(i+1)):=by
    have h3:c.toNat % 128<=127:=by omega
    have h4:(c.toNat % 128)*2 ^ (7*i)<=127*2 ^ (7*i):=Bp _ h3
    omega
   obtain ⟨m,e1,e2,e3⟩:=D7 f (i+1) _ r n k (by omega) h2 h
   have hm:=e3 (by omega)
   have hk:=(CI f (i+1) _ r n k (by omega) h2 h).2.1
   have hc2:c.toNat<256:=c.toNat_lt
   refine ⟨c.toNat % 128+128*m,?_,?_,fun _=>by omega⟩
   .rw [e1,h5,Cc]
    have:m*(128*2 ^ (7*i))=128*m*2 ^ (7*i):=by rw [Nat.mul_left_comm,Ko]
    omega
   .rw [putN,if_neg (by omega),show (c.toNat % 128+128*m) / 128=m from by omega,show 128+(c.toNat % 128+128*m) % 128=c.toNat from by omega,e2,show k-i=(k-(i+1))+1 from by omega]
    simp
theorem FE:∀ (f i acc n:Nat) (s:List UInt8),i+f=9->n<2 ^ (7*f)->(0<i->0<n)->mD f i acc (putN n++s)=some (acc+n*2 ^ (7*i),i+(putN n).length)
 | 0,i,acc,n,s,_,hn,h0=>by simp at hn;omega
 | f+1,i,acc,n,s,hi,hn,h0=>by
  have h5:2 ^ (7*(f+1))=128*2 ^ (7*f):=by rw [Fc,Fe];omega
  have h6:2 ^ (7*(i+1))=128*2 ^ (7*i):=by rw [Fc,Fe];omega
  rw [putN]
  by_cases h:n<128
  .have e:(Di n).toNat=n:=by rw [Fx,Dx (by omega)]
   rw [if_pos h]
   simp only [Hj,Ez,mD,e,if_pos h,Dx h]
   rw [if_neg (by omega)]
   simp
  .have e:(Di (128+n % 128)).toNat=128+n % 128:=by rw [Fx,Dx (by omega)]
   rw [if_neg h]
   simp only [Hj,mD,e]
   rw [if_neg (by omega),FE f (i+1) _ (n / 128) s (by omega) (by omega) (fun _=>by omega)]
   have e2:(128+n % 128) % 128=n % 128:=by omega
   rw [e2,h6]
   have e3:n*2 ^ (7*i)=(n % 128)*2 ^ (7*i)+n / 128*(128*2 ^ (7*i)):=by
    rw [<-Ko,<-Cc]
    congr 1
    omega
   simp only [Ao,Cu,Gq]
   omega
theorem CJ {l:List UInt8} {n k:Nat} (h:cH l=some (n,k)):n<2 ^ 63/\0<k/\k<=9/\k<=l.length:=by
 have:=CI 9 0 0 l n k rfl (by decide) h
 omega
def leN:List UInt8->Nat
 | []=>0
 | c::r=>c.toNat+256*leN r
theorem leN_lt:∀ (l:List UInt8),leN l<2 ^ (8*l.length)
 | []=>by simp [leN]
 | c::r=>by
  have:=leN_lt r
  have h:=c.toNat_lt
  simp only [leN,Ao,Fc,Fe]
  omega
theorem nS:∀ (l:List UInt8) (c:UInt8),leN (l++[c])=leN l+c.toNat*2 ^ (8*l.length)
 | [],c=>by simp [leN]
 | d::r,c=>by
  simp only [Hj,leN,nS r c,Ao,Fc,Fe]
  have:c.toNat*(2 ^ (8*r.length)*2 ^ (8*1))=256*(c.toNat*2 ^ (8*r.length)):=by
   rw [<-Ko,Dj]
  omega
theorem AE {l:List UInt8} {i:Nat} {c:UInt8} (h:l[i]? =some c):l.take (i+1)=l.take i++[c]:=by
 rw [Gw,h]
 rfl
theorem wR (n:Nat):∀ b,n<2 ^ (7*b)->(putN n).length<=b+1:=by
 induction n using Hz with
 | ind n ih=>
  intro b hb
  rw [putN]
  split
  .simp
  .rename_i h
   cases b with
   | zero=>simp at hb;omega
   | succ b=>
    have:=ih (n / 128) (by omega) b (by rw [Fc,Fe] at hb;omega)
    simp only [Ao]
    omega
theorem R6 (n:Nat) (s:List UInt8) (hn:n<2 ^ 63):cH (putN n++s)=some (n,(putN n).length):=by
 have:=FE 9 0 0 n s rfl (by omega) (fun h=>by omega)
 simpa [cH] using this
set_option maxRecDepth 10000
theorem QB (n:Nat):∀ (acc:List UInt8),acc.length+(putN n).length<=100->(n:Int)<=9223372036854775807->
  To (Eo [3] []) Tryz.f78 (.pure (.ret (.str (acc++putN n)))) (.head (stk Tryz.f78 0) [(0,.int .i64 n),(3,.slice 1 (acc.map ub) (.own 0 0))] [.tail 0 1 5]):=by
 induction n using Hz with
 | ind n ih=>
  intro acc hlen hn
  have e1:(n:Int).fdiv (2 ^ Int.toNat 7)=((n / 128:Nat):Int):=by
   rw [Gh _ (by decide)]
   simp
  have e2:=I3 n
  have hp:1<=(putN n).length:=by rw [putN];split<;>simp
  have hl:(acc.map ub).length=acc.length:=by simp
  refine gW (hEo [3] []) ?_;conv=>whnf
  refine ⟨fun h=>?_,fun h=>?_⟩
  .have h:127<n:=by
    have:=of_decide_eq_true h
    omega
   have e3:iC .or .u8 ((n % 256:Nat):Int) 128=((128+n % 128:Nat):Int):=by
    have:=yK .u8 (n % 256) 128 (by simp only [bF];omega) (by decide)
    rw [aAv ⟨n % 256,by omega⟩] at this
    simp only at this
    rw [show n % 256 % 128=n % 128 from by omega] at this
    exact this
   have hput:putN n=Di (128+n % 128)::putN (n / 128):=by rw [putN,if_neg (by omega)]
   refine gW (hEo [3] []) ?_;conv=>whnf
   refine .inr ?_
   refine gW (hEo [3] []) ?_;conv=>whnf
   refine ⟨⟨by simp only [maxLen];simp;omega,by simp;omega⟩,?_⟩
   refine gW (hEo [3] []) ?_;conv=>whnf
   refine ⟨⟨by decide,by decide⟩,?_⟩
   refine gW (hEo [3] []) ?_;conv=>whnf
   rw [e1,e2,e3]
   refine To.part [0,3] [0] rfl rfl rfl ?_
   have:=ih (n / 128) (by omega) (acc++[Di (128+n % 128)]) (by rw [hput] at hlen;simp at hlen⊢;omega) (by omega)
   rw [hput]
   rw [Aj,Cf,Cn,qI (by omega)] at this
   exact this
  .have h:¬ 127<n:=by
    have:=of_decide_eq_false h
    omega
   have hput:putN n=[Di n]:=by rw [putN,if_pos (by omega)]
   refine gW (hEo [3] []) ?_;conv=>whnf
   refine .inr ?_
   refine gW (hEo [3] []) ?_;conv=>whnf
   refine ⟨⟨by simp only [maxLen];simp;omega,by simp;omega⟩,?_⟩
   refine gW (hEo [3] []) ?_;conv=>whnf
   refine ⟨acc++[Di n],?_,by simp;omega,?_⟩
   .rw [e2,Dx (by omega),<-qI (by omega),Cf]
    rfl
   refine gW (hEo [3] []) ?_;conv=>whnf
   rw [hput]
theorem put_ok (n:Int):aA Tryz.prog 78 [.int .i64 n] [] (.ret (.str (putN n.toNat))) []:=by
 refine cT (E:=(Eo [3] [])) (fn:=Tryz.f78) (g:=.pure _) fun ho=>?_
 have hn:n<=9223372036854775807:=ho.1.2
 have:=wR n.toNat 9 (by omega)
 have e:max n 0=(n.toNat:Int):=by omega
 refine gW (hEo [3] []) ?_;conv=>whnf
 rw [e]
 refine To.head [0,3] ?_
 exact QB n.toNat [] (by simpa using (by omega:(putN n.toNat).length<=100)) (by omega)
def eqL {α:Type} (f:α->α->Bool):List α->List α->Bool
 | [],[]=>true
 | x::r,y::s=>f x y&&eqL f r s
 | _,_=>false
theorem rL {α:Type} {f:α->α->Bool}:∀ {a b:List α},a.length≠b.length->eqL f a b=false
 | [],[],h=>absurd rfl h
 | [],_::_,_=>rfl
 | _::_,[],_=>rfl
 | x::r,y::s,h=>by
  have:=rL (f:=f) (a:=r) (b:=s) (by simpa using h)
  simp [eqL,this]
theorem yF {α:Type} {f:α->α->Bool} (hf:∀ x,f x x=true):∀ (a:List α),eqL f a a=true
 | []=>rfl
 | x::r=>by simp [eqL,hf x,yF hf r]
def _root_.Go.Proofs.YtmalnhgopkfdaaaGreat.Nod.eqb (x y:Nod):Bool:=(x.p==y.p)&&((x.w==y.w)&&((x.n.a==y.n.a)&&((x.n.b==y.n.b)&&((x.n.c==y.n.c)&&((x.b.a==y.b.a)&&((x.b.b==y.b.b)&&((x.b.c==y.b.c)&&((x.l.a==y.l.a)&&((x.l.b==y.l.b)&&((x.l.c==y.l.c)&&true))))))))))
def _root_.Go.Proofs.YtmalnhgopkfdaaaGreat.Hos.eqb (x y:Hos):Bool:=(x.f==y.f)&&((x.b==y.b)&&((x.r==y.r)&&((x.c.a==y.c.a)&&((x.c.b==y.c.b)&&((x.c.c==y.c.c)&&true)))))
def _root_.Go.Proofs.YtmalnhgopkfdaaaGreat.Gan.eqb (x y:Gan):Bool:=(x.id==y.id)&&((x.ten==y.ten)&&((x.pods==y.pods)&&((x.need.a==y.need.a)&&((x.need.b==y.need.b)&&((x.need.c==y.need.c)&&((x.run==y.run)&&((x.lev==y.lev)&&((x.pref==y.pref)&&true))))))))
theorem _root_.Go.Proofs.YtmalnhgopkfdaaaGreat.Nod.eqb_eq {x y:Nod}:x.eqb y=true↔x=y:=by
 obtain ⟨_,_,⟨_,_,_⟩,⟨_,_,_⟩,⟨_,_,_⟩⟩:=x
 obtain ⟨_,_,⟨_,_,_⟩,⟨_,_,_⟩,⟨_,_,_⟩⟩:=y
 simp [Nod.eqb,and_assoc]
theorem _root_.Go.Proofs.YtmalnhgopkfdaaaGreat.Hos.eqb_eq {x y:Hos}:x.eqb y=true↔x=y:=by
 obtain ⟨_,_,_,⟨_,_,_⟩⟩:=x
 obtain ⟨_,_,_,⟨_,_,_⟩⟩:=y
 simp [Hos.eqb]
theorem _root_.Go.Proofs.YtmalnhgopkfdaaaGreat.Gan.eqb_eq {x y:Gan}:x.eqb y=true↔x=y:=by
 obtain ⟨_,_,_,⟨_,_,_⟩,_,_,_⟩:=x
 obtain ⟨_,_,_,⟨_,_,_⟩,_,_,_⟩:=y
 simp [Gan.eqb,and_assoc]
theorem S2 (a b:List Nod) (hab:a.length=b.length) (hl:((nav a).length:Int)<=9223372036854775807) (r:Bool):∀ (n i:Nat),i+n=a.length->eqL Nod.eqb (a.drop i) (b.drop i)=r->
  To E Tryz.f122 (.pure (.ret (.bool r))) (.head (stk Tryz.f122 0) [(0,.slice 11 (nav a) .no),(1,.slice 11 (nav b) .no),(12,.int .i64 ((nav a).length:Nat)),(13,.int .i64 i)] []):=by
 have hlen:(nav a).length=a.length:=by simp
 intro n
 induction n with
 | zero=>
  intro i hi hr
  rw [Af (by omega),Af (by omega)] at hr
  subst hr
  refine gW hE ?_;conv=>whnf
  refine aF fun h=>?_
  refine gW hE ?_;conv=>whnf
  rfl
 | succ n ih=>
  intro i hi hr
  have h1:i<a.length:=by omega
  have h2:i<b.length:=by omega
  rw [Ae h1,Ae h2] at hr
  have hr:(Nod.eqb a[i] b[i]&&eqL Nod.eqb (a.drop (i+1)) (b.drop (i+1)))=r:=hr
  generalize hx:a[i]=x at hr
  generalize hy:b[i]=y at hr
  have ga:(nav a)[i]? =some (Nod.av x):=by simp [hx,h1]
  have gb:(nav b)[i]? =some (Nod.av y):=by simp [hy,h2]
  refine gW hE ?_;conv=>whnf
  refine aT fun h=>?_
  repeat' first | (refine gN hE ?_;conv=>whnf) | refine ⟨_,ga,?_⟩ | refine ⟨_,gb,?_⟩ | exact rfl | refine aY ?_ | refine aN ?_ | refine aT fun h=>?_ | refine aF fun h=>?_ | refine ⟨fun h=>?_,fun h=>?_⟩ | refine aJ ?_ | refine ⟨_,rfl,?_⟩ | refine aD ?_ | fail
  .rename_i h
   have h:Nod.eqb x y=false:=iL h
   rw [h] at hr
   rw [<-hr];rfl
  .rename_i h
   have h:Nod.eqb x y=true:=iM h
   rw [h,Bt] at hr
   refine To.head [0,1,12,13] ?_
   exact ih (i+1) (by omega) hr
theorem eqN_ok (a b:List Nod):aA Tryz.prog 122 [.slice 11 (nav a) .no,.slice 11 (nav b) .no] [] (.ret (.bool (eqL Nod.eqb a b))) []:=by
 have hla:(nav a).length=a.length:=by simp
 have hlb:(nav b).length=b.length:=by simp
 refine cT (E:=E) (fn:=Tryz.f122) (g:=.pure _) fun ho=>?_
 have hl:((nav a).length:Int)<=9223372036854775807:=ho.1
 refine gW hE ?_;conv=>whnf
 refine ⟨fun h=>?_,fun h=>?_⟩
 .have h:(((nav a).length:Int) !=((nav b).length:Int))=true:=h
  rw [rL (by intro e;rw [hla,hlb,e] at h;simp at h)]
  refine gW hE ?_;conv=>whnf
 .have h:(((nav a).length:Int) !=((nav b).length:Int))=false:=h
  refine gW hE ?_;conv=>whnf
  refine To.head [0,1,12,13] ?_
  exact S2 a b (by simp at h;omega) hl _ a.length 0 (by omega) rfl
theorem S3 (a b:List Hos) (hab:a.length=b.length) (hl:((hav a).length:Int)<=9223372036854775807) (r:Bool):∀ (n i:Nat),i+n=a.length->eqL Hos.eqb (a.drop i) (b.drop i)=r->
  To E Tryz.f123 (.pure (.ret (.bool r))) (.head (stk Tryz.f123 0) [(0,.slice 6 (hav a) .no),(1,.slice 6 (hav b) .no),(12,.int .i64 ((hav a).length:Nat)),(13,.int .i64 i)] []):=by
 have hlen:(hav a).length=a.length:=by simp
 intro n
 induction n with
 | zero=>
  intro i hi hr
  rw [Af (by omega),Af (by omega)] at hr
  subst hr
  refine gW hE ?_;conv=>whnf
  refine aF fun h=>?_
  refine gW hE ?_;conv=>whnf
  rfl
 | succ n ih=>
  intro i hi hr
  have h1:i<a.length:=by omega
  have h2:i<b.length:=by omega
  rw [Ae h1,Ae h2] at hr
  have hr:(Hos.eqb a[i] b[i]&&eqL Hos.eqb (a.drop (i+1)) (b.drop (i+1)))=r:=hr
  generalize hx:a[i]=x at hr
  generalize hy:b[i]=y at hr
  have ga:(hav a)[i]? =some (Hos.av x):=by simp [hx,h1]
  have gb:(hav b)[i]? =some (Hos.av y):=by simp [hy,h2]
  refine gW hE ?_;conv=>whnf
  refine aT fun h=>?_
  repeat' first | (refine gN hE ?_;conv=>whnf) | refine ⟨_,ga,?_⟩ | refine ⟨_,gb,?_⟩ | exact rfl | refine aY ?_ | refine aN ?_ | refine aT fun h=>?_ | refine aF fun h=>?_ | refine ⟨fun h=>?_,fun h=>?_⟩ | refine aJ ?_ | refine ⟨_,rfl,?_⟩ | refine aD ?_ | fail
  .rename_i h
   have h:Hos.eqb x y=false:=iL h
   rw [h] at hr
   rw [<-hr];rfl
  .rename_i h
   have h:Hos.eqb x y=true:=iM h
   rw [h,Bt] at hr
   refine To.head [0,1,12,13] ?_
   exact ih (i+1) (by omega) hr
theorem eqH_ok (a b:List Hos):aA Tryz.prog 123 [.slice 6 (hav a) .no,.slice 6 (hav b) .no] [] (.ret (.bool (eqL Hos.eqb a b))) []:=by
 have hla:(hav a).length=a.length:=by simp
 have hlb:(hav b).length=b.length:=by simp
 refine cT (E:=E) (fn:=Tryz.f123) (g:=.pure _) fun ho=>?_
 have hl:((hav a).length:Int)<=9223372036854775807:=ho.1
 refine gW hE ?_;conv=>whnf
 refine ⟨fun h=>?_,fun h=>?_⟩
 .have h:(((hav a).length:Int) !=((hav b).length:Int))=true:=h
  rw [rL (by intro e;rw [hla,hlb,e] at h;simp at h)]
  refine gW hE ?_;conv=>whnf
 .have h:(((hav a).length:Int) !=((hav b).length:Int))=false:=h
  refine gW hE ?_;conv=>whnf
  refine To.head [0,1,12,13] ?_
  exact S3 a b (by simp at h;omega) hl _ a.length 0 (by omega) rfl
theorem LW (n:Nat):∀ (acc:List UInt8),acc.length+(putN n).length<=100->(n:Int)<=9223372036854775807->
  To E Tryz.f70 (.pure (.ret (.str (acc++putN n)))) (.head (stk Tryz.f70 0) [(0,.int .i64 n),(3,.str acc)] []):=by
 induction n using Hz with
 | ind n ih=>
  intro acc hlen hn
  have hp:1<=(putN n).length:=by rw [putN];split<;>simp
  refine gW hE ?_;conv=>whnf
  refine ⟨fun h=>?_,fun h=>?_⟩
  .have h:127<n:=by
    have:=of_decide_eq_true h
    omega
   have hput:putN n=Di (128+n % 128)::putN (n / 128):=by rw [putN,if_neg (by omega)]
   have e1:(128:Int)+Int.tmod (n:Int) 128=((128+n % 128:Nat):Int):=by
    rw [Ik (by omega)]
    omega
   have e2:Ks (n:Int) 128=((n / 128:Nat):Int):=by
    rw [Il (by omega)]
    omega
   refine gW hE ?_;conv=>whnf
   refine ⟨by decide,?_⟩
   refine gW hE ?_;conv=>whnf
   refine .inl ⟨by rw [e1];exact eS (by simp only [bF];omega),?_⟩
   refine gW hE ?_;conv=>whnf
   refine .inl ⟨by rw [e1];exact eS (by simp only [bF];omega),?_⟩
   refine gW hE ?_;conv=>whnf
   refine ⟨[Di (128+n % 128)],?_,by simp,?_⟩
   .rw [e1,<-qI (by omega)]
    rfl
   refine gW hE ?_;conv=>whnf
   refine ⟨by simp;omega,?_⟩
   refine gW hE ?_;conv=>whnf
   refine ⟨by decide,?_⟩
   refine gW hE ?_;conv=>whnf
   refine .inl ⟨by rw [e2];exact eS (by simp only [bF];omega),?_⟩
   refine gW hE ?_;conv=>whnf
   rw [e2]
   refine To.head [0,3] ?_
   have:=ih (n / 128) (by omega) (acc++[Di (128+n % 128)]) (by rw [hput] at hlen;simp at hlen⊢;omega) (by omega)
   rw [hput]
   rw [Aj] at this
   exact this
  .have h:¬ 127<n:=by
    have:=of_decide_eq_false h
    omega
   have hput:putN n=[Di n]:=by rw [putN,if_pos (by omega)]
   refine gW hE ?_;conv=>whnf
   refine .inl ⟨eS (by simp only [bF];omega),?_⟩
   refine gW hE ?_;conv=>whnf
   refine ⟨[Di n],?_,by simp,?_⟩
   .rw [Cn,qI (by omega)]
    rfl
   refine gW hE ?_;conv=>whnf
   refine ⟨by simp;omega,?_⟩
   refine gW hE ?_;conv=>whnf
   rw [hput]
theorem dO (n:Int):aA Tryz.prog 70 [.int .i64 n] [] (.ret (.str (putN n.toNat))) []:=by
 refine cT (E:=E) (fn:=Tryz.f70) (g:=.pure _) fun ho=>?_
 have hn:n<=9223372036854775807:=ho.1.2
 have:=wR n.toNat 9 (by omega)
 have e:max n 0=(n.toNat:Int):=by omega
 refine gW hE ?_;conv=>whnf
 rw [e]
 refine To.head [0,3] ?_
 exact LW n.toNat [] (by simpa using (by omega:(putN n.toNat).length<=100)) (by omega)
def pl:List Int->List UInt8
 | []=>[]
 | n::r=>putN n.toNat++pl r
theorem pl_append (a b:List Int):pl (a++b)=pl a++pl b:=by
 induction a with
 | nil=>rfl
 | cons n r ih=>simp [pl,ih]
theorem pn_len {n:Int} (h:n<=9223372036854775807):(putN n.toNat).length<=10:=by
 have:=wR n.toNat 9 (by omega)
 omega
theorem pl_len:∀ {l:List Int},(∀ n∈l,n<=9223372036854775807)->(pl l).length<=10*l.length
 | [],_=>by simp [pl]
 | n::r,h=>by
  have h1:=pn_len (h n (by simp))
  have h2:=pl_len (l:=r) fun m hm=>h m (by simp [hm])
  simp only [pl,Ag,Ao]
  omega
theorem aAJ {n:Int} (h:hO n=true):0<=n/\n<=1099511627776:=by
 simpa [hO] using h
theorem okI_b:∀ {l:List Int},okI l=true->∀ n∈l,0<=n/\n<=1099511627776
 | [],_,n,hn=>by cases hn
 | x::r,h,n,hn=>by
  simp only [okI,Ad] at h
  rcases Bh.1 hn with rfl | hn
  .exact aAJ h.1
  .exact okI_b h.2 n hn
def _root_.Go.Proofs.YtmalnhgopkfdaaaGreat.Gan.il (g:Gan):List Int:=[g.id,g.ten,g.pods,g.need.a,g.need.b,g.need.c,g.run,g.lev,g.pref]
def _root_.Go.Proofs.YtmalnhgopkfdaaaGreat.Nod.il (x:Nod):List Int:=[x.p+1,x.w,x.n.a,x.n.b,x.n.c,x.b.a,x.b.b,x.b.c,x.l.a,x.l.b,x.l.c]
def _root_.Go.Proofs.YtmalnhgopkfdaaaGreat.Hos.il (x:Hos):List Int:=[x.f,x.b,x.r,x.c.a,x.c.b,x.c.c]
def nodL:List Nod->List Int
 | []=>[]
 | x::r=>x.il++nodL r
def hosL:List Hos->List Int
 | []=>[]
 | x::r=>x.il++hosL r
def _root_.Go.Proofs.YtmalnhgopkfdaaaGreat.Con.il (c:Con):List Int:=[((nav c.ns).length:Int)]++nodL c.ns++([((hav c.hs).length:Int)]++hosL c.hs++[c.half,c.age])
def _root_.Go.Proofs.YtmalnhgopkfdaaaGreat.Cmd.il (x:Cmd):List Int:=x.k::(if x.k==1 then x.c.il else if x.k==2 then x.g.il else if x.k==6 then [] else [x.n])
theorem GJ {v:V3} (h:okI v.l=true):(0<=v.a/\v.a<=1099511627776)/\(0<=v.b/\v.b<=1099511627776)/\(0<=v.c/\v.c<=1099511627776):=
 ⟨okI_b h _ (by simp [V3.l]),okI_b h _ (by simp [V3.l]),okI_b h _ (by simp [V3.l])⟩
theorem qM (v:V3) (h:okI v.l=true):aA Tryz.prog 111 [.agg v.cs] [] (.ret (.str (pl v.l))) []:=by
 obtain ⟨h1,h2,h3⟩:=GJ h
 have b1:=pn_len (n:=v.a) (by omega)
 have b2:=pn_len (n:=v.b) (by omega)
 have b3:=pn_len (n:=v.c) (by omega)
 refine cT (E:=E) (fn:=Tryz.f111) (g:=.pure _) fun _=>?_
 repeat' first | (refine gN hE ?_;conv=>whnf) | refine .pure _ [] (dO _) ?_ | refine Aa (by simp only [Ag];omega) ?_ | exact rfl | refine aY ?_ | refine aN ?_ | refine aT fun h=>?_ | refine aF fun h=>?_ | refine ⟨fun h=>?_,fun h=>?_⟩ | refine aJ ?_ | refine ⟨_,rfl,?_⟩ | refine aD ?_ | fail
 simp [pl,V3.l]
abbrev wrO (bs:List UInt8) (g:Nat):List AObj:=[.cells tWr [.ref 0 0,.slice 1 (bs.map ub) (.own 1 g)],.tail g 1 5]
theorem C2 (xs:List AVal):aA Tryz.prog 79 [.ref 0 0] [.cells tWr [.ref 0 0,.slice 1 xs (.own 1 0)],.tail 0 1 5] (.ret (.tup [])) [.cells tWr [.ref 0 0,.slice 1 xs (.own 1 0)],.tail 0 1 5]:=by
 refine cT (E:=E) (fn:=Tryz.f79) (g:=.full 2 _ _) fun _=>?_
 repeat' first | (refine gN hE ?_;conv=>whnf) | exact rfl | refine aY ?_ | refine aN ?_ | refine aT fun h=>?_ | refine aF fun h=>?_ | refine ⟨fun h=>?_,fun h=>?_⟩ | refine aJ ?_ | refine ⟨_,rfl,?_⟩ | refine aD ?_ | fail
 exact ⟨[],[0,1],⟨rfl,rfl⟩,rfl,rfl⟩
theorem qD (s:List UInt8) (hs:s.length<=1000):aA Tryz.prog 33 [.ref 0 0,.str s] [.cells tWr [.nilptr,.slice 1 [] .nil]] (.ret (.tup [ii s.length,.nilif])) (wrO s 0):=by
 refine cT (E:=(Eo [14] [])) (fn:=Tryz.f33) (g:=.full 1 _ _) fun _=>?_
 refine gW (hEo [14] []) ?_;conv=>whnf
 refine .eff [] [0] _ _ rfl (yW _) ?_
 refine gW (hEo [14] []) ?_;conv=>whnf
 refine ⟨⟨by simp only [maxLen];simp;omega,by simp;omega⟩,?_⟩
 refine gW (hEo [14] []) ?_;conv=>whnf
 exact ⟨[],[0,1],⟨rfl,rfl⟩,rfl,rfl⟩
theorem ws_ok (bs s:List UInt8) (hs:bs.length+s.length<=1000000):aA Tryz.prog 33 [.ref 0 0,.str s] (wrO bs 0) (.ret (.tup [ii s.length,.nilif])) (wrO (bs++s) 1):=by
 refine cT (E:=(Eo [14] [])) (fn:=Tryz.f33) (g:=.full 2 _ _) fun _=>?_
 refine gW (hEo [14] []) ?_;conv=>whnf
 refine .eff [] [0,1] _ _ rfl (C2 _) ?_
 refine gW (hEo [14] []) ?_;conv=>whnf
 refine ⟨⟨by simp only [maxLen];simp;omega,by simp;omega⟩,?_⟩
 refine gW (hEo [14] []) ?_;conv=>whnf
 refine ⟨[],[0,1],⟨rfl,rfl⟩,?_⟩;conv=>whnf
 refine ⟨rfl,?_⟩
 rw [Cf]
 rfl
noncomputable abbrev FL:Func:=Tryz.f75
theorem sO (l:List Int) (hl:((iv l).length:Int)<=9223372036854775807) (hb:∀ n∈l,n<=9223372036854775807) (B:List UInt8) (g0:Nat) (hlen:10*l.length<=1000):∀ (n i g:Nat) (bs:List UInt8),i+n=l.length->(g=0\/g=1)->(n=0->g=g0)->(0<n->g0=1)->bs.length+10*n<=100000->bs++pl (l.drop i)=B->
  To E FL (.full 2 (.ret (.tup [])) (wrO B g0)) (.head (stk FL 0) [(0,.ref 0 0),(6,.slice 1 (iv l) .no),(7,.int .i64 ((iv l).length:Nat)),(8,.int .i64 i)] (wrO bs g)):=by
 have hln:(iv l).length=l.length:=by simp
 intro n
 induction n with
 | zero=>
  intro i g bs hi hg hg0 _ hbl hB
  have e:=hg0 rfl
  subst e
  rw [Af (by omega)] at hB
  have hB:bs++[]=B:=hB
  rw [Ay] at hB
  subst hB
  refine gW hE ?_;conv=>whnf
  refine aF fun h=>?_
  refine gW hE ?_;conv=>whnf
  refine ⟨[],[0,1],⟨rfl,rfl⟩,?_⟩
  rcases hg with rfl | rfl
  .exact ⟨rfl,rfl⟩
  .exact ⟨rfl,rfl⟩
 | succ n ih=>
  intro i g bs hi hg _ hg1 hbl hB
  have e1:=hg1 (by omega)
  subst e1
  have hlt:i<l.length:=by omega
  rw [Ae hlt] at hB
  have hbx:=hb l[i] (Bn hlt)
  generalize hx:l[i]=x at hB hbx
  have hB:bs++(putN x.toNat++pl (l.drop (i+1)))=B:=hB
  rw [<-Aj] at hB
  have get:(iv l)[i]? =some (ii x):=(cG hlt).trans (by rw [hx])
  have hp:=pn_len hbx
  refine gW hE ?_;conv=>whnf
  refine aT fun h=>?_
  refine gW hE ?_;conv=>whnf
  refine ⟨i,rfl,?_⟩
  refine gW hE ?_;conv=>whnf
  refine ⟨_,get,?_⟩
  refine gW hE ?_;conv=>whnf
  refine .pure _ [] (put_ok x) ?_
  refine gW hE ?_;conv=>whnf
  have next:=ih (i+1) 1 (bs++putN x.toNat) (by omega) (.inr rfl) (fun _=>rfl) (fun _=>rfl) (by simp;omega) hB
  rcases hg with rfl | rfl
  .refine .sole rfl (.eff [] [0,1] _ _ rfl (ws_ok bs _ (by omega)) ?_)
   refine gW hE ?_;conv=>whnf
   refine aJ ?_
   refine gW hE ?_;conv=>whnf
   refine To.part [0,6,7,8] [0,1] rfl rfl rfl ?_
   exact next
  .refine .sole rfl (.eff [] [0,1] _ _ rfl (ws_ok bs _ (by omega)) ?_)
   refine gW hE ?_;conv=>whnf
   refine aJ ?_
   refine gW hE ?_;conv=>whnf
   refine To.part [0,6,7,8] [0,1] rfl rfl rfl ?_
   exact next
theorem nums_ok (l:List Int) (h0:l≠[]) (hb:∀ n∈l,n<=9223372036854775807) (hlen:l.length<=100) (bs:List UInt8) (hbs:bs.length+10*l.length<=100000):
  aA Tryz.prog 75 [.ref 0 0,.slice 1 (iv l) .no] (wrO bs 0) (.ret (.tup [])) (wrO (bs++pl l) 1):=by
 have hln:(iv l).length=l.length:=by simp
 have hpos:0<l.length:=Fp.2 h0
 refine cT (E:=E) (fn:=Tryz.f75) (g:=.full 2 _ _) fun _=>?_
 refine gW hE ?_;conv=>whnf
 refine To.part [0,6,7,8] [0,1] rfl rfl rfl ?_
 exact sO l (by omega) hb _ 1 (by omega) l.length 0 0 bs (by omega) (.inl rfl) (fun h=>by omega) (fun _=>rfl) (by omega) rfl
theorem nums_fresh (k:Int) (hk:k<=9223372036854775807):aA Tryz.prog 75 [.ref 0 0,.slice 1 [ii k] .no] [.cells tWr [.nilptr,.slice 1 [] .nil]] (.ret (.tup [])) (wrO (putN k.toNat) 0):=by
 have hp:=pn_len hk
 refine cT (E:=E) (fn:=Tryz.f75) (g:=.full 1 _ _) fun _=>?_
 refine gW hE ?_;conv=>whnf
 refine gW hE ?_;conv=>whnf
 refine Aa (fun _=>?_) (fun h=>absurd (of_decide_eq_false h) (by simp))
 refine gW hE ?_;conv=>whnf
 refine ⟨0,rfl,?_⟩
 refine gW hE ?_;conv=>whnf
 refine ⟨_,rfl,?_⟩
 refine gW hE ?_;conv=>whnf
 refine .pure _ [] (put_ok k) ?_
 refine gW hE ?_;conv=>whnf
 refine .sole rfl (.eff [] [0] _ _ rfl (qD _ (by omega)) ?_)
 refine gW hE ?_;conv=>whnf
 refine aJ ?_
 refine gW hE ?_;conv=>whnf
 refine gW hE ?_;conv=>whnf
 refine Aa (fun h=>absurd (of_decide_eq_true h) (by simp)) (fun _=>?_)
 refine gW hE ?_;conv=>whnf
 refine ⟨[],[0,1],⟨rfl,rfl⟩,?_⟩
 exact ⟨rfl,rfl⟩
theorem v3_m {v:V3} (h:okI v.l=true):∀ n∈v.l,n<=9223372036854775807:=fun n hn=>by
 have:=okI_b h n hn
 omega
theorem l3_m {a b c:Int} (h:okI [a,b,c]=true):∀ n∈[a,b,c],n<=9223372036854775807:=fun n hn=>by
 have:=okI_b h n hn
 omega
theorem oH (v:V3) (h:okI v.l=true) (bs:List UInt8) (hbs:bs.length<=90000):aA Tryz.prog 120 [.ref 0 0,.agg v.cs] (wrO bs 0) (.ret (.tup [])) (wrO (bs++pl v.l) 1):=by
 refine cT (E:=E) (fn:=Tryz.f120) (g:=.full 2 _ _) fun _=>?_
 refine gW hE ?_;conv=>whnf
 refine ⟨by decide,?_⟩
 refine gW hE ?_;conv=>whnf
 refine .eff [2] [0,1] _ _ rfl (aA.strip (nums_ok v.l (by simp [V3.l]) (v3_m h) (by simp [V3.l]) bs (by simp [V3.l];omega))) ?_
 refine gW hE ?_;conv=>whnf
 refine ⟨[],[0,1],⟨rfl,rfl⟩,?_⟩
 exact ⟨rfl,rfl⟩
theorem gan_b {g:Gan} (h:g.ok=true):okI [g.id,g.ten,g.pods]=true/\okI g.need.l=true/\okI [g.run,g.lev,g.pref]=true:=by
 simp only [Gan.ok,okI,Ad,Ga] at h⊢
 obtain ⟨⟨h1,h2,h3,h4,h5,h6⟩,h7⟩:=h
 exact ⟨⟨h1,h2,h3⟩,h7,h4,h5,h6⟩
theorem N2 (g:Gan) (h:g.ok=true) (bs:List UInt8) (hbs:bs.length<=80000):aA Tryz.prog 77 [.ref 0 0,g.av] (wrO bs 0) (.ret (.tup [])) (wrO (bs++pl g.il) 1):=by
 obtain ⟨h1,h2,h3⟩:=gan_b h
 have l1:=pl_len (l3_m h1)
 have l2:=pl_len (v3_m h2)
 have e:bs++pl g.il=((bs++pl [g.id,g.ten,g.pods])++pl g.need.l)++pl [g.run,g.lev,g.pref]:=by
  rw [Aj,Aj,<-pl_append,<-pl_append];rfl
 rw [e]
 simp only [V3.l,Ao,Bg] at l1 l2
 refine cT (E:=E) (fn:=Tryz.f77) (g:=.full 2 _ _) fun _=>?_
 refine gW hE ?_;conv=>whnf
 refine .eff [] [0,1] _ _ rfl (aA.strip (nums_ok [g.id,g.ten,g.pods] (by simp) (l3_m h1) (by simp) bs (by simp;omega))) ?_
 refine gW hE ?_;conv=>whnf
 refine .eff [] [0,1] _ _ rfl (oH g.need h2 _ (by simp;omega)) ?_
 refine gW hE ?_;conv=>whnf
 refine .eff [] [0,1] _ _ rfl (aA.strip (nums_ok [g.run,g.lev,g.pref] (by simp) (l3_m h3) (by simp) _ (by simp [V3.l];omega))) ?_
 refine gW hE ?_;conv=>whnf
 refine ⟨[],[0,1],⟨rfl,rfl⟩,?_⟩
 exact ⟨rfl,rfl⟩
noncomputable abbrev KV:Func:=Tryz.f76
theorem J3 {x:Nod} (h:x.ok=true):(-1<=x.p/\x.p<=1099511627776)/\(0<=x.w/\x.w<=1099511627776)/\okI x.n.l=true/\okI x.b.l=true/\okI x.l.l=true:=by
 simp only [Nod.ok,Ad,decide_eq_true_eq] at h
 obtain ⟨⟨⟨⟨h1,h2⟩,h3⟩,h4⟩,h5⟩:=h
 exact ⟨h1,okI_b h2 _ (by simp),h3,h4,h5⟩
theorem KJ {x:Hos} (h:x.ok=true):okI [x.f,x.b,x.r]=true/\okI x.c.l=true:=by
 simpa only [Hos.ok,Ad] using h
theorem LB {l:List Nod} (h:pB l=true):∀ (i:Nat) (hi:i<l.length),l[i].ok=true:=by
 induction l with
 | nil=>intro i hi;simp at hi
 | cons x r ih=>
  simp only [pB,Ad] at h
  intro i hi
  cases i with
  | zero=>exact h.1
  | succ i=>exact ih h.2 i (by simpa using hi)
theorem LC {l:List Hos} (h:jY l=true):∀ (i:Nat) (hi:i<l.length),l[i].ok=true:=by
 induction l with
 | nil=>intro i hi;simp at hi
 | cons x r ih=>
  simp only [jY,Ad] at h
  intro i hi
  cases i with
  | zero=>exact h.1
  | succ i=>exact ih h.2 i (by simpa using hi)
theorem il_len (x:Nod) (h:x.ok=true):(pl x.il).length<=110:=by
 obtain ⟨h1,h2,h3,h4,h5⟩:=J3 h
 have:=pl_len (l:=x.il) (fun n hn=>by
  simp only [Nod.il,Bh,Fs,or_false] at hn
  have a1:=GJ h3
  have a2:=GJ h4
  have a3:=GJ h5
  rcases hn with rfl | rfl | rfl | rfl | rfl | rfl | rfl | rfl | rfl | rfl | rfl<;>omega)
 simpa [Nod.il] using this
theorem ih_len (x:Hos) (h:x.ok=true):(pl x.il).length<=60:=by
 obtain ⟨h1,h2⟩:=KJ h
 have:=pl_len (l:=x.il) (fun n hn=>by
  simp only [Hos.il,Bh,Fs,or_false] at hn
  have a1:=okI_b h1
  have a2:=GJ h2
  have b1:=a1 x.f (by simp)
  have b2:=a1 x.b (by simp)
  have b3:=a1 x.r (by simp)
  rcases hn with rfl | rfl | rfl | rfl | rfl | rfl<;>omega)
 simpa [Hos.il] using this
theorem LE (c:Con) (hh:((hav c.hs).length:Int)<=24) (hc:jY c.hs=true) (ht:okI [c.half,c.age]=true) (B:List UInt8):∀ (n i:Nat) (bs:List UInt8),i+n=c.hs.length->bs.length+60*n<=20000->bs++(pl (hosL (c.hs.drop i))++pl [c.half,c.age])=B->
  To E KV (.full 2 (.ret (.tup [])) (wrO B 1)) (.head (stk KV 1) [(0,.ref 0 0),(3,.ref 2 0),(49,.slice 6 (hav c.hs) .no),(50,.int .i64 ((hav c.hs).length:Nat)),(51,.int .i64 i)] (wrO bs 1++[.cells 26 c.cs])):=by
 have hln:(hav c.hs).length=c.hs.length:=by simp
 have hm:∀ n∈[c.half,c.age],n<=9223372036854775807:=fun n hn=>by have:=okI_b ht n hn;omega
 intro n
 induction n with
 | zero=>
  intro i bs hi hbl hB
  rw [Af (by omega)] at hB
  have hB:bs++pl [c.half,c.age]=B:=hB
  subst hB
  refine gW hE ?_;conv=>whnf
  refine aF fun h=>?_
  refine gW hE ?_;conv=>whnf
  refine .eff [] [0,1] _ _ rfl (aA.strip (nums_ok [c.half,c.age] (by simp) hm (by simp) bs (by simp;omega))) ?_
  refine gW hE ?_;conv=>whnf
  refine ⟨[],[0,1],⟨rfl,rfl⟩,?_⟩
  exact ⟨rfl,rfl⟩
 | succ n ih=>
  intro i bs hi hbl hB
  have hlt:i<c.hs.length:=by omega
  rw [Ae hlt] at hB
  have hx1:=LC hc i hlt
  generalize hx:c.hs[i]=x at hB hx1
  have hB:bs++(pl (x.il++hosL (c.hs.drop (i+1)))++pl [c.half,c.age])=B:=hB
  obtain ⟨h1,h2⟩:=KJ hx1
  have l1:=pl_len (l3_m h1)
  have l2:=pl_len (v3_m h2)
  have l3:=ih_len x hx1
  simp only [V3.l,Ao,Bg] at l1 l2
  have ex:bs++pl x.il=(bs++pl [x.f,x.b,x.r])++pl x.c.l:=by rw [Aj,<-pl_append];rfl
  rw [pl_append,Aj,<-Aj,ex] at hB
  have get:(hav c.hs)[i]? =some x.av:=(lZ hlt).trans (by rw [hx])
  refine gW hE ?_;conv=>whnf
  refine aT fun h=>?_
  refine gW hE ?_;conv=>whnf
  refine ⟨i,rfl,?_⟩
  refine gW hE ?_;conv=>whnf
  refine ⟨_,get,?_⟩
  refine gW hE ?_;conv=>whnf
  refine .eff [] [0,1] _ _ rfl (aA.strip (nums_ok [x.f,x.b,x.r] (by simp) (l3_m h1) (by simp) bs (by simp;omega))) ?_
  refine gW hE ?_;conv=>whnf
  refine .eff [] [0,1] _ _ rfl (oH x.c h2 _ (by simp;omega)) ?_
  refine gW hE ?_;conv=>whnf
  refine aJ ?_
  refine gW hE ?_;conv=>whnf
  refine To.part [0,3,49,50,51] [0,1,2] rfl rfl rfl ?_
  exact ih (i+1) _ (by omega) (by rw [<-ex];simp;omega) hB
theorem LD (c:Con) (hn:((nav c.ns).length:Int)<=12) (hh:((hav c.hs).length:Int)<=24) (hcn:pB c.ns=true) (hc:jY c.hs=true) (ht:okI [c.half,c.age]=true) (B:List UInt8):∀ (n i:Nat) (bs:List UInt8),i+n=c.ns.length->bs.length+110*n<=10000->
  bs++(pl (nodL (c.ns.drop i))++(pl [((hav c.hs).length:Int)]++(pl (hosL c.hs)++pl [c.half,c.age])))=B->
  To E KV (.full 2 (.ret (.tup [])) (wrO B 1)) (.head (stk KV 0) [(0,.ref 0 0),(3,.ref 2 0),(15,.slice 11 (nav c.ns) .no),(16,.int .i64 ((nav c.ns).length:Nat)),(17,.int .i64 i)] (wrO bs 1++[.cells 26 c.cs])):=by
 have hln:(nav c.ns).length=c.ns.length:=by simp
 have hlh:(hav c.hs).length=c.hs.length:=by simp
 intro n
 induction n with
 | zero=>
  intro i bs hi hbl hB
  rw [Af (by omega)] at hB
  have hB:bs++(pl [((hav c.hs).length:Int)]++(pl (hosL c.hs)++pl [c.half,c.age]))=B:=hB
  rw [<-Aj] at hB
  have hml:∀ n∈[((hav c.hs).length:Int)],n<=9223372036854775807:=fun n hn=>by simp at hn;omega
  have l1:=pl_len hml
  simp only [Ao,Bg] at l1
  refine gW hE ?_;conv=>whnf
  refine aF fun h=>?_
  refine gW hE ?_;conv=>whnf
  refine .eff [] [0,1] _ _ rfl (aA.strip (nums_ok [((hav c.hs).length:Int)] (by simp) hml (by simp) bs (by simp;omega))) ?_
  refine gW hE ?_;conv=>whnf
  refine To.part [0,3,49,50,51] [0,1,2] rfl rfl rfl ?_
  exact LE c hh hc ht B c.hs.length 0 _ (by omega) (by simp only [Ag];omega) hB
 | succ n ih=>
  intro i bs hi hbl hB
  have hlt:i<c.ns.length:=by omega
  rw [Ae hlt] at hB
  have hx1:=LB hcn i hlt
  generalize hx:c.ns[i]=x at hB hx1
  have hB:bs++(pl (x.il++nodL (c.ns.drop (i+1)))++_)=B:=hB
  obtain ⟨h1,h2,h3,h4,h5⟩:=J3 hx1
  have hm:∀ n∈[x.p+1,x.w],n<=9223372036854775807:=fun n hn=>by simp at hn;omega
  have l1:=pl_len hm
  have l2:=pl_len (v3_m h3)
  have l3:=pl_len (v3_m h4)
  have l4:=pl_len (v3_m h5)
  have l5:=il_len x hx1
  simp only [V3.l,Ao,Bg] at l1 l2 l3 l4
  have ex:bs++pl x.il=(((bs++pl [x.p+1,x.w])++pl x.n.l)++pl x.b.l)++pl x.l.l:=by rw [Aj,Aj,Aj,<-pl_append,<-pl_append,<-pl_append];rfl
  rw [pl_append,Aj,<-Aj,ex] at hB
  have get:(nav c.ns)[i]? =some x.av:=(eF hlt).trans (by rw [hx])
  refine gW hE ?_;conv=>whnf
  refine aT fun h=>?_
  refine gW hE ?_;conv=>whnf
  refine ⟨i,rfl,?_⟩
  refine gW hE ?_;conv=>whnf
  refine ⟨_,get,?_⟩
  refine gW hE ?_;conv=>whnf
  refine aJ ?_
  refine gW hE ?_;conv=>whnf
  refine .eff [] [0,1] _ _ rfl (aA.strip (nums_ok [x.p+1,x.w] (by simp) hm (by simp) bs (by simp;omega))) ?_
  refine gW hE ?_;conv=>whnf
  refine .eff [] [0,1] _ _ rfl (oH x.n h3 _ (by simp;omega)) ?_
  refine gW hE ?_;conv=>whnf
  refine .eff [] [0,1] _ _ rfl (oH x.b h4 _ (by simp [V3.l];omega)) ?_
  refine gW hE ?_;conv=>whnf
  refine .eff [] [0,1] _ _ rfl (oH x.l h5 _ (by simp [V3.l];omega)) ?_
  refine gW hE ?_;conv=>whnf
  refine aJ ?_
  refine gW hE ?_;conv=>whnf
  refine To.part [0,3,15,16,17] [0,1,2] rfl rfl rfl ?_
  exact ih (i+1) _ (by omega) (by rw [<-ex];simp;omega) hB
theorem N3 (c:Con) (hn:((nav c.ns).length:Int)<=12) (hh:((hav c.hs).length:Int)<=24) (hc:c.tok=true) (bs:List UInt8) (hbs:bs.length<=100):
  aA Tryz.prog 76 [.ref 0 0,c.av] (wrO bs 0) (.ret (.tup [])) (wrO (bs++pl c.il) 1):=by
 have hln:(nav c.ns).length=c.ns.length:=by simp
 simp only [Con.tok,Ad] at hc
 obtain ⟨⟨h1,h2⟩,h3⟩:=hc
 have hml:∀ n∈[((nav c.ns).length:Int)],n<=9223372036854775807:=fun n hn=>by simp at hn;omega
 have l1:=pl_len hml
 simp only [Ao,Bg] at l1
 refine cT (E:=E) (fn:=Tryz.f76) (g:=.full 2 _ _) fun _=>?_
 refine gW hE ?_;conv=>whnf
 refine .eff [] [0,1] _ _ rfl (aA.strip (nums_ok [((nav c.ns).length:Int)] (by simp) hml (by simp) bs (by simp;omega))) ?_
 refine gW hE ?_;conv=>whnf
 refine To.part [0,3,15,16,17] [0,1,2] rfl rfl rfl ?_
 exact LD c hn hh h1 h2 h3 _ c.ns.length 0 _ (by omega) (by simp only [Ag];omega) (by simp only [Con.il,pl_append,Aj,Db])
structure Told (x:Cmd):Prop where
 k:1<=x.k/\x.k<=6
 c:x.k=1\/x.c.non=true
 g:x.k=2\/x.g.isZ=true
 n:(x.k=3\/x.k=4\/x.k=5)\/x.n=0
 cok:x.c.tok=true
 gok:x.g.ok=true
 nok:0<=x.n/\x.n<=1099511627776
 ln:((nav x.c.ns).length:Int)<=12
 lh:((hav x.c.hs).length:Int)<=24
theorem lY {b:Bool} {y:Int} (h:(if b then y else 1)=0):b=true/\y=0:=by
 cases b with
 | true=>exact ⟨rfl,h⟩
 | false=>cases h
theorem chk_told {x:Cmd} (h:chk x=0):Told x:=by
 unfold chk at h
 obtain ⟨h1,h⟩:=lY h
 unfold chk2 at h
 obtain ⟨h2,h⟩:=lY h
 unfold chk3 at h
 obtain ⟨h3,h⟩:=lY h
 unfold chk4 at h
 obtain ⟨h4,h⟩:=lY h
 unfold chkC at h
 obtain ⟨h5,h⟩:=lY h
 unfold chkG at h
 obtain ⟨h6,h⟩:=lY h
 unfold chkN at h
 obtain ⟨h7,h⟩:=lY h
 unfold chkL at h
 simp only [Ad,Dg,decide_eq_true_eq,beq_iff_eq] at h1 h2 h3 h4
 have h8:decide (((nav x.c.ns).length:Int)<=12)=true/\decide (((hav x.c.hs).length:Int)<=24)=true:=by
  split at h
  .rename_i hh
   simpa using hh
  .cases h
 exact ⟨h1,h2,h3,by rcases h4 with ((h4 | h4) | h4) | h4
                    .exact .inl (.inl h4)
                    .exact .inl (.inr (.inl h4))
                    .exact .inl (.inr (.inr h4))
                    .exact .inr h4,h5,h6,okI_b h7 _ (by simp),of_decide_eq_true h8.1,of_decide_eq_true h8.2⟩
def encB (x:Cmd):List UInt8:=if chk x=0 then pl x.il else []
theorem pl_ne (k:Int) (r:List Int):pl (k::r)≠[]:=by
 have:1<=(putN k.toNat).length:=by rw [putN];split<;>simp
 intro h
 have h1:(pl (k::r)).length=0:=by rw [h];rfl
 simp only [pl,Ag] at h1
 omega
theorem eH (x:Cmd) (r:List Int) (h:(if x.k==1 then x.c.il else if x.k==2 then x.g.il else if x.k==6 then [] else [x.n])=r):putN x.k.toNat++pl r=pl x.il:=by
 subst h
 rfl
theorem enc_ok (x:Cmd):aA Tryz.prog 31 [x.av] [] (.ret (.tup [.str (encB x),ii (chk x)])) []:=by
 refine cT (E:=E) (fn:=Tryz.f31) (g:=.pure _) fun _=>?_
 refine gW hE ?_;conv=>whnf
 refine .pure _ [] (check_ok x) ?_
 refine gW hE ?_;conv=>whnf
 refine ⟨fun h=>?_,fun h=>?_⟩
 .have h:(chk x !=0)=true:=h
  have h0:¬ chk x=0:=by simpa using h
  have e:encB x=[]:=if_neg h0
  rw [e]
  refine gW hE ?_;conv=>whnf
 .have h:(chk x !=0)=false:=h
  have h0:chk x=0:=by simpa using h
  have e:encB x=pl x.il:=if_pos h0
  rw [e,h0]
  have T:=chk_told h0
  have hk:x.k<=9223372036854775807:=by have:=T.k;omega
  have hp:=pn_len hk
  refine gW hE ?_;conv=>whnf
  refine .eff [] [1] _ _ rfl (aA.strip (nums_fresh x.k hk)) ?_
  refine gW hE ?_;conv=>whnf
  refine Aa (fun h1=>?_) (fun h1=>?_)
  .have h1:(x.k==1)=true:=h1
   have il:=eH x x.c.il (by rw [h1];rfl)
   have hne:putN x.k.toNat++pl x.c.il≠[]:=by rw [il];exact pl_ne _ _
   refine gW hE ?_;conv=>whnf
   refine .eff [] [1,2] _ _ rfl (N3 x.c T.ln T.lh T.cok _ (by omega)) ?_
   refine gW hE ?_;conv=>whnf
   refine .eff [] [1,2] _ _ rfl (str_ok _ hne _) ?_
   refine gW hE ?_;conv=>whnf
   rw [il]
  .have h1:(x.k==1)=false:=h1
   refine gW hE ?_;conv=>whnf
   refine Aa (fun h2=>?_) (fun h2=>?_)
   .have h2:(x.k==2)=true:=h2
    have il:=eH x x.g.il (by rw [h1,h2];rfl)
    have hne:putN x.k.toNat++pl x.g.il≠[]:=by rw [il];exact pl_ne _ _
    refine gW hE ?_;conv=>whnf
    refine .eff [] [1,2] _ _ rfl (N2 x.g T.gok _ (by omega)) ?_
    refine gW hE ?_;conv=>whnf
    refine .eff [] [1,2] _ _ rfl (str_ok _ hne _) ?_
    refine gW hE ?_;conv=>whnf
    rw [il]
   .have h2:(x.k==2)=false:=h2
    have hn:∀ n∈[x.n],n<=9223372036854775807:=fun n hn=>by have:=T.nok;simp at hn;omega
    refine gW hE ?_;conv=>whnf
    refine Aa (fun h3=>?_) (fun h3=>?_)
    .have h3:(x.k==3)=true:=h3
     have h6:(x.k==6)=false:=by have:=eq_of_beq h3;rw [this];rfl
     refine gW hE ?_;conv=>whnf
     refine Aa (fun _=>?_) (fun h=>absurd (h3.symm.trans h) (by decide))
     refine gW hE ?_;conv=>whnf
     refine .eff [] [1,2] _ _ rfl (aA.strip (nums_ok [x.n] (by simp) hn (by simp) _ (by simp;omega))) ?_
     refine gW hE ?_;conv=>whnf
     have il:=eH x [x.n] (by rw [h1,h2,h6];rfl)
     have hne:putN x.k.toNat++pl [x.n]≠[]:=by rw [il];exact pl_ne _ _
     refine .eff [] [1,2] _ _ rfl (str_ok _ hne _) ?_
     refine gW hE ?_;conv=>whnf
     rw [il]
    .have h3:(x.k==3)=false:=h3
     refine gW hE ?_;conv=>whnf
     refine Aa (fun h4=>?_) (fun h4=>?_)
     .have h4:(x.k==4)=true:=h4
      have h6:(x.k==6)=false:=by have:=eq_of_beq h4;rw [this];rfl
      refine gW hE ?_;conv=>whnf
      refine Aa (fun _=>?_) (fun h=>absurd (h4.symm.trans h) (by decide))
      refine gW hE ?_;conv=>whnf
      refine .eff [] [1,2] _ _ rfl (aA.strip (nums_ok [x.n] (by simp) hn (by simp) _ (by simp;omega))) ?_
      refine gW hE ?_;conv=>whnf
      have il:=eH x [x.n] (by rw [h1,h2,h6];rfl)
      have hne:putN x.k.toNat++pl [x.n]≠[]:=by rw [il];exact pl_ne _ _
      refine .eff [] [1,2] _ _ rfl (str_ok _ hne _) ?_
      refine gW hE ?_;conv=>whnf
      rw [il]
     .have h4:(x.k==4)=false:=h4
      refine gW hE ?_;conv=>whnf
      refine Aa (fun h5=>?_) (fun h5=>?_)
      .have h5:(x.k==5)=true:=h5
       have h6:(x.k==6)=false:=by have:=eq_of_beq h5;rw [this];rfl
       refine gW hE ?_;conv=>whnf
       refine .eff [] [1,2] _ _ rfl (aA.strip (nums_ok [x.n] (by simp) hn (by simp) _ (by simp;omega))) ?_
       refine gW hE ?_;conv=>whnf
       have il:=eH x [x.n] (by rw [h1,h2,h6];rfl)
       have hne:putN x.k.toNat++pl [x.n]≠[]:=by rw [il];exact pl_ne _ _
       refine .eff [] [1,2] _ _ rfl (str_ok _ hne _) ?_
       refine gW hE ?_;conv=>whnf
       rw [il]
      .have h5:(x.k==5)=false:=h5
       have h6:(x.k==6)=true:=by
              have:=T.k
              simp at h1 h2 h3 h4 h5⊢
              omega
       have il:=eH x [] (by rw [h1,h2,h6];rfl)
       rw [show putN x.k.toNat++pl []=putN x.k.toNat from Ay _] at il
       have hne:putN x.k.toNat≠[]:=by rw [il];exact pl_ne _ _
       refine gW hE ?_;conv=>whnf
       refine .eff [] [1,2] _ _ rfl (str_ok _ hne _) ?_
       refine gW hE ?_;conv=>whnf
       rw [il]
theorem SD {g:Gan} (h:g.ok=true):∀ n∈g.il,n<=9223372036854775807:=by
 obtain ⟨h1,h2,h3⟩:=gan_b h
 intro n hn
 have a1:=okI_b h1
 have a2:=GJ h2
 have a3:=okI_b h3
 have b1:=a1 g.id (by simp)
 have b2:=a1 g.ten (by simp)
 have b3:=a1 g.pods (by simp)
 have b4:=a3 g.run (by simp)
 have b5:=a3 g.lev (by simp)
 have b6:=a3 g.pref (by simp)
 simp only [Gan.il,Bh,Fs,or_false] at hn
 rcases hn with rfl | rfl | rfl | rfl | rfl | rfl | rfl | rfl | rfl<;>omega
theorem wD (g:Gan) (h:g.ok=true):aA Tryz.prog 72 [g.av] [] (.ret (.str (pl g.il))) []:=by
 obtain ⟨h1,h2,h3⟩:=gan_b h
 have hm:=SD h
 have b1:=pn_len (hm g.id (by simp [Gan.il]))
 have b2:=pn_len (hm g.ten (by simp [Gan.il]))
 have b3:=pn_len (hm g.pods (by simp [Gan.il]))
 have b4:=pn_len (hm g.run (by simp [Gan.il]))
 have b5:=pn_len (hm g.lev (by simp [Gan.il]))
 have b6:=pn_len (hm g.pref (by simp [Gan.il]))
 have b7:=pl_len (v3_m h2)
 simp only [V3.l,Ao,Bg] at b7
 refine cT (E:=E) (fn:=Tryz.f72) (g:=.pure _) fun _=>?_
 repeat' first | (refine gN hE ?_;conv=>whnf) | refine .pure _ [] (dO _) ?_ | refine .pure _ [] (qM g.need h2) ?_ | refine Aa (by simp only [Ag,V3.l];omega) ?_ | exact rfl | refine aY ?_ | refine aN ?_ | refine aT fun h=>?_ | refine aF fun h=>?_ | refine ⟨fun h=>?_,fun h=>?_⟩ | refine aJ ?_ | refine ⟨_,rfl,?_⟩ | refine aD ?_ | fail
 simp [pl,Gan.il,V3.l]
noncomputable abbrev XQ:Func:=Tryz.f62
theorem O5 (x:Cmd) (hh:((hav x.c.hs).length:Int)<=24) (hc:jY x.c.hs=true) (ht:okI [x.c.half,x.c.age]=true) (B:List UInt8):∀ (n i:Nat) (bs:List UInt8),i+n=x.c.hs.length->bs.length+60*n<=20000->bs++(pl (hosL (x.c.hs.drop i))++pl [x.c.half,x.c.age])=B->
  To E XQ (.pure (.ret (.str B))) (.head (stk XQ 1) [(1,.ref 0 0),(3,.str bs),(6,.int .i64 i)] [.cells 61 x.cs]):=by
 have hln:(hav x.c.hs).length=x.c.hs.length:=by simp
 have bh:=pn_len (n:=x.c.half) (by have:=okI_b ht x.c.half (by simp);omega)
 have ba:=pn_len (n:=x.c.age) (by have:=okI_b ht x.c.age (by simp);omega)
 intro n
 induction n with
 | zero=>
  intro i bs hi hbl hB
  rw [Af (by omega)] at hB
  have hB:bs++pl [x.c.half,x.c.age]=B:=hB
  subst hB
  refine gW hE ?_;conv=>whnf
  refine aF fun h=>?_
  repeat' first | (refine gN hE ?_;conv=>whnf) | refine .pure _ [] (dO _) ?_ | refine Aa (by simp only [Ag];omega) ?_ | exact rfl | refine aY ?_ | refine aN ?_ | refine aT fun h=>?_ | refine aF fun h=>?_ | refine ⟨fun h=>?_,fun h=>?_⟩ | refine aJ ?_ | refine ⟨_,rfl,?_⟩ | refine aD ?_ | fail
  simp [pl]
 | succ n ih=>
  intro i bs hi hbl hB
  have hlt:i<x.c.hs.length:=by omega
  rw [Ae hlt] at hB
  have hx1:=LC hc i hlt
  generalize hx:x.c.hs[i]=y at hB hx1
  have hB:bs++(pl (y.il++hosL (x.c.hs.drop (i+1)))++pl [x.c.half,x.c.age])=B:=hB
  obtain ⟨h1,h2⟩:=KJ hx1
  have l2:=pl_len (v3_m h2)
  have l3:=ih_len y hx1
  have a1:=okI_b h1
  have b1:=pn_len (n:=y.f) (by have:=a1 y.f (by simp);omega)
  have b2:=pn_len (n:=y.b) (by have:=a1 y.b (by simp);omega)
  have b3:=pn_len (n:=y.r) (by have:=a1 y.r (by simp);omega)
  simp only [V3.l,Ao,Bg] at l2
  have ex:pl y.il=putN y.f.toNat++putN y.b.toNat++putN y.r.toNat++pl y.c.l:=by simp [pl,Hos.il,V3.l]
  rw [pl_append,Aj,<-Aj,ex] at hB
  have get:(hav x.c.hs)[i]? =some y.av:=(lZ hlt).trans (by rw [hx])
  refine gW hE ?_;conv=>whnf
  refine aT fun h=>?_
  repeat' first | (refine gN hE ?_;conv=>whnf) | refine .pure _ [] (dO _) ?_ | refine .pure _ [] (qM y.c h2) ?_ | refine ⟨_,get,?_⟩ | refine Aa (by simp only [Ag,V3.l];omega) ?_ | exact rfl | refine aY ?_ | refine aN ?_ | refine aT fun h=>?_ | refine aF fun h=>?_ | refine ⟨fun h=>?_,fun h=>?_⟩ | refine aJ ?_ | refine ⟨_,rfl,?_⟩ | refine aD ?_ | fail
  refine To.cut [1,3,6] 1 rfl rfl rfl rfl ?_
  exact ih (i+1) _ (by omega) (by rw [<-ex];simp;omega) hB
theorem O4 (x:Cmd) (hn:((nav x.c.ns).length:Int)<=12) (hh:((hav x.c.hs).length:Int)<=24) (hcn:pB x.c.ns=true) (hc:jY x.c.hs=true) (ht:okI [x.c.half,x.c.age]=true) (B:List UInt8):∀ (n i:Nat) (bs:List UInt8),i+n=x.c.ns.length->bs.length+110*n<=10000->
  bs++(pl (nodL (x.c.ns.drop i))++(pl [((hav x.c.hs).length:Int)]++(pl (hosL x.c.hs)++pl [x.c.half,x.c.age])))=B->
  To E XQ (.pure (.ret (.str B))) (.head (stk XQ 0) [(1,.ref 0 0),(3,.str bs),(4,.int .i64 i)] [.cells 61 x.cs]):=by
 have hln:(nav x.c.ns).length=x.c.ns.length:=by simp
 have hlh:(hav x.c.hs).length=x.c.hs.length:=by simp
 intro n
 induction n with
 | zero=>
  intro i bs hi hbl hB
  rw [Af (by omega)] at hB
  have hB:bs++(pl [((hav x.c.hs).length:Int)]++(pl (hosL x.c.hs)++pl [x.c.half,x.c.age]))=B:=hB
  rw [<-Aj,show pl [((hav x.c.hs).length:Int)]=putN ((hav x.c.hs).length:Int).toNat from Ay _] at hB
  have b1:=pn_len (n:=((hav x.c.hs).length:Int)) (by omega)
  refine gW hE ?_;conv=>whnf
  refine aF fun h=>?_
  repeat' first | (refine gN hE ?_;conv=>whnf) | refine .pure _ [] (dO _) ?_ | refine Aa (by simp only [Ag];omega) ?_ | exact rfl | refine aY ?_ | refine aN ?_ | refine aT fun h=>?_ | refine aF fun h=>?_ | refine ⟨fun h=>?_,fun h=>?_⟩ | refine aJ ?_ | refine ⟨_,rfl,?_⟩ | refine aD ?_ | fail
  refine To.cut [1,3,6] 1 rfl rfl rfl rfl ?_
  exact O5 x hh hc ht B x.c.hs.length 0 _ (by omega) (by simp only [Ag];omega) hB
 | succ n ih=>
  intro i bs hi hbl hB
  have hlt:i<x.c.ns.length:=by omega
  rw [Ae hlt] at hB
  have hx1:=LB hcn i hlt
  generalize hx:x.c.ns[i]=y at hB hx1
  have hB:bs++(pl (y.il++nodL (x.c.ns.drop (i+1)))++_)=B:=hB
  obtain ⟨h1,h2,h3,h4,h5⟩:=J3 hx1
  have b1:=pn_len (n:=y.p+1) (by omega)
  have b2:=pn_len (n:=y.w) (by omega)
  have l2:=pl_len (v3_m h3)
  have l3:=pl_len (v3_m h4)
  have l4:=pl_len (v3_m h5)
  have l5:=il_len y hx1
  simp only [V3.l,Ao,Bg] at l2 l3 l4
  have ex:pl y.il=putN (y.p+1).toNat++putN y.w.toNat++pl y.n.l++pl y.b.l++pl y.l.l:=by simp [pl,Nod.il,V3.l]
  rw [pl_append,Aj,<-Aj,ex] at hB
  have get:(nav x.c.ns)[i]? =some y.av:=(eF hlt).trans (by rw [hx])
  refine gW hE ?_;conv=>whnf
  refine aT fun h=>?_
  repeat' first | (refine gN hE ?_;conv=>whnf) | refine .pure _ [] (dO _) ?_ | refine .pure _ [] (qM y.n h3) ?_ | refine .pure _ [] (qM y.b h4) ?_ | refine .pure _ [] (qM y.l h5) ?_ | refine ⟨_,get,?_⟩ | refine Aa (by simp only [Ag,V3.l];omega) ?_ | exact rfl | refine aY ?_ | refine aN ?_ | refine aT fun h=>?_ | refine aF fun h=>?_ | refine ⟨fun h=>?_,fun h=>?_⟩ | refine aJ ?_ | refine ⟨_,rfl,?_⟩ | refine aD ?_ | fail
  refine To.cut [1,3,4] 1 rfl rfl rfl rfl ?_
  exact ih (i+1) _ (by omega) (by rw [<-ex];simp;omega) hB
theorem iY (x:Cmd) (T:Told x):aA Tryz.prog 62 [x.av] [] (.ret (.str (pl x.il))) []:=by
 have hln:(nav x.c.ns).length=x.c.ns.length:=by simp
 have hk:x.k<=9223372036854775807:=by have:=T.k;omega
 have hp:=pn_len hk
 have b1:=pn_len (n:=((nav x.c.ns).length:Int)) (by have:=T.ln;omega)
 have b2:=pn_len (n:=x.n) (by have:=T.nok;omega)
 have b3:=pl_len (SD T.gok)
 simp only [Gan.il,Ao,Bg] at b3
 have hc:=T.cok
 simp only [Con.tok,Ad] at hc
 obtain ⟨⟨hc1,hc2⟩,hc3⟩:=hc
 refine cT (E:=E) (fn:=Tryz.f62) (g:=.pure _) fun _=>?_
 repeat' first | (refine gN hE ?_;conv=>whnf) | refine .pure _ [] (dO _) ?_ | refine .pure _ [] (wD x.g T.gok) ?_ | refine Aa (by simp only [Ag,Gan.il];omega) ?_ | exact rfl | refine aY ?_ | refine aN ?_ | refine aT fun h=>?_ | refine aF fun h=>?_ | refine ⟨fun h=>?_,fun h=>?_⟩ | refine aJ ?_ | refine ⟨_,rfl,?_⟩ | refine aD ?_ | fail
 .have h1:(x.k==1)=true:=h
  have il:=eH x x.c.il (by rw [h1];rfl)
  refine To.cut [1,3,4] 1 rfl rfl rfl rfl ?_
  exact O4 x T.ln T.lh hc1 hc2 hc3 _ x.c.ns.length 0 _ (by omega) (by have:=T.ln;simp only [Ag];omega) (by rw [<-il];simp only [Con.il,pl_append,Aj,Db];simp [pl])
 .rename_i h1
  have h1:(x.k==1)=false:=h1
  have h2:(x.k==2)=true:=h
  rw [<-eH x x.g.il (by rw [h1,h2];rfl)]
 .rename_i h1 h2
  have h1:(x.k==1)=false:=h1
  have h2:(x.k==2)=false:=h2
  have h6:(x.k==6)=true:=h
  rw [<-eH x [] (by rw [h1,h2,h6];rfl)]
  simp [pl]
 .rename_i h1 h2
  have h1:(x.k==1)=false:=h1
  have h2:(x.k==2)=false:=h2
  have h6:(x.k==6)=false:=h
  rw [<-eH x [x.n] (by rw [h1,h2,h6];rfl)]
  simp [pl]
theorem renc_ok (x:Cmd):aA Tryz.prog 69 [x.av] [] (.ret (.tup [.str (encB x),ii (chk x)])) []:=by
 refine cT (E:=E) (fn:=Tryz.f69) (g:=.pure _) fun _=>?_
 refine gW hE ?_;conv=>whnf
 refine .pure _ [] (gI x) ?_
 refine gW hE ?_;conv=>whnf
 refine ⟨fun h=>?_,fun h=>?_⟩
 .have h:(chk x !=0)=true:=h
  have h0:¬ chk x=0:=by simpa using h
  have e:encB x=[]:=if_neg h0
  rw [e]
  refine gW hE ?_;conv=>whnf
 .have h:(chk x !=0)=false:=h
  have h0:chk x=0:=by simpa using h
  have e:encB x=pl x.il:=if_pos h0
  rw [e,h0]
  refine gW hE ?_;conv=>whnf
  refine .pure _ [] (iY x (chk_told h0)) ?_
  refine gW hE ?_;conv=>whnf
theorem R5 (l:List UInt8):∀ (f i acc:Nat) (rest:List UInt8),i+f=9->rest=l.drop i->i<=l.length->acc<2 ^ (7*i)->
  To E Tryz.f105 (.pure (.ret (M3 (mD f i acc rest)))) (.head (stk Tryz.f105 0) [(0,.str l),(5,.int .i64 acc),(10,.int .i64 (min (l.length:Int) 9)),(11,.int .i64 i)] []):=by
 intro f
 induction f with
 | zero=>
  intro i acc rest hi hr hl ha
  refine gW hE ?_;conv=>whnf
  refine aF fun h=>?_
  refine gW hE ?_;conv=>whnf
  rfl
 | succ f ih=>
  intro i acc rest hi hr hl ha
  cases rest with
  | nil=>
   have hle:l.length<=i:=by simpa using hr.symm
   refine gW hE ?_;conv=>whnf
   refine aF fun h=>?_
   refine gW hE ?_;conv=>whnf
   rfl
  | cons c r=>
   have hc:l[i]? =some c:=by
    have:(l.drop i)[0]? =some c:=by rw [<-hr];rfl
    simpa using this
   have hil:i<l.length:=(Ab.1 hc).1
   have hr':r=l.drop (i+1):=by rw [<-Gx,<-hr];rfl
   have h5:2 ^ (7*(i+1))=128*2 ^ (7*i):=by rw [Fc,Fe];omega
   have h3:c.toNat % 128<=127:=by omega
   have h4:(c.toNat % 128)*2 ^ (7*i)<=127*2 ^ (7*i):=Bp _ h3
   have h6:2 ^ (7*(i+1))<=2 ^ 63:=Dm (by decide) (by omega)
   have hc2:c.toNat<256:=c.toNat_lt
   have e1:iC .and .u8 (c.toNat:Int) 127=((c.toNat % 128:Nat):Int):=by
    have:=NE .u8 c.toNat 127 (by simp only [bF];omega) (by decide)
    rw [show (127:Nat)=2 ^ 7-1 from rfl,YV] at this
    exact this
   have e2:(7*(i:Int)).toNat=7*i:=by omega
   have e3:((c.toNat % 128:Nat):Int)*2 ^ (7*i)=((c.toNat % 128*2 ^ (7*i):Nat):Int):=by simp
   have e4:iC .or .i64 (acc:Int) ((c.toNat % 128*2 ^ (7*i):Nat):Int)=((acc+c.toNat % 128*2 ^ (7*i):Nat):Int):=by
    rw [yK .i64 _ _ (by simp only [bF];omega) (by simp only [bF];omega),QS ha]
   refine gW hE ?_;conv=>whnf
   refine aT fun h=>?_
   refine gW hE ?_;conv=>whnf
   refine ⟨i,rfl,?_⟩
   refine gW hE ?_;conv=>whnf
   refine ⟨c,hc,?_⟩
   refine gW hE ?_;conv=>whnf
   refine .inl ⟨by rw [e1];exact eS (by simp only [bF];omega),?_⟩
   refine gW hE ?_;conv=>whnf
   refine Em (Aa (Aa (by simp only [cC];omega) (by simp only [bF];omega)) ?_)
   refine gW hE ?_;conv=>whnf
   refine ⟨by omega,?_⟩
   refine gW hE ?_;conv=>whnf
   refine .inl ⟨⟨by rw [e2];simp only [IntKind.bits];omega,by rw [e1,e2,e3];exact eS (by simp only [bF];omega)⟩,?_⟩
   refine gW hE ?_;conv=>whnf
   rw [e1,e2,e3,e4]
   refine ⟨fun h=>?_,fun h=>?_⟩
   .have hlt:c.toNat<128:=by have:=of_decide_eq_true h;omega
    have hd:¬ (c.toNat=0/\0<i)->mD (f+1) i acc (c::r)=some (acc+(c.toNat % 128)*2 ^ (7*i),i+1):=fun hz=>by
     rw [mD,if_pos hlt,if_neg hz]
    refine gW hE ?_;conv=>whnf
    refine Aa (fun hz=>?_) (fun hz=>?_)
    .have hz:c.toNat=0:=by
      have hz:((c.toNat:Int)==0)=true:=hz
      have:=eq_of_beq hz
      omega
     refine gW hE ?_;conv=>whnf
     refine Aa (fun h0=>?_) (fun h0=>?_)
     .have h0:0<i:=by have:=of_decide_eq_true h0;omega
      refine gW hE ?_;conv=>whnf
      rw [mD,if_pos hlt,if_pos ⟨hz,h0⟩]
      rfl
     .have h0:¬ 0<i:=by have:=of_decide_eq_false h0;omega
      rw [hd (by omega)]
      refine gW hE ?_;conv=>whnf
      refine Em (Aa (Aa (by simp only [cC];omega) (by simp only [bF];omega)) ?_)
      refine gW hE ?_;conv=>whnf
      rfl
    .have hz:¬ c.toNat=0:=by
      have hz:((c.toNat:Int)==0)=false:=hz
      intro e
      rw [e] at hz
      cases hz
     rw [hd (by omega)]
     refine gW hE ?_;conv=>whnf
     refine aN ?_
     refine gW hE ?_;conv=>whnf
     refine Em (Aa (Aa (by simp only [cC];omega) (by simp only [bF];omega)) ?_)
     refine gW hE ?_;conv=>whnf
     rfl
   .have hlt:¬ c.toNat<128:=by have:=of_decide_eq_false h;omega
    rw [mD,if_neg hlt]
    refine gW hE ?_;conv=>whnf
    refine Em (Aa (Aa (by simp only [cC];omega) (by simp only [bF];omega)) ?_)
    refine gW hE ?_;conv=>whnf
    refine To.head [0,5,10,11] ?_
    exact ih (i+1) (acc+(c.toNat % 128)*2 ^ (7*i)) r (by omega) hr' (by omega) (by omega)
theorem R4 (l:List UInt8):aA Tryz.prog 105 [.str l] [] (.ret (M3 (cH l))) []:=by
 refine cT (E:=E) (fn:=Tryz.f105) (g:=.pure _) fun _=>?_
 refine gW hE ?_;conv=>whnf
 refine To.head [0,5,10,11] ?_
 exact R5 l 9 0 0 l rfl rfl (Bm _) (by decide)
theorem L4 (l:List UInt8):∀ (f i acc:Nat) (rest:List UInt8),i+f=9->rest=l.drop i->i<=l.length->acc<2 ^ (7*i)->
  To E Tryz.f59 (.pure (.ret (M3 (mD f i acc rest)))) (.head (stk Tryz.f59 0) [(0,.str l),(5,.int .i64 acc),(6,.int .i64 i)] []):=by
 intro f
 induction f with
 | zero=>
  intro i acc rest hi hr hl ha
  refine gW hE ?_;conv=>whnf
  repeat' first | (refine gN hE ?_;conv=>whnf) | refine aF fun h=>?_ | exact rfl | refine aY ?_ | refine aN ?_ | refine aT fun h=>?_ | refine aF fun h=>?_ | refine ⟨fun h=>?_,fun h=>?_⟩ | refine Em (Aa (Aa (by simp only [cC];omega) (by simp only [bF];omega)) ?_) | refine ⟨_,rfl,?_⟩ | refine aD ?_ | fail
 | succ f ih=>
  intro i acc rest hi hr hl ha
  cases rest with
  | nil=>
   have hle:l.length<=i:=by simpa using hr.symm
   refine gW hE ?_;conv=>whnf
   refine aF fun h=>?_
   refine gW hE ?_;conv=>whnf
   refine aN ?_
   refine gW hE ?_;conv=>whnf
   rfl
  | cons c r=>
   have hc:l[i]? =some c:=by
    have:(l.drop i)[0]? =some c:=by rw [<-hr];rfl
    simpa using this
   have hil:i<l.length:=(Ab.1 hc).1
   have hr':r=l.drop (i+1):=by rw [<-Gx,<-hr];rfl
   have h5:2 ^ (7*(i+1))=128*2 ^ (7*i):=by rw [Fc,Fe];omega
   have h3:c.toNat % 128<=127:=by omega
   have h4:(c.toNat % 128)*2 ^ (7*i)<=127*2 ^ (7*i):=Bp _ h3
   have h6:2 ^ (7*(i+1))<=2 ^ 63:=Dm (by decide) (by omega)
   have hc2:c.toNat<256:=c.toNat_lt
   have e1:Int.tmod (c.toNat:Int) 128=((c.toNat % 128:Nat):Int):=by
    rw [Ik (by omega)]
    omega
   have e2:(7*(i:Int)).toNat=7*i:=by omega
   have e3:((c.toNat % 128:Nat):Int)*2 ^ (7*i)=((c.toNat % 128*2 ^ (7*i):Nat):Int):=by simp
   have e4:(acc:Int)+((c.toNat % 128*2 ^ (7*i):Nat):Int)=((acc+c.toNat % 128*2 ^ (7*i):Nat):Int):=by omega
   refine gW hE ?_;conv=>whnf
   refine aT fun h=>?_
   refine gW hE ?_;conv=>whnf
   refine aT fun h=>?_
   refine gW hE ?_;conv=>whnf
   refine ⟨i,rfl,?_⟩
   refine gW hE ?_;conv=>whnf
   refine ⟨c,hc,?_⟩
   refine gW hE ?_;conv=>whnf
   refine ⟨by decide,?_⟩
   refine gW hE ?_;conv=>whnf
   refine .inl ⟨by rw [e1];exact eS (by simp only [bF];omega),?_⟩
   refine gW hE ?_;conv=>whnf
   refine Em (Aa (Aa (by simp only [cC];omega) (by simp only [bF];omega)) ?_)
   refine gW hE ?_;conv=>whnf
   refine Em (Aa (Aa (by simp only [cC];omega) (by simp only [bF];omega)) ?_)
   refine gW hE ?_;conv=>whnf
   refine ⟨by omega,?_⟩
   refine gW hE ?_;conv=>whnf
   refine .inl ⟨⟨by rw [e2];simp only [IntKind.bits];omega,by rw [e1,e2,e3];exact eS (by simp only [bF];omega)⟩,?_⟩
   refine gW hE ?_;conv=>whnf
   refine .inl ⟨by rw [e1,e2,e3,e4];exact eS (by simp only [bF];omega),?_⟩
   refine gW hE ?_;conv=>whnf
   refine ⟨i,rfl,?_⟩
   refine gW hE ?_;conv=>whnf
   refine ⟨c,hc,?_⟩
   refine gW hE ?_;conv=>whnf
   rw [e1,e2,e3,e4]
   refine ⟨fun h=>?_,fun h=>?_⟩
   .have hlt:¬ c.toNat<128:=by have:=of_decide_eq_true h;omega
    rw [mD,if_neg hlt]
    refine gW hE ?_;conv=>whnf
    refine Em (Aa (Aa (by simp only [cC];omega) (by simp only [bF];omega)) ?_)
    refine gW hE ?_;conv=>whnf
    refine To.head [0,5,6] ?_
    exact ih (i+1) (acc+(c.toNat % 128)*2 ^ (7*i)) r (by omega) hr' (by omega) (by omega)
   .have hlt:c.toNat<128:=by have:=of_decide_eq_false h;omega
    have hd:¬ (c.toNat=0/\0<i)->mD (f+1) i acc (c::r)=some (acc+(c.toNat % 128)*2 ^ (7*i),i+1):=fun hz=>by
     rw [mD,if_pos hlt,if_neg hz]
    refine gW hE ?_;conv=>whnf
    refine ⟨i,rfl,?_⟩
    refine gW hE ?_;conv=>whnf
    refine ⟨c,hc,?_⟩
    refine gW hE ?_;conv=>whnf
    refine Aa (fun hz=>?_) (fun hz=>?_)
    .have hz:c.toNat=0:=by
      have hz:((c.toNat:Int)==0)=true:=hz
      have:=eq_of_beq hz
      omega
     refine gW hE ?_;conv=>whnf
     refine Aa (fun h0=>?_) (fun h0=>?_)
     .have h0:0<i:=by have:=of_decide_eq_true h0;omega
      refine gW hE ?_;conv=>whnf
      rw [mD,if_pos hlt,if_pos ⟨hz,h0⟩]
      rfl
     .have h0:¬ 0<i:=by have:=of_decide_eq_false h0;omega
      rw [hd (by omega)]
      refine gW hE ?_;conv=>whnf
      refine Em (Aa (Aa (by simp only [cC];omega) (by simp only [bF];omega)) ?_)
      refine gW hE ?_;conv=>whnf
      rfl
    .have hz:¬ c.toNat=0:=by
      have hz:((c.toNat:Int)==0)=false:=hz
      intro e
      rw [e] at hz
      cases hz
     rw [hd (by omega)]
     refine gW hE ?_;conv=>whnf
     refine aN ?_
     refine gW hE ?_;conv=>whnf
     refine Em (Aa (Aa (by simp only [cC];omega) (by simp only [bF];omega)) ?_)
     refine gW hE ?_;conv=>whnf
     rfl
theorem VJ (l:List UInt8):aA Tryz.prog 59 [.str l] [] (.ret (M3 (cH l))) []:=by
 refine cT (E:=E) (fn:=Tryz.f59) (g:=.pure _) fun _=>?_
 refine gW hE ?_;conv=>whnf
 refine To.head [0,5,6] ?_
 exact L4 l 9 0 0 l rfl rfl (Bm _) (by decide)
theorem aK {α:Type} {o:Option α} {C:Prop} (h0:o=none->C) (h1:∀ x,o=some x->C):C:=by
 cases o with
 | none=>exact h0 rfl
 | some x=>exact h1 x rfl
abbrev tRd:TypeId:=51
abbrev rdO (s:List UInt8):List AObj:=[.cells tRd [.str s]]
abbrev rdU:List AObj:=[.cells tRd [.undef]]
def bB (s:List UInt8):Option (Int×List UInt8):=match cH s with
 | some (n,k)=>some ((n:Int),s.drop k)
 | none=>none
def sH {α:Type} (av:α->AVal):Option (α×List UInt8)->Res
 | some (a,_)=>.ret (av a)
 | none=>.pan (aW 10)
def sN {α:Type}:Option (α×List UInt8)->List AObj
 | some (_,s)=>rdO s
 | none=>rdU
theorem bE {s s':List UInt8} {n:Int} (h:bB s=some (n,s')):aA Tryz.prog 56 [.ref 0 0] (rdO s) (.ret (ii n)) (rdO s'):=by
 unfold bB at h
 split at h
 .rename_i m k hg
  cases h
  have hc:=R4 s
  rw [hg] at hc
  have hb:=CJ hg
  refine cT (E:=E) (fn:=Tryz.f56) (g:=.full 1 _ _) fun _=>?_
  refine gW hE ?_;conv=>whnf
  refine .pure _ [] hc ?_
  refine gW hE ?_;conv=>whnf
  refine .pure _ [] (eG _ _ rfl) ?_
  refine gW hE ?_;conv=>whnf
  refine ⟨k,rfl,?_⟩
  refine gW hE ?_;conv=>whnf
  refine ⟨by omega,?_⟩
  refine gW hE ?_;conv=>whnf
  exact ⟨[],[0],⟨rfl,rfl⟩,rfl,rfl⟩
 .cases h
theorem bJ {s:List UInt8} (h:bB s=none):aA Tryz.prog 56 [.ref 0 0] (rdO s) (.pan (aW 10)) rdU:=by
 unfold bB at h
 split at h
 .cases h
 .rename_i hg
  have hc:=R4 s
  rw [hg] at hc
  refine aA.blur (obs':=rdO s) ?_
  refine cT (E:=E) (fn:=Tryz.f56) (g:=.full 1 _ _) fun _=>?_
  refine gW hE ?_;conv=>whnf
  refine .pure _ [] hc ?_
  refine gW hE ?_;conv=>whnf
  refine .pan _ (cO _ _ rfl) ?_
  exact ⟨[],[0],⟨rfl,rfl⟩,rfl,rfl⟩
def rCount (s:List UInt8):Option (Int×List UInt8):=match bB s with
 | some (n,s')=>if decide (n<=(s'.length:Int)) then some (n,s') else none
 | none=>none
theorem jO {s s':List UInt8} {n:Int} (h:rCount s=some (n,s')):aA Tryz.prog 54 [.ref 0 0] (rdO s) (.ret (ii n)) (rdO s'):=by
 unfold rCount at h
 split at h
 .rename_i m s2 hn
  split at h
  .rename_i hd
   cases h
   refine cT (E:=E) (fn:=Tryz.f54) (g:=.full 1 _ _) fun _=>?_
   refine gW hE ?_;conv=>whnf
   refine .eff [] [0] _ _ rfl (bE hn) ?_
   refine gW hE ?_;conv=>whnf
   refine .pure _ [] (eG _ _ hd) ?_
   refine gW hE ?_;conv=>whnf
   exact ⟨[],[0],⟨rfl,rfl⟩,rfl,rfl⟩
  .cases h
 .cases h
theorem gQ {s:List UInt8} (h:rCount s=none):aA Tryz.prog 54 [.ref 0 0] (rdO s) (.pan (aW 10)) rdU:=by
 unfold rCount at h
 split at h
 .rename_i m s2 hn
  split at h
  .cases h
  .rename_i hd
   refine aA.blur (obs':=rdO s2) ?_
   refine cT (E:=E) (fn:=Tryz.f54) (g:=.full 1 _ _) fun _=>?_
   refine gW hE ?_;conv=>whnf
   refine .eff [] [0] _ _ rfl (bE hn) ?_
   refine gW hE ?_;conv=>whnf
   refine .pan _ (cO _ _ (by simpa using hd)) ?_
   exact ⟨[],[0],⟨rfl,rfl⟩,rfl,rfl⟩
 .rename_i hn
  refine cT (E:=E) (fn:=Tryz.f54) (g:=.full 1 _ _) fun _=>?_
  refine gW hE ?_;conv=>whnf
  refine .effp [] [0] _ _ rfl (bJ hn) ?_
  exact ⟨[],[0],⟨rfl,rfl⟩,rfl,rfl⟩
def jC (s:List UInt8):Option (V3×List UInt8):=match bB s with
 | none=>none
 | some (a,s)=>match bB s with
  | none=>none
  | some (b,s)=>match bB s with
   | none=>none
   | some (c,s)=>some (⟨a,b,c⟩,s)
theorem I6 (s:List UInt8) (r:Res) (O:List AObj) (hr:sH (fun v:V3=>.agg v.cs) (jC s)=r) (ho:sN (jC s)=O):aA Tryz.prog 106 [.ref 0 0] (rdO s) r O:=by
 unfold jC at hr ho
 refine cT (E:=E) (fn:=Tryz.f106) (g:=.full 1 _ _) fun _=>?_
 refine gW hE ?_;conv=>whnf
 refine gW hE ?_;conv=>whnf
 refine aY ?_
 refine gW hE ?_;conv=>whnf
 refine aK (o:=bB s) (fun h1=>?_) (fun ⟨a,s1⟩ h1=>?_)
 .simp only [h1] at hr ho
  have hr:Res.pan (aW 10)=r:=hr
  have ho:rdU=O:=ho
  subst hr ho
  refine .effp [] [0] _ _ rfl (bJ h1) ?_
  exact ⟨[],[0],⟨rfl,rfl⟩,rfl,rfl⟩
 simp only [h1] at hr ho
 refine .eff [] [0] _ _ rfl (bE h1) ?_
 refine gW hE ?_;conv=>whnf
 refine ⟨⟨by decide,by decide⟩,?_⟩
 refine gW hE ?_;conv=>whnf
 refine aJ ?_
 refine gW hE ?_;conv=>whnf
 refine gW hE ?_;conv=>whnf
 refine aY ?_
 refine gW hE ?_;conv=>whnf
 refine aK (o:=bB s1) (fun h2=>?_) (fun ⟨b,s2⟩ h2=>?_)
 .simp only [h2] at hr ho
  have hr:Res.pan (aW 10)=r:=hr
  have ho:rdU=O:=ho
  subst hr ho
  refine .effp [] [0] _ _ rfl (bJ h2) ?_
  exact ⟨[],[0],⟨rfl,rfl⟩,rfl,rfl⟩
 simp only [h2] at hr ho
 refine .eff [] [0] _ _ rfl (bE h2) ?_
 refine gW hE ?_;conv=>whnf
 refine ⟨⟨by decide,by decide⟩,?_⟩
 refine gW hE ?_;conv=>whnf
 refine aJ ?_
 refine gW hE ?_;conv=>whnf
 refine gW hE ?_;conv=>whnf
 refine aY ?_
 refine gW hE ?_;conv=>whnf
 refine aK (o:=bB s2) (fun h3=>?_) (fun ⟨c,s3⟩ h3=>?_)
 .simp only [h3] at hr ho
  have hr:Res.pan (aW 10)=r:=hr
  have ho:rdU=O:=ho
  subst hr ho
  refine .effp [] [0] _ _ rfl (bJ h3) ?_
  exact ⟨[],[0],⟨rfl,rfl⟩,rfl,rfl⟩
 simp only [h3] at hr ho
 refine .eff [] [0] _ _ rfl (bE h3) ?_
 refine gW hE ?_;conv=>whnf
 refine ⟨⟨by decide,by decide⟩,?_⟩
 refine gW hE ?_;conv=>whnf
 refine aJ ?_
 refine gW hE ?_;conv=>whnf
 refine gW hE ?_;conv=>whnf
 refine aN ?_
 refine gW hE ?_;conv=>whnf
 subst hr ho
 refine ⟨[],[0],⟨rfl,rfl⟩,?_⟩
 exact ⟨rfl,rfl⟩
theorem qF {s s':List UInt8} {v:V3} (h:jC s=some (v,s')):aA Tryz.prog 106 [.ref 0 0] (rdO s) (.ret (.agg v.cs)) (rdO s'):=I6 s _ _ (by rw [h];rfl) (by rw [h];rfl)
theorem qG {s:List UInt8} (h:jC s=none):aA Tryz.prog 106 [.ref 0 0] (rdO s) (.pan (aW 10)) rdU:=I6 s _ _ (by rw [h];rfl) (by rw [h];rfl)
def rGan (s:List UInt8):Option (Gan×List UInt8):=match bB s with
 | none=>none
 | some (a,s)=>match bB s with
  | none=>none
  | some (b,s)=>match bB s with
   | none=>none
   | some (c,s)=>match jC s with
    | none=>none
    | some (v,s)=>match bB s with
         | none=>none
         | some (d,s)=>match bB s with
          | none=>none
          | some (e,s)=>match bB s with
           | none=>none
           | some (f,s)=>some (⟨a,b,c,v,d,e,f⟩,s)
theorem DR (s:List UInt8) (r:Res) (O:List AObj) (hr:sH Gan.av (rGan s)=r) (ho:sN (rGan s)=O):aA Tryz.prog 58 [.ref 0 0] (rdO s) r O:=by
 unfold rGan at hr ho
 refine cT (E:=E) (fn:=Tryz.f58) (g:=.full 1 _ _) fun _=>?_
 refine gW hE ?_;conv=>whnf
 refine aK (o:=bB s) (fun h1=>?_) (fun ⟨a,s1⟩ h1=>?_)
 .simp only [h1] at hr ho
  have hr:Res.pan (aW 10)=r:=hr
  have ho:rdU=O:=ho
  subst hr ho
  refine .effp [] [0] _ _ rfl (bJ h1) ?_
  exact ⟨[],[0],⟨rfl,rfl⟩,rfl,rfl⟩
 simp only [h1] at hr ho
 refine .eff [] [0] _ _ rfl (bE h1) ?_
 refine gW hE ?_;conv=>whnf
 refine aK (o:=bB s1) (fun h2=>?_) (fun ⟨b,s2⟩ h2=>?_)
 .simp only [h2] at hr ho
  have hr:Res.pan (aW 10)=r:=hr
  have ho:rdU=O:=ho
  subst hr ho
  refine .effp [] [0] _ _ rfl (bJ h2) ?_
  exact ⟨[],[0],⟨rfl,rfl⟩,rfl,rfl⟩
 simp only [h2] at hr ho
 refine .eff [] [0] _ _ rfl (bE h2) ?_
 refine gW hE ?_;conv=>whnf
 refine aK (o:=bB s2) (fun h3=>?_) (fun ⟨c,s3⟩ h3=>?_)
 .simp only [h3] at hr ho
  have hr:Res.pan (aW 10)=r:=hr
  have ho:rdU=O:=ho
  subst hr ho
  refine .effp [] [0] _ _ rfl (bJ h3) ?_
  exact ⟨[],[0],⟨rfl,rfl⟩,rfl,rfl⟩
 simp only [h3] at hr ho
 refine .eff [] [0] _ _ rfl (bE h3) ?_
 refine gW hE ?_;conv=>whnf
 refine aK (o:=jC s3) (fun h4=>?_) (fun ⟨v,s4⟩ h4=>?_)
 .simp only [h4] at hr ho
  have hr:Res.pan (aW 10)=r:=hr
  have ho:rdU=O:=ho
  subst hr ho
  refine .effp [] [0] _ _ rfl (qG h4) ?_
  exact ⟨[],[0],⟨rfl,rfl⟩,rfl,rfl⟩
 simp only [h4] at hr ho
 refine .eff [] [0] _ _ rfl (qF h4) ?_
 refine gW hE ?_;conv=>whnf
 refine aK (o:=bB s4) (fun h5=>?_) (fun ⟨d,s5⟩ h5=>?_)
 .simp only [h5] at hr ho
  have hr:Res.pan (aW 10)=r:=hr
  have ho:rdU=O:=ho
  subst hr ho
  refine .effp [] [0] _ _ rfl (bJ h5) ?_
  exact ⟨[],[0],⟨rfl,rfl⟩,rfl,rfl⟩
 simp only [h5] at hr ho
 refine .eff [] [0] _ _ rfl (bE h5) ?_
 refine gW hE ?_;conv=>whnf
 refine aK (o:=bB s5) (fun h6=>?_) (fun ⟨e,s6⟩ h6=>?_)
 .simp only [h6] at hr ho
  have hr:Res.pan (aW 10)=r:=hr
  have ho:rdU=O:=ho
  subst hr ho
  refine .effp [] [0] _ _ rfl (bJ h6) ?_
  exact ⟨[],[0],⟨rfl,rfl⟩,rfl,rfl⟩
 simp only [h6] at hr ho
 refine .eff [] [0] _ _ rfl (bE h6) ?_
 refine gW hE ?_;conv=>whnf
 refine aK (o:=bB s6) (fun h7=>?_) (fun ⟨f,s7⟩ h7=>?_)
 .simp only [h7] at hr ho
  have hr:Res.pan (aW 10)=r:=hr
  have ho:rdU=O:=ho
  subst hr ho
  refine .effp [] [0] _ _ rfl (bJ h7) ?_
  exact ⟨[],[0],⟨rfl,rfl⟩,rfl,rfl⟩
 simp only [h7] at hr ho
 refine .eff [] [0] _ _ rfl (bE h7) ?_
 refine gW hE ?_;conv=>whnf
 subst hr ho
 refine ⟨[],[0],⟨rfl,rfl⟩,?_⟩
 exact ⟨rfl,rfl⟩
theorem uW {s s':List UInt8} {v:Gan} (h:rGan s=some (v,s')):aA Tryz.prog 58 [.ref 0 0] (rdO s) (.ret v.av) (rdO s'):=DR s _ _ (by rw [h];rfl) (by rw [h];rfl)
theorem qN {s:List UInt8} (h:rGan s=none):aA Tryz.prog 58 [.ref 0 0] (rdO s) (.pan (aW 10)) rdU:=DR s _ _ (by rw [h];rfl) (by rw [h];rfl)
theorem rNum_b {s s':List UInt8} {n:Int} (h:bB s=some (n,s')):0<=n/\n<=9223372036854775807/\s'.length+1<=s.length:=by
 unfold bB at h
 split at h
 .rename_i m k hg
  cases h
  have:=CJ hg
  simp only [Dy]
  omega
 .cases h
theorem bQ {s s':List UInt8} {n:Int} (h:rCount s=some (n,s')):0<=n/\n<=9223372036854775807/\s'.length+1<=s.length/\n<=s'.length:=by
 unfold rCount at h
 split at h
 .rename_i m s2 hn
  split at h
  .rename_i hd
   cases h
   have:=rNum_b hn
   have:=of_decide_eq_true hd
   omega
  .cases h
 .cases h
theorem rVec_b {s s':List UInt8} {v:V3} (h:jC s=some (v,s')):s'.length+1<=s.length:=by
 unfold jC at h
 split at h
 .cases h
 .rename_i h1
  split at h
  .cases h
  .rename_i h2
   split at h
   .cases h
   .rename_i h3
    cases h
    have:=rNum_b h1
    have:=rNum_b h2
    have:=rNum_b h3
    omega
def D1 (s:List UInt8):Option (Nod×List UInt8):=match bB s with
 | none=>none
 | some (p,s)=>match bB s with
  | none=>none
  | some (w,s)=>match jC s with
   | none=>none
   | some (a,s)=>match jC s with
    | none=>none
    | some (b,s)=>match jC s with
         | none=>none
         | some (c,s)=>some (⟨p-1,w,a,b,c⟩,s)
def jW (s:List UInt8):Option (Hos×List UInt8):=match bB s with
 | none=>none
 | some (f,s)=>match bB s with
  | none=>none
  | some (b,s)=>match bB s with
   | none=>none
   | some (r,s)=>match jC s with
    | none=>none
    | some (c,s)=>some (⟨f,b,r,c⟩,s)
def MB (ns:List Nod) (hs:List Hos) (s:List UInt8):Option (Con×List UInt8):=match bB s with
 | none=>none
 | some (a,s)=>match bB s with
  | none=>none
  | some (b,s)=>some (⟨ns,hs,a,b⟩,s)
def rH (ns:List Nod):Nat->List Hos->List UInt8->Option (Con×List UInt8)
 | 0,hs,s=>MB ns hs s
 | m+1,hs,s=>match jW s with
  | none=>none
  | some (x,s)=>rH ns m (hs++[x]) s
def rHs (ns:List Nod) (s:List UInt8):Option (Con×List UInt8):=match rCount s with
 | none=>none
 | some (n,s)=>rH ns n.toNat [] s
def rN:Nat->List Nod->List UInt8->Option (Con×List UInt8)
 | 0,ns,s=>rHs ns s
 | m+1,ns,s=>match D1 s with
  | none=>none
  | some (x,s)=>rN m (ns++[x]) s
def qT (s:List UInt8):Option (Con×List UInt8):=match rCount s with
 | none=>none
 | some (n,s)=>rN n.toNat [] s
noncomputable abbrev fRc:Func:=Tryz.f104
theorem PW (ns:List Nod) (n:Int) (hn:n<=9223372036854775807) (r:Res) (O:List AObj):∀ (m i:Nat) (s:List UInt8) (hs:List Hos),(i+m:Int)=n->hs.length+s.length<=1000000000->sH Con.av (rH ns m hs s)=r->sN (rH ns m hs s)=O->
  To E fRc (.full 1 r O) (.head (stk fRc 1) [(0,.ref 0 0),(2,.ref 1 0),(32,.int .i64 n),(33,.int .i64 i)] [.cells tRd [.str s],.cells 26 [.slice 11 (nav ns) .no,.slice 6 (hav hs) (.own 2 0),ii 0,ii 0],.tail 0 6 99]):=by
 intro m
 induction m with
 | zero=>
  intro i s hs hi hl hr ho
  unfold rH MB at hr ho
  refine gW hE ?_;conv=>whnf
  refine aF fun h=>?_
  refine gW hE ?_;conv=>whnf
  refine aK (o:=bB s) (fun h1=>?_) (fun ⟨a,s1⟩ h1=>?_)
  .simp only [h1] at hr ho
   have hr:Res.pan (aW 10)=r:=hr
   have ho:rdU=O:=ho
   subst hr ho
   refine .effp [] [0] _ _ rfl (bJ h1) ?_
   exact ⟨[],[0],⟨rfl,rfl⟩,rfl,rfl⟩
  simp only [h1] at hr ho
  refine .eff [] [0] _ _ rfl (bE h1) ?_
  refine gW hE ?_;conv=>whnf
  refine aK (o:=bB s1) (fun h2=>?_) (fun ⟨b,s2⟩ h2=>?_)
  .simp only [h2] at hr ho
   have hr:Res.pan (aW 10)=r:=hr
   have ho:rdU=O:=ho
   subst hr ho
   refine .effp [] [0] _ _ rfl (bJ h2) ?_
   exact ⟨[],[0],⟨rfl,rfl⟩,rfl,rfl⟩
  simp only [h2] at hr ho
  refine .eff [] [0] _ _ rfl (bE h2) ?_
  refine gW hE ?_;conv=>whnf
  subst hr ho
  refine ⟨[],[0],⟨rfl,rfl⟩,?_⟩
  exact ⟨rfl,rfl⟩
 | succ m ih=>
  intro i s hs hi hl hr ho
  unfold rH jW at hr ho
  have hlen:(hav hs).length=hs.length:=by simp
  refine gW hE ?_;conv=>whnf
  refine aT fun h=>?_
  refine gW hE ?_;conv=>whnf
  refine aK (o:=bB s) (fun h1=>?_) (fun ⟨a,s1⟩ h1=>?_)
  .simp only [h1] at hr ho
   have hr:Res.pan (aW 10)=r:=hr
   have ho:rdU=O:=ho
   subst hr ho
   refine .effp [] [0] _ _ rfl (bJ h1) ?_
   exact ⟨[],[0],⟨rfl,rfl⟩,rfl,rfl⟩
  simp only [h1] at hr ho
  refine .eff [] [0] _ _ rfl (bE h1) ?_
  refine gW hE ?_;conv=>whnf
  refine aK (o:=bB s1) (fun h2=>?_) (fun ⟨b,s2⟩ h2=>?_)
  .simp only [h2] at hr ho
   have hr:Res.pan (aW 10)=r:=hr
   have ho:rdU=O:=ho
   subst hr ho
   refine .effp [] [0] _ _ rfl (bJ h2) ?_
   exact ⟨[],[0],⟨rfl,rfl⟩,rfl,rfl⟩
  simp only [h2] at hr ho
  refine .eff [] [0] _ _ rfl (bE h2) ?_
  refine gW hE ?_;conv=>whnf
  refine aK (o:=bB s2) (fun h3=>?_) (fun ⟨c,s3⟩ h3=>?_)
  .simp only [h3] at hr ho
   have hr:Res.pan (aW 10)=r:=hr
   have ho:rdU=O:=ho
   subst hr ho
   refine .effp [] [0] _ _ rfl (bJ h3) ?_
   exact ⟨[],[0],⟨rfl,rfl⟩,rfl,rfl⟩
  simp only [h3] at hr ho
  refine .eff [] [0] _ _ rfl (bE h3) ?_
  refine gW hE ?_;conv=>whnf
  refine aK (o:=jC s3) (fun h4=>?_) (fun ⟨v,s4⟩ h4=>?_)
  .simp only [h4] at hr ho
   have hr:Res.pan (aW 10)=r:=hr
   have ho:rdU=O:=ho
   subst hr ho
   refine .effp [] [0] _ _ rfl (qG h4) ?_
   exact ⟨[],[0],⟨rfl,rfl⟩,rfl,rfl⟩
  simp only [h4] at hr ho
  refine .eff [] [0] _ _ rfl (qF h4) ?_
  refine gW hE ?_;conv=>whnf
  have b1:=rNum_b h1
  have b2:=rNum_b h2
  have b3:=rNum_b h3
  have b4:=rVec_b h4
  refine Aa ⟨by simp only [maxLen];simp;omega,by simp;omega⟩ ?_
  refine gW hE ?_;conv=>whnf
  refine aJ ?_
  refine gW hE ?_;conv=>whnf
  refine To.part [0,2,32,33] [0,1,2] rfl rfl rfl ?_
  have next:=ih (i+1) s4 (hs++[⟨a,b,c,v⟩]) (by omega) (by simp;omega) hr ho
  have e:hav (hs++[⟨a,b,c,v⟩])=hav hs++[Hos.av ⟨a,b,c,v⟩]:=by simp
  rw [e] at next
  exact next
theorem PU (n:Int) (hn:n<=9223372036854775807) (r:Res) (O:List AObj):∀ (m i:Nat) (s:List UInt8) (ns:List Nod),(i+m:Int)=n->ns.length+s.length<=1000000000->sH Con.av (rN m ns s)=r->sN (rN m ns s)=O->
  To E fRc (.full 1 r O) (.head (stk fRc 0) [(0,.ref 0 0),(2,.ref 1 0),(6,.int .i64 n),(7,.int .i64 i)] [.cells tRd [.str s],.cells 26 [.slice 11 (nav ns) (.own 2 0),.slice 6 [] .nil,ii 0,ii 0],.tail 0 11 109]):=by
 intro m
 induction m with
 | zero=>
  intro i s ns hi hl hr ho
  unfold rN rHs at hr ho
  refine gW hE ?_;conv=>whnf
  refine aF fun h=>?_
  refine gW hE ?_;conv=>whnf
  refine aK (o:=rCount s) (fun h1=>?_) (fun ⟨k,s1⟩ h1=>?_)
  .simp only [h1] at hr ho
   have hr:Res.pan (aW 10)=r:=hr
   have ho:rdU=O:=ho
   subst hr ho
   refine .effp [] [0] _ _ rfl (gQ h1) ?_
   exact ⟨[],[0],⟨rfl,rfl⟩,rfl,rfl⟩
  simp only [h1] at hr ho
  refine .eff [] [0] _ _ rfl (jO h1) ?_
  refine gW hE ?_;conv=>whnf
  have b1:=bQ h1
  refine To.part [0,2,32,33] [0,1] rfl rfl rfl ?_
  refine To.begin 1 1 99 rfl rfl ?_
  exact PW ns k (by omega) r O k.toNat 0 s1 [] (by omega) (by simp;omega) hr ho
 | succ m ih=>
  intro i s ns hi hl hr ho
  unfold rN D1 at hr ho
  have hlen:(nav ns).length=ns.length:=by simp
  refine gW hE ?_;conv=>whnf
  refine aT fun h=>?_
  refine gW hE ?_;conv=>whnf
  refine aK (o:=bB s) (fun h1=>?_) (fun ⟨a,s1⟩ h1=>?_)
  .simp only [h1] at hr ho
   have hr:Res.pan (aW 10)=r:=hr
   have ho:rdU=O:=ho
   subst hr ho
   refine .effp [] [0] _ _ rfl (bJ h1) ?_
   exact ⟨[],[0],⟨rfl,rfl⟩,rfl,rfl⟩
  simp only [h1] at hr ho
  refine .eff [] [0] _ _ rfl (bE h1) ?_
  refine gW hE ?_;conv=>whnf
  have b1:=rNum_b h1
  refine aJ ?_
  refine gW hE ?_;conv=>whnf
  refine aK (o:=bB s1) (fun h2=>?_) (fun ⟨b,s2⟩ h2=>?_)
  .simp only [h2] at hr ho
   have hr:Res.pan (aW 10)=r:=hr
   have ho:rdU=O:=ho
   subst hr ho
   refine .effp [] [0] _ _ rfl (bJ h2) ?_
   exact ⟨[],[0],⟨rfl,rfl⟩,rfl,rfl⟩
  simp only [h2] at hr ho
  refine .eff [] [0] _ _ rfl (bE h2) ?_
  refine gW hE ?_;conv=>whnf
  refine aK (o:=jC s2) (fun h3=>?_) (fun ⟨c,s3⟩ h3=>?_)
  .simp only [h3] at hr ho
   have hr:Res.pan (aW 10)=r:=hr
   have ho:rdU=O:=ho
   subst hr ho
   refine .effp [] [0] _ _ rfl (qG h3) ?_
   exact ⟨[],[0],⟨rfl,rfl⟩,rfl,rfl⟩
  simp only [h3] at hr ho
  refine .eff [] [0] _ _ rfl (qF h3) ?_
  refine gW hE ?_;conv=>whnf
  refine aK (o:=jC s3) (fun h4=>?_) (fun ⟨d,s4⟩ h4=>?_)
  .simp only [h4] at hr ho
   have hr:Res.pan (aW 10)=r:=hr
   have ho:rdU=O:=ho
   subst hr ho
   refine .effp [] [0] _ _ rfl (qG h4) ?_
   exact ⟨[],[0],⟨rfl,rfl⟩,rfl,rfl⟩
  simp only [h4] at hr ho
  refine .eff [] [0] _ _ rfl (qF h4) ?_
  refine gW hE ?_;conv=>whnf
  refine aK (o:=jC s4) (fun h5=>?_) (fun ⟨e,s5⟩ h5=>?_)
  .simp only [h5] at hr ho
   have hr:Res.pan (aW 10)=r:=hr
   have ho:rdU=O:=ho
   subst hr ho
   refine .effp [] [0] _ _ rfl (qG h5) ?_
   exact ⟨[],[0],⟨rfl,rfl⟩,rfl,rfl⟩
  simp only [h5] at hr ho
  refine .eff [] [0] _ _ rfl (qF h5) ?_
  refine gW hE ?_;conv=>whnf
  have b2:=rNum_b h2
  have b3:=rVec_b h3
  have b4:=rVec_b h4
  have b5:=rVec_b h5
  refine Aa ⟨by simp only [maxLen];simp;omega,by simp;omega⟩ ?_
  refine gW hE ?_;conv=>whnf
  refine aJ ?_
  refine gW hE ?_;conv=>whnf
  refine To.part [0,2,6,7] [0,1,2] rfl rfl rfl ?_
  have next:=ih (i+1) s5 (ns++[⟨a-1,b,c,d,e⟩]) (by omega) (by simp;omega) hr ho
  have e:nav (ns++[⟨a-1,b,c,d,e⟩])=nav ns++[Nod.av ⟨a-1,b,c,d,e⟩]:=by simp
  rw [e] at next
  exact next
theorem DZ (s:List UInt8) (hs:s.length<=1000000000) (r:Res) (O:List AObj) (hr:sH Con.av (qT s)=r) (ho:sN (qT s)=O):aA Tryz.prog 104 [.ref 0 0] (rdO s) r O:=by
 unfold qT at hr ho
 refine cT (E:=E) (fn:=Tryz.f104) (g:=.full 1 _ _) fun _=>?_
 refine gW hE ?_;conv=>whnf
 refine aK (o:=rCount s) (fun h1=>?_) (fun ⟨k,s1⟩ h1=>?_)
 .simp only [h1] at hr ho
  have hr:Res.pan (aW 10)=r:=hr
  have ho:rdU=O:=ho
  subst hr ho
  refine .effp [] [0] _ _ rfl (gQ h1) ?_
  exact ⟨[],[0],⟨rfl,rfl⟩,rfl,rfl⟩
 simp only [h1] at hr ho
 refine .eff [] [0] _ _ rfl (jO h1) ?_
 refine gW hE ?_;conv=>whnf
 have b1:=bQ h1
 refine To.part [0,2,6,7] [0,1] rfl rfl rfl ?_
 refine To.begin 1 0 109 rfl rfl ?_
 exact PU k (by omega) r O k.toNat 0 s1 [] (by omega) (by simp;omega) hr ho
theorem VR {s s':List UInt8} (hs:s.length<=1000000000) {v:Con} (h:qT s=some (v,s')):aA Tryz.prog 104 [.ref 0 0] (rdO s) (.ret v.av) (rdO s'):=DZ s hs _ _ (by rw [h];rfl) (by rw [h];rfl)
theorem PT {s:List UInt8} (hs:s.length<=1000000000) (h:qT s=none):aA Tryz.prog 104 [.ref 0 0] (rdO s) (.pan (aW 10)) rdU:=DZ s hs _ _ (by rw [h];rfl) (by rw [h];rfl)
def _root_.Go.Proofs.YtmalnhgopkfdaaaGreat.Con.zero:Con:=⟨[],[],0,0⟩
def pT (s:List UInt8):Option (Cmd×List UInt8):=match bB s with
 | none=>none
 | some (k,s)=>if k==1 then (match qT s with
   | none=>none
   | some (c,s)=>some (⟨k,c,Gan.zero,0⟩,s))
  else if k==2 then (match rGan s with
   | none=>none
   | some (g,s)=>some (⟨k,Con.zero,g,0⟩,s))
  else if (k==3||k==4)||k==5 then (match bB s with
   | none=>none
   | some (n,s)=>some (⟨k,Con.zero,Gan.zero,n⟩,s))
  else some (⟨k,Con.zero,Gan.zero,0⟩,s)
abbrev zCs:List AVal:=[ii 0,.slice 11 [] .nil,.slice 6 [] .nil,ii 0,ii 0,ii 0,ii 0,ii 0,ii 0,ii 0,ii 0,ii 0,ii 0,ii 0,ii 0]
abbrev dcO (s:List UInt8):List AObj:=[.cells 61 zCs,.cells tRd [.str s],.cells 49 [.ref 1 0]]
abbrev dcX (x:Cmd) (s:List UInt8):List AObj:=[.cells 61 x.cs,.cells tRd [.str s],.cells 49 [.ref 1 0]]
abbrev dcU:List AObj:=pF (fun _=>.undef) (dcO [])
theorem YJ {s:List UInt8} (h:bB s=none):aA Tryz.prog 103 [.ref 2 0,.ref 0 0] (dcO s) (.pan (aW 10)) dcU:=by
 refine aA.blur (obs':=[.cells 61 zCs,.cells tRd [.undef],.cells 49 [.ref 1 0]]) ?_
 refine cT (E:=E) (fn:=Tryz.f103) (g:=.full 3 _ _) fun _=>?_
 refine gW hE ?_;conv=>whnf
 refine .effp [] [1] _ _ rfl (bJ h) ?_
 exact ⟨[],[0,1,2],⟨rfl,rfl⟩,rfl,rfl⟩
theorem aCf {s s1:List UInt8} (hs:s1.length<=1000000000) (h:bB s=some (1,s1)) (h2:qT s1=none):aA Tryz.prog 103 [.ref 2 0,.ref 0 0] (dcO s) (.pan (aW 10)) dcU:=by
 refine aA.blur (obs':=[.cells 61 (ii 1::zCs.tail),.cells tRd [.undef],.cells 49 [.ref 1 0]]) ?_
 refine cT (E:=E) (fn:=Tryz.f103) (g:=.full 3 _ _) fun _=>?_
 refine gW hE ?_;conv=>whnf
 refine .eff [] [1] _ _ rfl (bE h) ?_
 refine gW hE ?_;conv=>whnf
 refine aY ?_
 refine gW hE ?_;conv=>whnf
 refine .effp [] [1] _ _ rfl (PT hs h2) ?_
 exact ⟨[],[0,1,2],⟨rfl,rfl⟩,rfl,rfl⟩
theorem aCA {s s1 s2:List UInt8} {c:Con} (hs:s1.length<=1000000000) (h:bB s=some (1,s1)) (h2:qT s1=some (c,s2)):aA Tryz.prog 103 [.ref 2 0,.ref 0 0] (dcO s) (.ret (.tup [])) (dcX ⟨1,c,Gan.zero,0⟩ s2):=by
 refine cT (E:=E) (fn:=Tryz.f103) (g:=.full 3 _ _) fun _=>?_
 refine gW hE ?_;conv=>whnf
 refine .eff [] [1] _ _ rfl (bE h) ?_
 refine gW hE ?_;conv=>whnf
 refine aY ?_
 refine gW hE ?_;conv=>whnf
 refine .eff [] [1] _ _ rfl (VR hs h2) ?_
 refine gW hE ?_;conv=>whnf
 exact ⟨[],[0,1,2],⟨rfl,rfl⟩,rfl,rfl⟩
theorem aCe {s s1:List UInt8} (h:bB s=some (2,s1)) (h2:rGan s1=none):aA Tryz.prog 103 [.ref 2 0,.ref 0 0] (dcO s) (.pan (aW 10)) dcU:=by
 refine aA.blur (obs':=[.cells 61 (ii 2::zCs.tail),.cells tRd [.undef],.cells 49 [.ref 1 0]]) ?_
 refine cT (E:=E) (fn:=Tryz.f103) (g:=.full 3 _ _) fun _=>?_
 refine gW hE ?_;conv=>whnf
 refine .eff [] [1] _ _ rfl (bE h) ?_
 refine gW hE ?_;conv=>whnf
 refine aN ?_
 refine gW hE ?_;conv=>whnf
 refine aY ?_
 refine gW hE ?_;conv=>whnf
 refine .effp [] [1] _ _ rfl (qN h2) ?_
 exact ⟨[],[0,1,2],⟨rfl,rfl⟩,rfl,rfl⟩
theorem aCz {s s1 s2:List UInt8} {g:Gan} (h:bB s=some (2,s1)) (h2:rGan s1=some (g,s2)):aA Tryz.prog 103 [.ref 2 0,.ref 0 0] (dcO s) (.ret (.tup [])) (dcX ⟨2,Con.zero,g,0⟩ s2):=by
 refine aA.loose (obs':=[.cells 61 [ii 2,.slice 11 [] .nil,.slice 6 [] .nil,ii 0,ii 0,ii g.id,ii g.ten,ii g.pods,ii g.need.a,ii g.need.b,ii g.need.c,ii g.run,ii g.lev,ii g.pref,ii 0],.cells tRd [.str s2],.cells 49 [.ref 1 0]]) ?_
 refine cT (E:=E) (fn:=Tryz.f103) (g:=.full 3 _ _) fun _=>?_
 refine gW hE ?_;conv=>whnf
 refine .eff [] [1] _ _ rfl (bE h) ?_
 refine gW hE ?_;conv=>whnf
 refine aN ?_
 refine gW hE ?_;conv=>whnf
 refine aY ?_
 refine gW hE ?_;conv=>whnf
 refine .eff [] [1] _ _ rfl (uW h2) ?_
 refine gW hE ?_;conv=>whnf
 exact ⟨[],[0,1,2],⟨rfl,rfl⟩,rfl,rfl⟩
theorem aCd {s s1:List UInt8} {k:Int} (hk:k=3\/k=4\/k=5) (h:bB s=some (k,s1)) (h2:bB s1=none):aA Tryz.prog 103 [.ref 2 0,.ref 0 0] (dcO s) (.pan (aW 10)) dcU:=by
 rcases hk with rfl | rfl | rfl
 .refine aA.blur (obs':=[.cells 61 (ii 3::zCs.tail),.cells tRd [.undef],.cells 49 [.ref 1 0]]) ?_
  refine cT (E:=E) (fn:=Tryz.f103) (g:=.full 3 _ _) fun _=>?_
  refine gW hE ?_;conv=>whnf
  refine .eff [] [1] _ _ rfl (bE h) ?_
  refine gW hE ?_;conv=>whnf
  repeat' first | (refine gN hE ?_;conv=>whnf) | refine .effp [] [1] _ _ rfl (bJ h2) ?_ | exact rfl | refine aY ?_ | refine aN ?_ | refine aT fun h=>?_ | refine aF fun h=>?_ | refine ⟨fun h=>?_,fun h=>?_⟩ | refine aJ ?_ | refine ⟨_,rfl,?_⟩ | refine aD ?_ | fail
  exact ⟨[],[0,1,2],⟨rfl,rfl⟩,rfl,rfl⟩
 .refine aA.blur (obs':=[.cells 61 (ii 4::zCs.tail),.cells tRd [.undef],.cells 49 [.ref 1 0]]) ?_
  refine cT (E:=E) (fn:=Tryz.f103) (g:=.full 3 _ _) fun _=>?_
  refine gW hE ?_;conv=>whnf
  refine .eff [] [1] _ _ rfl (bE h) ?_
  refine gW hE ?_;conv=>whnf
  repeat' first | (refine gN hE ?_;conv=>whnf) | refine .effp [] [1] _ _ rfl (bJ h2) ?_ | exact rfl | refine aY ?_ | refine aN ?_ | refine aT fun h=>?_ | refine aF fun h=>?_ | refine ⟨fun h=>?_,fun h=>?_⟩ | refine aJ ?_ | refine ⟨_,rfl,?_⟩ | refine aD ?_ | fail
  exact ⟨[],[0,1,2],⟨rfl,rfl⟩,rfl,rfl⟩
 .refine aA.blur (obs':=[.cells 61 (ii 5::zCs.tail),.cells tRd [.undef],.cells 49 [.ref 1 0]]) ?_
  refine cT (E:=E) (fn:=Tryz.f103) (g:=.full 3 _ _) fun _=>?_
  refine gW hE ?_;conv=>whnf
  refine .eff [] [1] _ _ rfl (bE h) ?_
  refine gW hE ?_;conv=>whnf
  repeat' first | (refine gN hE ?_;conv=>whnf) | refine .effp [] [1] _ _ rfl (bJ h2) ?_ | exact rfl | refine aY ?_ | refine aN ?_ | refine aT fun h=>?_ | refine aF fun h=>?_ | refine ⟨fun h=>?_,fun h=>?_⟩ | refine aJ ?_ | refine ⟨_,rfl,?_⟩ | refine aD ?_ | fail
  exact ⟨[],[0,1,2],⟨rfl,rfl⟩,rfl,rfl⟩
abbrev nCs (k n:Int):List AVal:=[ii k,.slice 11 [] .nil,.slice 6 [] .nil,ii 0,ii 0,ii 0,ii 0,ii 0,ii 0,ii 0,ii 0,ii 0,ii 0,ii 0,ii n]
theorem aCy {s s1 s2:List UInt8} {k n:Int} (hk:k=3\/k=4\/k=5) (h:bB s=some (k,s1)) (h2:bB s1=some (n,s2)):aA Tryz.prog 103 [.ref 2 0,.ref 0 0] (dcO s) (.ret (.tup [])) (dcX ⟨k,Con.zero,Gan.zero,n⟩ s2):=by
 refine aA.loose (obs':=[.cells 61 (nCs k n),.cells tRd [.str s2],.cells 49 [.ref 1 0]]) ?_
 rcases hk with rfl | rfl | rfl
 .refine cT (E:=E) (fn:=Tryz.f103) (g:=.full 3 _ _) fun _=>?_
  refine gW hE ?_;conv=>whnf
  refine .eff [] [1] _ _ rfl (bE h) ?_
  refine gW hE ?_;conv=>whnf
  repeat' first | (refine gN hE ?_;conv=>whnf) | refine .eff [] [1] _ _ rfl (bE h2) ?_ | exact rfl | refine aY ?_ | refine aN ?_ | refine aT fun h=>?_ | refine aF fun h=>?_ | refine ⟨fun h=>?_,fun h=>?_⟩ | refine aJ ?_ | refine ⟨_,rfl,?_⟩ | refine aD ?_ | fail
  exact ⟨[],[0,1,2],⟨rfl,rfl⟩,rfl,rfl⟩
 .refine cT (E:=E) (fn:=Tryz.f103) (g:=.full 3 _ _) fun _=>?_
  refine gW hE ?_;conv=>whnf
  refine .eff [] [1] _ _ rfl (bE h) ?_
  refine gW hE ?_;conv=>whnf
  repeat' first | (refine gN hE ?_;conv=>whnf) | refine .eff [] [1] _ _ rfl (bE h2) ?_ | exact rfl | refine aY ?_ | refine aN ?_ | refine aT fun h=>?_ | refine aF fun h=>?_ | refine ⟨fun h=>?_,fun h=>?_⟩ | refine aJ ?_ | refine ⟨_,rfl,?_⟩ | refine aD ?_ | fail
  exact ⟨[],[0,1,2],⟨rfl,rfl⟩,rfl,rfl⟩
 .refine cT (E:=E) (fn:=Tryz.f103) (g:=.full 3 _ _) fun _=>?_
  refine gW hE ?_;conv=>whnf
  refine .eff [] [1] _ _ rfl (bE h) ?_
  refine gW hE ?_;conv=>whnf
  repeat' first | (refine gN hE ?_;conv=>whnf) | refine .eff [] [1] _ _ rfl (bE h2) ?_ | exact rfl | refine aY ?_ | refine aN ?_ | refine aT fun h=>?_ | refine aF fun h=>?_ | refine ⟨fun h=>?_,fun h=>?_⟩ | refine aJ ?_ | refine ⟨_,rfl,?_⟩ | refine aD ?_ | fail
  exact ⟨[],[0,1,2],⟨rfl,rfl⟩,rfl,rfl⟩
theorem aCx {s s1:List UInt8} {k:Int} (h1:(k==1)=false) (h2:(k==2)=false) (h3:(k==3)=false) (h4:(k==4)=false) (h5:(k==5)=false) (h:bB s=some (k,s1)):
  aA Tryz.prog 103 [.ref 2 0,.ref 0 0] (dcO s) (.ret (.tup [])) (dcX ⟨k,Con.zero,Gan.zero,0⟩ s1):=by
 refine aA.loose (obs':=[.cells 61 (nCs k 0),.cells tRd [.str s1],.cells 49 [.ref 1 0]]) ?_
 refine cT (E:=E) (fn:=Tryz.f103) (g:=.full 3 _ _) fun _=>?_
 refine gW hE ?_;conv=>whnf
 refine .eff [] [1] _ _ rfl (bE h) ?_
 refine gW hE ?_;conv=>whnf
 refine Aa (fun h=>absurd (h.symm.trans h1) (by decide)) (fun _=>?_)
 refine gW hE ?_;conv=>whnf
 refine Aa (fun h=>absurd (h.symm.trans h2) (by decide)) (fun _=>?_)
 refine gW hE ?_;conv=>whnf
 refine Aa (fun h=>absurd (h.symm.trans h3) (by decide)) (fun _=>?_)
 refine gW hE ?_;conv=>whnf
 refine Aa (fun h=>absurd (h.symm.trans h4) (by decide)) (fun _=>?_)
 refine gW hE ?_;conv=>whnf
 refine Aa (fun h=>absurd (h.symm.trans h5) (by decide)) (fun _=>?_)
 refine gW hE ?_;conv=>whnf
 exact ⟨[],[0,1,2],⟨rfl,rfl⟩,rfl,rfl⟩
theorem aCc {s s':List UInt8} {x:Cmd} (hs:s.length<=1000000000) (h:pT s=some (x,s')):aA Tryz.prog 103 [.ref 2 0,.ref 0 0] (dcO s) (.ret (.tup [])) (dcX x s'):=by
 unfold pT at h
 split at h
 .cases h
 .rename_i k s1 h1
  have hb:=rNum_b h1
  split at h
  .rename_i hk
   have hk:=eq_of_beq hk
   subst hk
   split at h
   .cases h
   .rename_i h2
    cases h
    exact aCA (by omega) h1 h2
  .rename_i hk1
   split at h
   .rename_i hk
    have hk:=eq_of_beq hk
    subst hk
    split at h
    .cases h
    .rename_i h2
     cases h
     exact aCz h1 h2
   .rename_i hk2
    split at h
    .rename_i hk
     simp at hk
     split at h
     .cases h
     .rename_i h2
      cases h
      exact aCy (by omega) h1 h2
    .rename_i hk3
     cases h
     simp only [Dg,not_or,Bool.not_eq_true] at hk1 hk2 hk3
     exact aCx hk1 hk2 hk3.1.1 hk3.1.2 hk3.2 h1
theorem aBe {s:List UInt8} (hs:s.length<=1000000000) (h:pT s=none):aA Tryz.prog 103 [.ref 2 0,.ref 0 0] (dcO s) (.pan (aW 10)) dcU:=by
 unfold pT at h
 split at h
 .rename_i h1
  exact YJ h1
 .rename_i k s1 h1
  have hb:=rNum_b h1
  split at h
  .rename_i hk
   have hk:=eq_of_beq hk
   subst hk
   split at h
   .rename_i h2
    exact aCf (by omega) h1 h2
   .cases h
  .split at h
   .rename_i hk
    have hk:=eq_of_beq hk
    subst hk
    split at h
    .rename_i h2
     exact aCe h1 h2
    .cases h
   .split at h
    .rename_i hk
     simp at hk
     split at h
     .rename_i h2
      exact aCd (by omega) h1 h2
     .cases h
    .cases h
abbrev d1V:AVal:=.func (.func 103) [] [.ref 2 0,.ref 0 0]
noncomputable abbrev Et:Env:=Ed [(53,[.ref 3 0])]
theorem hEt:EnvOK Et:=hEd _
theorem Z0 {s s':List UInt8} {x:Cmd} (hs:s.length<=1000000000) (h:pT s=some (x,s')):aA Tryz.prog 18 [d1V] (dcO s) (.ret (ii 0)) (dcX x s'):=by
 refine cT (E:=E) (fn:=Tryz.f18) (g:=.full 3 _ _) fun _=>?_
 refine gW hE ?_;conv=>whnf
 refine To.defer (f:=53) (args:=[.ref 3 0]) _ rfl rfl ?_
 refine gW hEt ?_;conv=>whnf
 refine .eff [] [0,1,2] _ _ rfl (aCc hs h) ?_
 refine gW hEt ?_;conv=>whnf
 refine To.leave (f:=53) (args:=[.ref 3 0]) [] rfl [] [3] rfl (catch_ret 0) ?_
 refine To.left hE rfl rfl ?_
 refine ⟨[],[0,1,2],⟨rfl,rfl⟩,?_⟩
 exact ⟨rfl,rfl⟩
theorem UV {s:List UInt8} (hs:s.length<=1000000000) (h:pT s=none):aA Tryz.prog 18 [d1V] (dcO s) (.ret (ii 10)) dcU:=by
 refine cT (E:=E) (fn:=Tryz.f18) (g:=.full 3 _ _) fun _=>?_
 refine gW hE ?_;conv=>whnf
 refine To.defer (f:=53) (args:=[.ref 3 0]) _ rfl rfl ?_
 refine gW hEt ?_;conv=>whnf
 refine .effp [] [0,1,2] _ _ rfl (aBe hs h) ?_;conv=>whnf
 refine To.leave (f:=53) (args:=[.ref 3 0]) [] rfl [] [3] rfl (catch_pan 0 10) ?_
 refine To.left hE rfl rfl ?_
 refine ⟨[],[0,1,2],⟨rfl,rfl⟩,?_⟩
 exact ⟨rfl,rfl⟩
def _root_.Go.Proofs.YtmalnhgopkfdaaaGreat.Cmd.zero:Cmd:=⟨0,Con.zero,Gan.zero,0⟩
def dec (s:List UInt8):Option Cmd:=match pT s with
 | some (x,r)=>if r=[]/\chk x=0 then some x else none
 | none=>none
def decX (s:List UInt8):Cmd:=(dec s).getD Cmd.zero
def decE (s:List UInt8):Int:=match dec s with | some _=>0 | none=>10
theorem decode_ok (s:List UInt8) (hs:s.length<=1000000000):aA Tryz.prog 55 [.str s] [] (.ret (.tup [(decX s).av,ii (decE s)])) []:=by
 refine cT (E:=E) (fn:=Tryz.f55) (g:=.pure _) fun _=>?_
 refine gW hE ?_;conv=>whnf
 refine aK (o:=pT s) (fun h=>?_) (fun ⟨x,r⟩ h=>?_)
 .have e1:decX s=Cmd.zero:=by unfold decX dec;rw [h];rfl
  have e2:decE s=10:=by unfold decE dec;rw [h]
  rw [e1,e2]
  refine .eff [] [1,2,3] _ _ rfl (UV hs h) ?_
  repeat' first | (refine gN hE ?_;conv=>whnf) | exact rfl | refine aY ?_ | refine aN ?_ | refine aT fun h=>?_ | refine aF fun h=>?_ | refine ⟨fun h=>?_,fun h=>?_⟩ | refine aJ ?_ | refine ⟨_,rfl,?_⟩ | refine aD ?_ | fail
 .refine .eff [] [1,2,3] _ _ rfl (Z0 hs h) ?_
  refine gW hE ?_;conv=>whnf
  refine aN ?_
  refine gW hE ?_;conv=>whnf
  refine Aa (fun hr=>?_) (fun hr=>?_)
  .have hr:(!(r==[]))=true:=hr
   have hr0:¬ r=[]:=by intro e;rw [e] at hr;simp at hr
   have e0:dec s=none:=by unfold dec;rw [h];exact if_neg (fun h=>hr0 h.1)
   have e1:decX s=Cmd.zero:=by unfold decX;rw [e0];rfl
   have e2:decE s=10:=by unfold decE;rw [e0]
   rw [e1,e2]
   repeat' first | (refine gN hE ?_;conv=>whnf) | exact rfl | refine aY ?_ | refine aN ?_ | refine aT fun h=>?_ | refine aF fun h=>?_ | refine ⟨fun h=>?_,fun h=>?_⟩ | refine aJ ?_ | refine ⟨_,rfl,?_⟩ | refine aD ?_ | fail
  .have hr:(!(r==[]))=false:=hr
   have hr0:r=[]:=by simpa using hr
   refine gW hE ?_;conv=>whnf
   refine .pure _ [] (check_ok x) ?_
   refine gW hE ?_;conv=>whnf
   refine Aa (fun hc=>?_) (fun hc=>?_)
   .have hc:(chk x !=0)=true:=hc
    have hc0:¬ chk x=0:=by simpa using hc
    have e0:dec s=none:=by unfold dec;rw [h];exact if_neg (fun h=>hc0 h.2)
    have e1:decX s=Cmd.zero:=by unfold decX;rw [e0];rfl
    have e2:decE s=10:=by unfold decE;rw [e0]
    rw [e1,e2]
    repeat' first | (refine gN hE ?_;conv=>whnf) | exact rfl | refine aY ?_ | refine aN ?_ | refine aT fun h=>?_ | refine aF fun h=>?_ | refine ⟨fun h=>?_,fun h=>?_⟩ | refine aJ ?_ | refine ⟨_,rfl,?_⟩ | refine aD ?_ | fail
   .have hc:(chk x !=0)=false:=hc
    have hc0:chk x=0:=by simpa using hc
    have e0:dec s=some x:=by unfold dec;rw [h];exact if_pos ⟨hr0,hc0⟩
    have e1:decX s=x:=by unfold decX;rw [e0];rfl
    have e2:decE s=0:=by unfold decE;rw [e0]
    rw [e1,e2]
    repeat' first | (refine gN hE ?_;conv=>whnf) | exact rfl | refine aY ?_ | refine aN ?_ | refine aT fun h=>?_ | refine aF fun h=>?_ | refine ⟨fun h=>?_,fun h=>?_⟩ | refine aJ ?_ | refine ⟨_,rfl,?_⟩ | refine aD ?_ | fail
structure PS where
 s:List UInt8
 b:Bool
abbrev pO (p:PS):List AObj:=[.cells 54 [.str p.s,.bool p.b]]
def pNum (p:PS):Int×PS:=match bB p.s with
 | none=>(0,⟨p.s,true⟩)
 | some (n,s)=>if p.b then (0,⟨p.s,true⟩) else (n,⟨s,false⟩)
theorem wW (p:PS):0<=(pNum p).1/\(pNum p).1<=9223372036854775807/\(pNum p).2.s.length<=p.s.length:=by
 unfold pNum
 split
 .simp
 .rename_i n s h
  have:=rNum_b h
  split
  .simp
  .dsimp only;omega
theorem MY {s s':List UInt8} {n:Int} (h:bB s=some (n,s')):∃ k:Nat,M3 (cH s)= .tup [ii n,ii k,ii 0]/\s'=s.drop k/\k<=s.length:=by
 unfold bB at h
 split at h
 .rename_i m k hg
  cases h
  rw [hg]
  have:=CJ hg
  exact ⟨k,rfl,rfl,by omega⟩
 .cases h
theorem MZ {s:List UInt8} (h:bB s=none):M3 (cH s)= .tup [ii 0,ii 0,ii 10]:=by
 unfold bB at h
 split at h
 .cases h
 .rename_i hg
  rw [hg];rfl
theorem aC {α β:Type} {o:α×β} {C:Prop} (h:∀ a b,o=(a,b)->C):C:=h o.1 o.2 rfl
theorem V0 (p:PS):aA Tryz.prog 21 [.ref 0 0] (pO p) (.ret (ii (pNum p).1)) (pO (pNum p).2):=by
 obtain ⟨s,b⟩:=p
 have hc:=VJ s
 refine aK (o:=bB s) (fun h=>?_) (fun ⟨n,s'⟩ h=>?_)
 .have e:pNum ⟨s,b⟩=(0,⟨s,true⟩):=by unfold pNum;rw [h]
  rw [e]
  rw [MZ h] at hc
  refine cT (E:=E) (fn:=Tryz.f21) (g:=.full 1 _ _) fun _=>?_
  refine gW hE ?_;conv=>whnf
  refine .pure _ [] hc ?_
  repeat' first | (refine gN hE ?_;conv=>whnf) | exact rfl | refine aY ?_ | refine aN ?_ | refine aT fun h=>?_ | refine aF fun h=>?_ | refine ⟨fun h=>?_,fun h=>?_⟩ | refine aJ ?_ | refine ⟨_,rfl,?_⟩ | refine aD ?_ | fail
  exact ⟨[],[0],⟨rfl,rfl⟩,rfl,rfl⟩
 .obtain ⟨k,e1,e2,e3⟩:=MY h
  rw [e1] at hc
  subst e2
  cases b with
  | true=>
   have e:pNum ⟨s,true⟩=(0,⟨s,true⟩):=by unfold pNum;rw [h];rfl
   rw [e]
   refine cT (E:=E) (fn:=Tryz.f21) (g:=.full 1 _ _) fun _=>?_
   refine gW hE ?_;conv=>whnf
   refine .pure _ [] hc ?_
   repeat' first | (refine gN hE ?_;conv=>whnf) | exact rfl | refine aY ?_ | refine aN ?_ | refine aT fun h=>?_ | refine aF fun h=>?_ | refine ⟨fun h=>?_,fun h=>?_⟩ | refine aJ ?_ | refine ⟨_,rfl,?_⟩ | refine aD ?_ | fail
   exact ⟨[],[0],⟨rfl,rfl⟩,rfl,rfl⟩
  | false=>
   have e:pNum ⟨s,false⟩=(n,⟨s.drop k,false⟩):=by unfold pNum;rw [h];rfl
   rw [e]
   refine cT (E:=E) (fn:=Tryz.f21) (g:=.full 1 _ _) fun _=>?_
   refine gW hE ?_;conv=>whnf
   refine .pure _ [] hc ?_
   repeat' first | (refine gN hE ?_;conv=>whnf) | exact rfl | refine aY ?_ | refine aN ?_ | refine aT fun h=>?_ | refine aF fun h=>?_ | refine ⟨fun h=>?_,fun h=>?_⟩ | refine aJ ?_ | refine ⟨_,rfl,?_⟩ | refine aD ?_ | fail
   exact ⟨[],[0],⟨rfl,rfl⟩,rfl,rfl⟩
theorem aG {p p':PS} {n:Int} (h:pNum p=(n,p')):aA Tryz.prog 21 [.ref 0 0] (pO p) (.ret (ii n)) (pO p'):=by
 have:=V0 p
 rw [h] at this
 exact this
def pVec (p:PS):V3×PS:=
 let a:=pNum p
 let b:=pNum a.2
 let c:=pNum b.2
 (⟨a.1,b.1,c.1⟩,c.2)
theorem qV {p:PS} {v:V3} {p':PS} (hr:pVec p=(v,p')):aA Tryz.prog 64 [.ref 0 0] (pO p) (.ret (.agg v.cs)) (pO p'):=by
 refine cT (E:=E) (fn:=Tryz.f64) (g:=.full 1 _ _) fun _=>?_
 refine gW hE ?_;conv=>whnf
 refine aC (o:=pNum p) (fun a p1 h1=>?_)
 refine .eff [] [0] _ _ rfl (aG h1) ?_
 refine gW hE ?_;conv=>whnf
 refine aC (o:=pNum p1) (fun b p2 h2=>?_)
 refine .eff [] [0] _ _ rfl (aG h2) ?_
 refine gW hE ?_;conv=>whnf
 refine aC (o:=pNum p2) (fun c p3 h3=>?_)
 refine .eff [] [0] _ _ rfl (aG h3) ?_
 refine gW hE ?_;conv=>whnf
 simp only [pVec,h1,h2,h3] at hr
 cases hr
 refine ⟨[],[0],⟨rfl,rfl⟩,?_⟩
 exact ⟨rfl,rfl⟩
def pGan (p:PS):Gan×PS:=
 let a:=pNum p
 let b:=pNum a.2
 let c:=pNum b.2
 let v:=pVec c.2
 let d:=pNum v.2
 let e:=pNum d.2
 let f:=pNum e.2
 (⟨a.1,b.1,c.1,v.1,d.1,e.1,f.1⟩,f.2)
theorem oM {p:PS} {v:Gan} {p':PS} (hr:pGan p=(v,p')):aA Tryz.prog 24 [.ref 0 0] (pO p) (.ret v.av) (pO p'):=by
 refine cT (E:=E) (fn:=Tryz.f24) (g:=.full 1 _ _) fun _=>?_
 refine gW hE ?_;conv=>whnf
 refine aC (o:=pNum p) (fun a p1 h1=>?_)
 refine .eff [] [0] _ _ rfl (aG h1) ?_
 refine gW hE ?_;conv=>whnf
 refine aC (o:=pNum p1) (fun b p2 h2=>?_)
 refine .eff [] [0] _ _ rfl (aG h2) ?_
 refine gW hE ?_;conv=>whnf
 refine aC (o:=pNum p2) (fun c p3 h3=>?_)
 refine .eff [] [0] _ _ rfl (aG h3) ?_
 refine gW hE ?_;conv=>whnf
 refine aC (o:=pVec p3) (fun v p4 h4=>?_)
 refine .eff [] [0] _ _ rfl (qV h4) ?_
 refine gW hE ?_;conv=>whnf
 refine aC (o:=pNum p4) (fun d p5 h5=>?_)
 refine .eff [] [0] _ _ rfl (aG h5) ?_
 refine gW hE ?_;conv=>whnf
 refine aC (o:=pNum p5) (fun e p6 h6=>?_)
 refine .eff [] [0] _ _ rfl (aG h6) ?_
 refine gW hE ?_;conv=>whnf
 refine aC (o:=pNum p6) (fun f p7 h7=>?_)
 refine .eff [] [0] _ _ rfl (aG h7) ?_
 refine gW hE ?_;conv=>whnf
 simp only [pGan,h1,h2,h3,h4,h5,h6,h7] at hr
 cases hr
 refine ⟨[],[0],⟨rfl,rfl⟩,?_⟩
 exact ⟨rfl,rfl⟩
def HH (p:PS):Nod×PS:=
 let a:=pNum p
 let b:=pNum a.2
 let u:=pVec b.2
 let v:=pVec u.2
 let w:=pVec v.2
 (⟨a.1-1,b.1,u.1,v.1,w.1⟩,w.2)
def HI (p:PS):Hos×PS:=
 let a:=pNum p
 let b:=pNum a.2
 let c:=pNum b.2
 let v:=pVec c.2
 (⟨a.1,b.1,c.1,v.1⟩,v.2)
def pN:Nat->Nat->Int->List Nod->PS->List Nod×PS
 | 0,_,_,ns,p=>(ns,p)
 | f+1,i,n,ns,p=>if decide ((i:Int)<n)&& !p.b then pN f (i+1) n (ns++[(HH p).1]) (HH p).2 else (ns,p)
def pH:Nat->Nat->Int->List Hos->PS->List Hos×PS
 | 0,_,_,hs,p=>(hs,p)
 | f+1,i,n,hs,p=>if decide ((i:Int)<n)&& !p.b then pH f (i+1) n (hs++[(HI p).1]) (HI p).2 else (hs,p)
def uO (ns:List Nod) (h:List Hos×PS):Con×PS:=(⟨ns,h.1,(pNum h.2).1,(pNum (pNum h.2).2).1⟩,(pNum (pNum h.2).2).2)
def mQ (n:List Nod×PS):Con×PS:=uO n.1 (pH 25 0 (pNum n.2).1 [] (pNum n.2).2)
def HJ (p:PS):Con×PS:=mQ (pN 13 0 (pNum p).1 [] (pNum p).2)
noncomputable abbrev fPc:Func:=Tryz.f60
theorem nN (ns:List Nod) (n:Int) (c:Con) (q:PS):∀ (f i:Nat) (hs:List Hos) (s:List UInt8) (b:Bool),i+f=25->hs.length<=i->uO ns (pH f i n hs ⟨s,b⟩)=(c,q)->
  To E fPc (.full 1 (.ret c.av) (pO q)) (.head (stk fPc 1) [(0,.ref 0 0),(2,.ref 1 0),(3,.ref 2 0),(4,.int .i64 n),(7,.int .i64 i)] [.cells 54 [.str s,.bool b],.cells 26 [.slice 11 [] .nil,.slice 6 [] .nil,ii 0,ii 0],.cells 26 [.slice 11 (nav ns) .no,.slice 6 (hav hs) (.own 3 0),ii 0,ii 0],.tail 0 6 99]):=by
 intro f
 induction f with
 | zero=>
  intro i hs s b hi hl hr
  unfold pH at hr
  refine gW hE ?_;conv=>whnf
  refine ⟨fun h=>?_,fun h=>?_⟩
  .cases b with
   | true=>
    repeat' first | (refine gN hE ?_;conv=>whnf) | exact rfl | refine aY ?_ | refine aN ?_ | refine aT fun h=>?_ | refine aF fun h=>?_ | refine ⟨fun h=>?_,fun h=>?_⟩ | refine aJ ?_ | refine ⟨_,rfl,?_⟩ | refine aD ?_ | fail
    refine aC (o:=pNum ⟨s,true⟩) (fun a p1 h1=>?_)
    refine .eff [] [0] _ _ rfl (aG h1) ?_
    refine gW hE ?_;conv=>whnf
    refine aC (o:=pNum p1) (fun b p2 h2=>?_)
    refine .eff [] [0] _ _ rfl (aG h2) ?_
    refine gW hE ?_;conv=>whnf
    simp only [uO,h1,h2] at hr
    cases hr
    refine ⟨[],[0],⟨rfl,rfl⟩,?_⟩
    exact ⟨rfl,rfl⟩
   | false=>
    refine gW hE ?_;conv=>whnf
    refine aY ?_
    refine gW hE ?_;conv=>whnf
    refine aF fun h=>?_
    refine gW hE ?_;conv=>whnf
    refine aC (o:=pNum ⟨s,false⟩) (fun a p1 h1=>?_)
    refine .eff [] [0] _ _ rfl (aG h1) ?_
    refine gW hE ?_;conv=>whnf
    refine aC (o:=pNum p1) (fun b p2 h2=>?_)
    refine .eff [] [0] _ _ rfl (aG h2) ?_
    refine gW hE ?_;conv=>whnf
    simp only [uO,h1,h2] at hr
    cases hr
    refine ⟨[],[0],⟨rfl,rfl⟩,?_⟩
    exact ⟨rfl,rfl⟩
  .repeat' first | (refine gN hE ?_;conv=>whnf) | exact rfl | refine aY ?_ | refine aN ?_ | refine aT fun h=>?_ | refine aF fun h=>?_ | refine ⟨fun h=>?_,fun h=>?_⟩ | refine aJ ?_ | refine ⟨_,rfl,?_⟩ | refine aD ?_ | fail
   refine aC (o:=pNum ⟨s,b⟩) (fun a p1 h1=>?_)
   refine .eff [] [0] _ _ rfl (aG h1) ?_
   refine gW hE ?_;conv=>whnf
   refine aC (o:=pNum p1) (fun b p2 h2=>?_)
   refine .eff [] [0] _ _ rfl (aG h2) ?_
   refine gW hE ?_;conv=>whnf
   simp only [uO,h1,h2] at hr
   cases hr
   refine ⟨[],[0],⟨rfl,rfl⟩,?_⟩
   exact ⟨rfl,rfl⟩
 | succ f ih=>
  intro i hs s b hi hl hr
  unfold pH at hr
  have hlen:(hav hs).length=hs.length:=by simp
  refine gW hE ?_;conv=>whnf
  refine ⟨fun h=>?_,fun h=>?_⟩
  .have h:decide ((i:Int)<n)=true:=h
   rw [h,Bt] at hr
   cases b with
   | true=>
    have hr:uO ns (hs,⟨s,true⟩)=(c,q):=hr
    repeat' first | (refine gN hE ?_;conv=>whnf) | exact rfl | refine aY ?_ | refine aN ?_ | refine aT fun h=>?_ | refine aF fun h=>?_ | refine ⟨fun h=>?_,fun h=>?_⟩ | refine aJ ?_ | refine ⟨_,rfl,?_⟩ | refine aD ?_ | fail
    refine aC (o:=pNum ⟨s,true⟩) (fun a p1 h1=>?_)
    refine .eff [] [0] _ _ rfl (aG h1) ?_
    refine gW hE ?_;conv=>whnf
    refine aC (o:=pNum p1) (fun b p2 h2=>?_)
    refine .eff [] [0] _ _ rfl (aG h2) ?_
    refine gW hE ?_;conv=>whnf
    simp only [uO,h1,h2] at hr
    cases hr
    refine ⟨[],[0],⟨rfl,rfl⟩,?_⟩
    exact ⟨rfl,rfl⟩
   | false=>
    have hr:uO ns (pH f (i+1) n (hs++[(HI ⟨s,false⟩).1]) (HI ⟨s,false⟩).2)=(c,q):=hr
    refine gW hE ?_;conv=>whnf
    refine aY ?_
    refine gW hE ?_;conv=>whnf
    refine Aa (fun _=>?_) (fun h=>absurd (of_decide_eq_false h) (by omega))
    refine gW hE ?_;conv=>whnf
    refine aC (o:=pNum ⟨s,false⟩) (fun a p1 h1=>?_)
    refine .eff [] [0] _ _ rfl (aG h1) ?_
    refine gW hE ?_;conv=>whnf
    refine aC (o:=pNum p1) (fun b p2 h2=>?_)
    refine .eff [] [0] _ _ rfl (aG h2) ?_
    refine gW hE ?_;conv=>whnf
    refine aC (o:=pNum p2) (fun d p3 h3=>?_)
    refine .eff [] [0] _ _ rfl (aG h3) ?_
    refine gW hE ?_;conv=>whnf
    refine aC (o:=pVec p3) (fun v p4 h4=>?_)
    refine .eff [] [0] _ _ rfl (qV h4) ?_
    refine gW hE ?_;conv=>whnf
    simp only [HI,h1,h2,h3,h4] at hr
    refine ⟨⟨by simp only [maxLen];simp;omega,by simp;omega⟩,?_⟩
    refine gW hE ?_;conv=>whnf
    refine aJ ?_
    refine gW hE ?_;conv=>whnf
    refine To.part [0,2,3,4,7] [0,1,2,3] rfl rfl rfl ?_
    have next:=ih (i+1) (hs++[⟨a,b,d,v⟩]) p4.s p4.b (by omega) (by simp;omega) hr
    have e:hav (hs++[⟨a,b,d,v⟩])=hav hs++[Hos.av ⟨a,b,d,v⟩]:=by simp
    rw [e] at next
    exact next
  .have h:decide ((i:Int)<n)=false:=h
   rw [h,Ce] at hr
   have hr:uO ns (hs,⟨s,b⟩)=(c,q):=hr
   repeat' first | (refine gN hE ?_;conv=>whnf) | exact rfl | refine aY ?_ | refine aN ?_ | refine aT fun h=>?_ | refine aF fun h=>?_ | refine ⟨fun h=>?_,fun h=>?_⟩ | refine aJ ?_ | refine ⟨_,rfl,?_⟩ | refine aD ?_ | fail
   refine aC (o:=pNum ⟨s,b⟩) (fun a p1 h1=>?_)
   refine .eff [] [0] _ _ rfl (aG h1) ?_
   refine gW hE ?_;conv=>whnf
   refine aC (o:=pNum p1) (fun b p2 h2=>?_)
   refine .eff [] [0] _ _ rfl (aG h2) ?_
   refine gW hE ?_;conv=>whnf
   simp only [uO,h1,h2] at hr
   cases hr
   refine ⟨[],[0],⟨rfl,rfl⟩,?_⟩
   exact ⟨rfl,rfl⟩
theorem QL (n:Int) (c:Con) (q:PS):∀ (f i:Nat) (ns:List Nod) (s:List UInt8) (b:Bool),i+f=13->ns.length<=i->mQ (pN f i n ns ⟨s,b⟩)=(c,q)->
  To E fPc (.full 1 (.ret c.av) (pO q)) (.head (stk fPc 0) [(0,.ref 0 0),(2,.ref 1 0),(3,.ref 2 0),(4,.int .i64 n),(5,.int .i64 i)] [.cells 54 [.str s,.bool b],.cells 26 [.slice 11 [] .nil,.slice 6 [] .nil,ii 0,ii 0],.cells 26 [.slice 11 (nav ns) (.own 3 0),.slice 6 [] .nil,ii 0,ii 0],.tail 0 11 109]):=by
 intro f
 induction f with
 | zero=>
  intro i ns s b hi hl hr
  unfold pN at hr
  refine gW hE ?_;conv=>whnf
  refine ⟨fun h=>?_,fun h=>?_⟩
  .cases b with
   | true=>
    repeat' first | (refine gN hE ?_;conv=>whnf) | exact rfl | refine aY ?_ | refine aN ?_ | refine aT fun h=>?_ | refine aF fun h=>?_ | refine ⟨fun h=>?_,fun h=>?_⟩ | refine aJ ?_ | refine ⟨_,rfl,?_⟩ | refine aD ?_ | fail
    refine aC (o:=pNum ⟨s,true⟩) (fun k p0 h0=>?_)
    refine .eff [] [0] _ _ rfl (aG h0) ?_
    refine gW hE ?_;conv=>whnf
    simp only [mQ,h0] at hr
    refine To.part [0,2,3,4,7] [0,1,2] rfl rfl rfl ?_
    refine To.begin 2 1 99 rfl rfl ?_
    exact nN ns k c q 25 0 [] p0.s p0.b rfl (by simp) hr
   | false=>
    refine gW hE ?_;conv=>whnf
    refine aY ?_
    refine gW hE ?_;conv=>whnf
    refine aF fun h=>?_
    refine gW hE ?_;conv=>whnf
    refine aC (o:=pNum ⟨s,false⟩) (fun k p0 h0=>?_)
    refine .eff [] [0] _ _ rfl (aG h0) ?_
    refine gW hE ?_;conv=>whnf
    simp only [mQ,h0] at hr
    refine To.part [0,2,3,4,7] [0,1,2] rfl rfl rfl ?_
    refine To.begin 2 1 99 rfl rfl ?_
    exact nN ns k c q 25 0 [] p0.s p0.b rfl (by simp) hr
  .repeat' first | (refine gN hE ?_;conv=>whnf) | exact rfl | refine aY ?_ | refine aN ?_ | refine aT fun h=>?_ | refine aF fun h=>?_ | refine ⟨fun h=>?_,fun h=>?_⟩ | refine aJ ?_ | refine ⟨_,rfl,?_⟩ | refine aD ?_ | fail
   refine aC (o:=pNum ⟨s,b⟩) (fun k p0 h0=>?_)
   refine .eff [] [0] _ _ rfl (aG h0) ?_
   refine gW hE ?_;conv=>whnf
   simp only [mQ,h0] at hr
   refine To.part [0,2,3,4,7] [0,1,2] rfl rfl rfl ?_
   refine To.begin 2 1 99 rfl rfl ?_
   exact nN ns k c q 25 0 [] p0.s p0.b rfl (by simp) hr
 | succ f ih=>
  intro i ns s b hi hl hr
  unfold pN at hr
  have hlen:(nav ns).length=ns.length:=by simp
  refine gW hE ?_;conv=>whnf
  refine ⟨fun h=>?_,fun h=>?_⟩
  .have h:decide ((i:Int)<n)=true:=h
   rw [h,Bt] at hr
   cases b with
   | true=>
    have hr:mQ (ns,⟨s,true⟩)=(c,q):=hr
    repeat' first | (refine gN hE ?_;conv=>whnf) | exact rfl | refine aY ?_ | refine aN ?_ | refine aT fun h=>?_ | refine aF fun h=>?_ | refine ⟨fun h=>?_,fun h=>?_⟩ | refine aJ ?_ | refine ⟨_,rfl,?_⟩ | refine aD ?_ | fail
    refine aC (o:=pNum ⟨s,true⟩) (fun k p0 h0=>?_)
    refine .eff [] [0] _ _ rfl (aG h0) ?_
    refine gW hE ?_;conv=>whnf
    simp only [mQ,h0] at hr
    refine To.part [0,2,3,4,7] [0,1,2] rfl rfl rfl ?_
    refine To.begin 2 1 99 rfl rfl ?_
    exact nN ns k c q 25 0 [] p0.s p0.b rfl (by simp) hr
   | false=>
    have hr:mQ (pN f (i+1) n (ns++[(HH ⟨s,false⟩).1]) (HH ⟨s,false⟩).2)=(c,q):=hr
    refine gW hE ?_;conv=>whnf
    refine aY ?_
    refine gW hE ?_;conv=>whnf
    refine Aa (fun _=>?_) (fun h=>absurd (of_decide_eq_false h) (by omega))
    refine gW hE ?_;conv=>whnf
    have b1:=wW ⟨s,false⟩
    refine aC (o:=pNum ⟨s,false⟩) (fun a p1 h1=>?_)
    refine .eff [] [0] _ _ rfl (aG h1) ?_
    refine gW hE ?_;conv=>whnf
    rw [h1] at b1
    have b1:0<=a/\a<=9223372036854775807/\_:=b1
    refine aJ ?_
    refine gW hE ?_;conv=>whnf
    refine aC (o:=pNum p1) (fun b p2 h2=>?_)
    refine .eff [] [0] _ _ rfl (aG h2) ?_
    refine gW hE ?_;conv=>whnf
    refine aC (o:=pVec p2) (fun u p3 h3=>?_)
    refine .eff [] [0] _ _ rfl (qV h3) ?_
    refine gW hE ?_;conv=>whnf
    refine aC (o:=pVec p3) (fun v p4 h4=>?_)
    refine .eff [] [0] _ _ rfl (qV h4) ?_
    refine gW hE ?_;conv=>whnf
    refine aC (o:=pVec p4) (fun w p5 h5=>?_)
    refine .eff [] [0] _ _ rfl (qV h5) ?_
    refine gW hE ?_;conv=>whnf
    simp only [HH,h1,h2,h3,h4,h5] at hr
    refine ⟨⟨by simp only [maxLen];simp;omega,by simp;omega⟩,?_⟩
    refine gW hE ?_;conv=>whnf
    refine aJ ?_
    refine gW hE ?_;conv=>whnf
    refine To.part [0,2,3,4,5] [0,1,2,3] rfl rfl rfl ?_
    have next:=ih (i+1) (ns++[⟨a-1,b,u,v,w⟩]) p5.s p5.b (by omega) (by simp;omega) hr
    have e:nav (ns++[⟨a-1,b,u,v,w⟩])=nav ns++[Nod.av ⟨a-1,b,u,v,w⟩]:=by simp
    rw [e] at next
    exact next
  .have h:decide ((i:Int)<n)=false:=h
   rw [h,Ce] at hr
   have hr:mQ (ns,⟨s,b⟩)=(c,q):=hr
   repeat' first | (refine gN hE ?_;conv=>whnf) | exact rfl | refine aY ?_ | refine aN ?_ | refine aT fun h=>?_ | refine aF fun h=>?_ | refine ⟨fun h=>?_,fun h=>?_⟩ | refine aJ ?_ | refine ⟨_,rfl,?_⟩ | refine aD ?_ | fail
   refine aC (o:=pNum ⟨s,b⟩) (fun k p0 h0=>?_)
   refine .eff [] [0] _ _ rfl (aG h0) ?_
   refine gW hE ?_;conv=>whnf
   simp only [mQ,h0] at hr
   refine To.part [0,2,3,4,7] [0,1,2] rfl rfl rfl ?_
   refine To.begin 2 1 99 rfl rfl ?_
   exact nN ns k c q 25 0 [] p0.s p0.b rfl (by simp) hr
theorem V4 {p:PS} {c:Con} {q:PS} (hr:HJ p=(c,q)):aA Tryz.prog 60 [.ref 0 0] (pO p) (.ret c.av) (pO q):=by
 refine cT (E:=E) (fn:=Tryz.f60) (g:=.full 1 _ _) fun _=>?_
 refine gW hE ?_;conv=>whnf
 refine aC (o:=pNum p) (fun k p1 h1=>?_)
 refine .eff [] [0] _ _ rfl (aG h1) ?_
 refine gW hE ?_;conv=>whnf
 simp only [HJ,h1] at hr
 refine To.part [0,2,3,4,5] [0,1,2] rfl rfl rfl ?_
 refine To.begin 2 0 109 rfl rfl ?_
 exact QL k c q 13 0 [] p1.s p1.b rfl (by simp) hr
def kW (p:PS):Cmd×PS:=
 let k:=pNum p
 if k.1==1 then (⟨k.1,(HJ k.2).1,Gan.zero,0⟩,(HJ k.2).2)
 else if k.1==2 then (⟨k.1,Con.zero,(pGan k.2).1,0⟩,(pGan k.2).2)
 else if (k.1==3||k.1==4)||k.1==5 then (⟨k.1,Con.zero,Gan.zero,(pNum k.2).1⟩,(pNum k.2).2)
 else (⟨k.1,Con.zero,Gan.zero,0⟩,k.2)
def wM (s:List UInt8):Option Cmd:=
 let x:=kW ⟨s,false⟩
 if x.2.b=false/\x.2.s=[]/\chk x.1=0/\pl x.1.il=s then some x.1 else none
def rdecX (s:List UInt8):Cmd:=(wM s).getD Cmd.zero
def rdecE (s:List UInt8):Int:=match wM s with | some _=>0 | none=>10
theorem iV {s:List UInt8} {x:Cmd} {q:PS} (h:kW ⟨s,false⟩=(x,q)) (h1:q.b=false) (h2:q.s=[]) (h3:chk x=0) (h4:pl x.il=s):rdecX s=x/\rdecE s=0:=by
 have:wM s=some x:=by unfold wM;simp only [h];exact if_pos ⟨h1,h2,h3,h4⟩
 unfold rdecX rdecE
 rw [this]
 exact ⟨rfl,rfl⟩
theorem bD {s:List UInt8} {x:Cmd} {q:PS} (h:kW ⟨s,false⟩=(x,q)) (h1:¬ (q.b=false/\q.s=[]/\chk x=0/\pl x.il=s)):rdecX s=Cmd.zero/\rdecE s=10:=by
 have:wM s=none:=by unfold wM;simp only [h];exact if_neg h1
 unfold rdecX rdecE
 rw [this]
 exact ⟨rfl,rfl⟩
noncomputable abbrev fRd:Func:=Tryz.f22
theorem PR (s:List UInt8) (R:Res) (hR:Res.ret (.tup [(rdecX s).av,ii (rdecE s)])=R):aA Tryz.prog 22 [.str s] [] R []:=by
 refine cT (E:=E) (fn:=Tryz.f22) (g:=.pure _) fun _=>?_
 refine gW hE ?_;conv=>whnf
 refine aC (o:=pNum ⟨s,false⟩) (fun k p1 hk=>?_)
 refine .eff [] [1] _ _ rfl (aG hk) ?_
 refine gW hE ?_;conv=>whnf
 refine Aa (fun k1=>?_) (fun k1=>?_)
 .have k1:(k==1)=true:=k1
  refine gW hE ?_;conv=>whnf
  refine aC (o:=HJ p1) (fun c p2 h2=>?_)
  have h:kW ⟨s,false⟩=(⟨k,c,Gan.zero,0⟩,p2):=by simp only [kW,hk,h2,k1,if_true]
  refine .eff [] [1] _ _ rfl (V4 h2) ?_
  obtain ⟨qs,qb⟩:=p2
  cases qb with
  | true=>
   have e:=bD h (fun hh=>absurd (show true=false from hh.1) (by decide))
   repeat' first | (refine gN hE ?_;conv=>whnf) | exact rfl | refine aY ?_ | refine aN ?_ | refine aT fun h=>?_ | refine aF fun h=>?_ | refine ⟨fun h=>?_,fun h=>?_⟩ | refine aJ ?_ | refine ⟨_,rfl,?_⟩ | refine aD ?_ | fail
   rw [<-hR,e.1,e.2]
   rfl
  | false=>
   refine gW hE ?_;conv=>whnf
   refine aN ?_
   refine gW hE ?_;conv=>whnf
   refine Aa (fun h1=>?_) (fun h1=>?_)
   .have h1:(!(qs==[]))=true:=h1
    have e:=bD h (fun hh=>by have e:qs=[]:=hh.2.1;rw [e] at h1;simp at h1)
    repeat' first | (refine gN hE ?_;conv=>whnf) | exact rfl | refine aY ?_ | refine aN ?_ | refine aT fun h=>?_ | refine aF fun h=>?_ | refine ⟨fun h=>?_,fun h=>?_⟩ | refine aJ ?_ | refine ⟨_,rfl,?_⟩ | refine aD ?_ | fail
    rw [<-hR,e.1,e.2]
    rfl
   .have h1:(!(qs==[]))=false:=h1
    have h1:qs=[]:=by simpa using h1
    refine gW hE ?_;conv=>whnf
    refine .pure _ [] (gI (⟨k,c,Gan.zero,0⟩:Cmd)) ?_
    refine gW hE ?_;conv=>whnf
    refine Aa (fun h2=>?_) (fun h2=>?_)
    .have h2:(chk (⟨k,c,Gan.zero,0⟩:Cmd) !=0)=true:=h2
     have e:=bD h (fun hh=>by have e:chk (⟨k,c,Gan.zero,0⟩:Cmd)=0:=hh.2.2.1;rw [e] at h2;simp at h2)
     repeat' first | (refine gN hE ?_;conv=>whnf) | exact rfl | refine aY ?_ | refine aN ?_ | refine aT fun h=>?_ | refine aF fun h=>?_ | refine ⟨fun h=>?_,fun h=>?_⟩ | refine aJ ?_ | refine ⟨_,rfl,?_⟩ | refine aD ?_ | fail
     rw [<-hR,e.1,e.2]
     rfl
    .have h2:(chk (⟨k,c,Gan.zero,0⟩:Cmd) !=0)=false:=h2
     have h2:chk (⟨k,c,Gan.zero,0⟩:Cmd)=0:=by simpa using h2
     refine gW hE ?_;conv=>whnf
     refine .pure _ [] (iY (⟨k,c,Gan.zero,0⟩:Cmd) (chk_told h2)) ?_
     refine gW hE ?_;conv=>whnf
     refine Aa (fun h3=>?_) (fun h3=>?_)
     .have h3:(!(pl (Cmd.il (⟨k,c,Gan.zero,0⟩:Cmd))==s))=true:=h3
      have e:=bD h (fun hh=>by have e:pl (Cmd.il (⟨k,c,Gan.zero,0⟩:Cmd))=s:=hh.2.2.2;rw [e] at h3;simp at h3)
      repeat' first | (refine gN hE ?_;conv=>whnf) | exact rfl | refine aY ?_ | refine aN ?_ | refine aT fun h=>?_ | refine aF fun h=>?_ | refine ⟨fun h=>?_,fun h=>?_⟩ | refine aJ ?_ | refine ⟨_,rfl,?_⟩ | refine aD ?_ | fail
      rw [<-hR,e.1,e.2]
      rfl
     .have h3:(!(pl (Cmd.il (⟨k,c,Gan.zero,0⟩:Cmd))==s))=false:=h3
      have h3:pl (Cmd.il (⟨k,c,Gan.zero,0⟩:Cmd))=s:=by simpa using h3
      obtain ⟨e1,e2⟩:=iV h rfl h1 h2 h3
      repeat' first | (refine gN hE ?_;conv=>whnf) | exact rfl | refine aY ?_ | refine aN ?_ | refine aT fun h=>?_ | refine aF fun h=>?_ | refine ⟨fun h=>?_,fun h=>?_⟩ | refine aJ ?_ | refine ⟨_,rfl,?_⟩ | refine aD ?_ | fail
      rw [<-hR,e1,e2]
      rfl
 .have k1:(k==1)=false:=k1
  refine gW hE ?_;conv=>whnf
  refine Aa (fun k2=>?_) (fun k2=>?_)
  .have k2:(k==2)=true:=k2
   refine gW hE ?_;conv=>whnf
   refine aC (o:=pGan p1) (fun g p2 h2=>?_)
   have h:kW ⟨s,false⟩=(⟨k,Con.zero,g,0⟩,p2):=by simp only [kW,hk,h2,k1,k2,Bq,if_false,if_true]
   refine .eff [] [1] _ _ rfl (oM h2) ?_
   obtain ⟨qs,qb⟩:=p2
   cases qb with
   | true=>
    have e:=bD h (fun hh=>absurd (show true=false from hh.1) (by decide))
    repeat' first | (refine gN hE ?_;conv=>whnf) | exact rfl | refine aY ?_ | refine aN ?_ | refine aT fun h=>?_ | refine aF fun h=>?_ | refine ⟨fun h=>?_,fun h=>?_⟩ | refine aJ ?_ | refine ⟨_,rfl,?_⟩ | refine aD ?_ | fail
    rw [<-hR,e.1,e.2]
    rfl
   | false=>
    refine gW hE ?_;conv=>whnf
    refine aN ?_
    refine gW hE ?_;conv=>whnf
    refine Aa (fun h1=>?_) (fun h1=>?_)
    .have h1:(!(qs==[]))=true:=h1
     have e:=bD h (fun hh=>by have e:qs=[]:=hh.2.1;rw [e] at h1;simp at h1)
     repeat' first | (refine gN hE ?_;conv=>whnf) | exact rfl | refine aY ?_ | refine aN ?_ | refine aT fun h=>?_ | refine aF fun h=>?_ | refine ⟨fun h=>?_,fun h=>?_⟩ | refine aJ ?_ | refine ⟨_,rfl,?_⟩ | refine aD ?_ | fail
     rw [<-hR,e.1,e.2]
     rfl
    .have h1:(!(qs==[]))=false:=h1
     have h1:qs=[]:=by simpa using h1
     refine gW hE ?_;conv=>whnf
     refine .pure _ [] (gI (⟨k,Con.zero,g,0⟩:Cmd)) ?_
     refine gW hE ?_;conv=>whnf
     refine Aa (fun h2=>?_) (fun h2=>?_)
     .have h2:(chk (⟨k,Con.zero,g,0⟩:Cmd) !=0)=true:=h2
      have e:=bD h (fun hh=>by have e:chk (⟨k,Con.zero,g,0⟩:Cmd)=0:=hh.2.2.1;rw [e] at h2;simp at h2)
      repeat' first | (refine gN hE ?_;conv=>whnf) | exact rfl | refine aY ?_ | refine aN ?_ | refine aT fun h=>?_ | refine aF fun h=>?_ | refine ⟨fun h=>?_,fun h=>?_⟩ | refine aJ ?_ | refine ⟨_,rfl,?_⟩ | refine aD ?_ | fail
      rw [<-hR,e.1,e.2]
      rfl
     .have h2:(chk (⟨k,Con.zero,g,0⟩:Cmd) !=0)=false:=h2
      have h2:chk (⟨k,Con.zero,g,0⟩:Cmd)=0:=by simpa using h2
      refine gW hE ?_;conv=>whnf
      refine .pure _ [] (iY (⟨k,Con.zero,g,0⟩:Cmd) (chk_told h2)) ?_
      refine gW hE ?_;conv=>whnf
      refine Aa (fun h3=>?_) (fun h3=>?_)
      .have h3:(!(pl (Cmd.il (⟨k,Con.zero,g,0⟩:Cmd))==s))=true:=h3
       have e:=bD h (fun hh=>by have e:pl (Cmd.il (⟨k,Con.zero,g,0⟩:Cmd))=s:=hh.2.2.2;rw [e] at h3;simp at h3)
       repeat' first | (refine gN hE ?_;conv=>whnf) | exact rfl | refine aY ?_ | refine aN ?_ | refine aT fun h=>?_ | refine aF fun h=>?_ | refine ⟨fun h=>?_,fun h=>?_⟩ | refine aJ ?_ | refine ⟨_,rfl,?_⟩ | refine aD ?_ | fail
       rw [<-hR,e.1,e.2]
       rfl
      .have h3:(!(pl (Cmd.il (⟨k,Con.zero,g,0⟩:Cmd))==s))=false:=h3
       have h3:pl (Cmd.il (⟨k,Con.zero,g,0⟩:Cmd))=s:=by simpa using h3
       obtain ⟨e1,e2⟩:=iV h rfl h1 h2 h3
       repeat' first | (refine gN hE ?_;conv=>whnf) | exact rfl | refine aY ?_ | refine aN ?_ | refine aT fun h=>?_ | refine aF fun h=>?_ | refine ⟨fun h=>?_,fun h=>?_⟩ | refine aJ ?_ | refine ⟨_,rfl,?_⟩ | refine aD ?_ | fail
       rw [<-hR,e1,e2]
       rfl
  .have k2:(k==2)=false:=k2
   refine gW hE ?_;conv=>whnf
   refine Aa (fun e3=>?_) (fun e3=>?_)
   .have e3:(k==3)=true:=e3
    have k3:((k==3||k==4)||k==5)=true:=by rw [e3];rfl
    refine gW hE ?_;conv=>whnf
    refine Aa (fun _=>?_) (fun h=>absurd (e3.symm.trans h) (by decide))
    refine gW hE ?_;conv=>whnf
    refine aC (o:=pNum p1) (fun n p2 h2=>?_)
    have h:kW ⟨s,false⟩=(⟨k,Con.zero,Gan.zero,n⟩,p2):=by simp only [kW,hk,h2,k1,k2,k3,Bq,if_false,if_true]
    refine .eff [] [1] _ _ rfl (aG h2) ?_
    obtain ⟨qs,qb⟩:=p2
    cases qb with
    | true=>
     have e:=bD h (fun hh=>absurd (show true=false from hh.1) (by decide))
     repeat' first | (refine gN hE ?_;conv=>whnf) | exact rfl | refine aY ?_ | refine aN ?_ | refine aT fun h=>?_ | refine aF fun h=>?_ | refine ⟨fun h=>?_,fun h=>?_⟩ | refine aJ ?_ | refine ⟨_,rfl,?_⟩ | refine aD ?_ | fail
     rw [<-hR,e.1,e.2]
     rfl
    | false=>
     refine gW hE ?_;conv=>whnf
     refine aN ?_
     refine gW hE ?_;conv=>whnf
     refine Aa (fun h1=>?_) (fun h1=>?_)
     .have h1:(!(qs==[]))=true:=h1
      have e:=bD h (fun hh=>by have e:qs=[]:=hh.2.1;rw [e] at h1;simp at h1)
      repeat' first | (refine gN hE ?_;conv=>whnf) | exact rfl | refine aY ?_ | refine aN ?_ | refine aT fun h=>?_ | refine aF fun h=>?_ | refine ⟨fun h=>?_,fun h=>?_⟩ | refine aJ ?_ | refine ⟨_,rfl,?_⟩ | refine aD ?_ | fail
      rw [<-hR,e.1,e.2]
      rfl
     .have h1:(!(qs==[]))=false:=h1
      have h1:qs=[]:=by simpa using h1
      refine gW hE ?_;conv=>whnf
      refine .pure _ [] (gI (⟨k,Con.zero,Gan.zero,n⟩:Cmd)) ?_
      refine gW hE ?_;conv=>whnf
      refine Aa (fun h2=>?_) (fun h2=>?_)
      .have h2:(chk (⟨k,Con.zero,Gan.zero,n⟩:Cmd) !=0)=true:=h2
       have e:=bD h (fun hh=>by have e:chk (⟨k,Con.zero,Gan.zero,n⟩:Cmd)=0:=hh.2.2.1;rw [e] at h2;simp at h2)
       repeat' first | (refine gN hE ?_;conv=>whnf) | exact rfl | refine aY ?_ | refine aN ?_ | refine aT fun h=>?_ | refine aF fun h=>?_ | refine ⟨fun h=>?_,fun h=>?_⟩ | refine aJ ?_ | refine ⟨_,rfl,?_⟩ | refine aD ?_ | fail
       rw [<-hR,e.1,e.2]
       rfl
      .have h2:(chk (⟨k,Con.zero,Gan.zero,n⟩:Cmd) !=0)=false:=h2
       have h2:chk (⟨k,Con.zero,Gan.zero,n⟩:Cmd)=0:=by simpa using h2
       refine gW hE ?_;conv=>whnf
       refine .pure _ [] (iY (⟨k,Con.zero,Gan.zero,n⟩:Cmd) (chk_told h2)) ?_
       refine gW hE ?_;conv=>whnf
       refine Aa (fun h3=>?_) (fun h3=>?_)
       .have h3:(!(pl (Cmd.il (⟨k,Con.zero,Gan.zero,n⟩:Cmd))==s))=true:=h3
        have e:=bD h (fun hh=>by have e:pl (Cmd.il (⟨k,Con.zero,Gan.zero,n⟩:Cmd))=s:=hh.2.2.2;rw [e] at h3;simp at h3)
        repeat' first | (refine gN hE ?_;conv=>whnf) | exact rfl | refine aY ?_ | refine aN ?_ | refine aT fun h=>?_ | refine aF fun h=>?_ | refine ⟨fun h=>?_,fun h=>?_⟩ | refine aJ ?_ | refine ⟨_,rfl,?_⟩ | refine aD ?_ | fail
        rw [<-hR,e.1,e.2]
        rfl
       .have h3:(!(pl (Cmd.il (⟨k,Con.zero,Gan.zero,n⟩:Cmd))==s))=false:=h3
        have h3:pl (Cmd.il (⟨k,Con.zero,Gan.zero,n⟩:Cmd))=s:=by simpa using h3
        obtain ⟨e1,e2⟩:=iV h rfl h1 h2 h3
        repeat' first | (refine gN hE ?_;conv=>whnf) | exact rfl | refine aY ?_ | refine aN ?_ | refine aT fun h=>?_ | refine aF fun h=>?_ | refine ⟨fun h=>?_,fun h=>?_⟩ | refine aJ ?_ | refine ⟨_,rfl,?_⟩ | refine aD ?_ | fail
        rw [<-hR,e1,e2]
        rfl
   .have e3:(k==3)=false:=e3
    refine gW hE ?_;conv=>whnf
    refine Aa (fun e4=>?_) (fun e4=>?_)
    .have e4:(k==4)=true:=e4
     have k3:((k==3||k==4)||k==5)=true:=by rw [e3,e4];rfl
     refine gW hE ?_;conv=>whnf
     refine Aa (fun _=>?_) (fun h=>absurd (e4.symm.trans h) (by decide))
     refine gW hE ?_;conv=>whnf
     refine aC (o:=pNum p1) (fun n p2 h2=>?_)
     have h:kW ⟨s,false⟩=(⟨k,Con.zero,Gan.zero,n⟩,p2):=by simp only [kW,hk,h2,k1,k2,k3,Bq,if_false,if_true]
     refine .eff [] [1] _ _ rfl (aG h2) ?_
     obtain ⟨qs,qb⟩:=p2
     cases qb with
     | true=>
      have e:=bD h (fun hh=>absurd (show true=false from hh.1) (by decide))
      repeat' first | (refine gN hE ?_;conv=>whnf) | exact rfl | refine aY ?_ | refine aN ?_ | refine aT fun h=>?_ | refine aF fun h=>?_ | refine ⟨fun h=>?_,fun h=>?_⟩ | refine aJ ?_ | refine ⟨_,rfl,?_⟩ | refine aD ?_ | fail
      rw [<-hR,e.1,e.2]
      rfl
     | false=>
      refine gW hE ?_;conv=>whnf
      refine aN ?_
      refine gW hE ?_;conv=>whnf
      refine Aa (fun h1=>?_) (fun h1=>?_)
      .have h1:(!(qs==[]))=true:=h1
       have e:=bD h (fun hh=>by have e:qs=[]:=hh.2.1;rw [e] at h1;simp at h1)
       repeat' first | (refine gN hE ?_;conv=>whnf) | exact rfl | refine aY ?_ | refine aN ?_ | refine aT fun h=>?_ | refine aF fun h=>?_ | refine ⟨fun h=>?_,fun h=>?_⟩ | refine aJ ?_ | refine ⟨_,rfl,?_⟩ | refine aD ?_ | fail
       rw [<-hR,e.1,e.2]
       rfl
      .have h1:(!(qs==[]))=false:=h1
       have h1:qs=[]:=by simpa using h1
       refine gW hE ?_;conv=>whnf
       refine .pure _ [] (gI (⟨k,Con.zero,Gan.zero,n⟩:Cmd)) ?_
       refine gW hE ?_;conv=>whnf
       refine Aa (fun h2=>?_) (fun h2=>?_)
       .have h2:(chk (⟨k,Con.zero,Gan.zero,n⟩:Cmd) !=0)=true:=h2
        have e:=bD h (fun hh=>by have e:chk (⟨k,Con.zero,Gan.zero,n⟩:Cmd)=0:=hh.2.2.1;rw [e] at h2;simp at h2)
        repeat' first | (refine gN hE ?_;conv=>whnf) | exact rfl | refine aY ?_ | refine aN ?_ | refine aT fun h=>?_ | refine aF fun h=>?_ | refine ⟨fun h=>?_,fun h=>?_⟩ | refine aJ ?_ | refine ⟨_,rfl,?_⟩ | refine aD ?_ | fail
        rw [<-hR,e.1,e.2]
        rfl
       .have h2:(chk (⟨k,Con.zero,Gan.zero,n⟩:Cmd) !=0)=false:=h2
        have h2:chk (⟨k,Con.zero,Gan.zero,n⟩:Cmd)=0:=by simpa using h2
        refine gW hE ?_;conv=>whnf
        refine .pure _ [] (iY (⟨k,Con.zero,Gan.zero,n⟩:Cmd) (chk_told h2)) ?_
        refine gW hE ?_;conv=>whnf
        refine Aa (fun h3=>?_) (fun h3=>?_)
        .have h3:(!(pl (Cmd.il (⟨k,Con.zero,Gan.zero,n⟩:Cmd))==s))=true:=h3
         have e:=bD h (fun hh=>by have e:pl (Cmd.il (⟨k,Con.zero,Gan.zero,n⟩:Cmd))=s:=hh.2.2.2;rw [e] at h3;simp at h3)
         repeat' first | (refine gN hE ?_;conv=>whnf) | exact rfl | refine aY ?_ | refine aN ?_ | refine aT fun h=>?_ | refine aF fun h=>?_ | refine ⟨fun h=>?_,fun h=>?_⟩ | refine aJ ?_ | refine ⟨_,rfl,?_⟩ | refine aD ?_ | fail
         rw [<-hR,e.1,e.2]
         rfl
        .have h3:(!(pl (Cmd.il (⟨k,Con.zero,Gan.zero,n⟩:Cmd))==s))=false:=h3
         have h3:pl (Cmd.il (⟨k,Con.zero,Gan.zero,n⟩:Cmd))=s:=by simpa using h3
         obtain ⟨e1,e2⟩:=iV h rfl h1 h2 h3
         repeat' first | (refine gN hE ?_;conv=>whnf) | exact rfl | refine aY ?_ | refine aN ?_ | refine aT fun h=>?_ | refine aF fun h=>?_ | refine ⟨fun h=>?_,fun h=>?_⟩ | refine aJ ?_ | refine ⟨_,rfl,?_⟩ | refine aD ?_ | fail
         rw [<-hR,e1,e2]
         rfl
    .have e4:(k==4)=false:=e4
     refine gW hE ?_;conv=>whnf
     refine Aa (fun e5=>?_) (fun e5=>?_)
     .have e5:(k==5)=true:=e5
      have k3:((k==3||k==4)||k==5)=true:=by rw [e3,e4,e5];rfl
      refine gW hE ?_;conv=>whnf
      refine aC (o:=pNum p1) (fun n p2 h2=>?_)
      have h:kW ⟨s,false⟩=(⟨k,Con.zero,Gan.zero,n⟩,p2):=by simp only [kW,hk,h2,k1,k2,k3,Bq,if_false,if_true]
      refine .eff [] [1] _ _ rfl (aG h2) ?_
      obtain ⟨qs,qb⟩:=p2
      cases qb with
      | true=>
       have e:=bD h (fun hh=>absurd (show true=false from hh.1) (by decide))
       repeat' first | (refine gN hE ?_;conv=>whnf) | exact rfl | refine aY ?_ | refine aN ?_ | refine aT fun h=>?_ | refine aF fun h=>?_ | refine ⟨fun h=>?_,fun h=>?_⟩ | refine aJ ?_ | refine ⟨_,rfl,?_⟩ | refine aD ?_ | fail
       rw [<-hR,e.1,e.2]
       rfl
      | false=>
       refine gW hE ?_;conv=>whnf
       refine aN ?_
       refine gW hE ?_;conv=>whnf
       refine Aa (fun h1=>?_) (fun h1=>?_)
       .have h1:(!(qs==[]))=true:=h1
        have e:=bD h (fun hh=>by have e:qs=[]:=hh.2.1;rw [e] at h1;simp at h1)
        repeat' first | (refine gN hE ?_;conv=>whnf) | exact rfl | refine aY ?_ | refine aN ?_ | refine aT fun h=>?_ | refine aF fun h=>?_ | refine ⟨fun h=>?_,fun h=>?_⟩ | refine aJ ?_ | refine ⟨_,rfl,?_⟩ | refine aD ?_ | fail
        rw [<-hR,e.1,e.2]
        rfl
       .have h1:(!(qs==[]))=false:=h1
        have h1:qs=[]:=by simpa using h1
        refine gW hE ?_;conv=>whnf
        refine .pure _ [] (gI (⟨k,Con.zero,Gan.zero,n⟩:Cmd)) ?_
        refine gW hE ?_;conv=>whnf
        refine Aa (fun h2=>?_) (fun h2=>?_)
        .have h2:(chk (⟨k,Con.zero,Gan.zero,n⟩:Cmd) !=0)=true:=h2
         have e:=bD h (fun hh=>by have e:chk (⟨k,Con.zero,Gan.zero,n⟩:Cmd)=0:=hh.2.2.1;rw [e] at h2;simp at h2)
         repeat' first | (refine gN hE ?_;conv=>whnf) | exact rfl | refine aY ?_ | refine aN ?_ | refine aT fun h=>?_ | refine aF fun h=>?_ | refine ⟨fun h=>?_,fun h=>?_⟩ | refine aJ ?_ | refine ⟨_,rfl,?_⟩ | refine aD ?_ | fail
         rw [<-hR,e.1,e.2]
         rfl
        .have h2:(chk (⟨k,Con.zero,Gan.zero,n⟩:Cmd) !=0)=false:=h2
         have h2:chk (⟨k,Con.zero,Gan.zero,n⟩:Cmd)=0:=by simpa using h2
         refine gW hE ?_;conv=>whnf
         refine .pure _ [] (iY (⟨k,Con.zero,Gan.zero,n⟩:Cmd) (chk_told h2)) ?_
         refine gW hE ?_;conv=>whnf
         refine Aa (fun h3=>?_) (fun h3=>?_)
         .have h3:(!(pl (Cmd.il (⟨k,Con.zero,Gan.zero,n⟩:Cmd))==s))=true:=h3
          have e:=bD h (fun hh=>by have e:pl (Cmd.il (⟨k,Con.zero,Gan.zero,n⟩:Cmd))=s:=hh.2.2.2;rw [e] at h3;simp at h3)
          repeat' first | (refine gN hE ?_;conv=>whnf) | exact rfl | refine aY ?_ | refine aN ?_ | refine aT fun h=>?_ | refine aF fun h=>?_ | refine ⟨fun h=>?_,fun h=>?_⟩ | refine aJ ?_ | refine ⟨_,rfl,?_⟩ | refine aD ?_ | fail
          rw [<-hR,e.1,e.2]
          rfl
         .have h3:(!(pl (Cmd.il (⟨k,Con.zero,Gan.zero,n⟩:Cmd))==s))=false:=h3
          have h3:pl (Cmd.il (⟨k,Con.zero,Gan.zero,n⟩:Cmd))=s:=by simpa using h3
          obtain ⟨e1,e2⟩:=iV h rfl h1 h2 h3
          repeat' first | (refine gN hE ?_;conv=>whnf) | exact rfl | refine aY ?_ | refine aN ?_ | refine aT fun h=>?_ | refine aF fun h=>?_ | refine ⟨fun h=>?_,fun h=>?_⟩ | refine aJ ?_ | refine ⟨_,rfl,?_⟩ | refine aD ?_ | fail
          rw [<-hR,e1,e2]
          rfl
     .have e5:(k==5)=false:=e5
      have k3:((k==3||k==4)||k==5)=false:=by rw [e3,e4,e5];rfl
      have h:kW ⟨s,false⟩=(⟨k,Con.zero,Gan.zero,0⟩,p1):=by simp only [kW,hk,k1,k2,k3,Bq,if_false]
      obtain ⟨qs,qb⟩:=p1
      cases qb with
      | true=>
       have e:=bD h (fun hh=>absurd (show true=false from hh.1) (by decide))
       repeat' first | (refine gN hE ?_;conv=>whnf) | exact rfl | refine aY ?_ | refine aN ?_ | refine aT fun h=>?_ | refine aF fun h=>?_ | refine ⟨fun h=>?_,fun h=>?_⟩ | refine aJ ?_ | refine ⟨_,rfl,?_⟩ | refine aD ?_ | fail
       rw [<-hR,e.1,e.2]
       rfl
      | false=>
       refine gW hE ?_;conv=>whnf
       refine aN ?_
       refine gW hE ?_;conv=>whnf
       refine Aa (fun h1=>?_) (fun h1=>?_)
       .have h1:(!(qs==[]))=true:=h1
        have e:=bD h (fun hh=>by have e:qs=[]:=hh.2.1;rw [e] at h1;simp at h1)
        repeat' first | (refine gN hE ?_;conv=>whnf) | exact rfl | refine aY ?_ | refine aN ?_ | refine aT fun h=>?_ | refine aF fun h=>?_ | refine ⟨fun h=>?_,fun h=>?_⟩ | refine aJ ?_ | refine ⟨_,rfl,?_⟩ | refine aD ?_ | fail
        rw [<-hR,e.1,e.2]
        rfl
       .have h1:(!(qs==[]))=false:=h1
        have h1:qs=[]:=by simpa using h1
        refine gW hE ?_;conv=>whnf
        refine .pure _ [] (gI (⟨k,Con.zero,Gan.zero,0⟩:Cmd)) ?_
        refine gW hE ?_;conv=>whnf
        refine Aa (fun h2=>?_) (fun h2=>?_)
        .have h2:(chk (⟨k,Con.zero,Gan.zero,0⟩:Cmd) !=0)=true:=h2
         have e:=bD h (fun hh=>by have e:chk (⟨k,Con.zero,Gan.zero,0⟩:Cmd)=0:=hh.2.2.1;rw [e] at h2;simp at h2)
         repeat' first | (refine gN hE ?_;conv=>whnf) | exact rfl | refine aY ?_ | refine aN ?_ | refine aT fun h=>?_ | refine aF fun h=>?_ | refine ⟨fun h=>?_,fun h=>?_⟩ | refine aJ ?_ | refine ⟨_,rfl,?_⟩ | refine aD ?_ | fail
         rw [<-hR,e.1,e.2]
         rfl
        .have h2:(chk (⟨k,Con.zero,Gan.zero,0⟩:Cmd) !=0)=false:=h2
         have h2:chk (⟨k,Con.zero,Gan.zero,0⟩:Cmd)=0:=by simpa using h2
         refine gW hE ?_;conv=>whnf
         refine .pure _ [] (iY (⟨k,Con.zero,Gan.zero,0⟩:Cmd) (chk_told h2)) ?_
         refine gW hE ?_;conv=>whnf
         refine Aa (fun h3=>?_) (fun h3=>?_)
         .have h3:(!(pl (Cmd.il (⟨k,Con.zero,Gan.zero,0⟩:Cmd))==s))=true:=h3
          have e:=bD h (fun hh=>by have e:pl (Cmd.il (⟨k,Con.zero,Gan.zero,0⟩:Cmd))=s:=hh.2.2.2;rw [e] at h3;simp at h3)
          repeat' first | (refine gN hE ?_;conv=>whnf) | exact rfl | refine aY ?_ | refine aN ?_ | refine aT fun h=>?_ | refine aF fun h=>?_ | refine ⟨fun h=>?_,fun h=>?_⟩ | refine aJ ?_ | refine ⟨_,rfl,?_⟩ | refine aD ?_ | fail
          rw [<-hR,e.1,e.2]
          rfl
         .have h3:(!(pl (Cmd.il (⟨k,Con.zero,Gan.zero,0⟩:Cmd))==s))=false:=h3
          have h3:pl (Cmd.il (⟨k,Con.zero,Gan.zero,0⟩:Cmd))=s:=by simpa using h3
          obtain ⟨e1,e2⟩:=iV h rfl h1 h2 h3
          repeat' first | (refine gN hE ?_;conv=>whnf) | exact rfl | refine aY ?_ | refine aN ?_ | refine aT fun h=>?_ | refine aF fun h=>?_ | refine ⟨fun h=>?_,fun h=>?_⟩ | refine aJ ?_ | refine ⟨_,rfl,?_⟩ | refine aD ?_ | fail
          rw [<-hR,e1,e2]
          rfl
theorem rdec_ok (s:List UInt8):aA Tryz.prog 22 [.str s] [] (.ret (.tup [(rdecX s).av,ii (rdecE s)])) []:=PR s _ rfl
def sameC (a b:Con):Bool:=eqL Nod.eqb a.ns b.ns&&(eqL Hos.eqb a.hs b.hs&&((a.half==b.half)&&(a.age==b.age)))
def same (a b:Cmd):Bool:=(a.k==b.k)&&(a.g.eqb b.g&&((a.n==b.n)&&sameC a.c b.c))
noncomputable abbrev XO:Func:=Tryz.f27
theorem O0 (a b:Con) (hab:a.hs.length=b.hs.length) (hl:((hav a.hs).length:Int)<=9223372036854775807) (r:Bool):∀ (n i:Nat),i+n=a.hs.length->eqL Hos.eqb (a.hs.drop i) (b.hs.drop i)=r->
  To E XO (.pure (.ret (.bool r))) (.head (stk XO 1) [(2,.ref 0 0),(3,.ref 1 0),(6,.int .i64 i)] [.cells 26 a.cs,.cells 26 b.cs]):=by
 have hlen:(hav a.hs).length=a.hs.length:=by simp
 intro n
 induction n with
 | zero=>
  intro i hi hr
  rw [Af (by omega),Af (by omega)] at hr
  subst hr
  refine gW hE ?_;conv=>whnf
  repeat' first | (refine gN hE ?_;conv=>whnf) | exact rfl | refine aY ?_ | refine aN ?_ | refine aT fun h=>?_ | refine aF fun h=>?_ | refine ⟨fun h=>?_,fun h=>?_⟩ | refine aJ ?_ | refine ⟨_,rfl,?_⟩ | refine aD ?_ | fail
 | succ n ih=>
  intro i hi hr
  have h1:i<a.hs.length:=by omega
  have h2:i<b.hs.length:=by omega
  rw [Ae h1,Ae h2] at hr
  have hr:(Hos.eqb a.hs[i] b.hs[i]&&eqL Hos.eqb (a.hs.drop (i+1)) (b.hs.drop (i+1)))=r:=hr
  generalize hx:a.hs[i]=x at hr
  generalize hy:b.hs[i]=y at hr
  have ga:(hav a.hs)[i]? =some (Hos.av x):=by simp [hx,h1]
  have gb:(hav b.hs)[i]? =some (Hos.av y):=by simp [hy,h2]
  refine gW hE ?_;conv=>whnf
  refine aT fun h=>?_
  repeat' first | (refine gN hE ?_;conv=>whnf) | refine ⟨_,ga,?_⟩ | refine ⟨_,gb,?_⟩ | exact rfl | refine aY ?_ | refine aN ?_ | refine aT fun h=>?_ | refine aF fun h=>?_ | refine ⟨fun h=>?_,fun h=>?_⟩ | refine aJ ?_ | refine ⟨_,rfl,?_⟩ | refine aD ?_ | fail
  .have h:Hos.eqb x y=false:=iL h
   rw [h] at hr
   rw [<-hr];rfl
  .have h:Hos.eqb x y=true:=iM h
   rw [h,Bt] at hr
   refine To.head [2,3,6] ?_
   exact ih (i+1) (by omega) hr
theorem OZ (a b:Con) (hab:a.ns.length=b.ns.length) (hhs:a.hs.length=b.hs.length) (hl:((nav a.ns).length:Int)<=9223372036854775807) (hlh:((hav a.hs).length:Int)<=9223372036854775807) (r:Bool):∀ (n i:Nat),i+n=a.ns.length->(eqL Nod.eqb (a.ns.drop i) (b.ns.drop i)&&eqL Hos.eqb a.hs b.hs)=r->
  To E XO (.pure (.ret (.bool r))) (.head (stk XO 0) [(2,.ref 0 0),(3,.ref 1 0),(5,.int .i64 i)] [.cells 26 a.cs,.cells 26 b.cs]):=by
 have hlen:(nav a.ns).length=a.ns.length:=by simp
 intro n
 induction n with
 | zero=>
  intro i hi hr
  rw [Af (by omega),Af (by omega)] at hr
  have hr:eqL Hos.eqb a.hs b.hs=r:=hr
  refine gW hE ?_;conv=>whnf
  refine aF fun h=>?_
  refine gW hE ?_;conv=>whnf
  refine To.head [2,3,6] ?_
  exact O0 a b hhs hlh r a.hs.length 0 (by omega) hr
 | succ n ih=>
  intro i hi hr
  have h1:i<a.ns.length:=by omega
  have h2:i<b.ns.length:=by omega
  rw [Ae h1,Ae h2] at hr
  have hr:((Nod.eqb a.ns[i] b.ns[i]&&eqL Nod.eqb (a.ns.drop (i+1)) (b.ns.drop (i+1)))&&eqL Hos.eqb a.hs b.hs)=r:=hr
  generalize hx:a.ns[i]=x at hr
  generalize hy:b.ns[i]=y at hr
  have ga:(nav a.ns)[i]? =some (Nod.av x):=by simp [hx,h1]
  have gb:(nav b.ns)[i]? =some (Nod.av y):=by simp [hy,h2]
  refine gW hE ?_;conv=>whnf
  refine aT fun h=>?_
  repeat' first | (refine gN hE ?_;conv=>whnf) | refine ⟨_,ga,?_⟩ | refine ⟨_,gb,?_⟩ | exact rfl | refine aY ?_ | refine aN ?_ | refine aT fun h=>?_ | refine aF fun h=>?_ | refine ⟨fun h=>?_,fun h=>?_⟩ | refine aJ ?_ | refine ⟨_,rfl,?_⟩ | refine aD ?_ | fail
  .have h:Nod.eqb x y=false:=iL h
   rw [h] at hr
   rw [<-hr];rfl
  .have h:Nod.eqb x y=true:=iM h
   rw [h,Bt] at hr
   refine To.head [2,3,5] ?_
   exact ih (i+1) (by omega) hr
theorem TS (a b:Con) (M:Imm) (ob:Hs) (vs:List Value) (h:cB M ob vs [a.av,b.av]):((nav a.ns).length:Int)<=9223372036854775807/\((hav a.hs).length:Int)<=9223372036854775807:=by
 have hl:0<vs.length:=by rw [h.1];simp
 have:=h.2 0 _ a.av (Ac hl) rfl
 exact ⟨dP this 0 _ rfl,dP this 1 _ rfl⟩
theorem J6 {a b:Nat} (h:((a:Int) !=(b:Int))=true):a≠b:=by
 intro e;rw [e] at h;simp at h
theorem KX {a b:Nat} (h:((a:Int) !=(b:Int))=false):a=b:=by
 simp at h;omega
theorem O1 (a b:Con) (r:Bool) (hr:sameC a b=r):aA Tryz.prog 27 [a.av,b.av] [] (.ret (.bool r)) []:=by
 refine aA.get _ (TS a b) fun ⟨hl,hlh⟩=>?_
 have la:(nav a.ns).length=a.ns.length:=by simp
 have lb:(nav b.ns).length=b.ns.length:=by simp
 have ka:(hav a.hs).length=a.hs.length:=by simp
 have kb:(hav b.hs).length=b.hs.length:=by simp
 refine cT (E:=E) (fn:=Tryz.f27) (g:=.pure _) fun _=>?_
 refine gW hE ?_;conv=>whnf
 refine Aa (fun h1=>?_) (fun h1=>?_)
 .have h1:(((nav a.ns).length:Int) !=((nav b.ns).length:Int))=true:=h1
  have e:sameC a b=false:=by unfold sameC;rw [rL (by rw [<-la,<-lb];exact J6 h1)];rfl
  rw [e] at hr
  subst hr
  repeat' first | (refine gN hE ?_;conv=>whnf) | exact rfl | refine aY ?_ | refine aN ?_ | refine aT fun h=>?_ | refine aF fun h=>?_ | refine ⟨fun h=>?_,fun h=>?_⟩ | refine aJ ?_ | refine ⟨_,rfl,?_⟩ | refine aD ?_ | fail
 .have h1:(((nav a.ns).length:Int) !=((nav b.ns).length:Int))=false:=h1
  refine gW hE ?_;conv=>whnf
  refine Aa (fun h2=>?_) (fun h2=>?_)
  .have h2:(((hav a.hs).length:Int) !=((hav b.hs).length:Int))=true:=h2
   have e:sameC a b=false:=by unfold sameC;rw [rL (f:=Hos.eqb) (by rw [<-ka,<-kb];exact J6 h2),Ce,Bo]
   rw [e] at hr
   subst hr
   repeat' first | (refine gN hE ?_;conv=>whnf) | exact rfl | refine aY ?_ | refine aN ?_ | refine aT fun h=>?_ | refine aF fun h=>?_ | refine ⟨fun h=>?_,fun h=>?_⟩ | refine aJ ?_ | refine ⟨_,rfl,?_⟩ | refine aD ?_ | fail
  .have h2:(((hav a.hs).length:Int) !=((hav b.hs).length:Int))=false:=h2
   have p1:=KX h1
   have p2:=KX h2
   refine gW hE ?_;conv=>whnf
   refine Aa (fun h3=>?_) (fun h3=>?_)
   .have h3:(!(a.half==b.half))=true:=h3
    have h3:=iL h3
    have e:sameC a b=false:=by unfold sameC;rw [h3,Ce,Bo,Bo]
    rw [e] at hr
    subst hr
    repeat' first | (refine gN hE ?_;conv=>whnf) | exact rfl | refine aY ?_ | refine aN ?_ | refine aT fun h=>?_ | refine aF fun h=>?_ | refine ⟨fun h=>?_,fun h=>?_⟩ | refine aJ ?_ | refine ⟨_,rfl,?_⟩ | refine aD ?_ | fail
   .have h3:(!(a.half==b.half))=false:=h3
    have h3:=iM h3
    refine gW hE ?_;conv=>whnf
    refine Aa (fun h4=>?_) (fun h4=>?_)
    .have h4:(!(a.age==b.age))=true:=h4
     have h4:=iL h4
     have e:sameC a b=false:=by unfold sameC;rw [h4,Bo,Bo,Bo]
     rw [e] at hr
     subst hr
     repeat' first | (refine gN hE ?_;conv=>whnf) | exact rfl | refine aY ?_ | refine aN ?_ | refine aT fun h=>?_ | refine aF fun h=>?_ | refine ⟨fun h=>?_,fun h=>?_⟩ | refine aJ ?_ | refine ⟨_,rfl,?_⟩ | refine aD ?_ | fail
    .have h4:(!(a.age==b.age))=false:=h4
     have h4:=iM h4
     have e:sameC a b=(eqL Nod.eqb a.ns b.ns&&eqL Hos.eqb a.hs b.hs):=by unfold sameC;rw [h3,h4,Ga,Ga]
     rw [e] at hr
     refine gW hE ?_;conv=>whnf
     refine To.head [2,3,5] ?_
     exact OZ a b (by omega) (by omega) hl hlh _ a.ns.length 0 (by omega) hr
theorem rsame_c (a b:Con):aA Tryz.prog 27 [a.av,b.av] [] (.ret (.bool (sameC a b))) []:=O1 a b _ rfl
theorem aZ {n:Int} (h0:0<=n) (h:n<=1099511627777) (s:List UInt8):bB (putN n.toNat++s)=some (n,s):=by
 unfold bB
 rw [R6 n.toNat s (by omega)]
 simp only [Im,Cu,Gq,and_true]
 omega
theorem nK {v:V3} (h:okI v.l=true) (s:List UInt8):jC (pl v.l++s)=some (v,s):=by
 obtain ⟨h1,h2,h3⟩:=GJ h
 have e:pl v.l++s=putN v.a.toNat++(putN v.b.toNat++(putN v.c.toNat++s)):=by simp [pl,V3.l]
 rw [e]
 unfold jC
 rw [aZ h1.1 (by omega)]
 dsimp only
 rw [aZ h2.1 (by omega)]
 dsimp only
 rw [aZ h3.1 (by omega)]
theorem kV {g:Gan} (h:g.ok=true) (s:List UInt8):rGan (pl g.il++s)=some (g,s):=by
 obtain ⟨h1,h2,h3⟩:=gan_b h
 have b1:=okI_b h1 g.id (by simp)
 have b2:=okI_b h1 g.ten (by simp)
 have b3:=okI_b h1 g.pods (by simp)
 have b4:=okI_b h3 g.run (by simp)
 have b5:=okI_b h3 g.lev (by simp)
 have b6:=okI_b h3 g.pref (by simp)
 have e:pl g.il++s=putN g.id.toNat++(putN g.ten.toNat++(putN g.pods.toNat++(pl g.need.l++(putN g.run.toNat++(putN g.lev.toNat++(putN g.pref.toNat++s)))))):=by simp [pl,Gan.il,V3.l]
 rw [e]
 unfold rGan
 rw [aZ b1.1 (by omega)]
 dsimp only
 rw [aZ b2.1 (by omega)]
 dsimp only
 rw [aZ b3.1 (by omega)]
 dsimp only
 rw [nK h2]
 dsimp only
 rw [aZ b4.1 (by omega)]
 dsimp only
 rw [aZ b5.1 (by omega)]
 dsimp only
 rw [aZ b6.1 (by omega)]
theorem P2 {x:Nod} (h:x.ok=true) (s:List UInt8):D1 (pl x.il++s)=some (x,s):=by
 obtain ⟨h1,h2,h3,h4,h5⟩:=J3 h
 have e:pl x.il++s=putN (x.p+1).toNat++(putN x.w.toNat++(pl x.n.l++(pl x.b.l++(pl x.l.l++s)))):=by simp [pl,Nod.il,V3.l]
 rw [e]
 unfold D1
 rw [aZ (by omega) (by omega)]
 dsimp only
 rw [aZ h2.1 (by omega)]
 dsimp only
 rw [nK h3]
 dsimp only
 rw [nK h4]
 dsimp only
 rw [nK h5]
 simp
theorem qQ {x:Hos} (h:x.ok=true) (s:List UInt8):jW (pl x.il++s)=some (x,s):=by
 obtain ⟨h1,h2⟩:=KJ h
 have b1:=okI_b h1 x.f (by simp)
 have b2:=okI_b h1 x.b (by simp)
 have b3:=okI_b h1 x.r (by simp)
 have e:pl x.il++s=putN x.f.toNat++(putN x.b.toNat++(putN x.r.toNat++(pl x.c.l++s))):=by simp [pl,Hos.il,V3.l]
 rw [e]
 unfold jW
 rw [aZ b1.1 (by omega)]
 dsimp only
 rw [aZ b2.1 (by omega)]
 dsimp only
 rw [aZ b3.1 (by omega)]
 dsimp only
 rw [nK h2]
theorem putN_pos (n:Nat):1<=(putN n).length:=by rw [putN];split<;>simp
theorem EK:∀ (l:List Nod),l.length<=(pl (nodL l)).length
 | []=>by simp
 | x::r=>by
  have h1:=EK r
  have h2:=putN_pos (x.p+1).toNat
  simp only [nodL,pl_append,Ag,Ao]
  have:1<=(pl x.il).length:=by simp only [Nod.il,pl,Ag];omega
  omega
theorem E6:∀ (l:List Hos),l.length<=(pl (hosL l)).length
 | []=>by simp
 | x::r=>by
  have h1:=E6 r
  have h2:=putN_pos x.f.toNat
  simp only [hosL,pl_append,Ag,Ao]
  have:1<=(pl x.il).length:=by simp only [Hos.il,pl,Ag];omega
  omega
theorem eL {n:Int} (h0:0<=n) (h:n<=1099511627777) (s:List UInt8) (hs:n<=s.length):rCount (putN n.toNat++s)=some (n,s):=by
 unfold rCount
 rw [aZ h0 h]
 dsimp only
 rw [if_pos (by simpa using hs)]
theorem P4:∀ (l:List Nod) (acc:List Nod) (s:List UInt8),pB l=true->rN l.length acc (pl (nodL l)++s)=rHs (acc++l) s
 | [],acc,s,_=>by simp [rN,nodL,pl]
 | x::r,acc,s,h=>by
  simp only [pB,Ad] at h
  have e:pl (nodL (x::r))++s=pl x.il++(pl (nodL r)++s):=by simp [nodL,pl_append]
  rw [e,Ao]
  unfold rN
  rw [P2 h.1]
  dsimp only
  rw [P4 r (acc++[x]) s h.2]
  simp
theorem wN (ns:List Nod):∀ (l:List Hos) (acc:List Hos) (s:List UInt8),jY l=true->rH ns l.length acc (pl (hosL l)++s)=MB ns (acc++l) s
 | [],acc,s,_=>by simp [rH,hosL,pl]
 | x::r,acc,s,h=>by
  simp only [jY,Ad] at h
  have e:pl (hosL (x::r))++s=pl x.il++(pl (hosL r)++s):=by simp [hosL,pl_append]
  rw [e,Ao]
  unfold rH
  rw [qQ h.1]
  dsimp only
  rw [wN ns r (acc++[x]) s h.2]
  simp
theorem D2 {c:Con} (h:c.tok=true) (hn:c.ns.length<=12) (hh:c.hs.length<=24) (s:List UInt8):qT (pl c.il++s)=some (c,s):=by
 simp only [Con.tok,Ad] at h
 obtain ⟨⟨h1,h2⟩,h3⟩:=h
 have b1:=okI_b h3 c.half (by simp)
 have b2:=okI_b h3 c.age (by simp)
 have l1:(nav c.ns).length=c.ns.length:=by simp
 have l2:(hav c.hs).length=c.hs.length:=by simp
 have k1:=EK c.ns
 have k2:=E6 c.hs
 have e:pl c.il++s=putN ((nav c.ns).length:Int).toNat++(pl (nodL c.ns)++(putN ((hav c.hs).length:Int).toNat++(pl (hosL c.hs)++(putN c.half.toNat++(putN c.age.toNat++s))))):=by simp [pl,pl_append,Con.il]
 rw [e]
 unfold qT
 rw [eL (by omega) (by omega) _ (by simp only [Ag];omega)]
 dsimp only
 rw [Br,l1,P4 c.ns [] _ h1]
 unfold rHs
 rw [eL (by omega) (by omega) _ (by simp only [Ag];omega)]
 dsimp only
 rw [Br,l2,wN _ c.hs [] _ h2]
 unfold MB
 rw [aZ b1.1 (by omega)]
 dsimp only
 rw [aZ b2.1 (by omega)]
 simp
theorem TR {c:Con} (h:c.non=true):c=Con.zero:=by
 simp only [Con.non,Ad,beq_iff_eq] at h
 obtain ⟨⟨⟨h1,h2⟩,h3⟩,h4⟩:=h
 obtain ⟨ns,hs,half,age⟩:=c
 dsimp only at h1 h2 h3 h4
 have e1:ns=[]:=by cases ns with | nil=>rfl | cons a l=>simp at h1;omega
 have e2:hs=[]:=by cases hs with | nil=>rfl | cons a l=>simp at h2;omega
 subst e1 e2 h3 h4
 rfl
theorem gan_none {g:Gan} (h:g.isZ=true):g=Gan.zero:=Gan.eqb_eq.1 h
theorem rCmd_put {x:Cmd} (T:Told x):pT (pl x.il)=some (x,[]):=by
 obtain ⟨k,c,g,n⟩:=x
 have l1:(nav c.ns).length=c.ns.length:=by simp
 have l2:(hav c.hs).length=c.hs.length:=by simp
 have hln:((nav c.ns).length:Int)<=12:=T.ln
 have hlh:((hav c.hs).length:Int)<=24:=T.lh
 have hkk:1<=k/\k<=6:=T.k
 have Tc:k=1\/c.non=true:=T.c
 have Tg:k=2\/g.isZ=true:=T.g
 have Tn:(k=3\/k=4\/k=5)\/n=0:=T.n
 have Tnn:0<=n/\n<=1099511627776:=T.nok
 have cok:c.tok=true:=T.cok
 have gok:g.ok=true:=T.gok
 clear T
 have e:pl (Cmd.il ⟨k,c,g,n⟩)=putN k.toNat++pl (if k==1 then c.il else if k==2 then g.il else if k==6 then [] else [n]):=rfl
 rw [e]
 unfold pT
 rw [aZ (by omega) (by omega)]
 dsimp only
 rcases Tc with rfl | hc
 .have hg:g=Gan.zero:=gan_none (Tg.resolve_left (by omega))
  have hn:n=0:=Tn.resolve_left (by omega)
  subst hg hn
  have:=D2 cok (by omega) (by omega) []
  rw [Ay] at this
  simp only [beq_self_eq_true,if_true]
  rw [this]
 .have hc:c=Con.zero:=TR hc
  subst hc
  rcases Tg with rfl | hg
  .have hn:n=0:=Tn.resolve_left (by omega)
   subst hn
   have:=kV gok []
   rw [Ay] at this
   simp only [show ((2:Int)==1)=false from rfl,show ((2:Int)==2)=true from rfl,if_true,Bq,if_false]
   rw [this]
  .have hg:g=Gan.zero:=gan_none hg
   subst hg
   have one:bB (pl [n])=some (n,[]):=aZ Tnn.1 (by omega) []
   have t3:(match bB (pl [n]) with | none=>none | some (n,s)=>some ((⟨3,Con.zero,Gan.zero,n⟩:Cmd),s))=some (⟨3,Con.zero,Gan.zero,n⟩,[]):=by rw [one]
   have t4:(match bB (pl [n]) with | none=>none | some (n,s)=>some ((⟨4,Con.zero,Gan.zero,n⟩:Cmd),s))=some (⟨4,Con.zero,Gan.zero,n⟩,[]):=by rw [one]
   have t5:(match bB (pl [n]) with | none=>none | some (n,s)=>some ((⟨5,Con.zero,Gan.zero,n⟩:Cmd),s))=some (⟨5,Con.zero,Gan.zero,n⟩,[]):=by rw [one]
   have hk:k=1\/k=2\/k=3\/k=4\/k=5\/k=6:=by omega
   rcases hk with rfl | rfl | rfl | rfl | rfl | rfl
   .have hn:n=0:=Tn.resolve_left (by omega)
    subst hn
    have:=D2 (c:=Con.zero) rfl (by decide) (by decide) []
    rw [Ay] at this
    simp only [beq_self_eq_true,if_true]
    rw [this]
   .have hn:n=0:=Tn.resolve_left (by omega)
    subst hn
    have:=kV (g:=Gan.zero) rfl []
    rw [Ay] at this
    simp only [show ((2:Int)==1)=false from rfl,show ((2:Int)==2)=true from rfl,if_true,Bq,if_false]
    rw [this]
   .exact t3
   .exact t4
   .exact t5
   .have hn:n=0:=Tn.resolve_left (by omega)
    subst hn
    rfl
theorem aR {s s':List UInt8} {n:Int} (h:bB s=some (n,s')):s=putN n.toNat++s':=by
 unfold bB at h
 split at h
 .rename_i m k hg
  cases h
  obtain ⟨x,e1,e2,_⟩:=D7 9 0 0 s m k rfl (by decide) hg
  have:x=m:=by omega
  subst this
  rw [Br,e2,Fy,Fj]
 .cases h
theorem nL {s s':List UInt8} {v:V3} (h:jC s=some (v,s')):s=pl v.l++s':=by
 unfold jC at h
 split at h
 .cases h
 .rename_i h1
  split at h
  .cases h
  .rename_i h2
   split at h
   .cases h
   .rename_i h3
    cases h
    rw [aR h1,aR h2,aR h3]
    simp [pl,V3.l]
theorem nM {s s':List UInt8} {v:Gan} (h:rGan s=some (v,s')):s=pl v.il++s':=by
 unfold rGan at h
 split at h
 .cases h
 .rename_i h1
  split at h
  .cases h
  .rename_i h2
   split at h
   .cases h
   .rename_i h3
    split at h
    .cases h
    .rename_i h4
     split at h
     .cases h
     .rename_i h5
      split at h
      .cases h
      .rename_i h6
       split at h
       .cases h
       .rename_i h7
        cases h
        rw [aR h1,aR h2,aR h3,nL h4,aR h5,aR h6,aR h7]
        simp [pl,Gan.il,V3.l]
theorem P3 {s s':List UInt8} {v:Nod} (h:D1 s=some (v,s')):s=pl v.il++s':=by
 unfold D1 at h
 split at h
 .cases h
 .rename_i h1
  split at h
  .cases h
  .rename_i h2
   split at h
   .cases h
   .rename_i h3
    split at h
    .cases h
    .rename_i h4
     split at h
     .cases h
     .rename_i h5
      cases h
      rw [aR h1,aR h2,nL h3,nL h4,nL h5]
      simp [pl,Nod.il,V3.l]
theorem qS {s s':List UInt8} {v:Hos} (h:jW s=some (v,s')):s=pl v.il++s':=by
 unfold jW at h
 split at h
 .cases h
 .rename_i h1
  split at h
  .cases h
  .rename_i h2
   split at h
   .cases h
   .rename_i h3
    split at h
    .cases h
    .rename_i h4
     cases h
     rw [aR h1,aR h2,aR h3,nL h4]
     simp [pl,Hos.il,V3.l]
theorem dB {s s':List UInt8} {n:Int} (h:rCount s=some (n,s')):bB s=some (n,s'):=by
 unfold rCount at h
 split at h
 .rename_i h1
  split at h
  .cases h;exact h1
  .cases h
 .cases h
theorem sK (ns:List Nod):∀ (m:Nat) (acc:List Hos) (s s':List UInt8) (c:Con),rH ns m acc s=some (c,s')->∃ l,c.ns=ns/\c.hs=acc++l/\l.length=m/\s=pl (hosL l)++(pl [c.half,c.age]++s')
 | 0,acc,s,s',c,h=>by
  unfold rH MB at h
  split at h
  .cases h
  .rename_i h1
   split at h
   .cases h
   .rename_i h2
    cases h
    exact ⟨[],rfl,by simp,rfl,by rw [aR h1,aR h2];simp [pl,hosL]⟩
 | m+1,acc,s,s',c,h=>by
  unfold rH at h
  split at h
  .cases h
  .rename_i x s1 h1
   obtain ⟨l,e1,e2,e3,e4⟩:=sK ns m _ _ _ _ h
   exact ⟨x::l,e1,by rw [e2];simp,by simp [e3],by rw [qS h1,e4];simp [hosL,pl_append]⟩
theorem G7:∀ (m:Nat) (acc:List Nod) (s s':List UInt8) (c:Con),rN m acc s=some (c,s')->∃ l,c.ns=acc++l/\l.length=m/\s=pl (nodL l)++(pl [((hav c.hs).length:Int)]++(pl (hosL c.hs)++(pl [c.half,c.age]++s')))
 | 0,acc,s,s',c,h=>by
  unfold rN rHs at h
  split at h
  .cases h
  .rename_i n s1 h1
   have hb:=bQ h1
   obtain ⟨l,e1,e2,e3,e4⟩:=sK acc n.toNat [] s1 s' c h
   refine ⟨[],by simp [e1],rfl,?_⟩
   have hl:(((hav c.hs).length:Nat):Int)=n:=by
    have:(hav c.hs).length=l.length:=by rw [e2];simp
    rw [this,e3]
    omega
   have e2:c.hs=l:=by rw [e2];simp
   rw [aR (dB h1),e4,hl,e2]
   simp [pl,nodL]
 | m+1,acc,s,s',c,h=>by
  unfold rN at h
  split at h
  .cases h
  .rename_i x s1 h1
   obtain ⟨l,e1,e2,e3⟩:=G7 m _ _ _ _ h
   exact ⟨x::l,by rw [e1];simp,by simp [e2],by rw [P3 h1,e3];simp [nodL,pl_append]⟩
theorem P6 {s s':List UInt8} {c:Con} (h:qT s=some (c,s')):s=pl c.il++s':=by
 unfold qT at h
 split at h
 .cases h
 .rename_i n s1 h1
  have hb:=bQ h1
  obtain ⟨l,e1,e2,e3⟩:=G7 n.toNat [] s1 s' c h
  have e1:c.ns=l:=by rw [e1];simp
  have hl:(((nav c.ns).length:Nat):Int)=n:=by
   have:(nav c.ns).length=l.length:=by rw [e1];simp
   rw [this,e2]
   omega
  rw [aR (dB h1),e3]
  simp only [Con.il,pl_append,Aj,hl,e1]
  simp [pl]
  rw [e2]
theorem P7 {s s':List UInt8} {x:Cmd} (hk:1<=x.k/\x.k<=6) (h:pT s=some (x,s')):s=pl x.il++s':=by
 unfold pT at h
 split at h
 .cases h
 .rename_i k s1 h1
  have e0:=aR h1
  split at h
  .rename_i h2
   split at h
   .cases h
   .rename_i h3
    cases h
    rw [e0,P6 h3,<-eH ⟨k,_,Gan.zero,0⟩ _ rfl,h2]
    simp
  .rename_i h2
   split at h
   .rename_i h3
    split at h
    .cases h
    .rename_i h4
     cases h
     rw [e0,nM h4,<-eH ⟨k,Con.zero,_,0⟩ _ rfl,h3,Ge.2 h2]
     simp
   .rename_i h3
    split at h
    .rename_i h4
     have h6:(k==6)=false:=by
      simp at h4
      rcases h4 with (rfl | rfl) | rfl<;>rfl
     split at h
     .cases h
     .rename_i h5
      cases h
      rw [e0,aR h5,<-eH ⟨k,Con.zero,Gan.zero,_⟩ _ rfl,Ge.2 h2,Ge.2 h3,h6]
      simp [pl]
    .rename_i h4
     cases h
     have h6:(k==6)=true:=by
      simp at h2 h3 h4⊢
      have hk:1<=k/\k<=6:=hk
      omega
     rw [e0,<-eH ⟨k,Con.zero,Gan.zero,_⟩ _ rfl,Ge.2 h2,Ge.2 h3,h6]
     simp [pl]
theorem pNum_of {s s':List UInt8} {n:Int} (h:bB s=some (n,s')):pNum ⟨s,false⟩=(n,⟨s',false⟩):=by
 unfold pNum
 rw [h]
 rfl
theorem qW {s s':List UInt8} {v:V3} (h:jC s=some (v,s')):pVec ⟨s,false⟩=(v,⟨s',false⟩):=by
 unfold jC at h
 split at h
 .cases h
 .rename_i h1
  split at h
  .cases h
  .rename_i h2
   split at h
   .cases h
   .rename_i h3
    cases h
    simp only [pVec,pNum_of h1,pNum_of h2,pNum_of h3]
theorem pGan_of {s s':List UInt8} {v:Gan} (h:rGan s=some (v,s')):pGan ⟨s,false⟩=(v,⟨s',false⟩):=by
 unfold rGan at h
 split at h
 .cases h
 .rename_i h1
  split at h
  .cases h
  .rename_i h2
   split at h
   .cases h
   .rename_i h3
    split at h
    .cases h
    .rename_i h4
     split at h
     .cases h
     .rename_i h5
      split at h
      .cases h
      .rename_i h6
       split at h
       .cases h
       .rename_i h7
        cases h
        simp only [pGan,pNum_of h1,pNum_of h2,pNum_of h3,qW h4,pNum_of h5,pNum_of h6,pNum_of h7]
theorem V6 {s s':List UInt8} {v:Nod} (h:D1 s=some (v,s')):HH ⟨s,false⟩=(v,⟨s',false⟩):=by
 unfold D1 at h
 split at h
 .cases h
 .rename_i h1
  split at h
  .cases h
  .rename_i h2
   split at h
   .cases h
   .rename_i h3
    split at h
    .cases h
    .rename_i h4
     split at h
     .cases h
     .rename_i h5
      cases h
      simp only [HH,pNum_of h1,pNum_of h2,qW h3,qW h4,qW h5]
theorem V7 {s s':List UInt8} {v:Hos} (h:jW s=some (v,s')):HI ⟨s,false⟩=(v,⟨s',false⟩):=by
 unfold jW at h
 split at h
 .cases h
 .rename_i h1
  split at h
  .cases h
  .rename_i h2
   split at h
   .cases h
   .rename_i h3
    split at h
    .cases h
    .rename_i h4
     cases h
     simp only [HI,pNum_of h1,pNum_of h2,pNum_of h3,qW h4]
theorem ZB (ns:List Nod) (n:Int):∀ (m f i:Nat) (acc:List Hos) (s s':List UInt8) (c:Con),m<=f->(i+m:Int)=n->rH ns m acc s=some (c,s')->uO ns (pH f i n acc ⟨s,false⟩)=(c,⟨s',false⟩)
 | 0,f,i,acc,s,s',c,hf,hi,h=>by
  have hz:pH f i n acc ⟨s,false⟩=(acc,⟨s,false⟩):=by
   cases f with
   | zero=>rfl
   | succ f=>
    unfold pH
    rw [if_neg (by simp;omega)]
  rw [hz]
  unfold rH MB at h
  split at h
  .cases h
  .rename_i h1
   split at h
   .cases h
   .rename_i h2
    cases h
    simp only [uO,pNum_of h1,pNum_of h2]
 | m+1,0,i,acc,s,s',c,hf,hi,h=>by omega
 | m+1,f+1,i,acc,s,s',c,hf,hi,h=>by
  unfold rH at h
  split at h
  .cases h
  .rename_i x s1 h1
   unfold pH
   rw [if_pos (by simp;omega),V7 h1]
   exact ZB ns n m f (i+1) _ _ _ _ (by omega) (by omega) h
theorem ZA (n:Int):∀ (m f i:Nat) (acc:List Nod) (s s':List UInt8) (c:Con),m<=f->(i+m:Int)=n->c.hs.length<=24->rN m acc s=some (c,s')->mQ (pN f i n acc ⟨s,false⟩)=(c,⟨s',false⟩)
 | 0,f,i,acc,s,s',c,hf,hi,hh,h=>by
  have hz:pN f i n acc ⟨s,false⟩=(acc,⟨s,false⟩):=by
   cases f with
   | zero=>rfl
   | succ f=>
    unfold pN
    rw [if_neg (by simp;omega)]
  rw [hz]
  unfold rN rHs at h
  split at h
  .cases h
  .rename_i k s1 h1
   have hb:=bQ h1
   obtain ⟨l,e1,e2,e3,_⟩:=sK acc k.toNat [] s1 s' c h
   have:c.hs.length=k.toNat:=by rw [e2,<-e3];simp
   simp only [mQ,pNum_of (dB h1)]
   exact ZB acc k k.toNat 25 0 [] s1 s' c (by omega) (by omega) h
 | m+1,0,i,acc,s,s',c,hf,hi,hh,h=>by omega
 | m+1,f+1,i,acc,s,s',c,hf,hi,hh,h=>by
  unfold rN at h
  split at h
  .cases h
  .rename_i x s1 h1
   unfold pN
   rw [if_pos (by simp;omega),V6 h1]
   exact ZA n m f (i+1) _ _ _ _ (by omega) (by omega) hh h
theorem V8 {s s':List UInt8} {c:Con} (hn:c.ns.length<=12) (hh:c.hs.length<=24) (h:qT s=some (c,s')):HJ ⟨s,false⟩=(c,⟨s',false⟩):=by
 unfold qT at h
 split at h
 .cases h
 .rename_i n s1 h1
  have hb:=bQ h1
  obtain ⟨l,e1,e2,_⟩:=G7 n.toNat [] s1 s' c h
  have:c.ns.length=n.toNat:=by rw [e1,<-e2];simp
  simp only [HJ,pNum_of (dB h1)]
  exact ZA n n.toNat 13 0 [] s1 s' c (by omega) (by omega) hh h
theorem V9 {s s':List UInt8} {x:Cmd} (hn:x.c.ns.length<=12) (hh:x.c.hs.length<=24) (h:pT s=some (x,s')):kW ⟨s,false⟩=(x,⟨s',false⟩):=by
 unfold pT at h
 split at h
 .cases h
 .rename_i k s1 h1
  split at h
  .rename_i h2
   split at h
   .cases h
   .rename_i h3
    cases h
    simp only [kW,pNum_of h1,h2,V8 hn hh h3,if_true]
  .rename_i h2
   split at h
   .rename_i h3
    split at h
    .cases h
    .rename_i h4
     cases h
     simp only [kW,pNum_of h1,h2,h3,pGan_of h4,if_true,if_false,Bq]
   .rename_i h3
    split at h
    .rename_i h4
     split at h
     .cases h
     .rename_i h5
      cases h
      simp only [kW,pNum_of h1,h2,h3,h4,pNum_of h5,if_true,if_false,Bq]
    .rename_i h4
     cases h
     simp only [kW,pNum_of h1,h2,h3,h4,if_false,Bq]
theorem OE {x:Cmd} (T:Told x):x.c.ns.length<=12/\x.c.hs.length<=24:=by
 have h1:=T.ln
 have h2:=T.lh
 have l1:(nav x.c.ns).length=x.c.ns.length:=by simp
 have l2:(hav x.c.hs).length=x.c.hs.length:=by simp
 omega
theorem dec_spec {s:List UInt8} {x:Cmd} (h:dec s=some x):pT s=some (x,[])/\chk x=0:=by
 unfold dec at h
 split at h
 .rename_i y r h1
  split at h
  .rename_i h2
   cases h
   exact ⟨by rw [h1,h2.1],h2.2⟩
  .cases h
 .cases h
theorem dec_can {s:List UInt8} {x:Cmd} (h:dec s=some x):pl x.il=s:=by
 obtain ⟨h1,h2⟩:=dec_spec h
 have:=P7 (chk_told h2).k h1
 rw [Ay] at this
 exact this.symm
theorem rdec_eq (s:List UInt8):wM s=dec s:=by
 unfold wM
 dsimp only
 split
 .rename_i h
  obtain ⟨h1,h2,h3,h4⟩:=h
  have:=rCmd_put (chk_told h3)
  rw [h4] at this
  unfold dec
  rw [this]
  exact (if_pos ⟨rfl,h3⟩).symm
 .rename_i h
  cases hd:dec s with
  | none=>rfl
  | some x=>
   obtain ⟨h1,h2⟩:=dec_spec hd
   have hl:=OE (chk_told h2)
   have hp:=V9 hl.1 hl.2 h1
   refine absurd ?_ h
   rw [hp]
   exact ⟨rfl,rfl,h2,dec_can hd⟩
theorem same_self (x:Cmd):same x x=true:=by
 have h1:x.g.eqb x.g=true:=Gan.eqb_eq.2 rfl
 have h2:eqL Nod.eqb x.c.ns x.c.ns=true:=yF (fun y=>Nod.eqb_eq.2 rfl) _
 have h3:eqL Hos.eqb x.c.hs x.c.hs=true:=yF (fun y=>Hos.eqb_eq.2 rfl) _
 simp [same,sameC,h1,h2,h3]
end Go.Proofs.YtmalnhgopkfdaaaGreat.C8
