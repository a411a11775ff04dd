/-
  Which commands may be told; the row of those that wait; which states may be, as walks.
-/
import Derived.Test.YtpomiadgghchnaaGreatRA
set_option linter.all false
set_option maxHeartbeats 1000000
open And renaming intro->Ac
open Bool renaming and_assoc->Ej,and_eq_true->Ag,and_false->Ci,and_true->Iy,eq_false_or_eq_true->Ek,eq_iff_iff->Km,false_and->Dz,not_eq_true'->Ef,or_eq_true->Fw,true_and->Cb
open Exists renaming intro->Al
open Int renaming le_trans->Fo,mul_nonneg->Ji,toNat_natCast->Ck
open List renaming all_cons->Fk,all_eq_true->Ch,any_eq_true->Il,append_assoc->Ai,count_cons_of_ne->Mj,count_cons_self->Mn,count_pos_iff->Jd,drop->Hi,drop_eq_getElem_cons->Ad,drop_eq_nil_of_le->Ae,drop_zero->Bt,eraseIdx_eq_take_drop_succ->Gb,ext_getElem?->Es,filter_cons_of_neg->Et,filter_cons_of_pos->Eu,filter_eq_self->Fu,foldl_cons->Av,getElem?_append_left->Af,getElem?_append_right->Aj,getElem?_drop->Bq,getElem?_eq_getElem->Aa,getElem?_eq_none->Bb,getElem?_map->Bi,getElem?_range->Cq,getElem?_take_of_lt->Bc,getElem_mem->Bl,length_append->Aw,length_drop->Ge,length_eraseIdx->Kd,length_take->Ff,map_append->Bu,map_cons->Bk,map_drop->Ja,map_take->Iz,mem_cons->Bd,mem_cons_of_mem->Bj,mem_cons_self->Ar,mem_filter->Dx,mem_map->Bx,nodup_append->Bm,nodup_cons->Cc,pairwise_iff_getElem->Fh,range->Dh,replicate->Ah,take->Hw,take_append_of_le_length->Dm,take_of_length_le->Cl
open List.cons renaming inj->Em
open Nat renaming beq->Aq,le_refl->Au,zero_add->Bn
namespace Go.Proofs.YtpomiadgghchnaaGreat
open Go Go.AW Go.Proofs
structure Cmd where
 k:Int
 c:Con
 g:Gan
 n:Int
 deriving DecidableEq
def Cmd.cs (x:Cmd):List AVal:=[ii x.k,.slice 11 (nav x.c.ns) .no,.slice 6 (hav x.c.hs) .no,ii x.c.half,ii x.c.age,ii x.g.id,ii x.g.ten,ii x.g.pods,ii x.g.need.a,ii x.g.need.b,ii x.g.need.c,ii x.g.run,ii x.g.lev,ii x.g.pref,ii x.n]
def Cmd.av (x:Cmd):AVal:=.agg x.cs
def DJ (x:Int):Bool:=decide (0<=x)&&decide (x<=1099511627776)
def okI:List Int->Bool
 | []=>true
 | x::r=>DJ x&&okI r
def V3.l (v:V3):List Int:=[v.a,v.b,v.c]
def Nod.ok (x:Nod):Bool:=(decide (-1<=x.p)&&decide (x.p<=1099511627776))&&okI [x.w]&&okI x.n.l&&okI x.b.l&&okI x.l.l
def Hos.ok (x:Hos):Bool:=okI [x.f,x.b,x.r]&&okI x.c.l
def aE7:List Nod->Bool
 | []=>true
 | x::r=>x.ok&&aE7 r
def VZ:List Hos->Bool
 | []=>true
 | x::r=>x.ok&&VZ r
def Con.tok (c:Con):Bool:=aE7 c.ns&&VZ c.hs&&okI [c.half,c.age]
def Gan.ok (g:Gan):Bool:=okI [g.id,g.ten,g.pods,g.run,g.lev,g.pref]&&okI g.need.l
def Con.none (c:Con):Bool:=decide ((c.ns.length:Int)=0)&&decide ((c.hs.length:Int)=0)&&decide (c.half=0)&&decide (c.age=0)
def Gan.zero:Gan:=⟨0,0,0,⟨0,0,0⟩,0,0,0⟩
end Go.Proofs.YtpomiadgghchnaaGreat
namespace Go.Proofs.YtpomiadgghchnaaGreat.C8
open Go Go.AW Go.Proofs
set_option maxRecDepth 10000
def rR (e:Int):AVal:=.iface 293 (.agg [ii e])
theorem gF (b:Bool) (e:Int) (h:b=true):aA Tryz.prog 147 [.bool b,ii e] [] (.ret (.tup [])) []:=by
 subst h
 refine cT (E:=E) (fn:=Tryz.f147) (g:=.pure _) fun _=>?_
 refine gV ?_
 refine ⟨fun h=>absurd h (by decide),fun h=>?_⟩
 refine gW (by first | exact hE | exact hEr _ _ | exact hEo _ _) ?_;conv=>whnf
theorem dA (b:Bool) (e:Int) (h:b=false):aA Tryz.prog 147 [.bool b,ii e] [] (.pan (rR e)) []:=by
 subst h
 refine cT (E:=E) (fn:=Tryz.f147) (g:=.pure _) fun _=>?_
 refine gV ?_
 refine ⟨fun h=>?_,fun h=>absurd h (by decide)⟩
 refine gV ?_
 rfl
def aFf (l:List Int):Res:=if okI l then .ret (.tup []) else .pan (rR 1)
theorem S7 (l:List Int) (hl:((iv l).length:Int)<=9223372036854775807) (r:Res):∀ (n i:Nat),i+n=l.length->aFf (l.drop i)=r->
  To E Tryz.f150 (.pure r) (.head (stk Tryz.f150 0) [(4,.slice 1 (iv l) .no),(5,.int .i64 ((iv l).length:Nat)),(6,.int .i64 i)] []):=by
 have hlen:(iv l).length=l.length:=by simp
 intro n
 induction n with
 | zero=>
  intro i hi hr
  rw [Ae (by omega)] at hr
  refine gV ?_
  refine ⟨fun h=>absurd (of_decide_eq_true h) (by omega),fun h=>?_⟩
  refine gV ?_
  exact hr
 | succ n ih=>
  intro i hi hr
  have hlt:i<l.length:=by omega
  rw [Ad hlt] at hr
  have hr:(if DJ l[i]&&okI (l.drop (i+1)) then Res.ret (.tup []) else .pan (rR 1))=r:=hr
  refine gV ?_
  refine ⟨fun h=>?_,fun h=>absurd (of_decide_eq_false h) (by omega)⟩
  refine gV ?_
  refine ⟨i,rfl,?_⟩
  refine gV ?_
  refine ⟨_,dO hlt,?_⟩
  refine gV ?_
  refine ⟨fun h1=>?_,fun h1=>?_⟩
  .refine gV ?_
   rcases Ek (decide (l[i]<=1099511627776)) with h2 | h2
   .refine .pure _ [] (gF _ _ h2) ?_
    refine gV ?_
    refine .inl ⟨⟨by simp only [bY];omega,by simp only [bI];omega⟩,?_⟩
    refine gV ?_
    refine To.head [4,5,6] ?_
    refine ih (i+1) (by omega) ?_
    have h3:DJ l[i]=true:=by unfold DJ;rw [h2];simpa using h1
    rw [h3,Cb] at hr
    exact hr
   .refine .pan _ (dA _ _ h2) ?_
    have h3:DJ l[i]=false:=by unfold DJ;rw [h2];simp
    rw [h3] at hr
    exact hr
  .refine gV ?_
   refine .pan _ (dA _ _ rfl) ?_
   have h3:DJ l[i]=false:=by
    unfold DJ
    have:decide (0<=l[i])=false:=h1
    rw [this];rfl
   rw [h3] at hr
   exact hr
theorem IP (l:List Int) (r:Res) (hr:aFf l=r):aA Tryz.prog 150 [.slice 1 (iv l) .no] [] r []:=by
 refine cT (E:=E) (fn:=Tryz.f150) (g:=.pure _) fun ho=>?_
 have z3_1:=S7 l ho.1 _ l.length 0 (by omega) hr
 exact zW
theorem iZ (l:List Int) (h:okI l=true):aA Tryz.prog 150 [.slice 1 (iv l) .no] [] (.ret (.tup [])) []:=IP l _ (if_pos h)
theorem fZ (l:List Int) (h:okI l=false):aA Tryz.prog 150 [.slice 1 (iv l) .no] [] (.pan (rR 1)) []:=IP l _ (if_neg (by rw [h];simp))
def oR (b:Bool):Res:=if b then .ret (.tup []) else .pan (rR 1)
theorem A9 {b:Bool} {r:Res} (hr:oR b=r) (h:b=false):Res.pan (rR 1)=r:=by subst h;exact hr
theorem O9 (c:Con) (r:Res) (hl:((hav c.hs).length:Int)<=9223372036854775807):∀ (n i:Nat),i+n=c.hs.length->oR (VZ (c.hs.drop i)&&okI [c.half,c.age])=r->
  To E Tryz.f148 (.pure r) (.head (stk Tryz.f148 1) [(1,.ref 0 0),(37,.slice 6 (hav c.hs) .no),(38,.int .i64 ((hav c.hs).length:Nat)),(39,.int .i64 i)] [.cells 26 c.cs]):=by
 have hlen:(hav c.hs).length=c.hs.length:=by simp
 intro n
 induction n with
 | zero=>
  intro i hi hr
  rw [Ae (by omega)] at hr
  refine gV ?_
  refine ⟨fun h=>absurd (of_decide_eq_true h) (by omega),fun h=>?_⟩
  refine gV ?_
  cases h2:okI [c.half,c.age] with
  | true=>
   refine .pure _ [] (aA.strip (iZ [c.half,c.age] h2)) ?_
   refine gV ?_
   rw [h2] at hr
   exact hr
  | false=>
   refine .pan _ (aA.strip (fZ [c.half,c.age] h2)) ?_
   rw [h2] at hr
   exact hr
 | succ n ih=>
  intro i hi hr
  have hlt:i<c.hs.length:=by omega
  rw [Ad hlt] at hr
  have hr:oR ((c.hs[i].ok&&VZ (c.hs.drop (i+1)))&&okI [c.half,c.age])=r:=hr
  generalize hx:c.hs[i]=x at hr
  refine gV ?_
  refine ⟨fun h=>?_,fun h=>absurd (of_decide_eq_false h) (by omega)⟩
  refine gV ?_
  refine ⟨i,rfl,?_⟩
  refine gV ?_
  refine ⟨_,(uD hlt).trans (by rw [hx]),?_⟩
  refine gV ?_
  cases h2:okI [x.f,x.b,x.r] with
  | false=>
   refine .pan _ (aA.strip (fZ [x.f,x.b,x.r] h2)) ?_
   exact A9 hr (by unfold Hos.ok;rw [h2];rfl)
  | true=>
   refine .pure _ [] (aA.strip (iZ [x.f,x.b,x.r] h2)) ?_
   refine gV ?_
   refine ⟨by decide,?_⟩
   refine gV ?_
   cases h3:okI x.c.l with
   | false=>
    refine .pan _ (aA.strip (fZ x.c.l h3)) ?_
    exact A9 hr (by unfold Hos.ok;rw [h2,h3];rfl)
   | true=>
    refine .pure _ [] (aA.strip (iZ x.c.l h3)) ?_
    refine gV ?_
    refine .inl ⟨⟨by simp only [bY];omega,by simp only [bI];omega⟩,?_⟩
    refine gV ?_
    refine To.cut [1,37,38,39] 1 rfl rfl rfl rfl ?_
    refine ih (i+1) (by omega) ?_
    have:x.ok=true:=by unfold Hos.ok;rw [h2,h3];rfl
    rw [this,Cb] at hr
    exact hr
theorem VJ (c:Con) (r:Res) (hl:((nav c.ns).length:Int)<=9223372036854775807) (hh:((hav c.hs).length:Int)<=9223372036854775807):∀ (n i:Nat),i+n=c.ns.length->oR (aE7 (c.ns.drop i)&&(VZ c.hs&&okI [c.half,c.age]))=r->
  To E Tryz.f148 (.pure r) (.head (stk Tryz.f148 0) [(1,.ref 0 0),(7,.slice 11 (nav c.ns) .no),(8,.int .i64 ((nav c.ns).length:Nat)),(9,.int .i64 i)] [.cells 26 c.cs]):=by
 have hlen:(nav c.ns).length=c.ns.length:=by simp
 intro n
 induction n with
 | zero=>
  intro i hi hr
  rw [Ae (by omega)] at hr
  refine gV ?_
  refine ⟨fun h=>absurd (of_decide_eq_true h) (by omega),fun h=>?_⟩
  have z0_1:=O9 c r hh c.hs.length 0 (by omega) hr
  exact zW
 | succ n ih=>
  intro i hi hr
  have hlt:i<c.ns.length:=by omega
  rw [Ad hlt] at hr
  have hr:oR ((c.ns[i].ok&&aE7 (c.ns.drop (i+1)))&&(VZ c.hs&&okI [c.half,c.age]))=r:=hr
  generalize hx:c.ns[i]=x at hr
  have bad:x.ok=false->Res.pan (rR 1)=r:=fun h=>A9 hr (by rw [h];rfl)
  refine gV ?_
  refine ⟨fun h=>?_,fun h=>absurd (of_decide_eq_false h) (by omega)⟩
  refine gV ?_
  refine ⟨i,rfl,?_⟩
  refine gV ?_
  refine ⟨_,(fQ hlt).trans (by rw [hx]),?_⟩
  refine gV ?_
  refine ⟨fun h1=>?_,fun h1=>?_⟩
  .have h1:decide (-1<=x.p)=true:=h1
   refine gV ?_
   rcases Ek (decide (x.p<=1099511627776)) with h2 | h2
   .refine .pure _ [] (gF _ _ h2) ?_
    refine gV ?_
    cases h3:okI [x.w] with
    | false=>
     refine .pan _ (aA.strip (fZ [x.w] h3)) ?_
     exact bad (by unfold Nod.ok;rw [h3];simp)
    | true=>
    refine .pure _ [] (aA.strip (iZ [x.w] h3)) ?_
    refine gV ?_
    refine ⟨by decide,?_⟩
    refine gV ?_
    cases h4:okI x.n.l with
    | false=>
     refine .pan _ (aA.strip (fZ x.n.l h4)) ?_
     exact bad (by unfold Nod.ok;rw [h4];simp)
    | true=>
    refine .pure _ [] (aA.strip (iZ x.n.l h4)) ?_
    refine gV ?_
    refine ⟨by decide,?_⟩
    refine gV ?_
    cases h5:okI x.b.l with
    | false=>
     refine .pan _ (aA.strip (fZ x.b.l h5)) ?_
     exact bad (by unfold Nod.ok;rw [h5];simp)
    | true=>
    refine .pure _ [] (aA.strip (iZ x.b.l h5)) ?_
    refine gV ?_
    refine ⟨by decide,?_⟩
    refine gV ?_
    cases h6:okI x.l.l with
    | false=>
     refine .pan _ (aA.strip (fZ x.l.l h6)) ?_
     exact bad (by unfold Nod.ok;rw [h6];simp)
    | true=>
    refine .pure _ [] (aA.strip (iZ x.l.l h6)) ?_
    refine gV ?_
    refine .inl ⟨⟨by simp only [bY];omega,by simp only [bI];omega⟩,?_⟩
    refine gV ?_
    refine To.cut [1,7,8,9] 1 rfl rfl rfl rfl ?_
    refine ih (i+1) (by omega) ?_
    have:x.ok=true:=by unfold Nod.ok;rw [h1,h2,h3,h4,h5,h6];rfl
    rw [this,Cb] at hr
    exact hr
   .refine .pan _ (dA _ _ h2) ?_
    exact bad (by unfold Nod.ok;rw [h2];simp)
  .have h1:decide (-1<=x.p)=false:=h1
   refine gV ?_
   refine .pan _ (dA _ _ rfl) ?_
   exact bad (by unfold Nod.ok;rw [h1];simp)
theorem aEO (c:Con) (M:Imm) (ob:Hs) (vs:List Value) (h:bV M ob vs [c.av]):((nav c.ns).length:Int)<=9223372036854775807/\((hav c.hs).length:Int)<=9223372036854775807:=by
 have hl:0<vs.length:=by rw [h.1];simp
 have:=h.2 0 _ c.av (Aa hl) rfl
 exact ⟨bS this 0 _ rfl,bS this 1 _ rfl⟩
theorem CO (c:Con) (r:Res) (hr:oR c.tok=r):aA Tryz.prog 148 [c.av] [] r []:=by
 refine aA.get _ (aEO c) fun ⟨hl,hh⟩=>?_
 refine cT (E:=E) (fn:=Tryz.f148) (g:=.pure _) fun _=>?_
 have z1_1:=VJ c r hl hh c.ns.length 0 (by omega) (by rw [<-hr];unfold Con.tok;rw [Ej];rfl)
 exact zW
theorem VG (c:Con) (h:c.tok=true):aA Tryz.prog 148 [c.av] [] (.ret (.tup [])) []:=CO c _ (if_pos h)
theorem O3 (c:Con) (h:c.tok=false):aA Tryz.prog 148 [c.av] [] (.pan (rR 1)) []:=CO c _ (if_neg (by rw [h];simp))
theorem uF (x:Gan) (r:Res) (hr:oR x.ok=r):aA Tryz.prog 149 [x.av] [] r []:=by
 refine cT (E:=E) (fn:=Tryz.f149) (g:=.pure _) fun _=>?_
 refine gV ?_
 cases h1:okI [x.id,x.ten,x.pods,x.run,x.lev,x.pref] with
 | false=>
  refine .pan _ (aA.strip (fZ [x.id,x.ten,x.pods,x.run,x.lev,x.pref] h1)) ?_
  exact A9 hr (by unfold Gan.ok;rw [h1];rfl)
 | true=>
  refine .pure _ [] (aA.strip (iZ [x.id,x.ten,x.pods,x.run,x.lev,x.pref] h1)) ?_
  refine gV ?_
  refine ⟨by decide,?_⟩
  refine gV ?_
  cases h2:okI x.need.l with
  | false=>
   refine .pan _ (aA.strip (fZ x.need.l h2)) ?_
   exact A9 hr (by unfold Gan.ok;rw [h1,h2];rfl)
  | true=>
   refine .pure _ [] (aA.strip (iZ x.need.l h2)) ?_
   refine gV ?_
   rw [<-hr];unfold Gan.ok;rw [h1,h2];rfl
theorem yR (x:Gan) (h:x.ok=true):aA Tryz.prog 149 [x.av] [] (.ret (.tup [])) []:=uF x _ (if_pos h)
theorem aAq (x:Gan) (h:x.ok=false):aA Tryz.prog 149 [x.av] [] (.pan (rR 1)) []:=uF x _ (if_neg (by rw [h];simp))
theorem VR (x:Int):xR Tryz.prog 146 [.ref 0 0] [.cells 43 [ii x]] none [.cells 43 [ii x]]:=by
 refine xR.of (E:=E) (fn:=Tryz.f146) (n0:=1) (r:=.tup []) (by rfl) (by rfl) (by rfl) (fun _ _=>by rfl) (by rfl) (by decide+kernel) (by rfl) (by rfl) (by rfl) (by rfl) fun _=>?_
 refine gV ?_
 refine ⟨fun _=>?_,fun h=>absurd h (by decide)⟩
 exact zW
theorem cQ (x e:Int):xR Tryz.prog 146 [.ref 0 0] [.cells 43 [ii x]] (some (rR e)) [.cells 43 [ii e]]:=by
 refine xR.of (E:=E) (fn:=Tryz.f146) (n0:=1) (r:=.tup []) (by rfl) (by rfl) (by rfl) (fun _ _=>by rfl) (by rfl) (by decide+kernel) (by rfl) (by rfl) (by rfl) (by rfl) fun _=>?_
 refine gV ?_
 refine ⟨fun h=>absurd h (by decide),fun _=>?_⟩
 refine gV ?_
 refine ⟨fun _=>?_,fun h=>absurd h (by decide)⟩
 exact zW
def _root_.Go.Proofs.YtpomiadgghchnaaGreat.Gan.isZ (g:Gan):Bool:=((g.id==0)&&((g.ten==0)&&((g.pods==0)&&((g.need.a==0)&&((g.need.b==0)&&((g.need.c==0)&&((g.run==0)&&((g.lev==0)&&((g.pref==0)&&true)))))))))
def chkL (x:Cmd):Int:=if decide (((nav x.c.ns).length:Int)<=12)&&decide (((hav x.c.hs).length:Int)<=24) then 0 else 8
def aHO (x:Cmd):Int:=if okI [x.n] then chkL x else 1
def HZ (x:Cmd):Int:=if x.g.ok then aHO x else 1
def chkC (x:Cmd):Int:=if x.c.tok then HZ x else 1
def chk4 (x:Cmd):Int:=if ((x.k==3||x.k==4)||x.k==5)||x.n==0 then chkC x else 1
def chk3 (x:Cmd):Int:=if x.k==2||x.g.isZ then chk4 x else 1
def _root_.Go.Proofs.YtpomiadgghchnaaGreat.Con.non (c:Con):Bool:=((((nav c.ns).length:Int)==0&&((hav c.hs).length:Int)==0)&&c.half==0)&&c.age==0
def chk2 (x:Cmd):Int:=if x.k==1||x.c.non then chk3 x else 1
def chk (x:Cmd):Int:=if decide (1<=x.k)&&decide (x.k<=6) then chk2 x else 1
abbrev chF:List (Nat×AVal):=[(1,.ref 0 0),(2,.ref 1 0)]
abbrev chO (x:Cmd):List AObj:=[.cells 38 x.cs,.cells 43 [ii 0]]
noncomputable abbrev Ec:Env:=Ed [(146,[.ref 1 0])]
theorem hEc:EnvOK Ec:=hEd _
theorem aES (x:Cmd) (r:Int) (h:0=r):To Ec Tryz.f69 (.pure (.ret (ii r))) (.code (iG Tryz.f69 9) chF (chO x)):=by
 subst h
 refine gW hEc ?_;conv=>whnf
 refine To.leave (f:=146) (args:=[.ref 1 0]) [] rfl [] [1] rfl (VR 0) ?_
 exact To.left hE rfl rfl rfl
theorem aI1 (x:Cmd) (r:Int) (hr:chkL x=r):To Ec Tryz.f69 (.pure (.ret (ii r))) (.code (iG Tryz.f69 8) chF (chO x)):=by
 unfold chkL at hr
 refine gW hEc ?_;conv=>whnf
 refine ⟨fun h1=>?_,fun h1=>?_⟩
 .refine gW hEc ?_;conv=>whnf
  rcases Ek (decide (((hav x.c.hs).length:Int)<=24)) with h2 | h2
  .rw [h2,h1] at hr
   refine .pure _ [] (gF _ _ h2) ?_
   refine dP hEc 2 ?_;conv=>whnf
   refine To.cutC [1,2] 2 rfl rfl rfl rfl ?_
   exact (aES x r hr)
  .rw [h2,Ci] at hr
   subst hr
   refine .pan _ (dA _ _ h2) ?_;conv=>whnf
   refine To.leave (f:=146) (args:=[.ref 1 0]) [] rfl [] [1] rfl (cQ 0 8) ?_
   exact To.left hE rfl rfl rfl
 .rw [h1,Dz] at hr
  subst hr
  refine gW hEc ?_;conv=>whnf
  refine .pan _ (dA _ _ rfl) ?_;conv=>whnf
  refine To.leave (f:=146) (args:=[.ref 1 0]) [] rfl [] [1] rfl (cQ 0 8) ?_
  exact To.left hE rfl rfl rfl
theorem aI2 (x:Cmd) (r:Int) (hr:aHO x=r):To Ec Tryz.f69 (.pure (.ret (ii r))) (.code (iG Tryz.f69 7) chF (chO x)):=by
 unfold aHO at hr
 refine gW hEc ?_;conv=>whnf
 cases h:okI [x.n] with
 | true=>
  rw [h] at hr
  refine .pure _ [] (aA.strip (iZ [x.n] h)) ?_
  refine dP hEc 2 ?_;conv=>whnf
  refine To.cutC [1,2] 2 rfl rfl rfl rfl ?_
  exact (aI1 x r hr)
 | false=>
  rw [h] at hr
  subst hr
  refine .pan _ (aA.strip (fZ [x.n] h)) ?_;conv=>whnf
  refine To.leave (f:=146) (args:=[.ref 1 0]) [] rfl [] [1] rfl (cQ 0 1) ?_
  exact To.left hE rfl rfl rfl
theorem aI3 (x:Cmd) (r:Int) (hr:HZ x=r):To Ec Tryz.f69 (.pure (.ret (ii r))) (.code (iG Tryz.f69 6) chF (chO x)):=by
 unfold HZ at hr
 refine gW hEc ?_;conv=>whnf
 cases h:x.g.ok with
 | true=>
  rw [h] at hr
  refine .pure _ [] (yR x.g h) ?_
  refine dP hEc 2 ?_;conv=>whnf
  refine To.cutC [1,2] 2 rfl rfl rfl rfl ?_
  exact (aI2 x r hr)
 | false=>
  rw [h] at hr
  subst hr
  refine .pan _ (aAq x.g h) ?_;conv=>whnf
  refine To.leave (f:=146) (args:=[.ref 1 0]) [] rfl [] [1] rfl (cQ 0 1) ?_
  exact To.left hE rfl rfl rfl
theorem SJ (x:Cmd) (r:Int) (hr:chkC x=r):To Ec Tryz.f69 (.pure (.ret (ii r))) (.code (iG Tryz.f69 5) chF (chO x)):=by
 unfold chkC at hr
 refine gW hEc ?_;conv=>whnf
 cases h:x.c.tok with
 | true=>
  rw [h] at hr
  refine .pure _ [] (VG x.c h) ?_
  refine dP hEc 2 ?_;conv=>whnf
  refine To.cutC [1,2] 2 rfl rfl rfl rfl ?_
  exact (aI3 x r hr)
 | false=>
  rw [h] at hr
  subst hr
  refine .pan _ (O3 x.c h) ?_;conv=>whnf
  refine To.leave (f:=146) (args:=[.ref 1 0]) [] rfl [] [1] rfl (cQ 0 1) ?_
  exact To.left hE rfl rfl rfl
theorem lU {b:Bool} {p q r:Int} (hr:(if b then p else q)=r) (h:b=true):p=r:=by subst h;exact hr
theorem vV {b:Bool} {p q r:Int} (hr:(if b then p else q)=r) (h:b=false):q=r:=by subst h;exact hr
theorem aFD (x:Cmd) (r:Int) (hr:chk4 x=r):To Ec Tryz.f69 (.pure (.ret (ii r))) (.code (iG Tryz.f69 4) chF (chO x)):=by
 unfold chk4 at hr
 refine gW hEc ?_;conv=>whnf
 refine ⟨fun h1=>?_,fun h1=>?_⟩
 .have h1:(x.k==3)=true:=h1
  replace hr:=lU hr (by simp [h1])
  refine gW hEc ?_;conv=>whnf
  refine aY ?_
  refine gW hEc ?_;conv=>whnf
  refine aY ?_
  refine gW hEc ?_;conv=>whnf
  refine .pure _ [] (gF _ _ rfl) ?_
  refine dP hEc 2 ?_;conv=>whnf
  refine To.cutC [1,2] 2 rfl rfl rfl rfl ?_
  exact (SJ x r hr)
 .have h1:(x.k==3)=false:=h1
  refine gW hEc ?_;conv=>whnf
  refine ⟨fun h2=>?_,fun h2=>?_⟩
  .have h2:(x.k==4)=true:=h2
   replace hr:=lU hr (by simp [h2])
   refine gW hEc ?_;conv=>whnf
   refine aY ?_
   refine gW hEc ?_;conv=>whnf
   refine .pure _ [] (gF _ _ rfl) ?_
   refine dP hEc 2 ?_;conv=>whnf
   refine To.cutC [1,2] 2 rfl rfl rfl rfl ?_
   exact (SJ x r hr)
  .have h2:(x.k==4)=false:=h2
   refine gW hEc ?_;conv=>whnf
   refine ⟨fun h3=>?_,fun h3=>?_⟩
   .have h3:(x.k==5)=true:=h3
    replace hr:=lU hr (by simp [h3])
    refine gW hEc ?_;conv=>whnf
    refine .pure _ [] (gF _ _ rfl) ?_
    refine dP hEc 2 ?_;conv=>whnf
    refine To.cutC [1,2] 2 rfl rfl rfl rfl ?_
    exact (SJ x r hr)
   .have h3:(x.k==5)=false:=h3
    refine gW hEc ?_;conv=>whnf
    refine (Ek (x.n==0)).elim (fun h4=>?_) (fun h4=>?_)
    .replace hr:=lU hr (by simp [h4])
     refine .pure _ [] (gF _ _ h4) ?_
     refine dP hEc 2 ?_;conv=>whnf
     refine To.cutC [1,2] 2 rfl rfl rfl rfl ?_
     exact (SJ x r hr)
    .replace hr:=vV hr (by simp [h1,h2,h3,h4])
     subst hr
     refine .pan _ (dA _ _ h4) ?_;conv=>whnf
     refine To.leave (f:=146) (args:=[.ref 1 0]) [] rfl [] [1] rfl (cQ 0 1) ?_
     exact To.left hE rfl rfl rfl
theorem aFE (x:Cmd) (r:Int) (hr:chk3 x=r):To Ec Tryz.f69 (.pure (.ret (ii r))) (.code (iG Tryz.f69 3) chF (chO x)):=by
 unfold chk3 at hr
 refine gW hEc ?_;conv=>whnf
 refine ⟨fun h1=>?_,fun h1=>?_⟩
 .have h1:(x.k==2)=true:=h1
  replace hr:=lU hr (by simp [h1])
  refine gW hEc ?_;conv=>whnf
  refine .pure _ [] (gF _ _ rfl) ?_
  refine dP hEc 2 ?_;conv=>whnf
  refine To.cutC [1,2] 2 rfl rfl rfl rfl ?_
  exact (aFD x r hr)
 .have h1:(x.k==2)=false:=h1
  refine gW hEc ?_;conv=>whnf
  refine (Ek x.g.isZ).elim (fun h4=>?_) (fun h4=>?_)
  .replace hr:=lU hr (by simp [h4])
   refine .pure _ [] (gF _ _ h4) ?_
   refine dP hEc 2 ?_;conv=>whnf
   refine To.cutC [1,2] 2 rfl rfl rfl rfl ?_
   exact (aFD x r hr)
  .replace hr:=vV hr (by simp [h1,h4])
   subst hr
   refine .pan _ (dA _ _ h4) ?_;conv=>whnf
   refine To.leave (f:=146) (args:=[.ref 1 0]) [] rfl [] [1] rfl (cQ 0 1) ?_
   exact To.left hE rfl rfl rfl
theorem aI4 (x:Cmd) (r:Int) (hr:chk2 x=r):To Ec Tryz.f69 (.pure (.ret (ii r))) (.code (iG Tryz.f69 2) chF (chO x)):=by
 unfold chk2 Con.non at hr
 refine gW hEc ?_;conv=>whnf
 refine ⟨fun h1=>?_,fun h1=>?_⟩
 .have h1:(x.k==1)=true:=h1
  replace hr:=lU hr (by rw [h1];rfl)
  refine gW hEc ?_;conv=>whnf
  refine .pure _ [] (gF _ _ rfl) ?_
  refine dP hEc 2 ?_;conv=>whnf
  refine To.cutC [1,2] 2 rfl rfl rfl rfl ?_
  exact (aFE x r hr)
 .have h1:(x.k==1)=false:=h1
  refine gW hEc ?_;conv=>whnf
  refine ⟨fun h2=>?_,fun h2=>?_⟩
  .have h2:(((nav x.c.ns).length:Int)==0)=true:=h2
   refine gW hEc ?_;conv=>whnf
   refine ⟨fun h3=>?_,fun h3=>?_⟩
   .have h3:(((hav x.c.hs).length:Int)==0)=true:=h3
    refine gW hEc ?_;conv=>whnf
    refine ⟨fun h4=>?_,fun h4=>?_⟩
    .have h4:(x.c.half==0)=true:=h4
     refine gW hEc ?_;conv=>whnf
     refine (Ek (x.c.age==0)).elim (fun h5=>?_) (fun h5=>?_)
     .replace hr:=lU hr (by rw [h1,h2,h3,h4,h5];rfl)
      refine .pure _ [] (gF _ _ h5) ?_
      refine dP hEc 2 ?_;conv=>whnf
      refine To.cutC [1,2] 2 rfl rfl rfl rfl ?_
      exact (aFE x r hr)
     .replace hr:=vV hr (by rw [h1,h5,Ci];rfl)
      subst hr
      refine .pan _ (dA _ _ h5) ?_;conv=>whnf
      refine To.leave (f:=146) (args:=[.ref 1 0]) [] rfl [] [1] rfl (cQ 0 1) ?_
      exact To.left hE rfl rfl rfl
    .have h4:(x.c.half==0)=false:=h4
     replace hr:=vV hr (by rw [h1,h4,Ci,Dz];rfl)
     subst hr
     refine gW hEc ?_;conv=>whnf
     refine .pan _ (dA _ _ rfl) ?_;conv=>whnf
     refine To.leave (f:=146) (args:=[.ref 1 0]) [] rfl [] [1] rfl (cQ 0 1) ?_
     exact To.left hE rfl rfl rfl
   .have h3:(((hav x.c.hs).length:Int)==0)=false:=h3
    replace hr:=vV hr (by rw [h1,h3,Ci];rfl)
    subst hr
    refine gW hEc ?_;conv=>whnf
    refine aN ?_
    refine gW hEc ?_;conv=>whnf
    refine .pan _ (dA _ _ rfl) ?_;conv=>whnf
    refine To.leave (f:=146) (args:=[.ref 1 0]) [] rfl [] [1] rfl (cQ 0 1) ?_
    exact To.left hE rfl rfl rfl
  .have h2:(((nav x.c.ns).length:Int)==0)=false:=h2
   replace hr:=vV hr (by rw [h1,h2];rfl)
   subst hr
   refine gW hEc ?_;conv=>whnf
   refine aN ?_
   refine gW hEc ?_;conv=>whnf
   refine aN ?_
   refine gW hEc ?_;conv=>whnf
   refine .pan _ (dA _ _ rfl) ?_;conv=>whnf
   refine To.leave (f:=146) (args:=[.ref 1 0]) [] rfl [] [1] rfl (cQ 0 1) ?_
   exact To.left hE rfl rfl rfl
theorem aI5 (x:Cmd) (r:Int) (hr:chk x=r):To Ec Tryz.f69 (.pure (.ret (ii r))) (.code (iG Tryz.f69 1) chF (chO x)):=by
 unfold chk at hr
 refine gW hEc ?_;conv=>whnf
 refine ⟨fun h1=>?_,fun h1=>?_⟩
 .have h1:decide (1<=x.k)=true:=h1
  refine gW hEc ?_;conv=>whnf
  refine (Ek (decide (x.k<=6))).elim (fun h2=>?_) (fun h2=>?_)
  .rw [h1,h2] at hr
   refine .pure _ [] (gF _ _ h2) ?_
   refine dP hEc 2 ?_;conv=>whnf
   refine To.cutC [1,2] 2 rfl rfl rfl rfl ?_
   exact (aI4 x r hr)
  .rw [h2,Ci] at hr
   subst hr
   refine .pan _ (dA _ _ h2) ?_;conv=>whnf
   refine To.leave (f:=146) (args:=[.ref 1 0]) [] rfl [] [1] rfl (cQ 0 1) ?_
   exact To.left hE rfl rfl rfl
 .have h1:decide (1<=x.k)=false:=h1
  rw [h1,Dz] at hr
  subst hr
  refine gW hEc ?_;conv=>whnf
  refine .pan _ (dA _ _ rfl) ?_;conv=>whnf
  refine To.leave (f:=146) (args:=[.ref 1 0]) [] rfl [] [1] rfl (cQ 0 1) ?_
  exact To.left hE rfl rfl rfl
theorem check_any (x:Cmd) (r:Int) (hr:chk x=r):aA Tryz.prog 69 [x.av] [] (.ret (ii r)) []:=by
 refine cT (E:=E) (fn:=Tryz.f69) (g:=.pure _) fun _=>?_
 refine gV ?_
 refine To.defer (f:=146) (args:=[.ref 1 0]) _ rfl rfl ?_
 refine To.cutC [1,2] 2 rfl rfl rfl rfl ?_
 exact aI5 x r hr
def lJ (r:Nat):Code->List KI->Option (List KI)
 | .region id o d,ks=>bif Aq id r then some (.code (.region id o d)::ks) else none
 | .seq a b,ks=>(match lJ r a (.code b::ks) with | some x=>some x | none=>lJ r b ks)
 | .cond _ a b,ks=>(match lJ r a ks with | some x=>some x | none=>lJ r b ks)
 | .block id b,ks=>lJ r b (.inB id::ks)
 | .loop b,ks=>lJ r b (.inL b::ks)
 | _,_=>none
def jV (fn:Func) (r:Nat):List KI:=match lJ r (cU fn) [] with | some ks=>ks | none=>[]
def eqL {α:Type} (f:α->α->Bool):List α->List α->Bool
 | [],[]=>true
 | x::r,y::s=>f x y&&eqL f r s
 | _,_=>false
theorem eqL_len {α:Type} {f:α->α->Bool}:∀ {a b:List α},a.length≠b.length->eqL f a b=false
 | [],[],h=>absurd rfl h
 | [],_::_,_=>rfl
 | _::_,[],_=>rfl
 | x::r,y::s,h=>by
  have:=eqL_len (f:=f) (a:=r) (b:=s) (by simpa using h)
  simp [eqL,this]
def _root_.Go.Proofs.YtpomiadgghchnaaGreat.Nod.eqb (x y:Nod):Bool:=(x.p==y.p)&&((x.w==y.w)&&((x.n.a==y.n.a)&&((x.n.b==y.n.b)&&((x.n.c==y.n.c)&&((x.b.a==y.b.a)&&((x.b.b==y.b.b)&&((x.b.c==y.b.c)&&((x.l.a==y.l.a)&&((x.l.b==y.l.b)&&((x.l.c==y.l.c)&&true))))))))))
def _root_.Go.Proofs.YtpomiadgghchnaaGreat.Hos.eqb (x y:Hos):Bool:=(x.f==y.f)&&((x.b==y.b)&&((x.r==y.r)&&((x.c.a==y.c.a)&&((x.c.b==y.c.b)&&((x.c.c==y.c.c)&&true)))))
def _root_.Go.Proofs.YtpomiadgghchnaaGreat.Gan.eqb (x y:Gan):Bool:=(x.id==y.id)&&((x.ten==y.ten)&&((x.pods==y.pods)&&((x.need.a==y.need.a)&&((x.need.b==y.need.b)&&((x.need.c==y.need.c)&&((x.run==y.run)&&((x.lev==y.lev)&&((x.pref==y.pref)&&true))))))))
theorem _root_.Go.Proofs.YtpomiadgghchnaaGreat.Nod.eqb_eq {x y:Nod}:x.eqb y=true↔x=y:=by
 obtain ⟨_,_,⟨_,_,_⟩,⟨_,_,_⟩,⟨_,_,_⟩⟩:=x
 obtain ⟨_,_,⟨_,_,_⟩,⟨_,_,_⟩,⟨_,_,_⟩⟩:=y
 simp [Nod.eqb,and_assoc]
theorem _root_.Go.Proofs.YtpomiadgghchnaaGreat.Hos.eqb_eq {x y:Hos}:x.eqb y=true↔x=y:=by
 obtain ⟨_,_,_,⟨_,_,_⟩⟩:=x
 obtain ⟨_,_,_,⟨_,_,_⟩⟩:=y
 simp [Hos.eqb]
theorem _root_.Go.Proofs.YtpomiadgghchnaaGreat.Gan.eqb_eq {x y:Gan}:x.eqb y=true↔x=y:=by
 obtain ⟨_,_,_,⟨_,_,_⟩,_,_,_⟩:=x
 obtain ⟨_,_,_,⟨_,_,_⟩,_,_,_⟩:=y
 simp [Gan.eqb,and_assoc]
theorem aAS (a b:List Nod) (hab:a.length=b.length) (hl:((nav a).length:Int)<=9223372036854775807) (r:Bool):∀ (n i:Nat),i+n=a.length->eqL Nod.eqb (a.drop i) (b.drop i)=r->
  To E Tryz.f168 (.pure (.ret (.bool r))) (.head (stk Tryz.f168 0) [(0,.slice 11 (nav a) .no),(1,.slice 11 (nav b) .no),(12,.int .i64 ((nav a).length:Nat)),(13,.int .i64 i)] []):=by
 have hlen:(nav a).length=a.length:=by simp
 intro n
 induction n with
 | zero=>
  intro i hi hr
  rw [Ae (by omega),Ae (by omega)] at hr
  subst hr
  refine gV ?_
  exact zW
 | succ n ih=>
  intro i hi hr
  have h1:i<a.length:=by omega
  have h2:i<b.length:=by omega
  rw [Ad h1,Ad h2] at hr
  have hr:(Nod.eqb a[i] b[i]&&eqL Nod.eqb (a.drop (i+1)) (b.drop (i+1)))=r:=hr
  generalize hx:a[i]=x at hr
  generalize hy:b[i]=y at hr
  have ga:(nav a)[i]? =some (Nod.av x):=by simp [hx,h1]
  have gb:(nav b)[i]? =some (Nod.av y):=by simp [hy,h2]
  refine gV ?_
  refine aT fun h=>?_
  repeat' first | (refine gN hE ?_;conv=>whnf) | refine ⟨_,ga,?_⟩ | refine ⟨_,gb,?_⟩ | exact rfl | refine aY ?_ | refine aN ?_ | refine aT fun h=>?_ | refine aF fun h=>?_ | refine ⟨fun h=>?_,fun h=>?_⟩ | refine aJ ?_ | refine ⟨_,rfl,?_⟩ | refine aD ?_ | fail
  .rename_i h
   have h:Nod.eqb x y=false:=oL h
   rw [h] at hr
   rw [<-hr];rfl
  .rename_i h
   have h:Nod.eqb x y=true:=oM h
   rw [h,Cb] at hr
   have z1_1:=ih (i+1) (by omega) hr
   exact zW
theorem eqN_ok (a b:List Nod):aA Tryz.prog 168 [.slice 11 (nav a) .no,.slice 11 (nav b) .no] [] (.ret (.bool (eqL Nod.eqb a b))) []:=by
 have hla:(nav a).length=a.length:=by simp
 have hlb:(nav b).length=b.length:=by simp
 refine cT (E:=E) (fn:=Tryz.f168) (g:=.pure _) fun ho=>?_
 have hl:((nav a).length:Int)<=9223372036854775807:=ho.1
 refine gV ?_
 refine ⟨fun h=>?_,fun h=>?_⟩
 .have h:(((nav a).length:Int) !=((nav b).length:Int))=true:=h
  rw [eqL_len (by intro e;rw [hla,hlb,e] at h;simp at h)]
  refine gW (by first | exact hE | exact hEr _ _ | exact hEo _ _) ?_;conv=>whnf
 .have h:(((nav a).length:Int) !=((nav b).length:Int))=false:=h
  have z3_1:=aAS a b (by simp at h;omega) hl _ a.length 0 (by omega) rfl
  exact zW
theorem aAU (a b:List Hos) (hab:a.length=b.length) (hl:((hav a).length:Int)<=9223372036854775807) (r:Bool):∀ (n i:Nat),i+n=a.length->eqL Hos.eqb (a.drop i) (b.drop i)=r->
  To E Tryz.f169 (.pure (.ret (.bool r))) (.head (stk Tryz.f169 0) [(0,.slice 6 (hav a) .no),(1,.slice 6 (hav b) .no),(12,.int .i64 ((hav a).length:Nat)),(13,.int .i64 i)] []):=by
 have hlen:(hav a).length=a.length:=by simp
 intro n
 induction n with
 | zero=>
  intro i hi hr
  rw [Ae (by omega),Ae (by omega)] at hr
  subst hr
  refine gV ?_
  exact zW
 | succ n ih=>
  intro i hi hr
  have h1:i<a.length:=by omega
  have h2:i<b.length:=by omega
  rw [Ad h1,Ad h2] at hr
  have hr:(Hos.eqb a[i] b[i]&&eqL Hos.eqb (a.drop (i+1)) (b.drop (i+1)))=r:=hr
  generalize hx:a[i]=x at hr
  generalize hy:b[i]=y at hr
  have ga:(hav a)[i]? =some (Hos.av x):=by simp [hx,h1]
  have gb:(hav b)[i]? =some (Hos.av y):=by simp [hy,h2]
  refine gV ?_
  refine aT fun h=>?_
  repeat' first | (refine gN hE ?_;conv=>whnf) | refine ⟨_,ga,?_⟩ | refine ⟨_,gb,?_⟩ | exact rfl | refine aY ?_ | refine aN ?_ | refine aT fun h=>?_ | refine aF fun h=>?_ | refine ⟨fun h=>?_,fun h=>?_⟩ | refine aJ ?_ | refine ⟨_,rfl,?_⟩ | refine aD ?_ | fail
  .rename_i h
   have h:Hos.eqb x y=false:=oL h
   rw [h] at hr
   rw [<-hr];rfl
  .rename_i h
   have h:Hos.eqb x y=true:=oM h
   rw [h,Cb] at hr
   have z5_1:=ih (i+1) (by omega) hr
   exact zW
theorem eqH_ok (a b:List Hos):aA Tryz.prog 169 [.slice 6 (hav a) .no,.slice 6 (hav b) .no] [] (.ret (.bool (eqL Hos.eqb a b))) []:=by
 have hla:(hav a).length=a.length:=by simp
 have hlb:(hav b).length=b.length:=by simp
 refine cT (E:=E) (fn:=Tryz.f169) (g:=.pure _) fun ho=>?_
 have hl:((hav a).length:Int)<=9223372036854775807:=ho.1
 refine gV ?_
 refine ⟨fun h=>?_,fun h=>?_⟩
 .have h:(((hav a).length:Int) !=((hav b).length:Int))=true:=h
  rw [eqL_len (by intro e;rw [hla,hlb,e] at h;simp at h)]
  refine gW (by first | exact hE | exact hEr _ _ | exact hEo _ _) ?_;conv=>whnf
 .have h:(((hav a).length:Int) !=((hav b).length:Int))=false:=h
  have z7_1:=aAU a b (by simp at h;omega) hl _ a.length 0 (by omega) rfl
  exact zW
def sameC (a b:Con):Bool:=eqL Nod.eqb a.ns b.ns&&(eqL Hos.eqb a.hs b.hs&&((a.half==b.half)&&(a.age==b.age)))
def same (a b:Cmd):Bool:=(a.k==b.k)&&(a.g.eqb b.g&&((a.n==b.n)&&sameC a.c b.c))
noncomputable abbrev aEe:Func:=Tryz.f77
theorem XS (a b:Con) (hab:a.hs.length=b.hs.length) (hl:((hav a.hs).length:Int)<=9223372036854775807) (r:Bool):∀ (n i:Nat),i+n=a.hs.length->eqL Hos.eqb (a.hs.drop i) (b.hs.drop i)=r->
  To E aEe (.pure (.ret (.bool r))) (.head (stk aEe 1) [(2,.ref 0 0),(3,.ref 1 0),(6,.int .i64 i)] [.cells 26 a.cs,.cells 26 b.cs]):=by
 have hlen:(hav a.hs).length=a.hs.length:=by simp
 intro n
 induction n with
 | zero=>
  intro i hi hr
  rw [Ae (by omega),Ae (by omega)] at hr
  subst hr
  refine gV ?_
  exact zW
 | succ n ih=>
  intro i hi hr
  have h1:i<a.hs.length:=by omega
  have h2:i<b.hs.length:=by omega
  rw [Ad h1,Ad h2] at hr
  have hr:(Hos.eqb a.hs[i] b.hs[i]&&eqL Hos.eqb (a.hs.drop (i+1)) (b.hs.drop (i+1)))=r:=hr
  generalize hx:a.hs[i]=x at hr
  generalize hy:b.hs[i]=y at hr
  have ga:(hav a.hs)[i]? =some (Hos.av x):=by simp [hx,h1]
  have gb:(hav b.hs)[i]? =some (Hos.av y):=by simp [hy,h2]
  refine gV ?_
  refine aT fun h=>?_
  repeat' first | (refine gN hE ?_;conv=>whnf) | refine ⟨_,ga,?_⟩ | refine ⟨_,gb,?_⟩ | exact rfl | refine aY ?_ | refine aN ?_ | refine aT fun h=>?_ | refine aF fun h=>?_ | refine ⟨fun h=>?_,fun h=>?_⟩ | refine aJ ?_ | refine ⟨_,rfl,?_⟩ | refine aD ?_ | fail
  .have h:Hos.eqb x y=false:=oL h
   rw [h] at hr
   rw [<-hr];rfl
  .have h:Hos.eqb x y=true:=oM h
   rw [h,Cb] at hr
   have z1_1:=ih (i+1) (by omega) hr
   exact zW
theorem XR (a b:Con) (hab:a.ns.length=b.ns.length) (hhs:a.hs.length=b.hs.length) (hl:((nav a.ns).length:Int)<=9223372036854775807) (hlh:((hav a.hs).length:Int)<=9223372036854775807) (r:Bool):∀ (n i:Nat),i+n=a.ns.length->(eqL Nod.eqb (a.ns.drop i) (b.ns.drop i)&&eqL Hos.eqb a.hs b.hs)=r->
  To E aEe (.pure (.ret (.bool r))) (.head (stk aEe 0) [(2,.ref 0 0),(3,.ref 1 0),(5,.int .i64 i)] [.cells 26 a.cs,.cells 26 b.cs]):=by
 have hlen:(nav a.ns).length=a.ns.length:=by simp
 intro n
 induction n with
 | zero=>
  intro i hi hr
  rw [Ae (by omega),Ae (by omega)] at hr
  have hr:eqL Hos.eqb a.hs b.hs=r:=hr
  refine gV ?_
  have z2_1:=XS a b hhs hlh r a.hs.length 0 (by omega) hr
  exact zW
 | succ n ih=>
  intro i hi hr
  have h1:i<a.ns.length:=by omega
  have h2:i<b.ns.length:=by omega
  rw [Ad h1,Ad h2] at hr
  have hr:((Nod.eqb a.ns[i] b.ns[i]&&eqL Nod.eqb (a.ns.drop (i+1)) (b.ns.drop (i+1)))&&eqL Hos.eqb a.hs b.hs)=r:=hr
  generalize hx:a.ns[i]=x at hr
  generalize hy:b.ns[i]=y at hr
  have ga:(nav a.ns)[i]? =some (Nod.av x):=by simp [hx,h1]
  have gb:(nav b.ns)[i]? =some (Nod.av y):=by simp [hy,h2]
  refine gV ?_
  refine aT fun h=>?_
  repeat' first | (refine gN hE ?_;conv=>whnf) | refine ⟨_,ga,?_⟩ | refine ⟨_,gb,?_⟩ | exact rfl | refine aY ?_ | refine aN ?_ | refine aT fun h=>?_ | refine aF fun h=>?_ | refine ⟨fun h=>?_,fun h=>?_⟩ | refine aJ ?_ | refine ⟨_,rfl,?_⟩ | refine aD ?_ | fail
  .have h:Nod.eqb x y=false:=oL h
   rw [h] at hr
   rw [<-hr];rfl
  .have h:Nod.eqb x y=true:=oM h
   rw [h,Cb] at hr
   have z3_1:=ih (i+1) (by omega) hr
   exact zW
theorem aBh (a b:Con) (M:Imm) (ob:Hs) (vs:List Value) (h:bV M ob vs [a.av,b.av]):((nav a.ns).length:Int)<=9223372036854775807/\((hav a.hs).length:Int)<=9223372036854775807:=by
 have hl:0<vs.length:=by rw [h.1];simp
 have:=h.2 0 _ a.av (Aa hl) rfl
 exact ⟨bS this 0 _ rfl,bS this 1 _ rfl⟩
theorem QZ {a b:Nat} (h:((a:Int) !=(b:Int))=true):a≠b:=by
 intro e;rw [e] at h;simp at h
theorem R7 {a b:Nat} (h:((a:Int) !=(b:Int))=false):a=b:=by
 simp at h;omega
theorem XT (a b:Con) (r:Bool) (hr:sameC a b=r):aA Tryz.prog 77 [a.av,b.av] [] (.ret (.bool r)) []:=by
 refine aA.get _ (aBh a b) fun ⟨hl,hlh⟩=>?_
 have la:(nav a.ns).length=a.ns.length:=by simp
 have lb:(nav b.ns).length=b.ns.length:=by simp
 have ka:(hav a.hs).length=a.hs.length:=by simp
 have kb:(hav b.hs).length=b.hs.length:=by simp
 refine cT (E:=E) (fn:=Tryz.f77) (g:=.pure _) fun _=>?_
 refine gV ?_
 refine Ac (fun h1=>?_) (fun h1=>?_)
 .have h1:(((nav a.ns).length:Int) !=((nav b.ns).length:Int))=true:=h1
  have e:sameC a b=false:=by unfold sameC;rw [eqL_len (by rw [<-la,<-lb];exact QZ h1)];rfl
  rw [e] at hr
  subst hr
  exact zW
 .have h1:(((nav a.ns).length:Int) !=((nav b.ns).length:Int))=false:=h1
  refine gV ?_
  refine Ac (fun h2=>?_) (fun h2=>?_)
  .have h2:(((hav a.hs).length:Int) !=((hav b.hs).length:Int))=true:=h2
   have e:sameC a b=false:=by unfold sameC;rw [eqL_len (f:=Hos.eqb) (by rw [<-ka,<-kb];exact QZ h2),Dz,Ci]
   rw [e] at hr
   subst hr
   exact zW
  .have h2:(((hav a.hs).length:Int) !=((hav b.hs).length:Int))=false:=h2
   have p1:=R7 h1
   have p2:=R7 h2
   refine gV ?_
   refine Ac (fun h3=>?_) (fun h3=>?_)
   .have h3:(!(a.half==b.half))=true:=h3
    have h3:=oL h3
    have e:sameC a b=false:=by unfold sameC;rw [h3,Dz,Ci,Ci]
    rw [e] at hr
    subst hr
    exact zW
   .have h3:(!(a.half==b.half))=false:=h3
    have h3:=oM h3
    refine gV ?_
    refine Ac (fun h4=>?_) (fun h4=>?_)
    .have h4:(!(a.age==b.age))=true:=h4
     have h4:=oL h4
     have e:sameC a b=false:=by unfold sameC;rw [h4,Ci,Ci,Ci]
     rw [e] at hr
     subst hr
     exact zW
    .have h4:(!(a.age==b.age))=false:=h4
     have h4:=oM h4
     have e:sameC a b=(eqL Nod.eqb a.ns b.ns&&eqL Hos.eqb a.hs b.hs):=by unfold sameC;rw [h3,h4,Iy,Iy]
     rw [e] at hr
     have z8_1:=XR a b (by omega) (by omega) hl hlh _ a.ns.length 0 (by omega) hr
     exact zW
theorem rsame_c (a b:Con):aA Tryz.prog 77 [a.av,b.av] [] (.ret (.bool (sameC a b))) []:=XT a b _ rfl
set_option maxHeartbeats 2000000
end Go.Proofs.YtpomiadgghchnaaGreat.C8
namespace Go.Proofs.YtpomiadgghchnaaGreat.Q2
open Go Go.AW Go.Proofs
structure Pend where
 (id tenant pods n0 n1 n2 run level prefer seq since:Int)
 deriving DecidableEq
def Pend.cs (p:Pend):List AVal:=[.int .i64 p.id,.int .i64 p.tenant,.int .i64 p.pods,.int .i64 p.n0,.int .i64 p.n1,.int .i64 p.n2,.int .i64 p.run,.int .i64 p.level,.int .i64 p.prefer,.int .i64 p.seq,.int .i64 p.since]
def Pend.av (p:Pend):AVal:=.agg p.cs
abbrev pav (l:List Pend):List AVal:=l.map Pend.av
theorem yA {n:Int} (h1: -9223372036854775808<=n) (h2:n<=9223372036854775807):inR .i64 n:=⟨by simp only [bY];omega,by simp only [bI];omega⟩
def idx (p:Pend->Bool):List Pend->Int->Int
 | [],_=> -1
 | x::r,i=>if p x then i else idx p r (i+1)
def findP (a:Int) (l:List Pend):Int:=idx (fun x=>x.id==a) l 0
def Y8 (a b:Int):Pend:=⟨a,0,0,0,0,0,0,0,0,b,0⟩
theorem lS {l:List Pend} {i:Nat} (h:i<l.length):(pav l)[i]? =some l[i].av:=by
 simp [pav,h]
set_option maxRecDepth 10000
theorem aIw (p:Pend):aA Tryz.prog 422 [p.av] [] (.ret (.int .i64 p.id)) []:=by
 refine cT (E:=E) (fn:=Tryz.f422) (g:=.pure _) fun _=>?_
 refine gW (by first | exact hE | exact hEr _ _ | exact hEo _ _) ?_;conv=>whnf
theorem XJ (p:Pend):aA Tryz.prog 423 [p.av] [] (.ret (.int .i64 p.seq)) []:=by
 refine cT (E:=E) (fn:=Tryz.f423) (g:=.pure _) fun _=>?_
 refine gW (by first | exact hE | exact hEr _ _ | exact hEo _ _) ?_;conv=>whnf
theorem aIt (p:Pend) (b:Int):aA Tryz.prog 198 [.iface 205 p.av,.int .i64 b] [] (.ret (.bool (p.id==b))) []:=by
 refine cT (E:=E) (fn:=Tryz.f198) (g:=.pure _) fun _=>?_
 have z2_1:=aIw p
 exact zW
theorem VV (p q:Pend):aA Tryz.prog 121 [.iface 205 p.av,.iface 205 q.av] [] (.ret (.bool (decide (q.seq<p.seq)))) []:=by
 refine cT (E:=E) (fn:=Tryz.f121) (g:=.pure _) fun _=>?_
 have z3_1:=XJ p
 have z3_2:=XJ q
 exact zW
theorem aC2 (x p:Pend):aA Tryz.prog 231 [x.av,.ptr p.cs] [] (.ret (.bool (decide (p.seq<x.seq)))) []:=by
 refine cT (E:=E) (fn:=Tryz.f231) (g:=.pure _) fun _=>?_
 have z4_1:=VV x p
 exact zW
theorem aAE (x:Pend) (a:Int):aA Tryz.prog 197 [x.av,.ptr [.int .i64 a]] [] (.ret (.bool (x.id==a))) []:=by
 refine cT (E:=E) (fn:=Tryz.f197) (g:=.pure _) fun _=>?_
 have z5_1:=aIt x a
 exact zW
theorem N5 (f:FuncId) (l:List AVal) (xs:List Pend) (p:Pend->Bool) (hf:∀ x∈xs,aA Tryz.prog f [x.av,.ptr l] [] (.ret (.bool (p x))) []) (hl:((pav xs).length:Int)<=9223372036854775807) (r:Int):
  ∀ (n i:Nat),i+n=xs.length->idx p (xs.drop i) i=r->
  To E Tryz.f196 (.pure (.ret (.int .i64 r))) (.head (stk Tryz.f196 0)
   [(0,.slice 11 (pav xs) .no),(1,.func (.func f) [] [.ptr l]),(7,.int .i64 ((pav xs).length:Nat)),(8,.int .i64 i)] []):=by
 have hlen:(pav xs).length=xs.length:=by simp
 intro n
 induction n with
 | zero=>
  intro i hi hr
  refine gV ?_
  refine ⟨fun h=>?_,fun h=>?_⟩
  .exact absurd (of_decide_eq_true h) (by omega)
  .refine gV ?_
   rw [Ae (by omega)] at hr
   rw [<-hr]
   rfl
 | succ n ih=>
  intro i hi hr
  have hlt:i<xs.length:=by omega
  refine gV ?_
  refine ⟨fun h=>?_,fun h=>?_⟩
  .refine gV ?_
   refine ⟨i,rfl,?_⟩
   refine gV ?_
   refine ⟨_,lS hlt,?_⟩
   refine gV ?_
   refine .pure _ [] (hf xs[i] (Bl hlt)) ?_
   refine gV ?_
   rw [Ad hlt] at hr
   have hr:(if p xs[i] then (i:Int) else idx p (xs.drop (i+1)) ((i:Int)+1))=r:=hr
   refine ⟨fun h2=>?_,fun h2=>?_⟩
   .refine gV ?_
    rw [if_pos h2] at hr
    rw [hr]
   .refine gV ?_
    rw [if_neg (by rw [h2];simp)] at hr
    refine .inl ⟨⟨by simp only [bY];omega,by simp only [bI];omega⟩,?_⟩
    have z0_1:=ih (i+1) (by omega) (by rw [<-hr];push_cast;rfl)
    exact zW
  .exact absurd (of_decide_eq_false h) (by omega)
theorem KZ (f:FuncId) (l:List AVal) (xs:List Pend) (p:Pend->Bool) (hf:∀ x∈xs,aA Tryz.prog f [x.av,.ptr l] [] (.ret (.bool (p x))) []):
  aA Tryz.prog 196 [.slice 11 (pav xs) .no,.func (.func f) [] [.ptr l]] [] (.ret (.int .i64 (idx p xs 0))) []:=by
 refine cT (E:=E) (fn:=Tryz.f196) (g:=.pure _) fun ho=>?_
 refine gV ?_
 refine To.head [0,1,7,8] ?_
 exact N5 f l xs p hf ho.1 _ xs.length 0 (by omega) (by simp)
theorem find_ok (xs:List Pend) (a:Int):aA Tryz.prog 122 [.slice 11 (pav xs) .no,.int .i64 a] [] (.ret (.int .i64 (findP a xs))) []:=by
 refine cT (E:=E) (fn:=Tryz.f122) (g:=.pure _) fun _=>?_
 have z2_1:=KZ _ _ xs (fun x=>x.id==a) fun x _=>aAE x a
 exact zW
theorem aHd {n:Nat} (h:n<=1000000):B0 n 88:=⟨by simp only [maxLen];omega,by omega⟩
theorem CQ (xs:List Pend) (hx:xs.length<=1000000):aA Tryz.prog 64 [.slice 11 (pav xs) .no] [] (.ret (.row 0 0)) [.row 0 11 102 (pav xs)]:=by
 refine cT (E:=(Er [2,5] [])) (fn:=Tryz.f64) (g:=.full 0 _ _) fun _=>?_
 refine gV ?_
 intro b hb
 refine gV ?_
 refine ⟨fun h=>?_,fun h=>?_⟩
 .refine gV ?_
  refine ⟨[],[1],⟨rfl,rfl⟩,?_⟩;conv=>whnf
  rw [hb (by simpa using h)]
  exact ⟨rfl,rfl⟩
 .refine gV ?_
  refine ⟨aHd (by simpa using hx),?_⟩
  refine gV ?_
  refine ⟨[],[1],⟨rfl,rfl⟩,?_⟩
  exact ⟨rfl,rfl⟩
theorem del_list {α:Type} (l:List α) (i:Nat) (hi:i<l.length) (z:α):
  (l.take (0+i)++(l.drop (i+1)).take (l.length-(i+1))++l.drop (0+i+(l.length-(i+1)))).take (0+(l.length-1))++Ah (l.length-(l.length-1)) z++
   (l.take (0+i)++(l.drop (i+1)).take (l.length-(i+1))++l.drop (0+i+(l.length-(i+1)))).drop (0+(l.length-1)+(l.length-(l.length-1)))=l.eraseIdx i++[z]:=by
 have e1:(l.drop (i+1)).take (l.length-(i+1))=l.drop (i+1):=Cl (by simp)
 have e2:l.length-(l.length-1)=1:=by omega
 have e3:(l.take (0+i)++l.drop (i+1)).length=l.length-1:=by simp;omega
 rw [e1,e2,Gb]
 simp only [Bn] at e3⊢
 have e4:(l.take i++l.drop (i+1)++l.drop (i+(l.length-(i+1)))).take (l.length-1)=l.take i++l.drop (i+1):=by
  rw [Dm (by omega),Cl (by omega)]
 have e5:(l.take i++l.drop (i+1)++l.drop (i+(l.length-(i+1)))).drop (l.length-1+1)=[]:=by
  refine Ae ?_
  rw [Aw,e3,Ge]
  omega
 rw [e4,e5]
 simp
theorem VE (xs:List Pend) (i:Nat) (hi:i<xs.length) (hx:xs.length<=1000000):aA Tryz.prog 155 [.row 0 0,.int .i64 i,.int .i64 ((i:Int)+1)] [.row 0 11 102 (pav xs)]
  (.ret (.sub 0 0 0 (xs.length-1) 11)) [.row 0 11 102 (pav (xs.eraseIdx i)++[(Y8 0 0).av])]:=by
 refine cT (E:=E) (fn:=Tryz.f155) (g:=.full 1 _ _) fun _=>?_
 refine gV ?_
 refine ⟨i,rfl,?_⟩
 refine gV ?_
 refine ⟨i+1,by push_cast;rfl,?_⟩
 refine gV ?_
 refine ⟨xs.length,by simp,?_⟩
 refine gV ?_
 refine ⟨⟨⟨by omega,by omega⟩,by simp⟩,?_⟩
 refine gV ?_
 refine ⟨fun h=>?_,fun h=>?_⟩
 .simp at h
  omega
 .refine gV ?_
  refine ⟨i,rfl,?_⟩
  refine gV ?_
  refine ⟨by simp;omega,?_⟩
  refine gV ?_
  refine ⟨i+1,by push_cast;rfl,?_⟩
  refine gV ?_
  refine ⟨by simp;omega,?_⟩
  refine gV ?_
  have hlen:(pav xs).length=xs.length:=by simp
  have hl1:(Hw ((pav xs).length-(i+1)) (Hi (i+1) (pav xs))).length=xs.length-(i+1):=by simp
  rw [hl1,hlen]
  refine ⟨by omega,?_⟩
  refine gV ?_
  refine ⟨xs.length-1,by omega,?_⟩
  refine gV ?_
  refine ⟨xs.length,rfl,?_⟩
  refine gV ?_
  refine ⟨by simp;omega,?_⟩
  refine gV ?_
  refine ⟨[],[0],⟨rfl,rfl⟩,?_⟩;conv=>whnf
  refine ⟨?_,?_⟩
  .show Res.ret (.sub 0 0 0 (i+(xs.length-(i+1))) 11)=_
   rw [show i+(xs.length-(i+1))=xs.length-1 from by omega]
  .have h:=del_list (pav xs) i (by rw [hlen];exact hi) (Y8 0 0).av
   rw [hlen] at h
   have h2:(pav xs).eraseIdx i=pav (xs.eraseIdx i):=by simp only [pav,Gb,Bu,Iz,Ja]
   rw [h2] at h
   exact congrArg (fun l=>[AObj.row 0 11 102 l]) h
theorem GQ (xs ys:List AVal) (lo len:Nat):aA Tryz.prog 297 [.row 0 0,.sub 1 0 lo len 11] [.row 0 11 102 xs,.row 0 11 102 ys] (.ret (.bool false)) [.row 0 11 102 xs,.row 0 11 102 ys]:=
 JZ (fn:=Tryz.f297) (tS:=27) (tR:=4) (e:=102) (by kernel_rfl) (by kernel_rfl) (by kernel_rfl) (by kernel_rfl) (by kernel_rfl) (by kernel_rfl) (by kernel_rfl) (by decide) xs ys lo len
theorem yG {α:Type} (xs ys:List α) (lo len q:Nat) (h:lo+len<=xs.length):(xs.take lo++ys.take len++xs.drop (lo+min ys.length len))[q]? =if lo<=q/\q<lo+min ys.length len then ys[q-lo]? else xs[q]?:=by
 have e1:(xs.take lo).length=lo:=by simp;omega
 have e2:(ys.take len).length=min ys.length len:=by rw [Ff,Nat.min_comm]
 by_cases h1:q<lo
 .rw [if_neg (by omega),Ai,Af (by omega),Bc h1]
 .by_cases h2:q<lo+min ys.length len
  .rw [if_pos ⟨by omega,h2⟩,Af (by rw [Aw];omega),Aj (by omega),e1,Bc (by omega)]
  .rw [if_neg (by omega),Aj (by rw [Aw];omega),Aw,e1,e2,Bq]
   congr 1
   omega
theorem RD {α:Type} (l:List α) (p:α) (i q:Nat) (hi:i<=l.length):(l.take i++[p]++l.drop i)[q]? =if q<i then l[q]? else if q=i then some p else l[q-1]?:=by
 have e1:(l.take i).length=i:=by simp;omega
 by_cases h1:q<i
 .rw [if_pos h1,Ai,Af (by omega),Bc h1]
 .rw [if_neg h1,Ai,Aj (by omega),e1]
  by_cases h2:q=i
  .rw [if_pos h2,h2];simp
  .rw [if_neg h2,show q-i=(q-1-i)+1 from by omega]
   show (l.drop i)[q-1-i]? =_
   rw [Bq]
   congr 1
   omega
theorem N4 {α:Type} (l L:List α) (p:α) (i:Nat) (hi:i<l.length) (hL:L.length=l.length+1) (hl:∀ q,q<l.length->L[q]? =l[q]?):
  ∀ A B,A=L.take (i+1)++((L.drop i).take (L.length-i)).take (L.length-(i+1))++L.drop (i+1+min ((L.drop i).take (L.length-i)).length (L.length-(i+1)))->
   B=A.take i++[p].take (A.length-i)++A.drop (i+min [p].length (A.length-i))->B=l.take i++[p]++l.drop i:=by
 intro A B hA hB
 have e0:((L.drop i).take (L.length-i)).length=l.length+1-i:=by simp;omega
 have gA:∀ q,A[q]? =if i+1<=q/\q<l.length+1 then L[q-1]? else L[q]?:=fun q=>by
  rw [hA,yG _ _ _ _ _ (by omega),e0,hL]
  by_cases h:i+1<=q/\q<l.length+1
  .rw [if_pos (by omega),if_pos h,Bc (by omega),Bq]
   congr 1
   omega
  .rw [if_neg (by omega),if_neg h]
 have hAl:A.length=l.length+1:=by rw [hA];simp;omega
 refine Es fun q=>?_
 rw [RD _ _ _ _ (by omega),hB,yG _ _ _ _ _ (by omega)]
 have e1:min [p].length (A.length-i)=1:=by rw [hAl];simp;omega
 rw [e1]
 by_cases h1:q<i
 .rw [if_neg (by omega),if_pos h1,gA,if_neg (by omega),hl q (by omega)]
 .rw [if_neg h1]
  by_cases h2:q=i
  .rw [if_pos (by omega),if_pos h2,h2];simp
  .rw [if_neg (by omega),if_neg h2,gA]
   by_cases h3:q<l.length+1
   .rw [if_pos (by omega),hl _ (by omega)]
   .rw [if_neg (by omega),Bb (by omega),Bb (by omega)]
theorem aDJ {α:Type} (l L:List α) (p:α) (i:Nat) (hi:i<l.length) (hL:L.length=l.length+1) (hl:∀ q,q<i->L[q]? =l[q]?):
  ∀ A B,A=L.take i++[p].take (L.length-i)++L.drop (i+min [p].length (L.length-i))->
   B=A.take (i+1)++((l.drop i).take (l.length-i)).take (A.length-(i+1))++A.drop (i+1+min ((l.drop i).take (l.length-i)).length (A.length-(i+1)))->B=l.take i++[p]++l.drop i:=by
 intro A B hA hB
 have e0:((l.drop i).take (l.length-i)).length=l.length-i:=by simp
 have e1:min [p].length (L.length-i)=1:=by rw [hL];simp;omega
 have gA:∀ q,A[q]? =if q=i then some p else L[q]?:=fun q=>by
  rw [hA,yG _ _ _ _ _ (by omega),e1]
  by_cases h:q=i
  .rw [if_pos (by omega),if_pos h,h];simp
  .rw [if_neg (by omega),if_neg h]
 have hAl:A.length=l.length+1:=by rw [hA];simp;omega
 refine Es fun q=>?_
 rw [RD _ _ _ _ (by omega),hB,yG _ _ _ _ _ (by omega),e0,hAl,show min (l.length-i) (l.length+1-(i+1))=l.length-i from by omega]
 by_cases h1:q<i
 .rw [if_neg (by omega),if_pos h1,gA,if_neg (by omega),hl q h1]
 .rw [if_neg h1]
  by_cases h2:q=i
  .rw [if_neg (by omega),if_pos h2,gA,if_pos h2]
  .rw [if_neg h2]
   by_cases h3:q<l.length+1
   .rw [if_pos (by omega),Bc (by omega),Bq]
    congr 1
    omega
   .rw [if_neg (by omega),gA,if_neg h2,Bb (by omega),Bb (by omega)]
theorem yU {n:Nat} (h:n<=1000001):B0 n 88:=⟨by simp only [maxLen];omega,by omega⟩
theorem EX (xs:List Pend) (p:Pend) (i:Nat) (hi:i<=xs.length) (hx:xs.length<=1000000):
  aA Tryz.prog 232 [.row 0 0,.int .i64 i,.row 1 0] [.row 0 11 102 (pav xs),.row 0 11 102 [p.av]]
  (.ret (.row 0 1)) [.row 1 11 102 (pav (xs.take i++[p]++xs.drop i)),.row 0 11 102 [p.av]]:=by
 have hlen:(pav xs).length=xs.length:=by simp
 refine cT (E:=(Er [60] [])) (fn:=Tryz.f232) (g:=.full 2 _ _) fun _=>?_
 refine To.cap (t:=0) rfl rfl fun c hc hcm=>?_
 rw [hlen] at hc
 refine gV ?_
 refine ⟨i,rfl,?_⟩
 refine gV ?_
 rw [hlen]
 refine ⟨hi,?_⟩
 refine gV ?_
 refine ⟨fun h=>?_,fun h=>?_⟩
 .cases h
 .refine gV ?_
  refine ⟨fun h=>?_,fun h=>?_⟩
  .refine gV ?_
   have hi2:i=xs.length:=by have:(i:Int)=xs.length:=by simpa using h
                            omega
   refine ⟨by rw [hlen];exact yU (by simp;omega),?_⟩
   refine gV ?_
   refine ⟨[],[0,1],⟨rfl,rfl⟩,?_⟩;conv=>whnf
   refine ⟨rfl,?_⟩
   have:pav (xs.take i++[p]++xs.drop i)=pav xs++[p.av]:=by simp [hi2]
   rw [this]
   rfl
  .have hi2:i<xs.length:=by
    have:¬ (i:Int)=xs.length:=by simpa using h
    omega
   refine gV ?_
   have h1:([p.av].length)=1:=rfl
   rw [hlen,h1]
   refine .inl ⟨yA (by omega) (by omega),?_⟩
   refine gV ?_
   refine ⟨fun h=>?_,fun h=>?_⟩
   .have hg:c<xs.length+1:=by
     have:=of_decide_eq_true h
     omega
    refine gV ?_
    refine ⟨i,rfl,?_⟩
    refine gV ?_
    refine ⟨⟨by simp;omega,by omega⟩,?_⟩
    refine gV ?_
    refine .inl ⟨yA (by omega) (by omega),?_⟩
    refine gV ?_
    refine .inl ⟨yA (by omega) (by omega),?_⟩
    refine gV ?_
    refine ⟨xs.length+1-i,by omega,?_⟩
    refine gV ?_
    refine ⟨⟨by omega,yU (by omega)⟩,?_⟩
    refine gV ?_
    refine ⟨i,rfl,?_⟩
    refine gV ?_
    have hL:(Hw i (pav xs)++Ah (xs.length+1-i) (Y8 0 0).av).length=xs.length+1:=by simp;omega
    refine ⟨by simp;omega,?_⟩
    refine gV ?_
    refine .inl ⟨yA (by omega) (by omega),?_⟩
    refine gV ?_
    refine ⟨i+1,by push_cast;rfl,?_⟩
    refine gV ?_
    refine ⟨by simp;omega,?_⟩
    refine gV ?_
    refine ⟨i,rfl,?_⟩
    refine gV ?_
    refine ⟨by simp;omega,?_⟩
    refine dP (hEr [60] []) 7 ?_;conv=>whnf
    refine To.become (j:=0) (k:=2) [9] rfl rfl rfl rfl ?_
    refine gV ?_
    refine ⟨[],[0,1],⟨rfl,rfl⟩,?_⟩;conv=>whnf
    refine ⟨rfl,?_⟩
    have h:=aDJ (pav xs) _ p.av i (by rw [hlen];exact hi2) (by rw [hL,hlen]) (fun q hq=>by rw [Af (by simp;omega),Bc hq]) _ _ rfl rfl
    have h2:pav (xs.take i++[p]++xs.drop i)=(pav xs).take i++[p.av]++(pav xs).drop i:=by simp
    rw [h2]
    exact congrArg (fun l=>[AObj.row 1 11 102 l,.row 0 11 102 [p.av]]) h
   .have hg:xs.length+1<=c:=by
     have:=of_decide_eq_false h
     omega
    refine gV ?_
    refine .inl ⟨yA (by omega) (by omega),?_⟩
    refine gV ?_
    refine ⟨xs.length+1,by push_cast;rfl,?_⟩
    refine gV ?_
    refine ⟨⟨by simp,hg⟩,?_⟩
    refine gV ?_
    refine .inl ⟨yA (by omega) (by omega),?_⟩
    refine gV ?_
    refine ⟨i+1,by push_cast;rfl,?_⟩
    refine gV ?_
    refine ⟨by simp;omega,?_⟩
    refine gV ?_
    refine .eff [] [1,0] _ _ rfl (GQ _ _ _ _) ?_
    refine gV ?_
    refine ⟨fun h=>?_,fun h=>?_⟩
    .refine gV ?_
     refine .inl ⟨yA (by omega) (by omega),?_⟩
     refine gV ?_
     refine ⟨i+1,by push_cast;rfl,?_⟩
     refine gV ?_
     refine ⟨by simp;omega,?_⟩
     refine gV ?_
     refine ⟨i,rfl,?_⟩
     refine gV ?_
     refine ⟨by simp;omega,?_⟩
     refine gV ?_
     refine ⟨i,rfl,?_⟩
     refine gV ?_
     refine ⟨by simp;omega,?_⟩
     refine gV ?_
     refine ⟨[],[0,1],⟨rfl,rfl⟩,?_⟩;conv=>whnf
     refine ⟨rfl,?_⟩
     have hL:(pav xs++Ah (xs.length+1-(pav xs).length) (AVal.agg (Ah 11 AVal.undef))).length=(pav xs).length+1:=by simp
     have h:=N4 (pav xs) _ p.av i (by rw [hlen];exact hi2) hL (fun q hq=>by rw [Af hq]) _ _ rfl rfl
     have h2:pav (xs.take i++[p]++xs.drop i)=(pav xs).take i++[p.av]++(pav xs).drop i:=by simp
     rw [h2]
     exact congrArg (fun l=>[AObj.row 1 11 102 l,.row 0 11 102 [p.av]]) h
    .cases h
def putAt (p:Pend) (l:List Pend):Nat:=if idx (fun x=>decide (p.seq<x.seq)) l 0<0 then l.length else (idx (fun x=>decide (p.seq<x.seq)) l 0).toNat
def putP (l:List Pend) (p:Pend):List Pend:=l.take (putAt p l)++[p]++l.drop (putAt p l)
def takeP (l:List Pend) (a:Int):List Pend:=if findP a l<0 then l else l.eraseIdx (findP a l).toNat
theorem vX (p:Pend->Bool):∀ (l:List Pend) (i:Int),idx p l i= -1\/(i<=idx p l i/\idx p l i<i+l.length)
 | [],i=>.inl rfl
 | x::r,i=>by
  unfold idx
  split
  .right;simp;omega
  .rcases vX p r (i+1) with h | h
   .exact .inl h
   .right;simp;omega
theorem put_ok (l:List Pend) (p:Pend) (hl:l.length<=1000000):aA Tryz.prog 153 [.slice 11 (pav l) .no,p.av] [] (.ret (.slice 11 (pav (putP l p)) .no)) []:=by
 have hlen:(pav l).length=l.length:=by simp
 refine cT (E:=(Er [17] [])) (fn:=Tryz.f153) (g:=.pure _) fun _=>?_
 refine gV ?_
 refine .pure _ [] (KZ _ _ l (fun x=>decide (p.seq<x.seq)) fun x _=>aC2 x p) ?_
 refine gV ?_
 have fin:∀ (i:Nat),i=putAt p l->i<=l.length:=fun i hi=>by
  subst hi
  unfold putAt
  rcases vX (fun x=>decide (p.seq<x.seq)) l 0 with h | h
  .rw [if_pos (by omega)]
   exact Au _
  .rw [if_neg (by omega)];omega
 refine ⟨fun h=>?_,fun h=>?_⟩
 .have hk:putAt p l=l.length:=if_pos (of_decide_eq_true h)
  refine gV ?_
  refine .pure _ _ (CQ l hl) ?_
  refine gV ?_
  rw [hlen]
  refine .sole rfl (.eff [] [1,2] _ _ rfl (EX l p l.length (Au _) hl) ?_)
  refine gV ?_
  rw [<-hk]
  rfl
 .have hk:idx (fun x=>decide (p.seq<x.seq)) l 0=((putAt p l:Nat):Int):=by
   have:=of_decide_eq_false h
   unfold putAt
   rw [if_neg this]
   omega
  rw [hk]
  refine gV ?_
  refine .pure _ _ (CQ l hl) ?_
  refine gV ?_
  refine .sole rfl (.eff [] [1,2] _ _ rfl (EX l p (putAt p l) (fin _ rfl) hl) ?_)
  refine gV ?_
  rfl
theorem take_ok (l:List Pend) (a:Int) (hl:l.length<=1000000):aA Tryz.prog 74 [.slice 11 (pav l) .no,.int .i64 a] [] (.ret (.tup [.slice 11 (pav (takeP l a)) .no,.bool (!decide (findP a l<0))])) []:=by
 refine cT (E:=E) (fn:=Tryz.f74) (g:=.pure _) fun _=>?_
 refine gV ?_
 refine .pure _ _ (CQ l hl) ?_
 refine gV ?_
 refine .pure _ [] (find_ok l a) ?_
 refine gV ?_
 refine ⟨fun h=>?_,fun h=>?_⟩
 .refine gV ?_
  have h2:=of_decide_eq_true h
  unfold takeP
  rw [if_pos h2,h]
  rfl
 .have h2:=of_decide_eq_false h
  have hb:findP a l<l.length:=by
   rcases vX (fun x=>x.id==a) l 0 with h | h
   .unfold findP at h2;omega
   .unfold findP;omega
  have hk:findP a l=(((findP a l).toNat:Nat):Int):=by omega
  have ht:takeP l a=l.eraseIdx (findP a l).toNat:=if_neg h2
  rw [h,ht]
  obtain ⟨k,hkk⟩:∃ k:Nat,findP a l=(k:Int):=⟨_,hk⟩
  have hkl:k<l.length:=by omega
  rw [hkk,Ck]
  refine gV ?_
  refine .inl ⟨yA (by omega) (by omega),?_⟩
  refine gV ?_
  refine .eff [] [0] _ _ rfl (VE l k hkl hl) ?_
  refine gV ?_
  have:Hw (l.length-1) (Hi 0 (pav (l.eraseIdx k)++[(Y8 0 0).av]))=pav (l.eraseIdx k):=by
   rw [Bt,Dm (by simp [Kd,hkl]),Cl (by simp [Kd,hkl])]
  have h3:Res.ret (.tup [.slice 11 (Hw (l.length-1) (Hi 0 (pav (l.eraseIdx k)++[(Y8 0 0).av]))) .no,.bool true])=Res.ret (.tup [.slice 11 (pav (l.eraseIdx k)) .no,.bool (!false)]):=by rw [this];rfl
  exact h3
theorem HE (xs:List Pend) (a:Int) (hl:((pav xs).length:Int)<=9223372036854775807) (r:Int):∀ (n i:Nat),i+n=xs.length->idx (fun x=>x.id==a) (xs.drop i) i=r->
  To E Tryz.f42 (.pure (.ret (.int .i64 r))) (.head (stk Tryz.f42 0) [(0,.slice 11 (pav xs) .no),(1,.int .i64 a),(5,.int .i64 i)] []):=by
 have hlen:(pav xs).length=xs.length:=by simp
 intro n
 induction n with
 | zero=>
  intro i hi hr
  refine gV ?_
  refine ⟨fun h=>?_,fun h=>?_⟩
  .exact absurd (of_decide_eq_true h) (by omega)
  .refine gV ?_
   rw [Ae (by omega)] at hr
   rw [<-hr]
   rfl
 | succ n ih=>
  intro i hi hr
  have hlt:i<xs.length:=by omega
  refine gV ?_
  refine ⟨fun h=>?_,fun h=>?_⟩
  .refine gV ?_
   refine ⟨i,rfl,?_⟩
   refine gV ?_
   refine ⟨_,lS hlt,?_⟩
   refine gV ?_
   rw [Ad hlt] at hr
   have hr:(if xs[i].id==a then (i:Int) else idx (fun x=>x.id==a) (xs.drop (i+1)) ((i:Int)+1))=r:=hr
   refine ⟨fun h2=>?_,fun h2=>?_⟩
   .refine gV ?_
    rw [if_pos h2] at hr
    rw [hr]
   .refine gV ?_
    rw [if_neg (by rw [h2];simp)] at hr
    refine .inl ⟨yA (by omega) (by omega),?_⟩
    have z0_1:=ih (i+1) (by omega) (by rw [<-hr];push_cast;rfl)
    exact zW
  .exact absurd (of_decide_eq_false h) (by omega)
theorem findref_ok (xs:List Pend) (a:Int):aA Tryz.prog 42 [.slice 11 (pav xs) .no,.int .i64 a] [] (.ret (.int .i64 (findP a xs))) []:=by
 refine cT (E:=E) (fn:=Tryz.f42) (g:=.pure _) fun ho=>?_
 refine gV ?_
 refine To.head [0,1,5] ?_
 exact HE xs a ho.1 _ xs.length 0 (by omega) (by simp [findP])
def GT (l:List Pend) (i:Nat):Bool:=match l[i]?,l[i-1]? with
 | some c,some p=>!((decide (0<i)&& !decide (p.seq<c.seq))||(findP c.id l !=(i:Int)))
 | _,_=>true
def gU (l:List Pend):Nat->Nat->Bool
 | 0,_=>true
 | n+1,i=>GT l i&&gU l n (i+1)
def checkP (l:List Pend):Bool:=gU l l.length 0
theorem DN (l:List Pend) (hl:l.length<=1000000) (r:Bool):∀ (n i:Nat),i+n=l.length->gU l n i=r->
  To E Tryz.f35 (.pure (.ret (.bool r))) (.head (stk Tryz.f35 0) [(0,.slice 11 (pav l) .no),(3,.int .i64 i)] []):=by
 have hlen:(pav l).length=l.length:=by simp
 intro n
 induction n with
 | zero=>
  intro i hi hr
  refine gV ?_
  refine ⟨fun h=>?_,fun h=>?_⟩
  .exact absurd (of_decide_eq_true h) (by omega)
  .refine gV ?_
   rw [<-hr]
   rfl
 | succ n ih=>
  intro i hi hr
  have hlt:i<l.length:=by omega
  have hr:(GT l i&&gU l n (i+1))=r:=hr
  have back:gU l n (i+1)=r->inR .i64 ((i:Int)+1)/\To E Tryz.f35 (.pure (.ret (.bool r))) (.head (stk Tryz.f35 0) [(0,.slice 11 (pav l) .no),(3,.int .i64 ((i:Int)+1))] []):=fun h=>
   ⟨yA (by omega) (by omega),by have:=ih (i+1) (by omega) h;push_cast at this;exact this⟩
  refine gV ?_
  refine ⟨fun h=>?_,fun h=>?_⟩
  .refine gV ?_
   refine ⟨fun h1=>?_,fun h1=>?_⟩
   .have hpos:0<i:=by have:=of_decide_eq_true h1;omega
    have hlt1:i-1<l.length:=by omega
    have hok:GT l i= !((true&& !decide (l[i-1].seq<l[i].seq))||(findP l[i].id l !=(i:Int))):=by
     unfold GT
     rw [Aa hlt,Aa hlt1,decide_eq_true hpos]
    have hle:(!decide (l[i-1].seq<l[i].seq))=decide (l[i].seq<=l[i-1].seq):=by
     by_cases hq:l[i-1].seq<l[i].seq
     .rw [decide_eq_true hq,decide_eq_false (by omega)];rfl
     .rw [decide_eq_false hq,decide_eq_true (by omega)];rfl
    rw [hle] at hok
    refine gV ?_
    refine ⟨i,rfl,?_⟩
    refine gV ?_
    refine ⟨_,lS hlt,?_⟩
    refine gV ?_
    refine .inl ⟨yA (by omega) (by omega),?_⟩
    refine gV ?_
    refine ⟨i-1,by omega,?_⟩
    refine gV ?_
    refine ⟨_,lS hlt1,?_⟩
    refine gV ?_
    refine ⟨fun h2=>?_,fun h2=>?_⟩
    .refine gV ?_
     refine ⟨fun _=>?_,fun h3=>(by cases h3)⟩
     refine gV ?_
     rw [hok,h2] at hr
     rw [<-hr]
     rfl
    .refine gV ?_
     refine ⟨i,rfl,?_⟩
     refine gV ?_
     refine ⟨_,lS hlt,?_⟩
     refine gV ?_
     refine .pure _ [] (findref_ok _ _) ?_
     refine gV ?_
     refine ⟨fun h3=>?_,fun h3=>?_⟩
     .refine gV ?_
      rw [hok,h2,h3] at hr
      rw [<-hr]
      rfl
     .refine gV ?_
      rw [hok,h2,h3] at hr
      obtain ⟨b1,b2⟩:=back hr
      refine .inl ⟨b1,?_⟩
      exact zW
   .have h0:i=0:=by have:=of_decide_eq_false h1;omega
    have hok:GT l i= !((false&&false)||(findP l[i].id l !=(i:Int))):=by
     unfold GT
     have hlt1:i-1<l.length:=by omega
     rw [Aa hlt,Aa hlt1]
     subst h0
     simp
    refine gV ?_
    refine ⟨fun h2=>(by cases h2),fun _=>?_⟩
    refine gV ?_
    refine ⟨i,rfl,?_⟩
    refine gV ?_
    refine ⟨_,lS hlt,?_⟩
    refine gV ?_
    refine .pure _ [] (findref_ok _ _) ?_
    refine gV ?_
    refine ⟨fun h3=>?_,fun h3=>?_⟩
    .refine gV ?_
     rw [hok,h3] at hr
     rw [<-hr]
     rfl
    .refine gV ?_
     rw [hok,h3] at hr
     obtain ⟨b1,b2⟩:=back hr
     refine .inl ⟨b1,?_⟩
     exact zW
  .exact absurd (of_decide_eq_false h) (by omega)
theorem checkref_ok (l:List Pend) (hl:l.length<=1000000):aA Tryz.prog 35 [.slice 11 (pav l) .no] [] (.ret (.bool (checkP l))) []:=by
 refine cT (E:=E) (fn:=Tryz.f35) (g:=.pure _) fun _=>?_
 have z2_1:=DN l hl _ l.length 0 (by omega) rfl
 exact zW
def eqP (x y:Pend):Bool:=(x.id==y.id)&&((x.tenant==y.tenant)&&((x.pods==y.pods)&&((x.n0==y.n0)&&((x.n1==y.n1)&&((x.n2==y.n2)&&((x.run==y.run)&&((x.level==y.level)&&((x.prefer==y.prefer)&&((x.seq==y.seq)&&((x.since==y.since)&&true))))))))))
theorem R8 {x y:Pend}:eqP x y=true↔x=y:=by
 obtain ⟨a0,a1,a2,a3,a4,a5,a6,a7,a8,a9,a10⟩:=x
 obtain ⟨b0,b1,b2,b3,b4,b5,b6,b7,b8,b9,b10⟩:=y
 simp [eqP]
theorem TG (a b:List Pend) (hab:a.length=b.length) (hl:((pav a).length:Int)<=9223372036854775807) (r:Bool):∀ (n i:Nat),i+n=a.length->decide (a.drop i=b.drop i)=r->
  To E Tryz.f78 (.pure (.ret (.bool r))) (.head (stk Tryz.f78 0) [(0,.slice 11 (pav a) .no),(1,.slice 11 (pav b) .no),(5,.int .i64 i)] []):=by
 have hlen:(pav a).length=a.length:=by simp
 intro n
 induction n with
 | zero=>
  intro i hi hr
  refine gV ?_
  refine ⟨fun h=>?_,fun h=>?_⟩
  .exact absurd (of_decide_eq_true h) (by omega)
  .refine gV ?_
   rw [Ae (by omega),Ae (by omega)] at hr
   rw [<-hr]
   rfl
 | succ n ih=>
  intro i hi hr
  have hlt:i<a.length:=by omega
  have hlt2:i<b.length:=by omega
  rw [Ad hlt,Ad hlt2] at hr
  refine gV ?_
  refine ⟨fun h=>?_,fun h=>?_⟩
  .refine gV ?_
   refine ⟨i,rfl,?_⟩
   refine gV ?_
   refine ⟨_,lS hlt,?_⟩
   refine gV ?_
   refine ⟨i,rfl,?_⟩
   refine gV ?_
   refine ⟨_,lS hlt2,?_⟩
   refine gV ?_
   refine ⟨fun h2=>?_,fun h2=>?_⟩
   .have h3:(!eqP a[i] b[i])=true:=h2
    refine gV ?_
    have hne:a[i]≠b[i]:=fun e=>by rw [R8.2 e] at h3;cases h3
    rw [<-hr,decide_eq_false fun e=>hne (Em e).1]
   .have h3:(!eqP a[i] b[i])=false:=h2
    have he:a[i]=b[i]:=R8.1 (by simpa using h3)
    refine gV ?_
    refine .inl ⟨yA (by omega) (by omega),?_⟩
    refine gV ?_
    refine To.head [0,1,5] ?_
    have:=ih (i+1) (by omega) (by rw [<-hr,he];exact decide_eq_decide.2 ⟨fun e=>by rw [e],fun e=>(Em e).2⟩)
    push_cast at this
    exact this
  .exact absurd (of_decide_eq_false h) (by omega)
theorem same_ok (a b:List Pend):aA Tryz.prog 78 [.slice 11 (pav a) .no,.slice 11 (pav b) .no] [] (.ret (.bool (decide (a=b)))) []:=by
 have hlen:(pav a).length=a.length:=by simp
 have hlen2:(pav b).length=b.length:=by simp
 refine cT (E:=E) (fn:=Tryz.f78) (g:=.pure _) fun ho=>?_
 refine gV ?_
 refine ⟨fun h=>?_,fun h=>?_⟩
 .refine gV ?_
  have hne:a≠b:=fun e=>by subst e;simp at h
  rw [decide_eq_false hne]
 .have hab:a.length=b.length:=by
   have:((a.length:Nat):Int)=b.length:=by simpa using h
   omega
  refine gV ?_
  refine To.head [0,1,5] ?_
  exact TG a b hab ho.1 _ a.length 0 (by omega) (by simp)
theorem BQ (p:Pend->Bool):∀ (l:List Pend) (i:Int) (k:Nat) (h:k<l.length),p l[k]=true->(∀ (j:Nat) (hj:j<l.length),j<k->p l[j]=false)->idx p l i=i+k
 | [],i,k,h,_,_=>by simp at h
 | x::r,i,0,h,h1,_=>by
  have:p x=true:=h1
  simp [idx,this]
 | x::r,i,k+1,h,h1,h2=>by
  have hx:p x=false:=h2 0 (by simp) (by omega)
  have:=BQ p r (i+1) k (by simpa using h) (by simpa using h1) (fun j hj hjk=>by have:=h2 (j+1) (by simpa using hj) (by omega);simpa using this)
  unfold idx
  rw [if_neg (by rw [hx];simp),this]
  push_cast
  omega
theorem aAg {p:Pend->Bool}:∀ {l:List Pend} {i:Int} {k:Nat} (h:k<l.length),p l[k]=true->idx p l i<=i+k
 | [],i,k,h,_=>by simp at h
 | x::r,i,0,h,h1=>by
  have:p x=true:=h1
  simp [idx,this]
 | x::r,i,k+1,h,h1=>by
  unfold idx
  split
  .omega
  .have:=aAg (l:=r) (i:=i+1) (k:=k) (by simpa using h) (by simpa using h1)
   push_cast at this⊢
   omega
structure Good (l:List Pend):Prop where
 seq:l.Pairwise fun a b=>a.seq<b.seq
 id:l.Pairwise fun a b=>a.id≠b.id
theorem rV {l:List Pend}:∀ {n i:Nat},gU l n i=true↔ ∀ j,i<=j->j<i+n->GT l j=true
 | 0,i=>by simp [gU];omega
 | n+1,i=>by
  simp only [gU,Ag,rV (n:=n) (i:=i+1)]
  constructor
  .rintro ⟨h1,h2⟩ j hj1 hj2
   by_cases h:j=i
   .subst h;exact h1
   .exact h2 j (by omega) (by omega)
  .intro h
   exact ⟨h i (Au _) (by omega),fun j h1 h2=>h j (by omega) (by omega)⟩
theorem A7 {l:List Pend} {j:Nat} (hj:j<l.length):GT l j=true↔(∀ (h:0<j),(l[j-1]'(by omega)).seq<l[j].seq)/\findP l[j].id l=(j:Int):=by
 have hj1:j-1<l.length:=by omega
 unfold GT
 rw [Aa hj,Aa hj1]
 simp only [Bool.not_or,Ag,Ef,bne_eq_false_iff_eq,Bool.and_eq_false_iff,decide_eq_false_iff_not]
 constructor
 .rintro ⟨h1,h2⟩
  refine ⟨fun h=>?_,h2⟩
  rcases h1 with h1 | h1
  .exact absurd h h1
  .simpa using h1
 .rintro ⟨h1,h2⟩
  refine ⟨?_,h2⟩
  by_cases h:0<j
  .right;simpa using h1 h
  .exact .inl h
theorem check_good {l:List Pend}:checkP l=true↔Good l:=by
 unfold checkP
 rw [rV]
 constructor
 .intro h
  have hs:∀ (j i:Nat) (hj:j<l.length) (hi:i<j),(l[i]'(by omega)).seq<l[j].seq:=by
   intro j
   induction j with
   | zero=>intro i _ hi;omega
   | succ j ih=>
    intro i hj hi
    have h1:=((A7 hj).1 (h (j+1) (by omega) (by omega))).1 (by omega)
    have h1:(l[j]'(by omega)).seq<(l[j+1]).seq:=h1
    by_cases hij:i=j
    .subst hij;exact h1
    .exact Int.lt_trans (ih i (by omega) (by omega)) h1
  refine ⟨Fh.2 fun i j hi hj hij=>hs j i hj hij,Fh.2 fun i j hi hj hij e=>?_⟩
  have h2:=((A7 hj).1 (h j (by omega) (by omega))).2
  have:=aAg (p:=fun x=>x.id==l[j].id) (l:=l) (i:=0) (k:=i) hi (by simpa using e)
  unfold findP at h2
  omega
 .intro h j _ hj
  have hj:j<l.length:=by omega
  refine (A7 hj).2 ⟨fun h0=>Fh.1 h.seq _ _ (by omega) hj (by omega),?_⟩
  have:=BQ (fun x=>x.id==l[j].id) l 0 j hj (by simp) fun i hi hij=>by
   have:=Fh.1 h.id i j hi hj hij
   simpa using this
  unfold findP
  omega
def insP (p:Pend):List Pend->List Pend
 | []=>[p]
 | x::r=>if p.seq<x.seq then p::x::r else x::insP p r
theorem NQ (p x:Pend) (r:List Pend):putAt p (x::r)=if p.seq<x.seq then 0 else putAt p r+1:=by
 by_cases h:p.seq<x.seq
 .rw [if_pos h]
  have:idx (fun x=>decide (p.seq<x.seq)) (x::r) 0=0:=by unfold idx;rw [if_pos (by simpa using h)]
  unfold putAt
  rw [this]
  rfl
 .rw [if_neg h]
  have e:idx (fun x=>decide (p.seq<x.seq)) (x::r) 0=idx (fun x=>decide (p.seq<x.seq)) r 1:=by
   conv=>lhs;unfold idx
   rw [if_neg (by simpa using h)]
   rfl
  have sh:∀ (q:Pend->Bool) (l:List Pend) (i:Int),(idx q l i= -1/\idx q l (i+1)= -1)\/(i<=idx q l i/\idx q l (i+1)=idx q l i+1):=by
   intro q l
   induction l with
   | nil=>intro i;exact .inl ⟨rfl,rfl⟩
   | cons y t ih=>
    intro i
    unfold idx
    by_cases hy:q y=true
    .rw [if_pos hy,if_pos hy];right;omega
    .rw [if_neg hy,if_neg hy]
     rcases ih (i+1) with h | h
     .exact .inl h
     .right;omega
  rcases sh (fun x=>decide (p.seq<x.seq)) r 0 with ⟨h1,h2⟩ | ⟨h1,h2⟩
  .unfold putAt
   rw [e,show (1:Int)=0+1 from rfl,h2,h1]
   simp
  .unfold putAt
   rw [e,show (1:Int)=0+1 from rfl,h2,if_neg (by omega),if_neg (by omega)]
   omega
theorem putP_ins (p:Pend):∀ (l:List Pend),putP l p=insP p l
 | []=>rfl
 | x::r=>by
  have ih:=putP_ins p r
  unfold putP at ih⊢
  rw [NQ]
  unfold insP
  by_cases h:p.seq<x.seq
  .rw [if_pos h,if_pos h];rfl
  .rw [if_neg h,if_neg h,<-ih];rfl
def shift (n k q:Nat):Nat:=if k<=q then q-k else q+n-k
end Go.Proofs.YtpomiadgghchnaaGreat.Q2
namespace Go.Proofs.YtpomiadgghchnaaGreat
open Go Go.AW Go.Proofs
structure Pn where
 g:Gan
 (seq at':Int)
 deriving DecidableEq
def Pn.cs (x:Pn):List AVal:=[ii x.g.id,ii x.g.ten,ii x.g.pods,ii x.g.need.a,ii x.g.need.b,ii x.g.need.c,ii x.g.run,ii x.g.lev,ii x.g.pref,ii x.seq,ii x.at']
def Pn.av (x:Pn):AVal:=.agg x.cs
abbrev pnv (l:List Pn):List AVal:=l.map Pn.av
theorem GN {l:List Pn} {i:Nat} (h:i<l.length):(pnv l)[i]? =some l[i].av:=by simp [pnv,h]
abbrev fv (l:List Nat):List AVal:=l.map fun x:Nat=>.int .u64 (x:Int)
structure Sta where
 c:Con
 (now nxt:Int)
 pend:List Pn
 run:List Rn
 hist:List Nat
 deriving DecidableEq
def Sta.cs (s:Sta):List AVal:=[.slice 11 (nav s.c.ns) .no,.slice 6 (hav s.c.hs) .no,ii s.c.half,ii s.c.age,ii s.now,ii s.nxt,.slice 11 (pnv s.pend) .no,.slice 14 (rav s.run) .no,.slice 1 (fv s.hist) .no]
def Sta.av (s:Sta):AVal:=.agg s.cs
def iR (c:Con):Bool:=decide (c.ns=[])&&(decide (c.hs=[])&&(decide (c.half=0)&&decide (c.age=0)))
def MJ (g:Gan):Bool:=decide (1<=g.id/\g.id<=1073741824/\1<=g.pods/\g.pods<=16)&&(aU g.need&&decide (1<=g.run/\g.run<=1048576/\0<=g.lev/\g.lev<=3/\0<=g.pref/\g.pref<=g.lev))
def iA (c:Con) (g:Gan):Int:=if MJ g=true then (if aX c.ns g.ten=true then 0 else 3) else 1
def Rn.pn (r:Rn):Pn:=⟨r.g,r.seq,r.at'⟩
def pnB (s:Sta) (p:Pn):Bool:=decide (iA s.c p.g=0)&&(!(cK s.c [] p.g).isNone&&decide ((0<=p.seq/\p.seq<s.nxt)/\0<=p.at'/\p.at'<=s.now))
def rnB (s:Sta) (r:Rn):Bool:=decide ((r.at'<=r.st/\r.st<=s.now)/\s.now<dC r)&&(DM s.c (dQ s.c (s.run.filter fun x=>!(x.g.id==r.g.id))) r.g r.hs&&decide ((bF s.c.hs (r.hs.headD 0)).f=r.fl))
def xE (c:Con) (n:Int):V3:=if aX c.ns n=true then eF (iJ c.ns n (kT c.ns)) (bX c.ns n).b else iJ c.ns n (kT c.ns)
def TZ (s:Sta):Bool:=(Dh s.c.ns.length).all fun i:Nat=>cN (atV (ofL s.c s.run) (i:Int)) (xE s.c (i:Int))
def Pn.q (x:Pn):Q2.Pend:=⟨x.g.id,x.g.ten,x.g.pods,x.g.need.a,x.g.need.b,x.g.need.c,x.g.run,x.g.lev,x.g.pref,x.seq,x.at'⟩
theorem rT (l:List Pn):Q2.pav (l.map Pn.q)=pnv l:=by simp [Q2.pav,pnv,Pn.q,Q2.Pend.av,Q2.Pend.cs,Pn.av,Pn.cs]
def JC (l:List Pn):Bool:=Q2.checkP (l.map Pn.q)
def ids (s:Sta):List Int:=s.pend.map (fun p=>p.g.id)++s.run.map fun r=>r.g.id
def seqs (s:Sta):List Int:=s.pend.map (fun p=>p.seq)++s.run.map fun r=>r.seq
def aAj (s:Sta):Bool:=(iR s.c||decide (bB s.c=0))&&decide ((0<=s.now/\s.now<=1099511627776)/\(1<=s.nxt/\s.nxt<=1099511627776)/\s.hist.length=s.c.ns.length/\s.pend.length+s.run.length<=32)
def CR (s:Sta):Bool:=aAj s&&(JC s.pend&&((s.pend.all (pnB s)&&s.run.all fun r=>pnB s r.pn&&rnB s r)&&(decide (ids s).Nodup&&(decide (seqs s).Nodup&&TZ s))))
theorem qV {c:Con} {g:Gan}:iA c g=0↔MJ g=true/\aX c.ns g.ten=true:=by
 unfold iA
 cases MJ g<;>cases aX c.ns g.ten<;>decide
def jX (p:V3->Int) (u:Int) (x:Rn):Int:=p x.g.need*((x.hs.count u:Nat):Int)
theorem vT {p:V3->Int} (hp:Prj p) (need:V3) (hn:0<=p need/\p need<=1048576) (j:Nat):∀ (hs:List Int) (xs:List V3) (v:Int),j<xs.length->v<=cM->p ((xs[j]?).getD V3.zero)=max v (-cM)->p (((hs.foldl (nG need) xs)[j]?).getD V3.zero)=max (v-p need*((hs.count (j:Int):Nat):Int)) (-cM)
 | [],xs,v,_,_,h=>by simpa using h
 | u::r,xs,v,hj,hv,h=>by
  rw [Av]
  have e:=UU need xs u j
  by_cases hu:u=(j:Int)
  .subst hu
   rw [if_pos ⟨by omega,by omega,by omega⟩] at e
   rw [Mn]
   have hm:p need*(((r.count (j:Int)+1:Nat):Nat):Int)=p need*((r.count (j:Int):Nat):Int)+p need:=by rw [Int.natCast_add,Int.mul_add];simp
   rw [hm]
   have e2:p (((nG need xs (j:Int))[j]?).getD V3.zero)=max (v-p need) (-cM):=by
    rw [e,hp.sub,h]
    unfold S9 fK cM at *
    omega
   rw [vT hp need hn j r _ (v-p need) (by rw [nF];exact hj) (by omega) e2]
   omega
  .rw [if_neg (by omega)] at e
   rw [Mj (by simpa using hu)]
   exact vT hp need hn j r _ v (by rw [nF];exact hj) hv (by rw [e];exact h)
theorem KV {p:V3->Int} (hp:Prj p) (j:Nat):∀ (l:List Rn) (xs:List V3) (v:Int),(∀ x∈l,0<=p x.g.need/\p x.g.need<=1048576)->j<xs.length->v<=cM->p ((xs[j]?).getD V3.zero)=max v (-cM)->p (((l.foldl rU xs)[j]?).getD V3.zero)=max (v-bW (l.map (jX p (j:Int)))) (-cM)
 | [],xs,v,_,_,_,h=>by
  show _=max (v-0) _
  rw [Int.sub_zero]
  exact h
 | x::r,xs,v,hn,hj,hv,h=>by
  have hx:=hn x (Ar ..)
  have e:=vT hp x.g.need hx j x.hs xs v hj hv h
  have hz:0<=p x.g.need*((x.hs.count (j:Int):Nat):Int):=Ji hx.1 (by omega)
  rw [Av,Bk]
  have ih:=KV hp j r (rU xs x) (v-p x.g.need*((x.hs.count (j:Int):Nat):Int)) (fun y hy=>hn y (Bj _ hy)) (by rw [qW];exact hj) (by omega) e
  rw [ih]
  show _=max (v-(jX p (j:Int) x+bW _)) _
  unfold jX
  congr 1
  omega
theorem aBp {s:Sta} (h:CR s=true) (hn:s.c.ns≠[]):bB s.c=0/\(0<=s.now/\s.now<=1099511627776)/\s.hist.length=s.c.ns.length/\s.pend.length+s.run.length<=32:=by
 unfold CR aAj at h
 simp only [Ag,Fw,decide_eq_true_eq] at h
 obtain ⟨⟨h1,h2⟩,_⟩:=h
 refine ⟨?_,h2.1,h2.2.2.1,h2.2.2.2⟩
 rcases h1 with h1 | h1
 .unfold iR at h1
  simp only [Ag,decide_eq_true_eq] at h1
  exact absurd h1.1 hn
 .exact h1
structure RnOK (s:Sta) (r:Rn):Prop where
 gang:iA s.c r.g=0
 st:0<=r.st/\r.st<=s.now
 chk:DM s.c (dQ s.c (s.run.filter fun x=>!(x.g.id==r.g.id))) r.g r.hs=true
theorem SI {s:Sta} (h:CR s=true) {r:Rn} (hr:r∈s.run):RnOK s r:=by
 unfold CR at h
 simp only [Ag,Ch] at h
 have h1:=h.2.2.1.2 r hr
 unfold pnB rnB at h1
 simp only [Ag,decide_eq_true_eq] at h1
 obtain ⟨⟨a,_,b⟩,c,d,_⟩:=h1
 exact ⟨a,⟨Fo b.2.1 c.1.1,c.1.2⟩,d⟩
theorem HY {s:Sta} (h:CR s=true):(ids s).Nodup/\(seqs s).Nodup/\TZ s=true/\JC s.pend=true:=by
 unfold CR at h
 simp only [Ag,decide_eq_true_eq] at h
 exact ⟨h.2.2.2.1,h.2.2.2.2.1,h.2.2.2.2.2,h.2.1⟩
theorem SK {c:Con} {free:List V3} {g:Gan} {hs:List Int} (h:DM c free g hs=true):(hs.length:Int)=g.pods/\∀ u∈hs,0<=u/\u<(free.length:Int)/\((hs.count u:Nat):Int)<=fT ((free[u.toNat]?).getD V3.zero) g.need:=by
 unfold DM at h
 by_cases hl:(hs.length:Int)=g.pods
 .rw [if_pos hl,Il] at h
  obtain ⟨G,_,hG⟩:=h
  refine ⟨hl,fun u hu=>?_⟩
  unfold HZ RS at hG
  simp only [Ag,Ch] at hG
  have hf:=hG.2 u hu
  unfold aD4 at hf
  by_cases h1:u<0
  .rw [if_pos (decide_eq_true h1)] at hf
   cases hf
  .rw [if_neg (by rw [decide_eq_false h1];decide)] at hf
   by_cases h2:(free.length:Int)<=u
   .rw [if_pos (decide_eq_true h2)] at hf
    cases hf
   .rw [if_neg (by rw [decide_eq_false h2];decide)] at hf
    have e:O5 u hs=((hs.count u:Nat):Int):=by unfold O5;rw [HT];omega
    rw [e] at hf
    simp at hf
    exact ⟨by omega,by omega,hf⟩
 .rw [if_neg hl] at h
  cases h
theorem BZ (c:Con) (l:List Rn):(dQ c l).length=c.hs.length:=by
 have key:∀ (l:List Rn) (xs:List V3),(l.foldl rU xs).length=xs.length:=fun l=>by
  induction l with
  | nil=>intro xs;rfl
  | cons x r ih=>intro xs;rw [Av,ih,qW]
 unfold dQ
 rw [key]
 simp
theorem aHR (c:Con) {j:Nat} (hj:j<c.hs.length):(((Dh c.hs.length).map fun i:Nat=>(bF c.hs (i:Int)).c)[j]?).getD V3.zero=(bF c.hs (j:Int)).c:=by
 rw [Bi,Cq hj]
 rfl
theorem H0 {c:Con} (h:bB c=0) {j:Nat} (hj:j<c.hs.length):aU (bF c.hs (j:Int)).c=true:=by
 unfold bB at h
 split at h
 .split at h
  .split at h
   .rename_i ha
    rw [Ch] at ha
    have hh:bF c.hs (j:Int)=c.hs[j]:=by unfold bF;rw [Ck,Aa hj];rfl
    have:=ha c.hs[j] (Bl hj)
    unfold nE at this
    split at this
    .cases this
    .rw [hh];exact this
   .cases h
  .cases h
 .cases h
theorem yS {p:V3->Int} (hp:Prj p) {c:Con} (hcap:∀ j:Nat,j<c.hs.length->0<=p (bF c.hs (j:Int)).c/\p (bF c.hs (j:Int)).c<=1048576) {l:List Rn} (hn:∀ x∈l,0<=p x.g.need/\p x.g.need<=1048576) {j:Nat} (hj:j<c.hs.length):p (((dQ c l)[j]?).getD V3.zero)=max (p (bF c.hs (j:Int)).c-bW (l.map (jX p (j:Int)))) (-cM):=by
 have h0:=hcap j hj
 unfold dQ
 exact KV hp j l _ _ hn (by simpa using hj) (by unfold cM;omega) (by rw [aHR c hj];unfold cM;omega)
theorem F2 {f:Rn->Int} {r:Rn}:∀ {l:List Rn},r∈l->(l.map fun x=>x.g.id).Nodup->bW (l.map f)=bW ((l.filter fun x=>!(x.g.id==r.g.id)).map f)+f r
 | [],h,_=>by cases h
 | x::l,h,hd=>by
  rw [Bk,Cc] at hd
  rw [Bk]
  show f x+bW (l.map f)=_
  rcases Bd.1 h with rfl | h
  .rw [Et (by simp)]
   have e:l.filter (fun x=>!(x.g.id==r.g.id))=l:=by
    rw [Fu]
    intro y hy
    have:y.g.id≠r.g.id:=fun q=>hd.1 (by rw [<-q];exact Bx.2 ⟨y,hy,rfl⟩)
    simpa using this
   rw [e]
   omega
  .have hne:x.g.id≠r.g.id:=fun q=>hd.1 (by rw [q];exact Bx.2 ⟨r,h,rfl⟩)
   rw [Eu (by simpa using hne),Bk]
   show _=(f x+bW _)+f r
   rw [F2 h hd.2]
   omega
theorem sL {p:V3->Int} (hp:Prj p) {s:Sta} (h:CR s=true) (hn:s.c.ns≠[]) (hv:∀ v,aU v=true->0<=p v/\p v<=1048576)
  (hr:∀ free need (n:Int),aU need=true->1<=n->n<=fT free need->p need*n<=p free) {j:Nat} (hj:j<s.c.hs.length):0<=p (((dQ s.c s.run)[j]?).getD V3.zero):=by
 obtain ⟨hc,_⟩:=aBp h hn
 have hcap:∀ j:Nat,j<s.c.hs.length->0<=p (bF s.c.hs (j:Int)).c/\p (bF s.c.hs (j:Int)).c<=1048576:=fun j hj=>hv _ (H0 hc hj)
 have hneed:∀ x∈s.run,aU x.g.need=true:=fun x hx=>by
  have h1:=(qV.1 (SI h hx).gang).1
  unfold MJ at h1
  simp only [Ag] at h1
  exact h1.2.1
 have hnn:∀ x∈s.run,0<=p x.g.need/\p x.g.need<=1048576:=fun x hx=>hv _ (hneed x hx)
 rw [yS hp hcap hnn hj]
 have hcj:=hcap j hj
 by_cases hu:∃ r∈s.run,(j:Int)∈r.hs
 .obtain ⟨r,hrm,hm⟩:=hu
  have hk:=SI h hrm
  obtain ⟨_,hin⟩:=SK hk.chk
  obtain ⟨_,_,hcnt⟩:=hin _ hm
  have hpos:0<r.hs.count (j:Int):=Jd.2 hm
  have h1:=hr _ _ _ (hneed r hrm) (by omega) hcnt
  rw [Ck,yS hp hcap (fun x hx=>hnn x (Dx.1 hx).1) hj] at h1
  have hd:(s.run.map fun x=>x.g.id).Nodup:=by
   have:=(HY h).1
   unfold ids at this
   exact (Bm.1 this).2.1
  have hs:=F2 (f:=jX p (j:Int)) hrm hd
  have e:jX p (j:Int) r=p r.g.need*((r.hs.count (j:Int):Nat):Int):=rfl
  have hz:0<=jX p (j:Int) r:=Ji (hnn r hrm).1 (by omega)
  rw [<-e] at h1
  unfold cM at *
  omega
 .have hz:bW (s.run.map (jX p (j:Int)))=0:=by
   have key:∀ l:List Rn,(∀ x∈l,(j:Int)∉x.hs)->bW (l.map (jX p (j:Int)))=0:=fun l=>by
    induction l with
    | nil=>intro _;rfl
    | cons x r ih=>
     intro hl
     rw [Bk]
     show jX p (j:Int) x+bW _=0
     rw [ih fun y hy=>hl y (Bj _ hy)]
     unfold jX
     rw [List.count_eq_zero.2 (hl x (Ar ..))]
     simp
   exact key s.run fun x hx q=>hu ⟨x,hx,q⟩
  rw [hz]
  omega
theorem iP {free need:V3} {n:Int} (hv:aU need=true) (h1:1<=n) (h:n<=fT free need):need.a*n<=free.a/\need.b*n<=free.b/\need.c*n<=free.c:=by
 have hfit:cN need free=true:=by
  cases hq:cN need free with
  | true=>rfl
  | false=>
   unfold fT at h
   rw [if_neg (by rw [hq];decide)] at h
   omega
 exact ((QH hv hfit _).1 h).2
theorem N9 {s:Sta} (h:CR s=true) (hn:s.c.ns≠[]) {j:Nat} (hj:j<s.c.hs.length):cN V3.zero (((dQ s.c s.run)[j]?).getD V3.zero)=true:=
 oX.2 ⟨sL YO h hn (fun _ hv=>(bL hv).1) (fun _ _ _ hv h1 hr=>(iP hv h1 hr).1) hj,sL YN h hn (fun _ hv=>(bL hv).2.1) (fun _ _ _ hv h1 hr=>(iP hv h1 hr).2.1) hj,sL YM h hn (fun _ hv=>(bL hv).2.2) (fun _ _ _ hv h1 hr=>(iP hv h1 hr).2.2) hj⟩
set_option maxRecDepth 10000
def fN (n lo hi:Int):Bool:=decide (lo<=n)&&decide (n<=hi)
theorem fM {n lo hi:Int}:fN n lo hi=true↔lo<=n/\n<=hi:=by unfold fN;simp
theorem iF (n lo hi:Int):aA Tryz.prog 118 [ii n,ii lo,ii hi] [] (.ret (.bool (fN n lo hi))) []:=by
 unfold fN
 by_cases h1:lo<=n
 .rw [decide_eq_true h1,Cb]
  refine cT (E:=E) (fn:=Tryz.f118) (g:=.pure _) fun _=>?_
  exact zW
 .rw [decide_eq_false h1,Dz]
  refine cT (E:=E) (fn:=Tryz.f118) (g:=.pure _) fun _=>?_
  exact zW
theorem tH (n lo hi:Int):aA Tryz.prog 156 [ii n,ii lo,ii hi] [] (.ret (.bool (fN n lo hi))) []:=by
 unfold fN
 by_cases h1:lo<=n
 .rw [decide_eq_true h1,Cb]
  refine cT (E:=E) (fn:=Tryz.f156) (g:=.pure _) fun _=>?_
  exact zW
 .rw [decide_eq_false h1,Dz]
  refine cT (E:=E) (fn:=Tryz.f156) (g:=.pure _) fun _=>?_
  exact zW
theorem NP (v:V3) (b:Bool) (hb:aU v=b):aA Tryz.prog 194 [v.av] [] (.ret (.bool b)) []:=by
 unfold aU at hb
 refine cT (E:=E) (fn:=Tryz.f194) (g:=.pure _) fun _=>?_
 repeat' first
  | (refine gW (by first | exact hE | exact hEr _ _ | exact hEo _ _) ?_;conv=>whnf)
  | exact hb
  | refine aY ?_
  | refine aN ?_
  | refine Ac (fun h=>?_) (fun h=>?_)
  | refine aJ ?_
  | refine Al _ (Ac rfl ?_)
  | refine Ac (by decide) ?_
 all_goals (refine congrArg (fun b=>Res.ret (AVal.bool b)) ?_;rw [<-hb];simp only [decide_eq_true_eq,decide_eq_false_iff_not] at *)
 .rw [decide_eq_false (p:=0<=v.a/\v.a<=1048576) (by omega)];rfl
 .rw [decide_eq_false (p:=0<=v.a/\v.a<=1048576) (by omega)];rfl
 .rw [decide_eq_false (p:=0<=v.b/\v.b<=1048576) (by omega),Ci];rfl
 .rw [decide_eq_false (p:=0<=v.b/\v.b<=1048576) (by omega),Ci];rfl
 .rw [decide_eq_false (p:=0<=v.c/\v.c<=1048576) (by omega),Ci]
 .rw [decide_eq_false (p:=0<=v.c/\v.c<=1048576) (by omega),Ci]
 .rw [decide_eq_true (p:=0<=v.a/\v.a<=1048576) (by omega),decide_eq_true (p:=0<=v.b/\v.b<=1048576) (by omega),decide_eq_true (p:=0<=v.c/\v.c<=1048576) (by omega)];rfl
theorem dM (v:V3):aA Tryz.prog 194 [v.av] [] (.ret (.bool (aU v))) []:=NP v _ rfl
def EY (x:Hos):Bool:=fN x.f 0 100&&(fN x.b 0 100&&(fN x.r 0 100&&aU x.c))
theorem aDT (x:Hos):aA Tryz.prog 120 [x.av] [] (.ret (.bool (EY x))) []:=by
 have h1:=iF x.f 0 100
 have h2:=iF x.b 0 100
 have h3:=iF x.r 0 100
 have h4:=dM x.c
 unfold EY
 generalize fN x.f 0 100=b1 at h1
 generalize fN x.b 0 100=b2 at h2
 generalize fN x.r 0 100=b3 at h3
 generalize aU x.c=b4 at h4
 cases b1<;>cases b2<;>cases b3<;>cases b4
 all_goals
  refine cT (E:=E) (fn:=Tryz.f120) (g:=.pure _) fun _=>?_
  exact zW
theorem aAi (x:Hos):EY x=nE x:=by
 rw [Km]
 unfold EY nE
 by_cases h:H3 x
 .rw [if_pos h]
  unfold H3 at h
  simp only [Ag,fM]
  constructor
  .intro q;omega
  .intro q;cases q
 .rw [if_neg h]
  unfold H3 at h
  simp only [Ag,fM]
  constructor
  .intro q;exact q.2.2.2
  .intro q;exact ⟨by omega,by omega,by omega,q⟩
theorem T3 (c:Con) (i:Nat) (hi:i<1048576) (x:Nod) (get:(nav c.ns)[i]? =some x.av) (hb:qF i x):aA Tryz.prog 119 [c.av,ii i] [] (.ret (.bool false)) []:=by
 have b1:=iF x.p 0 ((i:Int)-1)
 have b2:=iF x.w 1 1000
 have hl:=iF x.w 1 1000
 have v1:=dM x.n
 have v2:=dM x.b
 have v3:=dM x.l
 have v4:=kM x.l x.n
 unfold qF at hb
 by_cases h0:i=0
 .by_cases hp:x.p= -1
  .have e2:fN x.w 1 1000=false:=by
    cases hq:fN x.w 1 1000 with
    | false=>rfl
    | true=>have:=fM.1 hq;omega
   rw [e2] at b2
   subst h0
   refine cT (E:=E) (fn:=Tryz.f119) (g:=.pure _) fun _=>?_
   repeat' first | (refine gN hE ?_;conv=>whnf) | refine ⟨i,rfl,?_⟩ | refine ⟨_,get,?_⟩ | refine .pure _ [] b1 ?_ | refine .pure _ [] b2 ?_ | refine .pure _ [] hl ?_ | refine .pure _ [] v1 ?_ | refine .pure _ [] v2 ?_ | refine .pure _ [] v3 ?_ | refine .pure _ [] v4 ?_ | exact rfl | refine aY ?_ | refine aN ?_ | refine aT fun h=>?_ | refine aF fun h=>?_ | refine ⟨fun h=>?_,fun h=>?_⟩ | refine aJ ?_ | refine ⟨_,rfl,?_⟩ | refine aD ?_ | fail
  .subst h0
   refine cT (E:=E) (fn:=Tryz.f119) (g:=.pure _) fun _=>?_
   repeat' first | (refine gN hE ?_;conv=>whnf) | refine ⟨i,rfl,?_⟩ | refine ⟨_,get,?_⟩ | refine .pure _ [] b1 ?_ | refine .pure _ [] b2 ?_ | refine .pure _ [] hl ?_ | refine .pure _ [] v1 ?_ | refine .pure _ [] v2 ?_ | refine .pure _ [] v3 ?_ | refine .pure _ [] v4 ?_ | exact rfl | refine aY ?_ | refine aN ?_ | refine aT fun h=>?_ | refine aF fun h=>?_ | refine ⟨fun h=>?_,fun h=>?_⟩ | refine aJ ?_ | refine ⟨_,rfl,?_⟩ | refine aD ?_ | fail
   all_goals (exfalso;simp at *;omega)
 .cases hq:fN x.p 0 ((i:Int)-1) with
  | false=>
   rw [hq] at b1
   refine cT (E:=E) (fn:=Tryz.f119) (g:=.pure _) fun _=>?_
   exact zW
  | true=>
   rw [hq] at b1
   have:=fM.1 hq
   have e2:fN x.w 1 1000=false:=by
    cases hq:fN x.w 1 1000 with
    | false=>rfl
    | true=>have:=fM.1 hq;omega
   rw [e2] at b2
   refine cT (E:=E) (fn:=Tryz.f119) (g:=.pure _) fun _=>?_
   repeat' first | (refine gN hE ?_;conv=>whnf) | refine ⟨i,rfl,?_⟩ | refine ⟨_,get,?_⟩ | refine .pure _ [] b1 ?_ | refine .pure _ [] b2 ?_ | refine .pure _ [] hl ?_ | refine .pure _ [] v1 ?_ | refine .pure _ [] v2 ?_ | refine .pure _ [] v3 ?_ | refine .pure _ [] v4 ?_ | exact rfl | refine aY ?_ | refine aN ?_ | refine aT fun h=>?_ | refine aF fun h=>?_ | refine ⟨fun h=>?_,fun h=>?_⟩ | refine aJ ?_ | refine ⟨_,rfl,?_⟩ | refine aD ?_ | fail
set_option maxHeartbeats 2000000 in
theorem NR (c:Con) (i:Nat) (hi:i<1048576) (x:Nod) (get:(nav c.ns)[i]? =some x.av) (hb:¬ qF i x) (hlf:aX c.ns (i:Int)=true):aA Tryz.prog 119 [c.av,ii i] [] (.ret (.bool (aU x.n&&(aU x.b&&(aU x.l&&cN x.l x.n))))) []:=by
 have b1:=iF x.p 0 ((i:Int)-1)
 have b2:=iF x.w 1 1000
 have hl:=kG c (i:Int)
 rw [hlf] at hl
 have v1:=dM x.n
 have v2:=dM x.b
 have v3:=dM x.l
 have v4:=kM x.l x.n
 unfold qF at hb
 rw [fM.2 (show 1<=x.w/\x.w<=1000 by omega)] at b2
 generalize aU x.n=q1 at v1
 generalize aU x.b=q2 at v2
 generalize aU x.l=q3 at v3
 generalize cN x.l x.n=q4 at v4
 by_cases h0:i=0
 .have hp:x.p= -1:=by omega
  subst h0
  cases q1<;>cases q2<;>cases q3<;>cases q4
  all_goals
   refine cT (E:=E) (fn:=Tryz.f119) (g:=.pure _) fun _=>?_
   repeat' first | (refine gN hE ?_;conv=>whnf) | refine ⟨i,rfl,?_⟩ | refine ⟨_,get,?_⟩ | refine .pure _ [] b1 ?_ | refine .pure _ [] b2 ?_ | refine .pure _ [] hl ?_ | refine .pure _ [] v1 ?_ | refine .pure _ [] v2 ?_ | refine .pure _ [] v3 ?_ | refine .pure _ [] v4 ?_ | exact rfl | refine aY ?_ | refine aN ?_ | refine aT fun h=>?_ | refine aF fun h=>?_ | refine ⟨fun h=>?_,fun h=>?_⟩ | refine aJ ?_ | refine ⟨_,rfl,?_⟩ | refine aD ?_ | fail
   all_goals (exfalso;simp at *;omega)
 .rw [fM.2 (show 0<=x.p/\x.p<=(i:Int)-1 by omega)] at b1
  cases q1<;>cases q2<;>cases q3<;>cases q4
  all_goals
   refine cT (E:=E) (fn:=Tryz.f119) (g:=.pure _) fun _=>?_
   exact zW
theorem YS (c:Con) (i:Nat) (hi:i<1048576) (x:Nod) (get:(nav c.ns)[i]? =some x.av) (hb:¬ qF i x) (hlf:aX c.ns (i:Int)=false) (r:Bool) (hr:(zB x.n&&(zB x.b&&zB x.l))=r):aA Tryz.prog 119 [c.av,ii i] [] (.ret (.bool r)) []:=by
 have b1:=iF x.p 0 ((i:Int)-1)
 have b2:=iF x.w 1 1000
 have hl:=kG c (i:Int)
 rw [hlf] at hl
 have v1:=dM x.n
 have v2:=dM x.b
 have v3:=dM x.l
 have v4:=kM x.l x.n
 unfold qF at hb
 rw [fM.2 (show 1<=x.w/\x.w<=1000 by omega)] at b2
 have fin:(((x.p==x.p)&&((x.w==x.w)&&((x.n.a==0)&&((x.n.b==0)&&((x.n.c==0)&&((x.b.a==0)&&((x.b.b==0)&&((x.b.c==0)&&((x.l.a==0)&&((x.l.b==0)&&((x.l.c==0)&&true)))))))))))=r):=by
  rw [<-hr]
  unfold zB
  simp [Ej]
 by_cases h0:i=0
 .have hp:x.p= -1:=by omega
  subst h0
  refine cT (E:=E) (fn:=Tryz.f119) (g:=.pure _) fun _=>?_
  repeat' first | (refine gN hE ?_;conv=>whnf) | refine ⟨i,rfl,?_⟩ | refine ⟨_,get,?_⟩ | refine .pure _ [] b1 ?_ | refine .pure _ [] b2 ?_ | refine .pure _ [] hl ?_ | refine .pure _ [] v1 ?_ | refine .pure _ [] v2 ?_ | refine .pure _ [] v3 ?_ | refine .pure _ [] v4 ?_ | exact rfl | refine aY ?_ | refine aN ?_ | refine aT fun h=>?_ | refine aF fun h=>?_ | refine ⟨fun h=>?_,fun h=>?_⟩ | refine aJ ?_ | refine ⟨_,rfl,?_⟩ | refine aD ?_ | fail
  .exact absurd (show (x.p != -1)=true by assumption) (by rw [hp];decide)
  .exact congrArg (fun b=>Res.ret (AVal.bool b)) fin
 .rw [fM.2 (show 0<=x.p/\x.p<=(i:Int)-1 by omega)] at b1
  refine cT (E:=E) (fn:=Tryz.f119) (g:=.pure _) fun _=>?_
  repeat' first | (refine gN hE ?_;conv=>whnf) | refine ⟨i,rfl,?_⟩ | refine ⟨_,get,?_⟩ | refine .pure _ [] b1 ?_ | refine .pure _ [] b2 ?_ | refine .pure _ [] hl ?_ | refine .pure _ [] v1 ?_ | refine .pure _ [] v2 ?_ | refine .pure _ [] v3 ?_ | refine .pure _ [] v4 ?_ | exact rfl | refine aY ?_ | refine aN ?_ | refine aT fun h=>?_ | refine aF fun h=>?_ | refine ⟨fun h=>?_,fun h=>?_⟩ | refine aJ ?_ | refine ⟨_,rfl,?_⟩ | refine aD ?_ | fail
  exact congrArg (fun b=>Res.ret (AVal.bool b)) fin
theorem YR (c:Con) (i:Nat) (hi:i<1048576) (x:Nod) (get:(nav c.ns)[i]? =some x.av):aA Tryz.prog 119 [c.av,ii i] [] (.ret (.bool (mY (aX c.ns (i:Int)) i x))) []:=by
 unfold mY
 by_cases hb:qF i x
 .rw [if_pos hb]
  exact T3 c i hi x get hb
 .rw [if_neg hb]
  cases hl:aX c.ns (i:Int) with
  | false=>rw [if_neg (by decide)];exact YS c i hi x get hb hl _ rfl
  | true=>rw [if_pos rfl];exact NR c i hi x get hb hl
noncomputable abbrev R3:Func:=Tryz.f53
def BB (ns:List Nod):Nat->List Nod->Bool
 | _,[]=>true
 | i,x::r=>mY (aX ns (i:Int)) i x&&BB ns (i+1) r
theorem AV (c:Con) (hc:c.sm) (r:Int):∀ (m i:Nat) (b:Bool),i+m=c.hs.length->(if (b&&(c.hs.drop i).all nE)=true then (0:Int) else 2)=r->
  To E R3 (.pure (.ret (ii r))) (.head (stk R3 1) [(1,.ref 0 0),(3,.bool b),(5,ii i)] [.cells 26 c.cs]):=by
 have hlen:(hav c.hs).length=c.hs.length:=by simp
 have h1:=hc.hs
 intro m
 induction m with
 | zero=>
  intro i b hi hr
  rw [Ae (by omega)] at hr
  cases b with
  | false=>
   have hr:2=r:=hr
   subst hr
   refine gV ?_
   exact zW
  | true=>
   have hr:0=r:=hr
   subst hr
   refine gV ?_
   exact zW
 | succ m ih=>
  intro i b hi hr
  cases b with
  | false=>
   have hr:2=r:=hr
   subst hr
   refine gV ?_
   exact zW
  | true=>
   have hlt:i<c.hs.length:=by omega
   rw [Ad hlt,Fk,<-aAi] at hr
   have get:=uD hlt
   generalize c.hs[i]=x at hr get
   have hcal:=aDT x
   have next:=ih (i+1) (EY x) (by omega) hr
   generalize EY x=q at hcal next
   refine gV ?_
   exact zW
theorem NS (c:Con) (hc:c.sm) (r:Int):∀ (m i:Nat) (b:Bool),i+m=c.ns.length->(if ((b&&BB c.ns i (c.ns.drop i))&&c.hs.all nE)=true then (0:Int) else 2)=r->
  To E R3 (.pure (.ret (ii r))) (.head (stk R3 0) [(1,.ref 0 0),(3,.bool b),(4,ii i)] [.cells 26 c.cs]):=by
 have hlen:(nav c.ns).length=c.ns.length:=by simp
 have h1:=hc.ns
 intro m
 induction m with
 | zero=>
  intro i b hi hr
  rw [Ae (by omega)] at hr
  have next:=AV c hc r c.hs.length 0 b (by omega) (by rw [<-hr];show _=if ((b&&true)&&_)=true then (0:Int) else 2;rw [Iy];rfl)
  cases b with
  | false=>
   refine gV ?_
   exact zW
  | true=>
   refine gV ?_
   exact zW
 | succ m ih=>
  intro i b hi hr
  cases b with
  | false=>
   have next:=AV c hc r c.hs.length 0 false (by omega) (by rw [<-hr];rfl)
   refine gV ?_
   exact zW
  | true=>
   have hlt:i<c.ns.length:=by omega
   rw [Ad hlt] at hr
   have get:=fQ hlt
   generalize c.ns[i]=x at hr get
   have hcal:=YR c i (by omega) x get
   have next:=ih (i+1) (mY (aX c.ns (i:Int)) i x) (by omega) hr
   generalize mY (aX c.ns (i:Int)) i x=q at hcal next
   refine gV ?_
   exact zW
theorem KA (ns:List Nod):∀ (l:List Nod) (i:Nat),BB ns i l=mH ns i l
 | [],_=>rfl
 | x::r,i=>by
  unfold BB mH
  rw [KA ns r (i+1),GD]
  cases mY (aX ns (i:Int)) i x<;>rfl
def TB (c:Con):Bool:=fN c.ns.length 1 12&&(fN c.hs.length 1 24&&(fN c.half 1 1048576&&fN c.age 0 1048576))
theorem I3 (c:Con):TB c=true↔vE c:=by
 unfold TB vE
 simp only [Ag,fM]
 omega
theorem VO (c:Con):(if ((TB c&&BB c.ns 0 (c.ns.drop 0))&&c.hs.all nE)=true then (0:Int) else 2)=bB c:=by
 unfold bB
 rw [Bt,KA]
 cases hs:TB c with
 | false=>
  rw [if_neg (c:=vE c) (fun q=>by rw [(I3 c).2 q] at hs;cases hs)]
  rfl
 | true=>
  rw [if_pos (c:=vE c) ((I3 c).1 hs)]
  cases mH c.ns 0 c.ns<;>cases c.hs.all nE<;>rfl
set_option maxHeartbeats 2000000 in
theorem vP (c:Con) (hc:c.sm):aA Tryz.prog 53 [c.av] [] (.ret (ii (bB c))) []:=by
 have hln:(nav c.ns).length=c.ns.length:=by simp
 have hlh:(hav c.hs).length=c.hs.length:=by simp
 have h:=NS c hc (bB c) c.ns.length 0 (TB c) (by omega) (VO c)
 have b1:=iF ((nav c.ns).length:Nat) 1 12
 have b2:=iF ((hav c.hs).length:Nat) 1 24
 have b3:=iF c.half 1 1048576
 have b4:=iF c.age 0 1048576
 unfold TB at h
 rw [<-hln,<-hlh] at h
 generalize fN ((nav c.ns).length:Nat) 1 12=q1 at b1 h
 generalize fN ((hav c.hs).length:Nat) 1 24=q2 at b2 h
 generalize fN c.half 1 1048576=q3 at b3 h
 generalize fN c.age 0 1048576=q4 at b4 h
 generalize bB c=r at h
 cases q1<;>cases q2<;>cases q3<;>cases q4
 all_goals
  refine cT (E:=E) (fn:=Tryz.f53) (g:=.pure _) fun _=>?_
  exact zW
def aHW (g:Gan):Bool:=fN g.id 1 1073741824&&(fN g.pods 1 16&&(aU g.need&&(fN g.run 1 1048576&&(fN g.lev 0 3&&fN g.pref 0 g.lev))))
theorem aE1 (g:Gan):aHW g=MJ g:=by
 rw [Km]
 unfold aHW MJ
 simp only [Ag,fM,decide_eq_true_eq]
 constructor
 .rintro ⟨a,b,c,d,e,f⟩
  exact ⟨⟨a.1,a.2,b.1,b.2⟩,c,d.1,d.2,e.1,e.2,f.1,f.2⟩
 .rintro ⟨⟨a,b,c,d⟩,v,e,f,h,i,j,k⟩
  exact ⟨⟨a,b⟩,⟨c,d⟩,v,⟨e,f⟩,⟨h,i⟩,j,k⟩
theorem XI (c:Con) (g:Gan):aA Tryz.prog 125 [c.av,g.av] [] (.ret (ii (iA c g))) []:=by
 have b1:=tH g.id 1 1073741824
 have b2:=tH g.pods 1 16
 have b3:=dM g.need
 have b4:=tH g.run 1 1048576
 have b5:=tH g.lev 0 3
 have b6:=tH g.pref 0 g.lev
 have b7:=kG c g.ten
 unfold iA
 rw [<-aE1]
 unfold aHW
 generalize fN g.id 1 1073741824=q1 at b1
 generalize fN g.pods 1 16=q2 at b2
 generalize aU g.need=q3 at b3
 generalize fN g.run 1 1048576=q4 at b4
 generalize fN g.lev 0 3=q5 at b5
 generalize fN g.pref 0 g.lev=q6 at b6
 generalize aX c.ns g.ten=q7 at b7
 cases q1 with
 | false=>
  refine cT (E:=E) (fn:=Tryz.f125) (g:=.pure _) fun _=>?_
  exact zW
 | true=>
  cases q2 with
  | false=>
   refine cT (E:=E) (fn:=Tryz.f125) (g:=.pure _) fun _=>?_
   exact zW
  | true=>
   cases q3 with
   | false=>
    refine cT (E:=E) (fn:=Tryz.f125) (g:=.pure _) fun _=>?_
    exact zW
   | true=>
    cases q4 with
    | false=>
     refine cT (E:=E) (fn:=Tryz.f125) (g:=.pure _) fun _=>?_
     exact zW
    | true=>
     cases q5 with
     | false=>
      refine cT (E:=E) (fn:=Tryz.f125) (g:=.pure _) fun _=>?_
      exact zW
     | true=>
      cases q6 with
      | false=>
       refine cT (E:=E) (fn:=Tryz.f125) (g:=.pure _) fun _=>?_
       exact zW
      | true=>
       cases q7 with
       | false=>
        refine cT (E:=E) (fn:=Tryz.f125) (g:=.pure _) fun _=>?_
        exact zW
       | true=>
        refine cT (E:=E) (fn:=Tryz.f125) (g:=.pure _) fun _=>?_
        exact zW
def uN:Con:=⟨[],[],0,0⟩
theorem aFO {l:List V3} {u:Int} (h0:0<=u) (h1:u<(l.length:Int)):(vav l)[u.toNat]? =some ((l[u.toNat]?).getD V3.zero).av:=by
 rw [Aa (show u.toNat<l.length by omega)]
 exact kD (by omega)
theorem aB2 {c:Con} {l:List Rn} {n:Int} (h:c.ok n):(vav (ofL c l))[n.toNat]? =some (atV (ofL c l) n).av:=by
 obtain ⟨h0,h1⟩:=h
 have hl:(ofL c l).length=c.ns.length:=by unfold ofL lN;simp
 unfold atV
 rw [if_neg (by simp;omega)]
 exact aFO h0 (by omega)
abbrev itP (p:Pn):AVal:=.iface 102 p.av
abbrev itR (r:Rn):AVal:=.iface 53 r.av
inductive It where
 | p (x:Pn)
 | r (x:Rn)
def It.av:It->AVal
 | .p x=>itP x
 | .r x=>itR x
def It.pn:It->Pn
 | .p x=>x
 | .r x=>x.pn
def It.q (s:Sta):It->Bool
 | .p _=>true
 | .r x=>rnB s x
def It.sm:It->Prop
 | .p _=>True
 | .r x=>x.hs.length<=1048576
theorem ZC (c:Con) (l:List Rn):(ofL c l).length=c.ns.length:=by unfold ofL lN;simp
def aFo (s:Sta):Prop:=(0<=s.now/\s.now<=1099511627776)/\(1<=s.nxt/\s.nxt<=1099511627776)/\s.hist.length=s.c.ns.length/\s.pend.length+s.run.length<=32
instance (s:Sta):Decidable (aFo s):=by unfold aFo;infer_instance
end Go.Proofs.YtpomiadgghchnaaGreat
