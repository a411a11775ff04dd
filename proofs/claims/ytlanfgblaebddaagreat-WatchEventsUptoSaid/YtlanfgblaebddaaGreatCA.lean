/-
  Which commands may be told; the row of those that wait; which states may be, as walks.
-/
import Derived.Test.YtlanfgblaebddaaGreatRA
set_option linter.all false
set_option maxHeartbeats 1000000
open And renaming intro->Aa
open Bool renaming and_assoc->Ge,and_eq_true->Af,and_false->Ct,and_true->Kr,eq_iff_iff->Fz,false_and->Dn,false_or->Jm,not_eq_false'->Ig,not_eq_true'->Co,or_eq_true->Fy,true_and->Bw
open Decidable renaming not_not->Dm
open Exists renaming intro->Ai
open Int renaming le_refl->Di,le_trans->Es,mul_nonneg->Hj,toNat_natCast->Dl,toNat_of_nonneg->Hw
open List renaming all_cons->Da,all_eq_true->Bq,any_cons->Gn,any_eq_true->Ef,append_assoc->Ay,append_nil->Bm,count_append->Ik,count_cons_of_ne->Lg,count_cons_self->Hi,count_eq_zero->Ie,count_pos_iff->Kc,drop->Fv,drop_eq_getElem_cons->Ad,drop_eq_nil_of_le->Ae,drop_zero->Bx,eraseIdx_eq_take_drop_succ->Iz,filter_cons_of_neg->Fa,filter_cons_of_pos->Fb,filter_eq_self->Jz,foldl_cons->Aq,getElem?_eq_getElem->Ab,getElem?_map->Bd,getElem?_range->Dr,getElem_mem->Bg,length_map->Ck,map_append->Bl,map_cons->Bk,map_drop->Jl,map_map->Cu,map_take->Jk,mem_append->Ao,mem_append_left->Cd,mem_append_right->Cp,mem_cons->Aj,mem_cons_of_mem->Ap,mem_cons_self->Ak,mem_filter->Dt,mem_map->Bb,mem_map_of_mem->Ca,nodup_append->Ax,nodup_cons->Bp,not_mem_nil->Hr,pairwise_iff_getElem->Dh,range->Df,range'->Gx,range_eq_range'->Gm,take->En
open Nat renaming add_zero->Dy,beq->Av,le_refl->Bi,le_trans->Cm
open Or renaming inl->Gy
namespace Go.Proofs.YtlanfgblaebddaaGreat
open Go Go.AW Go.Proofs
theorem zqca0 {P:Prop} (h:P:=by
 have b:false=r:=b
 subst b
 rcases z with ⟨rfl,rfl⟩ | rfl
 .refine gV ?_
  refine aT fun h=>?_
  repeat' first | (refine gN hE ?_;conv=>whnf) | refine ⟨i,rfl,?_⟩ | refine ⟨u0.toNat,n,?_⟩ | refine ⟨_,get,?_⟩ | refine ⟨_,e,?_⟩ | refine ⟨_,j,?_⟩ | refine Ai _ (Aa (d _) ?_) | refine .pure _ [] a ?_ | exact rfl | (refine zt ?_;try intro h) | refine zu (fun h=>?_) fun h=>?_ | fail
 .refine gV ?_
  refine aT fun h=>?_
  repeat' first | (refine gN hE ?_;conv=>whnf) | refine ⟨i,rfl,?_⟩ | refine ⟨u0.toNat,n,?_⟩ | refine ⟨_,get,?_⟩ | refine ⟨_,e,?_⟩ | refine ⟨_,j,?_⟩ | refine Ai _ (Aa (d _) ?_) | refine .pure _ [] a ?_ | exact rfl | (refine zt ?_;try intro h) | refine zu (fun h=>?_) fun h=>?_ | fail):P:=h
theorem zqca1 {P:Prop} (h:P:=by
 rcases m with c | ⟨c,f⟩
 .refine gV ?_
  refine aT fun h=>?_
  refine gV ?_
  refine ⟨i,rfl,?_⟩
  refine gV ?_
  refine ⟨_,get,?_⟩
  refine gV ?_
  refine .pure _ [] d ?_
  refine cX (hEr [] [64,65,66]) 20 ?_;conv=>whnf
  refine To.cutC [1,3,4,6,7,14,15,16] 3 rfl rfl rfl rfl ?_
  refine rT p ?_
  repeat' first | (refine gN (hEr [] [64,65,66]) ?_;conv=>whnf) | refine ⟨_,c,?_⟩ | exact rfl | (refine zt ?_;try intro h) | refine zu (fun h=>?_) fun h=>?_ | fail
 .refine gV ?_
  refine aT fun h=>?_
  refine gV ?_
  refine ⟨i,rfl,?_⟩
  refine gV ?_
  refine ⟨_,get,?_⟩
  refine gV ?_
  refine .pure _ [] d ?_
  refine cX (hEr [] [64,65,66]) 20 ?_;conv=>whnf
  refine To.cutC [1,3,4,6,7,14,15,16] 3 rfl rfl rfl rfl ?_
  refine rT p ?_
  repeat' first | (refine gN (hEr [] [64,65,66]) ?_;conv=>whnf) | refine ⟨_,c,?_⟩ | refine ⟨_,f,?_⟩ | exact rfl | (refine zt ?_;try intro h) | refine zu (fun h=>?_) fun h=>?_ | fail):P:=h
theorem zqca2 {P:Prop} (h:P:=by
 refine ⟨fun c=>?_,fun c=>?_⟩
 .refine gV ?_
  rw [if_pos c] at a
  rw [a]
 .refine gV ?_
  rw [if_neg (by rw [c];simp)] at a
  refine .inl ⟨⟨by simp only [bW];omega,by simp only [bI];omega⟩,?_⟩
  refine gV ?_
  refine To.head [0,1,7,8] ?_
  exact g (i+1) o_ (by rw [<-a];push_cast;rfl)):P:=h
theorem zqca3 {P:Prop} (h:P:=by
 refine gV ?_
 refine ⟨i,rfl,?_⟩
 refine gV ?_
 refine ⟨by rw [a];omega,?_⟩
 refine gV ?_
 refine ⟨CX (by have:=AX (pav l) i;omega),?_⟩
 refine gV ?_
 refine ⟨vJ q_,?_⟩
 refine gV ?_
 refine ⟨i,rfl,?_⟩
 refine gV ?_
 refine ⟨by rw [a];omega,?_⟩
 refine gV ?_
 refine ⟨vJ q_,?_⟩
 refine gV ?_
 rw [putP,hp]
 have:En i (pav l)++[p.av]++Fv i (pav l)=pav (l.take i++[p]++l.drop i):=by simp
 rw [<-this]
 rfl):P:=h
theorem zqca4 {P:Prop} (h:P:=by
 refine To.part [1,3,4,14,15,16] [0,1] rfl rfl rfl ?_
 refine a ?_
 clear d a
 simp only [decide_eq_true_eq,decide_eq_false_iff_not,bne_iff_ne,ne_eq,bne_eq_false_iff_eq,Dm] at *
 simp [gcB]
 try omega):P:=h
theorem zqca5 {P:Prop} (h:P:=by
 subst a
 refine congrArg (fun q=>Res.ret (AVal.bool q)) ?_
 simp only [decide_eq_true_eq,decide_eq_false_iff_not] at *
 first | (rw [decide_eq_false o_];rfl) | (rw [decide_eq_true o_];rfl)):P:=h
theorem zqca6 {P:Prop} (h:P:=by
 refine gV ?_
 refine .pure _ [] (e xs[i] (Bg b)) ?_
 refine gV ?_
 rw [Ad b] at a
 have a:(if p xs[i]=true then (i:Int) else IF p (xs.drop (i+1)) ((i:Int)+1))=r:=a
 exact zqca2):P:=h
theorem zqca7 {P:Prop} (h:P:=by
 obtain ⟨k,j⟩:=back a
 refine .inl ⟨k,?_⟩
 refine gV ?_
 refine To.cut [0,5,6,7] 0 rfl rfl rfl rfl ?_
 exact j):P:=h
theorem zqca8 {P:Prop} (h:P:=by
 intro i j a
 refine gV ?_
 refine aF fun h=>?_
 refine gV ?_
 rw [Ae o_] at a
 rw [<-a]
 rfl):P:=h
theorem zqca9 {P:Prop} (h:P:=by
 intro i o c
 rw [Ae o_,Ae o_] at c
 subst c
 refine gV ?_
 refine aF fun h=>?_
 refine gV ?_
 rfl):P:=h
theorem zqca10 {P:Prop} (h:P:=by
 refine To.part [1,10,11,12] [] rfl rfl rfl ?_
 exact next):P:=h
theorem zqca11 {P:Prop} (h:P:=by
 exact To.cut [1,3,5] 1 rfl rfl rfl rfl next):P:=h
theorem zqca12 {P:Prop} (h:P:=by
 exact absurd (of_decide_eq_false h) o_):P:=h
theorem zqca13 {P:Prop} (h:P:=by
 exact absurd (of_decide_eq_true h) o_):P:=h
structure Cmd where
 k:Int
 c:Con
 g:Gan
 n:Int
 deriving DecidableEq
def Cmd.cs (x:Cmd):List AVal:=[ii x.k,.slice 11 (nav x.c.ns) .no,.slice 6 (hav x.c.hs) .no,ii x.c.half,ii x.c.age,ii x.g.id,ii x.g.ten,ii x.g.pods,ii x.g.need.a,ii x.g.need.b,ii x.g.need.c,ii x.g.run,ii x.g.lev,ii x.g.pref,ii x.n]
def Cmd.av (x:Cmd):AVal:=.agg x.cs
def L2 (x:Int):Bool:=decide (0<=x)&&decide (x<=1099511627776)
def okI:List Int->Bool
 | []=>true
 | x::r=>L2 x&&okI r
def V3.l (v:V3):List Int:=[v.a,v.b,v.c]
def Nod.ok (x:Nod):Bool:=(decide (-1<=x.p)&&decide (x.p<=1099511627776))&&okI [x.w]&&okI x.n.l&&okI x.b.l&&okI x.l.l
def Hos.ok (x:Hos):Bool:=okI [x.f,x.b,x.r]&&okI x.c.l
def aEV:List Nod->Bool
 | []=>true
 | x::r=>x.ok&&aEV r
def W1:List Hos->Bool
 | []=>true
 | x::r=>x.ok&&W1 r
def Con.tok (c:Con):Bool:=aEV c.ns&&W1 c.hs&&okI [c.half,c.age]
def Gan.ok (g:Gan):Bool:=okI [g.id,g.ten,g.pods,g.run,g.lev,g.pref]&&okI g.need.l
def Con.none (c:Con):Bool:=decide ((c.ns.length:Int)=0)&&decide ((c.hs.length:Int)=0)&&decide (c.half=0)&&decide (c.age=0)
def Gan.zero:Gan:=⟨0,0,0,⟨0,0,0⟩,0,0,0⟩
end Go.Proofs.YtlanfgblaebddaaGreat
namespace Go.Proofs.YtlanfgblaebddaaGreat.C8
open Go Go.AW Go.Proofs
set_option maxRecDepth 10000
def _root_.Go.Proofs.YtlanfgblaebddaaGreat.Gan.isZ (g:Gan):Bool:=((g.id==0)&&((g.ten==0)&&((g.pods==0)&&((g.need.a==0)&&((g.need.b==0)&&((g.need.c==0)&&((g.run==0)&&((g.lev==0)&&((g.pref==0)&&true)))))))))
def JD (x:Cmd):Int:=if decide (((nav x.c.ns).length:Int)<=12)&&decide (((hav x.c.hs).length:Int)<=24) then 0 else 8
def aBN (x:Cmd):Int:=if okI [x.n] then JD x else 1
def tM (x:Cmd):Int:=if x.g.ok then aBN x else 1
def zI (x:Cmd):Int:=if x.c.tok then tM x else 1
def aBO (x:Cmd):Int:=if ((x.k==3||x.k==4)||x.k==5)||x.n==0 then zI x else 1
def aBP (x:Cmd):Int:=if x.k==2||x.g.isZ then aBO x else 1
def _root_.Go.Proofs.YtlanfgblaebddaaGreat.Con.non (c:Con):Bool:=((((nav c.ns).length:Int)==0&&((hav c.hs).length:Int)==0)&&c.half==0)&&c.age==0
def aBQ (x:Cmd):Int:=if x.k==1||x.c.non then aBP x else 1
def chk (x:Cmd):Int:=if decide (1<=x.k)&&decide (x.k<=6) then aBQ x else 1
theorem IE (l:List Int) (hl:((iv l).length:Int)<=9223372036854775807) (r:Bool):∀ (n i:Nat),i+n=l.length->okI (l.drop i)=r->
  To E Tryz.f51 (.pure (.ret (.bool r))) (.head (stk Tryz.f51 0) [(0,.slice 1 (iv l) .no),(3,.int .i64 i)] []):=by
 have d:(iv l).length=l.length:=by simp
 intro n
 induction n with
 | zero=>
  intro i g a
  rw [Ae o_] at a
  subst a
  refine gV ?_
  refine ⟨fun h=>absurd (of_decide_eq_true h) o_,fun h=>?_⟩
  refine gV ?_
  rfl
 | succ n e=>
  intro i g a
  have c:i<l.length:=o_
  rw [Ad c] at a
  have a:(L2 l[i]&&okI (l.drop (i+1)))=r:=a
  generalize j:l[i]=x at a
  have get:(iv l)[i]? =some (ii x):=(cQ c).trans (by rw [j])
  refine gV ?_
  refine ⟨fun h=>?_,fun h=>absurd (of_decide_eq_false h) o_⟩
  refine gV ?_
  refine ⟨i,rfl,?_⟩
  refine gV ?_
  refine ⟨_,get,?_⟩
  refine gV ?_
  refine ⟨fun h1=>?_,fun h1=>?_⟩
  .have h1:decide (x<0)=true:=h1
   have h3:L2 x=false:=by
    have:=of_decide_eq_true h1
    unfold L2
    rw [decide_eq_false o_];rfl
   rw [h3] at a
   subst a
   refine gV ?_
   refine ⟨fun _=>?_,fun h=>absurd h d_⟩
   refine gV ?_
   rfl
  .have h1:decide (x<0)=false:=h1
   have h1:=of_decide_eq_false h1
   refine gV ?_
   refine ⟨i,rfl,?_⟩
   refine gV ?_
   refine ⟨_,get,?_⟩
   refine gV ?_
   refine ⟨fun b=>?_,fun b=>?_⟩
   .have b:decide (1099511627776<x)=true:=b
    have h3:L2 x=false:=by
     have:=of_decide_eq_true b
     unfold L2
     rw [decide_eq_false (p:=x<=1099511627776) o_,Ct]
    rw [h3] at a
    subst a
    refine gV ?_
    rfl
   .have b:decide (1099511627776<x)=false:=b
    have b:=of_decide_eq_false b
    have h3:L2 x=true:=by
     unfold L2
     rw [decide_eq_true o_,decide_eq_true o_];rfl
    rw [h3,Bw] at a
    refine gV ?_
    refine .inl ⟨⟨by simp only [bW];omega,by simp only [bI];omega⟩,?_⟩
    refine gV ?_
    refine To.head [0,3] ?_
    exact e (i+1) o_ a
theorem yG (l:List Int):aA Tryz.prog 51 [.slice 1 (iv l) .no] [] (.ret (.bool (okI l))) []:=by
 refine c_ Tryz.f51 fun a=>?_
 refine gV ?_
 refine To.head [0,3] ?_
 exact IE l a.1 _ l.length 0 o_ rfl
theorem qS (c:Con):aA Tryz.prog 49 [c.av] [] (.ret (.bool c.non)) []:=by
 refine c_ Tryz.f49 fun _=>?_
 unfold Con.non
 refine gV ?_
 refine ⟨fun h1=>?_,fun h1=>?_⟩
 .have h1:(((nav c.ns).length:Int)==0)=true:=h1
  refine gV ?_
  refine ⟨fun a=>?_,fun a=>?_⟩
  .have a:(((hav c.hs).length:Int)==0)=true:=a
   refine gV ?_
   refine ⟨fun h3=>?_,fun h3=>?_⟩
   .have h3:(c.half==0)=true:=h3
    refine gV ?_
    rw [h1,a,h3];rfl
   .have h3:(c.half==0)=false:=h3
    refine gV ?_
    rw [h1,a,h3];rfl
  .have a:(((hav c.hs).length:Int)==0)=false:=a
   refine gV ?_
   refine ⟨fun h=>absurd h d_,fun _=>?_⟩
   refine gV ?_
   rw [h1,a];rfl
 .have h1:(((nav c.ns).length:Int)==0)=false:=h1
  refine gV ?_
  refine ⟨fun h=>absurd h d_,fun _=>?_⟩
  refine gV ?_
  refine ⟨fun h=>absurd h d_,fun _=>?_⟩
  refine gV ?_
  rw [h1];rfl
def lH (r:Nat):Code->List KI->Option (List KI)
 | .region id o d,ks=>bif Av id r then some (.code (.region id o d)::ks) else none
 | .seq a b,ks=>(match lH r a (.code b::ks) with | some x=>some x | none=>lH r b ks)
 | .cond _ a b,ks=>(match lH r a ks with | some x=>some x | none=>lH r b ks)
 | .block id b,ks=>lH r b (.inB id::ks)
 | .loop b,ks=>lH r b (.inL b::ks)
 | _,_=>none
def gQ (fn:Func) (r:Nat):List KI:=match lH r (cC fn) [] with | some ks=>ks | none=>[]
def eqL {α:Type} (f:α->α->Bool):List α->List α->Bool
 | [],[]=>true
 | x::r,y::s=>f x y&&eqL f r s
 | _,_=>false
theorem IW {α:Type} {f:α->α->Bool}:∀ {a b:List α},a.length≠b.length->eqL f a b=false
 | [],[],h=>absurd rfl h
 | [],_::_,_=>rfl
 | _::_,[],_=>rfl
 | x::r,y::s,h=>by
  have:=IW (f:=f) (a:=r) (b:=s) (by simpa using h)
  simp [eqL,this]
def _root_.Go.Proofs.YtlanfgblaebddaaGreat.Nod.eqb (x y:Nod):Bool:=(x.p==y.p)&&((x.w==y.w)&&((x.n.a==y.n.a)&&((x.n.b==y.n.b)&&((x.n.c==y.n.c)&&((x.b.a==y.b.a)&&((x.b.b==y.b.b)&&((x.b.c==y.b.c)&&((x.l.a==y.l.a)&&((x.l.b==y.l.b)&&((x.l.c==y.l.c)&&true))))))))))
def _root_.Go.Proofs.YtlanfgblaebddaaGreat.Hos.eqb (x y:Hos):Bool:=(x.f==y.f)&&((x.b==y.b)&&((x.r==y.r)&&((x.c.a==y.c.a)&&((x.c.b==y.c.b)&&((x.c.c==y.c.c)&&true)))))
def _root_.Go.Proofs.YtlanfgblaebddaaGreat.Gan.eqb (x y:Gan):Bool:=(x.id==y.id)&&((x.ten==y.ten)&&((x.pods==y.pods)&&((x.need.a==y.need.a)&&((x.need.b==y.need.b)&&((x.need.c==y.need.c)&&((x.run==y.run)&&((x.lev==y.lev)&&((x.pref==y.pref)&&true))))))))
theorem aBn (a b:List Nod) (p:a.length=b.length) (hl:((nav a).length:Int)<=9223372036854775807) (r:Bool):∀ (n i:Nat),i+n=a.length->eqL Nod.eqb (a.drop i) (b.drop i)=r->
  To E Tryz.f161 (.pure (.ret (.bool r))) (.head (stk Tryz.f161 0) [(0,.slice 11 (nav a) .no),(1,.slice 11 (nav b) .no),(12,.int .i64 ((nav a).length:Nat)),(13,.int .i64 i)] []):=by
 have e:(nav a).length=a.length:=by simp
 intro n
 induction n with
 | zero=>
  exact zqca9
 | succ n l=>
  intro i o c
  have h1:i<a.length:=o_
  have d:i<b.length:=o_
  rw [Ad h1,Ad d] at c
  have c:(Nod.eqb a[i] b[i]&&eqL Nod.eqb (a.drop (i+1)) (b.drop (i+1)))=r:=c
  generalize k:a[i]=x at c
  generalize j:b[i]=y at c
  have g:(nav a)[i]? =some (Nod.av x):=by simp [k,h1]
  have m:(nav b)[i]? =some (Nod.av y):=by simp [j,d]
  refine gV ?_
  refine aT fun h=>?_
  repeat' first | (refine gN hE ?_;conv=>whnf) | refine ⟨_,g,?_⟩ | refine ⟨_,m,?_⟩ | exact rfl | (refine zt ?_;try intro h) | refine zu (fun h=>?_) fun h=>?_ | fail
  .rename_i h
   have h:Nod.eqb x y=false:=pC h
   rw [h] at c
   rw [<-c];rfl
  .rename_i h
   have h:Nod.eqb x y=true:=pD h
   rw [h,Bw] at c
   refine To.head [0,1,12,13] ?_
   exact l (i+1) o_ c
theorem eqN_ok (a b:List Nod):aA Tryz.prog 161 [.slice 11 (nav a) .no,.slice 11 (nav b) .no] [] (.ret (.bool (eqL Nod.eqb a b))) []:=by
 have c:(nav a).length=a.length:=by simp
 have d:(nav b).length=b.length:=by simp
 refine c_ Tryz.f161 fun i=>?_
 have hl:((nav a).length:Int)<=9223372036854775807:=i.1
 refine gV ?_
 refine ⟨fun h=>?_,fun h=>?_⟩
 .have h:(((nav a).length:Int) !=((nav b).length:Int))=true:=h
  rw [IW (by intro e;rw [c,d,e] at h;simp at h)]
  refine gW hE ?_;conv=>whnf
 .have h:(((nav a).length:Int) !=((nav b).length:Int))=false:=h
  refine gV ?_
  refine To.head [0,1,12,13] ?_
  exact aBn a b (by simp at h;omega) hl _ a.length 0 o_ rfl
theorem aBo (a b:List Hos) (p:a.length=b.length) (hl:((hav a).length:Int)<=9223372036854775807) (r:Bool):∀ (n i:Nat),i+n=a.length->eqL Hos.eqb (a.drop i) (b.drop i)=r->
  To E Tryz.f162 (.pure (.ret (.bool r))) (.head (stk Tryz.f162 0) [(0,.slice 6 (hav a) .no),(1,.slice 6 (hav b) .no),(12,.int .i64 ((hav a).length:Nat)),(13,.int .i64 i)] []):=by
 have e:(hav a).length=a.length:=by simp
 intro n
 induction n with
 | zero=>
  exact zqca9
 | succ n l=>
  intro i o c
  have h1:i<a.length:=o_
  have d:i<b.length:=o_
  rw [Ad h1,Ad d] at c
  have c:(Hos.eqb a[i] b[i]&&eqL Hos.eqb (a.drop (i+1)) (b.drop (i+1)))=r:=c
  generalize k:a[i]=x at c
  generalize j:b[i]=y at c
  have g:(hav a)[i]? =some (Hos.av x):=by simp [k,h1]
  have m:(hav b)[i]? =some (Hos.av y):=by simp [j,d]
  refine gV ?_
  refine aT fun h=>?_
  repeat' first | (refine gN hE ?_;conv=>whnf) | refine ⟨_,g,?_⟩ | refine ⟨_,m,?_⟩ | exact rfl | (refine zt ?_;try intro h) | refine zu (fun h=>?_) fun h=>?_ | fail
  .rename_i h
   have h:Hos.eqb x y=false:=pC h
   rw [h] at c
   rw [<-c];rfl
  .rename_i h
   have h:Hos.eqb x y=true:=pD h
   rw [h,Bw] at c
   refine To.head [0,1,12,13] ?_
   exact l (i+1) o_ c
theorem eqH_ok (a b:List Hos):aA Tryz.prog 162 [.slice 6 (hav a) .no,.slice 6 (hav b) .no] [] (.ret (.bool (eqL Hos.eqb a b))) []:=by
 have c:(hav a).length=a.length:=by simp
 have d:(hav b).length=b.length:=by simp
 refine c_ Tryz.f162 fun i=>?_
 have hl:((hav a).length:Int)<=9223372036854775807:=i.1
 refine gV ?_
 refine ⟨fun h=>?_,fun h=>?_⟩
 .have h:(((hav a).length:Int) !=((hav b).length:Int))=true:=h
  rw [IW (by intro e;rw [c,d,e] at h;simp at h)]
  refine gW hE ?_;conv=>whnf
 .have h:(((hav a).length:Int) !=((hav b).length:Int))=false:=h
  refine gV ?_
  refine To.head [0,1,12,13] ?_
  exact aBo a b (by simp at h;omega) hl _ a.length 0 o_ rfl
def aHH (a b:Con):Bool:=eqL Nod.eqb a.ns b.ns&&(eqL Hos.eqb a.hs b.hs&&((a.half==b.half)&&(a.age==b.age)))
def same (a b:Cmd):Bool:=(a.k==b.k)&&(a.g.eqb b.g&&((a.n==b.n)&&aHH a.c b.c))
set_option maxHeartbeats 2000000
end Go.Proofs.YtlanfgblaebddaaGreat.C8
namespace Go.Proofs.YtlanfgblaebddaaGreat.Q2
open Go Go.AW Go.Proofs
structure Pend where
 (id tenant pods n0 n1 n2 run level prefer seq since:Int)
 deriving DecidableEq
def Pend.cs (p:Pend):List AVal:=[.int .i64 p.id,.int .i64 p.tenant,.int .i64 p.pods,.int .i64 p.n0,.int .i64 p.n1,.int .i64 p.n2,.int .i64 p.run,.int .i64 p.level,.int .i64 p.prefer,.int .i64 p.seq,.int .i64 p.since]
def Pend.av (p:Pend):AVal:=.agg p.cs
abbrev pav (l:List Pend):List AVal:=l.map Pend.av
theorem sC {n:Int} (h1: -9223372036854775808<=n) (a:n<=9223372036854775807):inR .i64 n:=⟨by simp only [bW];omega,by simp only [bI];omega⟩
def idx (p:Pend->Bool):List Pend->Int->Int
 | [],_=> -1
 | x::r,i=>if p x then i else idx p r (i+1)
def findP (a:Int) (l:List Pend):Int:=idx (fun x=>x.id==a) l 0
theorem fG {l:List Pend} {i:Nat} (h:i<l.length):(pav l)[i]? =some l[i].av:=by
 simp [pav,h]
set_option maxRecDepth 10000
theorem aHY (p:Pend):aA Tryz.prog 257 [p.av] [] (.ret (.int .i64 p.id)) []:=by
 refine c_ Tryz.f257 fun _=>?_
 refine gW hE ?_;conv=>whnf
theorem X6 (p:Pend):aA Tryz.prog 258 [p.av] [] (.ret (.int .i64 p.seq)) []:=by
 refine c_ Tryz.f258 fun _=>?_
 refine gW hE ?_;conv=>whnf
theorem aHW (p:Pend) (b:Int):aA Tryz.prog 167 [.iface 185 p.av,.int .i64 b] [] (.ret (.bool (p.id==b))) []:=by
 refine c_ Tryz.f167 fun _=>?_
 refine gV ?_
 refine .pure _ [] (aHY p) ?_
 refine gW hE ?_;conv=>whnf
theorem WV (p q:Pend):aA Tryz.prog 121 [.iface 185 p.av,.iface 185 q.av] [] (.ret (.bool (decide (q.seq<p.seq)))) []:=by
 refine c_ Tryz.f121 fun _=>?_
 refine gV ?_
 refine .pure _ [] (X6 p) ?_
 refine gV ?_
 refine .pure _ [] (X6 q) ?_
 refine gW hE ?_;conv=>whnf
theorem aA9 (x:Pend) (a:Int):aA Tryz.prog 166 [x.av,.ptr [.int .i64 a]] [] (.ret (.bool (x.id==a))) []:=by
 refine c_ Tryz.f166 fun _=>?_
 refine gV ?_
 refine .pure _ [] (aHW x a) ?_
 refine gW hE ?_;conv=>whnf
theorem PA (f:FuncId) (l:List AVal) (xs:List Pend) (p:Pend->Bool) (e:∀ x∈xs,aA Tryz.prog f [x.av,.ptr l] [] (.ret (.bool (p x))) []) (hl:((pav xs).length:Int)<=9223372036854775807) (r:Int):
  ∀ (n i:Nat),i+n=xs.length->idx p (xs.drop i) i=r->
  To E Tryz.f165 (.pure (.ret (.int .i64 r))) (.head (stk Tryz.f165 0)
   [(0,.slice 11 (pav xs) .no),(1,.func (.func f) [] [.ptr l]),(7,.int .i64 ((pav xs).length:Nat)),(8,.int .i64 i)] []):=by
 have d:(pav xs).length=xs.length:=by simp
 intro n
 induction n with
 | zero=>
  intro i j a
  refine gV ?_
  refine ⟨fun h=>?_,fun h=>?_⟩
  .exact zqca13
  .refine gV ?_
   rw [Ae o_] at a
   rw [<-a]
   rfl
 | succ n g=>
  intro i j a
  have b:i<xs.length:=o_
  refine gV ?_
  refine ⟨fun h=>?_,fun h=>?_⟩
  .refine gV ?_
   refine ⟨i,rfl,?_⟩
   refine gV ?_
   refine ⟨_,fG b,?_⟩
   refine gV ?_
   refine .pure _ [] (e xs[i] (Bg b)) ?_
   refine gV ?_
   rw [Ad b] at a
   have a:(if p xs[i] then (i:Int) else idx p (xs.drop (i+1)) ((i:Int)+1))=r:=a
   exact zqca2
  .exact zqca12
theorem aAJ (f:FuncId) (l:List AVal) (xs:List Pend) (p:Pend->Bool) (b:∀ x∈xs,aA Tryz.prog f [x.av,.ptr l] [] (.ret (.bool (p x))) []):
  aA Tryz.prog 165 [.slice 11 (pav xs) .no,.func (.func f) [] [.ptr l]] [] (.ret (.int .i64 (idx p xs 0))) []:=by
 refine c_ Tryz.f165 fun a=>?_
 refine gV ?_
 refine To.head [0,1,7,8] ?_
 exact PA f l xs p b a.1 _ xs.length 0 o_ s_
theorem zW (xs:List Pend) (a:Int):aA Tryz.prog 122 [.slice 11 (pav xs) .no,.int .i64 a] [] (.ret (.int .i64 (findP a xs))) []:=by
 refine c_ Tryz.f122 fun _=>?_
 refine gV ?_
 refine .pure _ [] (aAJ _ _ xs (fun x=>x.id==a) fun x _=>aA9 x a) ?_
 refine gV ?_
 rfl
theorem CX {n:Nat} (h:n<=1000000):yX n 88:=⟨by simp only [maxLen];omega,by omega⟩
theorem vJ {n:Nat} (h:n<=1000001):yX n 88:=⟨by simp only [maxLen];omega,by omega⟩
def putAt (p:Pend) (l:List Pend):Nat:=if idx (fun x=>decide (p.seq<x.seq)) l 0<0 then l.length else (idx (fun x=>decide (p.seq<x.seq)) l 0).toNat
def putP (l:List Pend) (p:Pend):List Pend:=l.take (putAt p l)++[p]++l.drop (putAt p l)
def takeP (l:List Pend) (a:Int):List Pend:=if findP a l<0 then l else l.eraseIdx (findP a l).toNat
theorem FT (p:Pend->Bool):∀ (l:List Pend) (i:Int),idx p l i= -1\/(i<=idx p l i/\idx p l i<i+l.length)
 | [],i=>.inl rfl
 | x::r,i=>by
  unfold idx
  split
  .right;simp;omega
  .rcases FT p r (i+1) with h | h
   .exact .inl h
   .right;simp;omega
theorem IM (xs:List Pend) (a:Int) (hl:((pav xs).length:Int)<=9223372036854775807) (r:Int):∀ (n i:Nat),i+n=xs.length->idx (fun x=>x.id==a) (xs.drop i) i=r->
  To E Tryz.f20 (.pure (.ret (.int .i64 r))) (.head (stk Tryz.f20 0) [(0,.slice 11 (pav xs) .no),(1,.int .i64 a),(5,.int .i64 i)] []):=by
 have e:(pav xs).length=xs.length:=by simp
 intro n
 induction n with
 | zero=>
  intro i j b
  refine gV ?_
  refine ⟨fun h=>?_,fun h=>?_⟩
  .exact zqca13
  .refine gV ?_
   rw [Ae o_] at b
   rw [<-b]
   rfl
 | succ n g=>
  intro i j b
  have c:i<xs.length:=o_
  refine gV ?_
  refine ⟨fun h=>?_,fun h=>?_⟩
  .refine gV ?_
   refine ⟨i,rfl,?_⟩
   refine gV ?_
   refine ⟨_,fG c,?_⟩
   refine gV ?_
   rw [Ad c] at b
   have b:(if xs[i].id==a then (i:Int) else idx (fun x=>x.id==a) (xs.drop (i+1)) ((i:Int)+1))=r:=b
   refine ⟨fun d=>?_,fun d=>?_⟩
   .refine gV ?_
    rw [if_pos d] at b
    rw [b]
   .refine gV ?_
    rw [if_neg (by rw [d];simp)] at b
    refine .inl ⟨sC o_ o_,?_⟩
    refine gV ?_
    refine To.head [0,1,5] ?_
    exact g (i+1) o_ (by rw [<-b];push_cast;rfl)
  .exact zqca12
theorem findref_ok (xs:List Pend) (a:Int):aA Tryz.prog 20 [.slice 11 (pav xs) .no,.int .i64 a] [] (.ret (.int .i64 (findP a xs))) []:=by
 refine c_ Tryz.f20 fun b=>?_
 refine gV ?_
 refine To.head [0,1,5] ?_
 exact IM xs a b.1 _ xs.length 0 o_ (by simp [findP])
theorem AX {α:Type} (l:List α) (k:Nat):(l.take k).length<=l.length:=by simp;omega
theorem takeref_ok (l:List Pend) (a:Int) (hl:l.length<=1000000):aA Tryz.prog 32 [.slice 11 (pav l) .no,.int .i64 a] [] (.ret (.tup [.slice 11 (pav (takeP l a)) .no,.bool (!decide (findP a l<0))])) []:=by
 have b:(pav l).length=l.length:=by simp
 refine c_ Tryz.f32 fun _=>?_
 refine gV ?_
 refine .pure _ [] (findref_ok l a) ?_
 refine gV ?_
 refine ⟨fun h=>?_,fun h=>?_⟩
 .refine gV ?_
  refine ⟨CX (by rw [b];exact hl),?_⟩
  refine gV ?_
  have c:=of_decide_eq_true h
  unfold takeP
  rw [if_pos c,h]
  rfl
 .have c:=of_decide_eq_false h
  have j:findP a l<l.length:=by
   rcases FT (fun x=>x.id==a) l 0 with h | h
   .unfold findP at c;omega
   .unfold findP;omega
  have e:takeP l a=l.eraseIdx (findP a l).toNat:=if_neg c
  rw [h,e]
  obtain ⟨k,d⟩:∃ k:Nat,findP a l=(k:Int):=⟨(findP a l).toNat,by omega⟩
  have i:k<l.length:=o_
  rw [d,Dl]
  refine gV ?_
  refine ⟨k,rfl,?_⟩
  refine gV ?_
  refine ⟨by rw [b];omega,?_⟩
  refine gV ?_
  refine ⟨CX (by have:=AX (pav l) k;omega),?_⟩
  refine gV ?_
  refine .inl ⟨sC o_ o_,?_⟩
  refine gV ?_
  refine ⟨k+1,by push_cast;rfl,?_⟩
  refine gV ?_
  refine ⟨by rw [b];omega,?_⟩
  refine gV ?_
  refine ⟨CX q_,?_⟩
  refine gV ?_
  have:En k (pav l)++Fv (k+1) (pav l)=pav (l.eraseIdx k):=by simp only [pav,Iz,Bl,Jk,Jl]
  rw [this]
  rfl
theorem U5 {p:Pend} {l:List Pend} {i:Nat} (h:idx (fun x=>decide (p.seq<x.seq)) l 0=(i:Int)):putAt p l=i:=by
 unfold putAt
 rw [h,if_neg o_]
 rfl
theorem OV {p:Pend} {l:List Pend} (h:idx (fun x=>decide (p.seq<x.seq)) l 0= -1):putAt p l=l.length:=by
 unfold putAt
 rw [h,if_pos o_]
theorem KY (l:List Pend) (p:Pend) (hl:l.length<=1000000):∀ (n i:Nat),i+n=l.length->idx (fun x=>decide (p.seq<x.seq)) (l.drop i) i=idx (fun x=>decide (p.seq<x.seq)) l 0->
  To (Er [] [29,30,31]) Tryz.f56 (.pure (.ret (.slice 11 (pav (putP l p)) .no))) (.head (stk Tryz.f56 0) [(0,.slice 11 (pav l) .no),(3,.ref 0 0),(5,.int .i64 i)] [.cells 62 p.cs]):=by
 have a:(pav l).length=l.length:=by simp
 intro n
 induction n with
 | zero=>
  intro i g b
  refine gV ?_
  refine ⟨fun h=>?_,fun h=>?_⟩
  .exact zqca13
  .refine gV ?_
   refine ⟨fun d=>(by cases d),fun _=>?_⟩
   have hp:putAt p l=i:=by
    rw [OV]
    .omega
    .rw [<-b,Ae o_];rfl
   exact zqca3
 | succ n e=>
  intro i g b
  have c:i<l.length:=o_
  refine gV ?_
  refine ⟨fun h=>?_,fun h=>?_⟩
  .refine gV ?_
   refine ⟨i,rfl,?_⟩
   refine gV ?_
   refine ⟨_,fG c,?_⟩
   refine gV ?_
   rw [Ad c] at b
   have b:(if decide (p.seq<l[i].seq) then (i:Int) else idx (fun x=>decide (p.seq<x.seq)) (l.drop (i+1)) ((i:Int)+1))=idx (fun x=>decide (p.seq<x.seq)) l 0:=b
   refine ⟨fun d=>?_,fun d=>?_⟩
   .refine gV ?_
    have h3:=of_decide_eq_true d
    rw [if_neg q_] at b
    refine .inl ⟨sC o_ o_,?_⟩
    refine gV ?_
    refine To.cut [0,3,5] 1 rfl rfl rfl rfl ?_
    exact e (i+1) o_ (by rw [<-b];push_cast;rfl)
   .have h3:=of_decide_eq_false d
    rw [if_pos q_] at b
    have hp:putAt p l=i:=U5 b.symm
    exact zqca3
  .exact zqca12
theorem putref_ok (l:List Pend) (p:Pend) (hl:l.length<=1000000):aA Tryz.prog 56 [.slice 11 (pav l) .no,p.av] [] (.ret (.slice 11 (pav (putP l p)) .no)) []:=by
 refine cT (E:=(Er [] [29,30,31])) (fn:=Tryz.f56) (g:=.pure _) fun _=>?_
 refine gV ?_
 refine To.cut [0,3,5] 1 rfl rfl rfl rfl ?_
 exact KY l p hl l.length 0 o_ s_
def oG (l:List Pend) (i:Nat):Bool:=match l[i]?,l[i-1]? with
 | some c,some p=>!((decide (0<i)&& !decide (p.seq<c.seq))||(findP c.id l !=(i:Int)))
 | _,_=>true
def cW (l:List Pend):Nat->Nat->Bool
 | 0,_=>true
 | n+1,i=>oG l i&&cW l n (i+1)
def checkP (l:List Pend):Bool:=cW l l.length 0
theorem QJ (l:List Pend) (hl:l.length<=1000000) (r:Bool):∀ (n i:Nat),i+n=l.length->cW l n i=r->
  To E Tryz.f76 (.pure (.ret (.bool r))) (.head (stk Tryz.f76 0) [(0,.slice 11 (pav l) .no),(5,.slice 11 (pav l) .no),(6,.int .i64 ((pav l).length:Nat)),(7,.int .i64 i)] []):=by
 have m:(pav l).length=l.length:=by simp
 intro n
 induction n with
 | zero=>
  intro i p a
  refine gV ?_
  refine ⟨fun h=>?_,fun h=>?_⟩
  .exact zqca13
  .refine gV ?_
   rw [<-a]
   rfl
 | succ n o=>
  intro i p a
  have d:i<l.length:=o_
  have a:(oG l i&&cW l n (i+1))=r:=a
  have back:cW l n (i+1)=r->inR .i64 ((i:Int)+1)/\To E Tryz.f76 (.pure (.ret (.bool r))) (.head (stk Tryz.f76 0) [(0,.slice 11 (pav l) .no),(5,.slice 11 (pav l) .no),(6,.int .i64 ((pav l).length:Nat)),(7,.int .i64 ((i:Int)+1))] []):=fun h=>
   ⟨sC o_ o_,by have:=o (i+1) o_ h;push_cast at this;exact this⟩
  refine gV ?_
  refine ⟨fun h=>?_,fun h=>?_⟩
  .refine gV ?_
   refine ⟨i,rfl,?_⟩
   refine gV ?_
   refine ⟨_,fG d,?_⟩
   refine gV ?_
   refine ⟨fun h1=>?_,fun h1=>?_⟩
   .have g:0<i:=by have:=of_decide_eq_true h1;omega
    have b:i-1<l.length:=o_
    have c:oG l i= !((true&& !decide (l[i-1].seq<l[i].seq))||(findP l[i].id l !=(i:Int))):=by
     unfold oG
     rw [Ab d,Ab b,decide_eq_true g]
    refine gV ?_
    refine .inl ⟨sC o_ o_,?_⟩
    refine gV ?_
    refine ⟨i-1,by omega,?_⟩
    refine gV ?_
    refine ⟨_,fG b,?_⟩
    refine gV ?_
    refine .pure _ [] (WV _ _) ?_
    refine gV ?_
    refine ⟨fun e=>?_,fun e=>?_⟩
    .refine gV ?_
     refine ⟨fun _=>?_,fun h3=>(by cases h3)⟩
     refine gV ?_
     rw [c,e] at a
     rw [<-a]
     rfl
    .refine gV ?_
     refine .pure _ [] (zW _ _) ?_
     refine gV ?_
     refine ⟨fun h3=>?_,fun h3=>?_⟩
     .refine gV ?_
      rw [c,e,h3] at a
      rw [<-a]
      rfl
     .refine gV ?_
      rw [c,e,h3] at a
      exact zqca7
   .have q:i=0:=by have:=of_decide_eq_false h1;omega
    have c:oG l i= !((false&&false)||(findP l[i].id l !=(i:Int))):=by
     unfold oG
     have b:i-1<l.length:=o_
     rw [Ab d,Ab b]
     subst q
     simp
    refine gV ?_
    refine ⟨fun e=>(by cases e),fun _=>?_⟩
    refine gV ?_
    refine .pure _ [] (zW _ _) ?_
    refine gV ?_
    refine ⟨fun h3=>?_,fun h3=>?_⟩
    .refine gV ?_
     rw [c,h3] at a
     rw [<-a]
     rfl
    .refine gV ?_
     rw [c,h3] at a
     exact zqca7
  .exact zqca12
theorem check_ok (l:List Pend) (hl:l.length<=1000000):aA Tryz.prog 76 [.slice 11 (pav l) .no] [] (.ret (.bool (checkP l))) []:=by
 refine c_ Tryz.f76 fun _=>?_
 refine gV ?_
 refine To.cut [0,5,6,7] 0 rfl rfl rfl rfl ?_
 exact QJ l hl _ l.length 0 o_ rfl
theorem CJ (p:Pend->Bool):∀ (l:List Pend) (i:Int) (k:Nat) (h:k<l.length),p l[k]=true->(∀ (j:Nat) (a:j<l.length),j<k->p l[j]=false)->idx p l i=i+k
 | [],i,k,h,_,_=>by simp at h
 | x::r,i,0,h,h1,_=>by
  have:p x=true:=h1
  simp [idx,this]
 | x::r,i,k+1,h,h1,h2=>by
  have c:p x=false:=h2 0 s_ o_
  have:=CJ p r (i+1) k (by simpa using h) (by simpa using h1) (fun j a b=>by have:=h2 (j+1) (by simpa using a) o_;simpa using this)
  unfold idx
  rw [if_neg (by rw [c];simp),this]
  push_cast
  omega
theorem aAM {p:Pend->Bool}:∀ {l:List Pend} {i:Int} {k:Nat} (h:k<l.length),p l[k]=true->idx p l i<=i+k
 | [],i,k,h,_=>by simp at h
 | x::r,i,0,h,h1=>by
  have:p x=true:=h1
  simp [idx,this]
 | x::r,i,k+1,h,h1=>by
  unfold idx
  split
  .omega
  .have:=aAM (l:=r) (i:=i+1) (k:=k) (by simpa using h) (by simpa using h1)
   push_cast at this⊢
   omega
structure Good (l:List Pend):Prop where
 seq:l.Pairwise fun a b=>a.seq<b.seq
 id:l.Pairwise fun a b=>a.id≠b.id
theorem Good.sub {l m:List Pend} (h:Good l) (hs:m.Sublist l):Good m:=⟨h.seq.sublist hs,h.id.sublist hs⟩
theorem sO {l:List Pend}:∀ {n i:Nat},cW l n i=true↔ ∀ j,i<=j->j<i+n->oG l j=true
 | 0,i=>by simp [cW];omega
 | n+1,i=>by
  simp only [cW,Af,sO (n:=n) (i:=i+1)]
  constructor
  .rintro ⟨h1,a⟩ j c b
   by_cases h:j=i
   .subst h;exact h1
   .exact a j o_ o_
  .intro h
   exact ⟨h i (Bi _) o_,fun j h1 a=>h j o_ o_⟩
theorem BT {l:List Pend} {j:Nat} (c:j<l.length):oG l j=true↔(∀ (h:0<j),(l[j-1]' o_).seq<l[j].seq)/\findP l[j].id l=(j:Int):=by
 have b:j-1<l.length:=o_
 unfold oG
 rw [Ab c,Ab b]
 simp only [Bool.not_or,Af,Co,bne_eq_false_iff_eq,Bool.and_eq_false_iff,decide_eq_false_iff_not]
 constructor
 .rintro ⟨h1,a⟩
  refine ⟨fun h=>?_,a⟩
  rcases h1 with h1 | h1
  .exact absurd h h1
  .simpa using h1
 .rintro ⟨h1,a⟩
  refine ⟨?_,a⟩
  by_cases h:0<j
  .right;simpa using h1 h
  .exact .inl h
theorem check_good {l:List Pend}:checkP l=true↔Good l:=by
 unfold checkP
 rw [sO]
 constructor
 .intro h
  have hs:∀ (j i:Nat) (b:j<l.length) (c:i<j),(l[i]' o_).seq<l[j].seq:=by
   intro j
   induction j with
   | zero=>intro i _ c;omega
   | succ j d=>
    intro i b c
    have h1:=((BT b).1 (h (j+1) o_ o_)).1 o_
    have h1:(l[j]' o_).seq<(l[j+1]).seq:=h1
    by_cases a:i=j
    .subst a;exact h1
    .exact Int.lt_trans (d i o_ o_) h1
  refine ⟨Dh.2 fun i j c b a=>hs j i b a,Dh.2 fun i j c b a e=>?_⟩
  have f:=((BT b).1 (h j o_ o_)).2
  have:=aAM (p:=fun x=>x.id==l[j].id) (l:=l) (i:=0) (k:=i) c (by simpa using e)
  unfold findP at f
  omega
 .intro h j _ b
  have b:j<l.length:=o_
  refine (BT b).2 ⟨fun g=>Dh.1 h.seq _ _ o_ b o_,?_⟩
  have:=CJ (fun x=>x.id==l[j].id) l 0 j b s_ fun i c a=>by
   have:=Dh.1 h.id i j c b a
   simpa using this
  unfold findP
  omega
def insP (p:Pend):List Pend->List Pend
 | []=>[p]
 | x::r=>if p.seq<x.seq then p::x::r else x::insP p r
theorem OW (p x:Pend) (r:List Pend):putAt p (x::r)=if p.seq<x.seq then 0 else putAt p r+1:=by
 by_cases h:p.seq<x.seq
 .rw [if_pos h]
  have:idx (fun x=>decide (p.seq<x.seq)) (x::r) 0=0:=by unfold idx;rw [if_pos (by simpa using h)]
  unfold putAt
  rw [this]
  rfl
 .rw [if_neg h]
  have e:idx (fun x=>decide (p.seq<x.seq)) (x::r) 0=idx (fun x=>decide (p.seq<x.seq)) r 1:=by
   conv=>lhs;unfold idx
   rw [if_neg (by simpa using h)]
   rfl
  have d:∀ (q:Pend->Bool) (l:List Pend) (i:Int),(idx q l i= -1/\idx q l (i+1)= -1)\/(i<=idx q l i/\idx q l (i+1)=idx q l i+1):=by
   intro q l
   induction l with
   | nil=>intro i;exact .inl ⟨rfl,rfl⟩
   | cons y t c=>
    intro i
    unfold idx
    by_cases a:q y=true
    .rw [if_pos a,if_pos a];right;omega
    .rw [if_neg a,if_neg a]
     rcases c (i+1) with h | h
     .exact .inl h
     .right;omega
  rcases d (fun x=>decide (p.seq<x.seq)) r 0 with ⟨h1,b⟩ | ⟨h1,b⟩
  .unfold putAt
   rw [e,show (1:Int)=0+1 from rfl,b,h1]
   simp
  .unfold putAt
   rw [e,show (1:Int)=0+1 from rfl,b,if_neg o_,if_neg o_]
   omega
theorem putP_ins (p:Pend):∀ (l:List Pend),putP l p=insP p l
 | []=>rfl
 | x::r=>by
  have a:=putP_ins p r
  unfold putP at a⊢
  rw [OW]
  unfold insP
  by_cases h:p.seq<x.seq
  .rw [if_pos h,if_pos h];rfl
  .rw [if_neg h,if_neg h,<-a];rfl
def shift (n k q:Nat):Nat:=if k<=q then q-k else q+n-k
end Go.Proofs.YtlanfgblaebddaaGreat.Q2
namespace Go.Proofs.YtlanfgblaebddaaGreat
open Go Go.AW Go.Proofs
structure Pn where
 g:Gan
 (seq at':Int)
 deriving DecidableEq
def Pn.cs (x:Pn):List AVal:=[ii x.g.id,ii x.g.ten,ii x.g.pods,ii x.g.need.a,ii x.g.need.b,ii x.g.need.c,ii x.g.run,ii x.g.lev,ii x.g.pref,ii x.seq,ii x.at']
def Pn.av (x:Pn):AVal:=.agg x.cs
abbrev pnv (l:List Pn):List AVal:=l.map Pn.av
theorem lR {l:List Pn} {i:Nat} (h:i<l.length):(pnv l)[i]? =some l[i].av:=by simp [pnv,h]
abbrev fv (l:List Nat):List AVal:=l.map fun x:Nat=>.int .u64 (x:Int)
structure Sta where
 c:Con
 (now nxt:Int)
 pend:List Pn
 run:List Rn
 hist:List Nat
 deriving DecidableEq
def Sta.cs (s:Sta):List AVal:=[.slice 11 (nav s.c.ns) .no,.slice 6 (hav s.c.hs) .no,ii s.c.half,ii s.c.age,ii s.now,ii s.nxt,.slice 11 (pnv s.pend) .no,.slice 14 (rav s.run) .no,.slice 1 (fv s.hist) .no]
def Sta.av (s:Sta):AVal:=.agg s.cs
def dP (c:Con):Bool:=decide (c.ns=[])&&(decide (c.hs=[])&&(decide (c.half=0)&&decide (c.age=0)))
def EL (g:Gan):Bool:=decide (1<=g.id/\g.id<=1073741824/\1<=g.pods/\g.pods<=16)&&(aH g.need&&decide (1<=g.run/\g.run<=1048576/\0<=g.lev/\g.lev<=3/\0<=g.pref/\g.pref<=g.lev))
def dQ (c:Con) (g:Gan):Int:=if EL g=true then (if aU c.ns g.ten=true then 0 else 3) else 1
def Rn.pn (r:Rn):Pn:=⟨r.g,r.seq,r.at'⟩
def pnB (s:Sta) (p:Pn):Bool:=decide (dQ s.c p.g=0)&&(!(bX s.c [] p.g).isNone&&decide ((0<=p.seq/\p.seq<s.nxt)/\0<=p.at'/\p.at'<=s.now))
def rnB (s:Sta) (r:Rn):Bool:=decide ((r.at'<=r.st/\r.st<=s.now)/\s.now<dN r)&&(qU s.c (fR s.c (s.run.filter fun x=>!(x.g.id==r.g.id))) r.g r.hs&&decide ((aS s.c.hs (r.hs.headD 0)).f=r.fl))
def pE (c:Con) (n:Int):V3:=if aU c.ns n=true then dL (gE c.ns n (jP c.ns)) (bN c.ns n).b else gE c.ns n (jP c.ns)
def HY (s:Sta):Bool:=(Df s.c.ns.length).all fun i:Nat=>bK (atV (ofL s.c s.run) (i:Int)) (pE s.c (i:Int))
def Pn.q (x:Pn):Q2.Pend:=⟨x.g.id,x.g.ten,x.g.pods,x.g.need.a,x.g.need.b,x.g.need.c,x.g.run,x.g.lev,x.g.pref,x.seq,x.at'⟩
theorem uN (l:List Pn):Q2.pav (l.map Pn.q)=pnv l:=by simp [Q2.pav,pnv,Pn.q,Q2.Pend.av,Q2.Pend.cs,Pn.av,Pn.cs]
def yU (l:List Pn):Bool:=Q2.checkP (l.map Pn.q)
def ids (s:Sta):List Int:=s.pend.map (fun p=>p.g.id)++s.run.map fun r=>r.g.id
def seqs (s:Sta):List Int:=s.pend.map (fun p=>p.seq)++s.run.map fun r=>r.seq
def SV (s:Sta):Bool:=(dP s.c||decide (bC s.c=0))&&decide ((0<=s.now/\s.now<=1099511627776)/\(1<=s.nxt/\s.nxt<=1099511627776)/\s.hist.length=s.c.ns.length/\s.pend.length+s.run.length<=32)
def tL (s:Sta):Bool:=SV s&&(yU s.pend&&((s.pend.all (pnB s)&&s.run.all fun r=>pnB s r.pn&&rnB s r)&&(decide (ids s).Nodup&&(decide (seqs s).Nodup&&HY s))))
theorem nE {c:Con} {g:Gan}:dQ c g=0↔EL g=true/\aU c.ns g.ten=true:=by
 unfold dQ
 cases EL g<;>cases aU c.ns g.ten<;>decide
def lO (p:V3->Int) (u:Int) (x:Rn):Int:=p x.g.need*((x.hs.count u:Nat):Int)
theorem wT {p:V3->Int} (hp:Prj p) (need:V3) (a:0<=p need/\p need<=1048576) (j:Nat):∀ (hs:List Int) (xs:List V3) (v:Int),j<xs.length->v<=cV->p ((xs[j]?).getD V3.zero)=max v (-cV)->p (((hs.foldl (nG need) xs)[j]?).getD V3.zero)=max (v-p need*((hs.count (j:Int):Nat):Int)) (-cV)
 | [],xs,v,_,_,h=>by simpa using h
 | u::r,xs,v,hj,hv,h=>by
  rw [Aq]
  have e:=VX need xs u j
  by_cases b:u=(j:Int)
  .subst b
   rw [if_pos ⟨by omega,by omega,by omega⟩] at e
   rw [Hi]
   have hm:p need*(((r.count (j:Int)+1:Nat):Nat):Int)=p need*((r.count (j:Int):Nat):Int)+p need:=by rw [Int.natCast_add,Int.mul_add];simp
   rw [hm]
   have c:p (((nG need xs (j:Int))[j]?).getD V3.zero)=max (v-p need) (-cV):=by
    rw [e,hp.sub,h]
    unfold T8 eU cV at *
    omega
   rw [wT hp need a j r _ (v-p need) (by rw [nF];exact hj) o_ c]
   omega
  .rw [if_neg o_] at e
   rw [Lg (by simpa using b)]
   exact wT hp need a j r _ v (by rw [nF];exact hj) hv (by rw [e];exact h)
theorem LV {p:V3->Int} (hp:Prj p) (j:Nat):∀ (l:List Rn) (xs:List V3) (v:Int),(∀ x∈l,0<=p x.g.need/\p x.g.need<=1048576)->j<xs.length->v<=cV->p ((xs[j]?).getD V3.zero)=max v (-cV)->p (((l.foldl sL xs)[j]?).getD V3.zero)=max (v-bU (l.map (lO p (j:Int)))) (-cV)
 | [],xs,v,_,_,_,h=>by
  show _=max (v-0) _
  rw [Int.sub_zero]
  exact h
 | x::r,xs,v,hn,hj,hv,h=>by
  have a:=hn x (Ak ..)
  have e:=wT hp x.g.need a j x.hs xs v hj hv h
  have hz:0<=p x.g.need*((x.hs.count (j:Int):Nat):Int):=Hj a.1 o_
  rw [Aq,Bk]
  have b:=LV hp j r (sL xs x) (v-p x.g.need*((x.hs.count (j:Int):Nat):Int)) (fun y c=>hn y (Ap _ c)) (by rw [rU];exact hj) o_ e
  rw [b]
  show _=max (v-(lO p (j:Int) x+bU _)) _
  unfold lO
  congr 1
  omega
theorem MR {s:Sta} (h:tL s=true) (b:s.c.ns≠[]):bC s.c=0/\(0<=s.now/\s.now<=1099511627776)/\s.hist.length=s.c.ns.length/\s.pend.length+s.run.length<=32:=by
 unfold tL SV at h
 simp only [Af,Fy,decide_eq_true_eq] at h
 obtain ⟨⟨h1,a⟩,_⟩:=h
 refine ⟨?_,a.1,a.2.2.1,a.2.2.2⟩
 rcases h1 with h1 | h1
 .unfold dP at h1
  simp only [Af,decide_eq_true_eq] at h1
  exact absurd h1.1 b
 .exact h1
structure RnOK (s:Sta) (r:Rn):Prop where
 gang:dQ s.c r.g=0
 st:0<=r.st/\r.st<=s.now
 chk:qU s.c (fR s.c (s.run.filter fun x=>!(x.g.id==r.g.id))) r.g r.hs=true
theorem JC {s:Sta} (h:tL s=true) {r:Rn} (e:r∈s.run):RnOK s r:=by
 unfold tL at h
 simp only [Af,Bq] at h
 have h1:=h.2.2.1.2 r e
 unfold pnB rnB at h1
 simp only [Af,decide_eq_true_eq] at h1
 obtain ⟨⟨a,_,b⟩,c,d,_⟩:=h1
 exact ⟨a,⟨Es b.2.1 c.1.1,c.1.2⟩,d⟩
theorem aEG {s:Sta} (h:tL s=true):(ids s).Nodup/\(seqs s).Nodup/\HY s=true/\yU s.pend=true:=by
 unfold tL at h
 simp only [Af,decide_eq_true_eq] at h
 exact ⟨h.2.2.2.1,h.2.2.2.2.1,h.2.2.2.2.2,h.2.1⟩
theorem TP {c:Con} {free:List V3} {g:Gan} {hs:List Int} (h:qU c free g hs=true):(hs.length:Int)=g.pods/\∀ u∈hs,0<=u/\u<(free.length:Int)/\((hs.count u:Nat):Int)<=cO ((free[u.toNat]?).getD V3.zero) g.need:=by
 unfold qU at h
 by_cases hl:(hs.length:Int)=g.pods
 .rw [if_pos hl,Ef] at h
  obtain ⟨G,_,b⟩:=h
  refine ⟨hl,fun u f=>?_⟩
  unfold tM CW at b
  simp only [Af,Bq] at b
  have a:=b.2 u f
  unfold aA6 at a
  by_cases h1:u<0
  .rw [if_pos (decide_eq_true h1)] at a
   cases a
  .rw [if_neg (by rw [decide_eq_false h1];decide)] at a
   by_cases d:(free.length:Int)<=u
   .rw [if_pos (decide_eq_true d)] at a
    cases a
   .rw [if_neg (by rw [decide_eq_false d];decide)] at a
    have e:zH u hs=((hs.count u:Nat):Int):=by unfold zH;rw [xI];omega
    rw [e] at a
    simp at a
    exact ⟨by omega,by omega,a⟩
 .rw [if_neg hl] at h
  cases h
theorem CT (c:Con) (l:List Rn):(fR c l).length=c.hs.length:=by
 have key:∀ (l:List Rn) (xs:List V3),(l.foldl sL xs).length=xs.length:=fun l=>by
  induction l with
  | nil=>intro xs;rfl
  | cons x r a=>intro xs;rw [Aq,a,rU]
 unfold fR
 rw [key]
 simp
theorem aHg (c:Con) {j:Nat} (a:j<c.hs.length):(((Df c.hs.length).map fun i:Nat=>(aS c.hs (i:Int)).c)[j]?).getD V3.zero=(aS c.hs (j:Int)).c:=by
 rw [Bd,Dr a]
 rfl
theorem JE {c:Con} (h:bC c=0) {j:Nat} (a:j<c.hs.length):aH (aS c.hs (j:Int)).c=true:=by
 unfold bC at h
 split at h
 .split at h
  .split at h
   .rename_i b
    rw [Bq] at b
    have d:aS c.hs (j:Int)=c.hs[j]:=by unfold aS;rw [Dl,Ab a];rfl
    have:=b c.hs[j] (Bg a)
    unfold nD at this
    split at this
    .cases this
    .rw [d];exact this
   .cases h
  .cases h
 .cases h
theorem zV {p:V3->Int} (hp:Prj p) {c:Con} (a:∀ j:Nat,j<c.hs.length->0<=p (aS c.hs (j:Int)).c/\p (aS c.hs (j:Int)).c<=1048576) {l:List Rn} (d:∀ x∈l,0<=p x.g.need/\p x.g.need<=1048576) {j:Nat} (b:j<c.hs.length):p (((fR c l)[j]?).getD V3.zero)=max (p (aS c.hs (j:Int)).c-bU (l.map (lO p (j:Int)))) (-cV):=by
 have e:=a j b
 unfold fR
 exact LV hp j l _ _ d (by simpa using b) (by unfold cV;omega) (by rw [aHg c b];unfold cV;omega)
theorem RH {f:Rn->Int} {r:Rn}:∀ {l:List Rn},r∈l->(l.map fun x=>x.g.id).Nodup->bU (l.map f)=bU ((l.filter fun x=>!(x.g.id==r.g.id)).map f)+f r
 | [],h,_=>by cases h
 | x::l,h,hd=>by
  rw [Bk,Bp] at hd
  rw [Bk]
  show f x+bU (l.map f)=_
  rcases Aj.1 h with rfl | h
  .rw [Fa s_]
   have e:l.filter (fun x=>!(x.g.id==r.g.id))=l:=by
    rw [Jz]
    intro y b
    have:y.g.id≠r.g.id:=fun q=>hd.1 (by rw [<-q];exact Bb.2 ⟨y,b,rfl⟩)
    simpa using this
   rw [e]
   omega
  .have a:x.g.id≠r.g.id:=fun q=>hd.1 (by rw [q];exact Bb.2 ⟨r,h,rfl⟩)
   rw [Fb (by simpa using a),Bk]
   show _=(f x+bU _)+f r
   rw [RH h hd.2]
   omega
theorem PF {p:V3->Int} (hp:Prj p) {s:Sta} (h:tL s=true) (B:s.c.ns≠[]) (u:∀ v,aH v=true->0<=p v/\p v<=1048576)
  (A:∀ free need (n:Int),aH need=true->1<=n->n<=cO free need->p need*n<=p free) {j:Nat} (m:j<s.c.hs.length):0<=p (((fR s.c s.run)[j]?).getD V3.zero):=by
 obtain ⟨I,_⟩:=MR h B
 have a:∀ j:Nat,j<s.c.hs.length->0<=p (aS s.c.hs (j:Int)).c/\p (aS s.c.hs (j:Int)).c<=1048576:=fun j m=>u _ (JE I m)
 have b:∀ x∈s.run,aH x.g.need=true:=fun x i=>by
  have h1:=(nE.1 (JC h i).gang).1
  unfold EL at h1
  simp only [Af] at h1
  exact h1.2.1
 have k:∀ x∈s.run,0<=p x.g.need/\p x.g.need<=1048576:=fun x i=>u _ (b x i)
 rw [zV hp a k m]
 have D:=a j m
 by_cases w:∃ r∈s.run,(j:Int)∈r.hs
 .obtain ⟨r,d,hm⟩:=w
  have H:=JC h d
  obtain ⟨_,t⟩:=TP H.chk
  obtain ⟨_,_,o⟩:=t _ hm
  have z:0<r.hs.count (j:Int):=Kc.2 hm
  have h1:=A _ _ _ (b r d) o_ o
  rw [Dl,zV hp a (fun x i=>k x (Dt.1 i).1) m] at h1
  have F:(s.run.map fun x=>x.g.id).Nodup:=by
   have:=(aEG h).1
   unfold ids at this
   exact (Ax.1 this).2.1
  have hs:=RH (f:=lO p (j:Int)) d F
  have e:lO p (j:Int) r=p r.g.need*((r.hs.count (j:Int):Nat):Int):=rfl
  have hz:0<=lO p (j:Int) r:=Hj (k r d).1 o_
  rw [<-e] at h1
  unfold cV at *
  omega
 .have hz:bU (s.run.map (lO p (j:Int)))=0:=by
   have key:∀ l:List Rn,(∀ x∈l,(j:Int)∉x.hs)->bU (l.map (lO p (j:Int)))=0:=fun l=>by
    induction l with
    | nil=>intro _;rfl
    | cons x r G=>
     intro hl
     rw [Bk]
     show lO p (j:Int) x+bU _=0
     rw [G fun y C=>hl y (Ap _ C)]
     unfold lO
     rw [Ie.2 (hl x (Ak ..))]
     simp
   exact key s.run fun x i q=>w ⟨x,i,q⟩
  rw [hz]
  omega
theorem jX {free need:V3} {n:Int} (e:aH need=true) (h1:1<=n) (h:n<=cO free need):need.a*n<=free.a/\need.b*n<=free.b/\need.c*n<=free.c:=by
 have d:bK need free=true:=by
  cases f:bK need free with
  | true=>rfl
  | false=>
   unfold cO at h
   rw [if_neg (by rw [f];decide)] at h
   omega
 exact ((HL e d _).1 h).2
set_option maxRecDepth 10000
def fE (n lo a:Int):Bool:=decide (lo<=n)&&decide (n<=a)
theorem fD {n lo a:Int}:fE n lo a=true↔lo<=n/\n<=a:=by unfold fE;simp
theorem gO (n lo a:Int):aA Tryz.prog 118 [ii n,ii lo,ii a] [] (.ret (.bool (fE n lo a))) []:=by
 unfold fE
 by_cases h1:lo<=n
 .rw [decide_eq_true h1,Bw]
  refine c_ Tryz.f118 fun _=>?_
  repeat' first | (refine gN hE ?_;conv=>whnf) | exact rfl | (refine zt ?_;try intro h) | refine zu (fun h=>?_) fun h=>?_ | fail
 .rw [decide_eq_false h1,Dn]
  refine c_ Tryz.f118 fun _=>?_
  repeat' first | (refine gN hE ?_;conv=>whnf) | exact rfl | (refine zt ?_;try intro h) | refine zu (fun h=>?_) fun h=>?_ | fail
theorem uF (n lo a:Int):aA Tryz.prog 168 [ii n,ii lo,ii a] [] (.ret (.bool (fE n lo a))) []:=by
 unfold fE
 by_cases h1:lo<=n
 .rw [decide_eq_true h1,Bw]
  refine c_ Tryz.f168 fun _=>?_
  repeat' first | (refine gN hE ?_;conv=>whnf) | exact rfl | (refine zt ?_;try intro h) | refine zu (fun h=>?_) fun h=>?_ | fail
 .rw [decide_eq_false h1,Dn]
  refine c_ Tryz.f168 fun _=>?_
  repeat' first | (refine gN hE ?_;conv=>whnf) | exact rfl | (refine zt ?_;try intro h) | refine zu (fun h=>?_) fun h=>?_ | fail
theorem OU (v:V3) (b:Bool) (d:aH v=b):aA Tryz.prog 163 [v.av] [] (.ret (.bool b)) []:=by
 unfold aH at d
 refine c_ Tryz.f163 fun _=>?_
 repeat' first
  | (refine gW hE ?_;conv=>whnf)
  | exact d
  | refine aY ?_
  | refine aN ?_
  | refine Aa (fun h=>?_) (fun h=>?_)
  | refine aJ ?_
  | refine Ai _ (Aa rfl ?_)
  | refine Aa d_ ?_
 all_goals (refine congrArg (fun b=>Res.ret (AVal.bool b)) ?_;rw [<-d];simp only [decide_eq_true_eq,decide_eq_false_iff_not] at *)
 .rw [decide_eq_false (p:=0<=v.a/\v.a<=1048576) o_];rfl
 .rw [decide_eq_false (p:=0<=v.a/\v.a<=1048576) o_];rfl
 .rw [decide_eq_false (p:=0<=v.b/\v.b<=1048576) o_,Ct];rfl
 .rw [decide_eq_false (p:=0<=v.b/\v.b<=1048576) o_,Ct];rfl
 .rw [decide_eq_false (p:=0<=v.c/\v.c<=1048576) o_,Ct]
 .rw [decide_eq_false (p:=0<=v.c/\v.c<=1048576) o_,Ct]
 .rw [decide_eq_true (p:=0<=v.a/\v.a<=1048576) o_,decide_eq_true (p:=0<=v.b/\v.b<=1048576) o_,decide_eq_true (p:=0<=v.c/\v.c<=1048576) o_];rfl
theorem dT (v:V3):aA Tryz.prog 163 [v.av] [] (.ret (.bool (aH v))) []:=OU v _ rfl
def FV (x:Hos):Bool:=fE x.f 0 100&&(fE x.b 0 100&&(fE x.r 0 100&&aH x.c))
theorem aD0 (x:Hos):aA Tryz.prog 120 [x.av] [] (.ret (.bool (FV x))) []:=by
 have h1:=gO x.f 0 100
 have d:=gO x.b 0 100
 have h3:=gO x.r 0 100
 have a:=dT x.c
 unfold FV
 generalize fE x.f 0 100=b1 at h1
 generalize fE x.b 0 100=b2 at d
 generalize fE x.r 0 100=b3 at h3
 generalize aH x.c=b4 at a
 cases b1<;>cases b2<;>cases b3<;>cases b4
 all_goals
  refine c_ Tryz.f120 fun _=>?_
  repeat' first | (refine gN hE ?_;conv=>whnf) | refine .pure _ [] h1 ?_ | refine .pure _ [] d ?_ | refine .pure _ [] h3 ?_ | refine .pure _ [] a ?_ | exact rfl | (refine zt ?_;try intro h) | refine zu (fun h=>?_) fun h=>?_ | fail
theorem aAO (x:Hos):FV x=nD x:=by
 rw [Fz]
 unfold FV nD
 by_cases h:JH x
 .rw [if_pos h]
  unfold JH at h
  simp only [Af,fD]
  constructor
  .intro q;omega
  .intro q;cases q
 .rw [if_neg h]
  unfold JH at h
  simp only [Af,fD]
  constructor
  .intro q;exact q.2.2.2
  .intro q;exact ⟨by omega,by omega,by omega,q⟩
theorem U8 (c:Con) (i:Nat) (t:i<1048576) (x:Nod) (get:(nav c.ns)[i]? =some x.av) (s:rA i x):aA Tryz.prog 119 [c.av,ii i] [] (.ret (.bool false)) []:=by
 have e:=gO x.p 0 ((i:Int)-1)
 have d:=gO x.w 1 1000
 have hl:=gO x.w 1 1000
 have o:=dT x.n
 have k:=dT x.b
 have j:=dT x.l
 have m:=mL x.l x.n
 unfold rA at s
 by_cases r:i=0
 .by_cases hp:x.p= -1
  .have q:fE x.w 1 1000=false:=by
    cases a:fE x.w 1 1000 with
    | false=>rfl
    | true=>have:=fD.1 a;omega
   rw [q] at d
   subst r
   refine c_ Tryz.f119 fun _=>?_
   repeat' first | (refine gN hE ?_;conv=>whnf) | refine ⟨i,rfl,?_⟩ | refine ⟨_,get,?_⟩ | refine .pure _ [] e ?_ | refine .pure _ [] d ?_ | refine .pure _ [] hl ?_ | refine .pure _ [] o ?_ | refine .pure _ [] k ?_ | refine .pure _ [] j ?_ | refine .pure _ [] m ?_ | exact rfl | (refine zt ?_;try intro h) | refine zu (fun h=>?_) fun h=>?_ | fail
  .subst r
   refine c_ Tryz.f119 fun _=>?_
   repeat' first | (refine gN hE ?_;conv=>whnf) | refine ⟨i,rfl,?_⟩ | refine ⟨_,get,?_⟩ | refine .pure _ [] e ?_ | refine .pure _ [] d ?_ | refine .pure _ [] hl ?_ | refine .pure _ [] o ?_ | refine .pure _ [] k ?_ | refine .pure _ [] j ?_ | refine .pure _ [] m ?_ | exact rfl | (refine zt ?_;try intro h) | refine zu (fun h=>?_) fun h=>?_ | fail
   all_goals (exfalso;simp at *;omega)
 .cases a:fE x.p 0 ((i:Int)-1) with
  | false=>
   rw [a] at e
   refine c_ Tryz.f119 fun _=>?_
   repeat' first | (refine gN hE ?_;conv=>whnf) | refine ⟨i,rfl,?_⟩ | refine ⟨_,get,?_⟩ | refine .pure _ [] e ?_ | refine .pure _ [] d ?_ | refine .pure _ [] hl ?_ | refine .pure _ [] o ?_ | refine .pure _ [] k ?_ | refine .pure _ [] j ?_ | refine .pure _ [] m ?_ | exact rfl | (refine zt ?_;try intro h) | refine zu (fun h=>?_) fun h=>?_ | fail
  | true=>
   rw [a] at e
   have:=fD.1 a
   have q:fE x.w 1 1000=false:=by
    cases a:fE x.w 1 1000 with
    | false=>rfl
    | true=>have:=fD.1 a;omega
   rw [q] at d
   refine c_ Tryz.f119 fun _=>?_
   repeat' first | (refine gN hE ?_;conv=>whnf) | refine ⟨i,rfl,?_⟩ | refine ⟨_,get,?_⟩ | refine .pure _ [] e ?_ | refine .pure _ [] d ?_ | refine .pure _ [] hl ?_ | refine .pure _ [] o ?_ | refine .pure _ [] k ?_ | refine .pure _ [] j ?_ | refine .pure _ [] m ?_ | exact rfl | (refine zt ?_;try intro h) | refine zu (fun h=>?_) fun h=>?_ | fail
set_option maxHeartbeats 2000000 in
theorem OX (c:Con) (i:Nat) (s:i<1048576) (x:Nod) (get:(nav c.ns)[i]? =some x.av) (q:¬ rA i x) (m:aU c.ns (i:Int)=true):aA Tryz.prog 119 [c.av,ii i] [] (.ret (.bool (aH x.n&&(aH x.b&&(aH x.l&&bK x.l x.n))))) []:=by
 have o:=gO x.p 0 ((i:Int)-1)
 have j:=gO x.w 1 1000
 have hl:=oM c (i:Int)
 rw [m] at hl
 have k:=dT x.n
 have d:=dT x.b
 have a:=dT x.l
 have e:=mL x.l x.n
 unfold rA at q
 rw [fD.2 (show 1<=x.w/\x.w<=1000 by omega)] at j
 generalize aH x.n=q1 at k
 generalize aH x.b=q2 at d
 generalize aH x.l=q3 at a
 generalize bK x.l x.n=q4 at e
 by_cases r:i=0
 .have hp:x.p= -1:=o_
  subst r
  cases q1<;>cases q2<;>cases q3<;>cases q4
  all_goals
   refine c_ Tryz.f119 fun _=>?_
   repeat' first | (refine gN hE ?_;conv=>whnf) | refine ⟨i,rfl,?_⟩ | refine ⟨_,get,?_⟩ | refine .pure _ [] o ?_ | refine .pure _ [] j ?_ | refine .pure _ [] hl ?_ | refine .pure _ [] k ?_ | refine .pure _ [] d ?_ | refine .pure _ [] a ?_ | refine .pure _ [] e ?_ | exact rfl | (refine zt ?_;try intro h) | refine zu (fun h=>?_) fun h=>?_ | fail
   all_goals (exfalso;simp at *;omega)
 .rw [fD.2 (show 0<=x.p/\x.p<=(i:Int)-1 by omega)] at o
  cases q1<;>cases q2<;>cases q3<;>cases q4
  all_goals
   refine c_ Tryz.f119 fun _=>?_
   repeat' first | (refine gN hE ?_;conv=>whnf) | refine ⟨i,rfl,?_⟩ | refine ⟨_,get,?_⟩ | refine .pure _ [] o ?_ | refine .pure _ [] j ?_ | refine .pure _ [] hl ?_ | refine .pure _ [] k ?_ | refine .pure _ [] d ?_ | refine .pure _ [] a ?_ | refine .pure _ [] e ?_ | exact rfl | (refine zt ?_;try intro h) | refine zu (fun h=>?_) fun h=>?_ | fail
theorem ZS (c:Con) (i:Nat) (v:i<1048576) (x:Nod) (get:(nav c.ns)[i]? =some x.av) (t:¬ rA i x) (e:aU c.ns (i:Int)=false) (r:Bool) (s:(zB x.n&&(zB x.b&&zB x.l))=r):aA Tryz.prog 119 [c.av,ii i] [] (.ret (.bool r)) []:=by
 have j:=gO x.p 0 ((i:Int)-1)
 have d:=gO x.w 1 1000
 have hl:=oM c (i:Int)
 rw [e] at hl
 have q:=dT x.n
 have m:=dT x.b
 have k:=dT x.l
 have o:=mL x.l x.n
 unfold rA at t
 rw [fD.2 (show 1<=x.w/\x.w<=1000 by omega)] at d
 have fin:(((x.p==x.p)&&((x.w==x.w)&&((x.n.a==0)&&((x.n.b==0)&&((x.n.c==0)&&((x.b.a==0)&&((x.b.b==0)&&((x.b.c==0)&&((x.l.a==0)&&((x.l.b==0)&&((x.l.c==0)&&true)))))))))))=r):=by
  rw [<-s]
  unfold zB
  simp [Ge]
 by_cases u:i=0
 .have hp:x.p= -1:=o_
  subst u
  refine c_ Tryz.f119 fun _=>?_
  repeat' first | (refine gN hE ?_;conv=>whnf) | refine ⟨i,rfl,?_⟩ | refine ⟨_,get,?_⟩ | refine .pure _ [] j ?_ | refine .pure _ [] d ?_ | refine .pure _ [] hl ?_ | refine .pure _ [] q ?_ | refine .pure _ [] m ?_ | refine .pure _ [] k ?_ | refine .pure _ [] o ?_ | exact rfl | (refine zt ?_;try intro h) | refine zu (fun h=>?_) fun h=>?_ | fail
  .exact absurd (show (x.p != -1)=true by assumption) (by rw [hp];decide)
  .exact congrArg (fun b=>Res.ret (AVal.bool b)) fin
 .rw [fD.2 (show 0<=x.p/\x.p<=(i:Int)-1 by omega)] at j
  refine c_ Tryz.f119 fun _=>?_
  repeat' first | (refine gN hE ?_;conv=>whnf) | refine ⟨i,rfl,?_⟩ | refine ⟨_,get,?_⟩ | refine .pure _ [] j ?_ | refine .pure _ [] d ?_ | refine .pure _ [] hl ?_ | refine .pure _ [] q ?_ | refine .pure _ [] m ?_ | refine .pure _ [] k ?_ | refine .pure _ [] o ?_ | exact rfl | (refine zt ?_;try intro h) | refine zu (fun h=>?_) fun h=>?_ | fail
  exact congrArg (fun b=>Res.ret (AVal.bool b)) fin
theorem ZR (c:Con) (i:Nat) (b:i<1048576) (x:Nod) (get:(nav c.ns)[i]? =some x.av):aA Tryz.prog 119 [c.av,ii i] [] (.ret (.bool (mZ (aU c.ns (i:Int)) i x))) []:=by
 unfold mZ
 by_cases a:rA i x
 .rw [if_pos a]
  exact U8 c i b x get a
 .rw [if_neg a]
  cases hl:aU c.ns (i:Int) with
  | false=>rw [if_neg d_];exact ZS c i b x get a hl _ rfl
  | true=>rw [if_pos rfl];exact OX c i b x get a hl
noncomputable abbrev TE:Func:=Tryz.f75
def BW (ns:List Nod):Nat->List Nod->Bool
 | _,[]=>true
 | i,x::r=>mZ (aU ns (i:Int)) i x&&BW ns (i+1) r
theorem BN (c:Con) (j:c.sm) (r:Int):∀ (m i:Nat) (b:Bool),i+m=c.hs.length->(if (b&&(c.hs.drop i).all nD)=true then (0:Int) else 2)=r->
  To E TE (.pure (.ret (ii r))) (.head (stk TE 1) [(1,.ref 0 0),(3,.bool b),(5,ii i)] [.cells 25 c.cs]):=by
 have f:(hav c.hs).length=c.hs.length:=by simp
 have h1:=j.hs
 intro m
 induction m with
 | zero=>
  intro i b k a
  rw [Ae o_] at a
  cases b with
  | false=>
   have a:2=r:=a
   subst a
   refine gV ?_
   repeat' first | (refine gN hE ?_;conv=>whnf) | exact rfl | (refine zt ?_;try intro h) | refine zu (fun h=>?_) fun h=>?_ | fail
  | true=>
   have a:0=r:=a
   subst a
   refine gV ?_
   repeat' first | (refine gN hE ?_;conv=>whnf) | exact rfl | (refine zt ?_;try intro h) | refine zu (fun h=>?_) fun h=>?_ | fail
 | succ m g=>
  intro i b k a
  cases b with
  | false=>
   have a:2=r:=a
   subst a
   refine gV ?_
   repeat' first | (refine gN hE ?_;conv=>whnf) | exact rfl | (refine zt ?_;try intro h) | refine zu (fun h=>?_) fun h=>?_ | fail
  | true=>
   have e:i<c.hs.length:=o_
   rw [Ad e,Da,<-aAO] at a
   have get:=vC e
   generalize c.hs[i]=x at a get
   have d:=aD0 x
   have next:=g (i+1) (FV x) o_ a
   generalize FV x=q at d next
   refine gV ?_
   repeat' first | (refine gN hE ?_;conv=>whnf) | refine ⟨i,rfl,?_⟩ | refine ⟨_,get,?_⟩ | refine .pure _ [] d ?_ | exact rfl | (refine zt ?_;try intro h) | refine zu (fun h=>?_) fun h=>?_ | fail
   exact zqca11
theorem OZ (c:Con) (f:c.sm) (r:Int):∀ (m i:Nat) (b:Bool),i+m=c.ns.length->(if ((b&&BW c.ns i (c.ns.drop i))&&c.hs.all nD)=true then (0:Int) else 2)=r->
  To E TE (.pure (.ret (ii r))) (.head (stk TE 0) [(1,.ref 0 0),(3,.bool b),(4,ii i)] [.cells 25 c.cs]):=by
 have g:(nav c.ns).length=c.ns.length:=by simp
 have h1:=f.ns
 intro m
 induction m with
 | zero=>
  intro i b k d
  rw [Ae o_] at d
  have next:=BN c f r c.hs.length 0 b o_ (by rw [<-d];show _=if ((b&&true)&&_)=true then (0:Int) else 2;rw [Kr];rfl)
  cases b with
  | false=>
   refine gV ?_
   repeat' first | (refine gN hE ?_;conv=>whnf) | exact rfl | (refine zt ?_;try intro h) | refine zu (fun h=>?_) fun h=>?_ | fail
   exact zqca11
  | true=>
   refine gV ?_
   repeat' first | (refine gN hE ?_;conv=>whnf) | exact rfl | (refine zt ?_;try intro h) | refine zu (fun h=>?_) fun h=>?_ | fail
   exact zqca11
 | succ m j=>
  intro i b k d
  cases b with
  | false=>
   have next:=BN c f r c.hs.length 0 false o_ (by rw [<-d];rfl)
   refine gV ?_
   repeat' first | (refine gN hE ?_;conv=>whnf) | exact rfl | (refine zt ?_;try intro h) | refine zu (fun h=>?_) fun h=>?_ | fail
   exact zqca11
  | true=>
   have e:i<c.ns.length:=o_
   rw [Ad e] at d
   have get:=fU e
   generalize c.ns[i]=x at d get
   have a:=ZR c i o_ x get
   have next:=j (i+1) (mZ (aU c.ns (i:Int)) i x) o_ d
   generalize mZ (aU c.ns (i:Int)) i x=q at a next
   refine gV ?_
   repeat' first | (refine gN hE ?_;conv=>whnf) | refine .pure _ [] a ?_ | exact rfl | (refine zt ?_;try intro h) | refine zu (fun h=>?_) fun h=>?_ | fail
   exact To.cut [1,3,4] 1 rfl rfl rfl rfl next
theorem LD (ns:List Nod):∀ (l:List Nod) (i:Nat),BW ns i l=mB ns i l
 | [],_=>rfl
 | x::r,i=>by
  unfold BW mB
  rw [LD ns r (i+1),qB]
  cases mZ (aU ns (i:Int)) i x<;>rfl
def UC (c:Con):Bool:=fE c.ns.length 1 12&&(fE c.hs.length 1 24&&(fE c.half 1 1048576&&fE c.age 0 1048576))
theorem J8 (c:Con):UC c=true↔wG c:=by
 unfold UC wG
 simp only [Af,fD]
 omega
theorem WS (c:Con):(if ((UC c&&BW c.ns 0 (c.ns.drop 0))&&c.hs.all nD)=true then (0:Int) else 2)=bC c:=by
 unfold bC
 rw [Bx,LD]
 cases hs:UC c with
 | false=>
  rw [if_neg (c:=wG c) (fun q=>by rw [(J8 c).2 q] at hs;cases hs)]
  rfl
 | true=>
  rw [if_pos (c:=wG c) ((J8 c).1 hs)]
  cases mB c.ns 0 c.ns<;>cases c.hs.all nD<;>rfl
set_option maxHeartbeats 2000000 in
theorem VA (c:Con) (k:c.sm):aA Tryz.prog 75 [c.av] [] (.ret (ii (bC c))) []:=by
 have b:(nav c.ns).length=c.ns.length:=by simp
 have a:(hav c.hs).length=c.hs.length:=by simp
 have h:=OZ c k (bC c) c.ns.length 0 (UC c) o_ (WS c)
 have e:=gO ((nav c.ns).length:Nat) 1 12
 have i:=gO ((hav c.hs).length:Nat) 1 24
 have j:=gO c.half 1 1048576
 have d:=gO c.age 0 1048576
 unfold UC at h
 rw [<-b,<-a] at h
 generalize fE ((nav c.ns).length:Nat) 1 12=q1 at e h
 generalize fE ((hav c.hs).length:Nat) 1 24=q2 at i h
 generalize fE c.half 1 1048576=q3 at j h
 generalize fE c.age 0 1048576=q4 at d h
 generalize bC c=r at h
 cases q1<;>cases q2<;>cases q3<;>cases q4
 all_goals
  refine c_ Tryz.f75 fun _=>?_
  repeat' first | (refine gN hE ?_;conv=>whnf) | refine .pure _ [] e ?_ | refine .pure _ [] i ?_ | refine .pure _ [] j ?_ | refine .pure _ [] d ?_ | exact rfl | (refine zt ?_;try intro h) | refine zu (fun h=>?_) fun h=>?_ | fail
  exact To.cut [1,3,4] 1 rfl rfl rfl rfl h
def aHj (g:Gan):Bool:=fE g.id 1 1073741824&&(fE g.pods 1 16&&(aH g.need&&(fE g.run 1 1048576&&(fE g.lev 0 3&&fE g.pref 0 g.lev))))
theorem aEL (g:Gan):aHj g=EL g:=by
 rw [Fz]
 unfold aHj EL
 simp only [Af,fD,decide_eq_true_eq]
 constructor
 .rintro ⟨a,b,c,d,e,f⟩
  exact ⟨⟨a.1,a.2,b.1,b.2⟩,c,d.1,d.2,e.1,e.2,f.1,f.2⟩
 .rintro ⟨⟨a,b,c,d⟩,v,e,f,h,i,j,k⟩
  exact ⟨⟨a,b⟩,⟨c,d⟩,v,⟨e,f⟩,⟨h,i⟩,j,k⟩
theorem X5 (c:Con) (g:Gan):aA Tryz.prog 125 [c.av,g.av] [] (.ret (ii (dQ c g))) []:=by
 have d:=uF g.id 1 1073741824
 have j:=uF g.pods 1 16
 have i:=dT g.need
 have a:=uF g.run 1 1048576
 have k:=uF g.lev 0 3
 have e:=uF g.pref 0 g.lev
 have b:=oM c g.ten
 unfold dQ
 rw [<-aEL]
 unfold aHj
 generalize fE g.id 1 1073741824=q1 at d
 generalize fE g.pods 1 16=q2 at j
 generalize aH g.need=q3 at i
 generalize fE g.run 1 1048576=q4 at a
 generalize fE g.lev 0 3=q5 at k
 generalize fE g.pref 0 g.lev=q6 at e
 generalize aU c.ns g.ten=q7 at b
 cases q1 with
 | false=>
  refine c_ Tryz.f125 fun _=>?_
  repeat' first | (refine gN hE ?_;conv=>whnf) | refine .pure _ [] d ?_ | refine .pure _ [] j ?_ | refine .pure _ [] i ?_ | refine .pure _ [] a ?_ | refine .pure _ [] k ?_ | refine .pure _ [] e ?_ | refine .pure _ [] b ?_ | exact rfl | (refine zt ?_;try intro h) | refine zu (fun h=>?_) fun h=>?_ | fail
 | true=>
  cases q2 with
  | false=>
   refine c_ Tryz.f125 fun _=>?_
   repeat' first | (refine gN hE ?_;conv=>whnf) | refine .pure _ [] d ?_ | refine .pure _ [] j ?_ | refine .pure _ [] i ?_ | refine .pure _ [] a ?_ | refine .pure _ [] k ?_ | refine .pure _ [] e ?_ | refine .pure _ [] b ?_ | exact rfl | (refine zt ?_;try intro h) | refine zu (fun h=>?_) fun h=>?_ | fail
  | true=>
   cases q3 with
   | false=>
    refine c_ Tryz.f125 fun _=>?_
    repeat' first | (refine gN hE ?_;conv=>whnf) | refine .pure _ [] d ?_ | refine .pure _ [] j ?_ | refine .pure _ [] i ?_ | refine .pure _ [] a ?_ | refine .pure _ [] k ?_ | refine .pure _ [] e ?_ | refine .pure _ [] b ?_ | exact rfl | (refine zt ?_;try intro h) | refine zu (fun h=>?_) fun h=>?_ | fail
   | true=>
    cases q4 with
    | false=>
     refine c_ Tryz.f125 fun _=>?_
     repeat' first | (refine gN hE ?_;conv=>whnf) | refine .pure _ [] d ?_ | refine .pure _ [] j ?_ | refine .pure _ [] i ?_ | refine .pure _ [] a ?_ | refine .pure _ [] k ?_ | refine .pure _ [] e ?_ | refine .pure _ [] b ?_ | exact rfl | (refine zt ?_;try intro h) | refine zu (fun h=>?_) fun h=>?_ | fail
    | true=>
     cases q5 with
     | false=>
      refine c_ Tryz.f125 fun _=>?_
      repeat' first | (refine gN hE ?_;conv=>whnf) | refine .pure _ [] d ?_ | refine .pure _ [] j ?_ | refine .pure _ [] i ?_ | refine .pure _ [] a ?_ | refine .pure _ [] k ?_ | refine .pure _ [] e ?_ | refine .pure _ [] b ?_ | exact rfl | (refine zt ?_;try intro h) | refine zu (fun h=>?_) fun h=>?_ | fail
     | true=>
      cases q6 with
      | false=>
       refine c_ Tryz.f125 fun _=>?_
       repeat' first | (refine gN hE ?_;conv=>whnf) | refine .pure _ [] d ?_ | refine .pure _ [] j ?_ | refine .pure _ [] i ?_ | refine .pure _ [] a ?_ | refine .pure _ [] k ?_ | refine .pure _ [] e ?_ | refine .pure _ [] b ?_ | exact rfl | (refine zt ?_;try intro h) | refine zu (fun h=>?_) fun h=>?_ | fail
      | true=>
       cases q7 with
       | false=>
        refine c_ Tryz.f125 fun _=>?_
        repeat' first | (refine gN hE ?_;conv=>whnf) | refine .pure _ [] d ?_ | refine .pure _ [] j ?_ | refine .pure _ [] i ?_ | refine .pure _ [] a ?_ | refine .pure _ [] k ?_ | refine .pure _ [] e ?_ | refine .pure _ [] b ?_ | exact rfl | (refine zt ?_;try intro h) | refine zu (fun h=>?_) fun h=>?_ | fail
       | true=>
        refine c_ Tryz.f125 fun _=>?_
        repeat' first | (refine gN hE ?_;conv=>whnf) | refine .pure _ [] d ?_ | refine .pure _ [] j ?_ | refine .pure _ [] i ?_ | refine .pure _ [] a ?_ | refine .pure _ [] k ?_ | refine .pure _ [] e ?_ | refine .pure _ [] b ?_ | exact rfl | (refine zt ?_;try intro h) | refine zu (fun h=>?_) fun h=>?_ | fail
def P4 (c:Con):Bool:=C8.eqL Nod.eqb c.ns []&&(C8.eqL Hos.eqb c.hs []&&(c.half==0&&c.age==0))
theorem V8 (c:Con):P4 c=dP c:=by
 obtain ⟨ns,hs,b,a⟩:=c
 unfold P4 dP
 cases ns<;>cases hs<;>simp [C8.eqL]<;>rfl
def aIu:Con:=⟨[],[],0,0⟩
theorem X8 (c:Con):aA Tryz.prog 117 [c.av,aIu.av] [] (.ret (.bool (dP c))) []:=by
 have h1:=C8.eqN_ok c.ns []
 have b:=C8.eqH_ok c.hs []
 rw [<-V8]
 unfold P4
 generalize C8.eqL Nod.eqb c.ns []=q1 at h1
 generalize C8.eqL Hos.eqb c.hs []=q2 at b
 obtain ⟨R,a⟩:∃ R:Bool,R=(q1&&(q2&&(c.half==0&&c.age==0))):=⟨_,rfl⟩
 rw [<-a]
 cases q1 with
 | false=>
  have a:R=false:=a
  subst a
  refine c_ Tryz.f117 fun _=>?_
  repeat' first | (refine gN hE ?_;conv=>whnf) | refine .pure _ [] h1 ?_ | refine .pure _ [] b ?_ | exact rfl | (refine zt ?_;try intro h) | refine zu (fun h=>?_) fun h=>?_ | fail
 | true=>
  cases q2 with
  | false=>
   have a:R=false:=a
   subst a
   refine c_ Tryz.f117 fun _=>?_
   repeat' first | (refine gN hE ?_;conv=>whnf) | refine .pure _ [] h1 ?_ | refine .pure _ [] b ?_ | exact rfl | (refine zt ?_;try intro h) | refine zu (fun h=>?_) fun h=>?_ | fail
  | true=>
   have a:R=(c.half==0&&c.age==0):=a
   refine c_ Tryz.f117 fun _=>?_
   repeat' first | (refine gN hE ?_;conv=>whnf) | refine .pure _ [] h1 ?_ | refine .pure _ [] b ?_ | exact rfl | (refine zt ?_;try intro h) | refine zu (fun h=>?_) fun h=>?_ | fail
   all_goals (rw [a];simp_all [aIu])
theorem qS (c:Con):aA Tryz.prog 74 [c.av] [] (.ret (.bool (dP c))) []:=by
 have h:=X8 c
 generalize dP c=q at h
 refine c_ Tryz.f74 fun _=>?_
 repeat' first | (refine gN hE ?_;conv=>whnf) | refine .pure _ [] (aA.strip h) ?_ | exact rfl | (refine zt ?_;try intro h) | refine zu (fun h=>?_) fun h=>?_ | fail
def IF {α:Type} (p:α->Bool):List α->Int->Int
 | [],_=> -1
 | x::r,i=>if p x=true then i else IF p r (i+1)
theorem CK {α:Type} (p:α->Bool):∀ (l:List α) (i:Int),0<=i->decide (0<=IF p l i)=l.any p
 | [],i,_=>rfl
 | x::r,i,h=>by
  unfold IF
  rw [Gn]
  cases hp:p x with
  | true=>rw [if_pos rfl,decide_eq_true h];rfl
  | false=>rw [if_neg d_,CK p r (i+1) o_];rfl
theorem PC (f:FuncId) (cap:List AVal) (xs:List Int) (p:Int->Bool) (e:∀ x∈xs,aA Tryz.prog f [ii x,.ptr cap] [] (.ret (.bool (p x))) []) (hl:((iv xs).length:Int)<=9223372036854775807) (r:Int):
  ∀ (n i:Nat),i+n=xs.length->IF p (xs.drop i) i=r->
  To E Tryz.f222 (.pure (.ret (.int .i64 r))) (.head (stk Tryz.f222 0) [(0,.slice 1 (iv xs) .no),(1,.func (.func f) [] [.ptr cap]),(7,.int .i64 ((iv xs).length:Nat)),(8,.int .i64 i)] []):=by
  have d:(iv xs).length=xs.length:=by simp
  intro n
  induction n with
  | zero=>
   exact zqca8
  | succ n g=>
   intro i j a
   have b:i<xs.length:=o_
   refine gV ?_
   refine aT fun h=>?_
   refine gV ?_
   refine ⟨i,rfl,?_⟩
   refine gV ?_
   refine ⟨_,cQ b,?_⟩
   exact zqca6
theorem PD (f:FuncId) (cap:List AVal) (xs:List (List Int)) (p:List Int->Bool) (e:∀ x∈xs,aA Tryz.prog f [.slice 1 (iv x) .no,.ptr cap] [] (.ret (.bool (p x))) []) (hl:((gav xs).length:Int)<=9223372036854775807) (r:Int):
  ∀ (n i:Nat),i+n=xs.length->IF p (xs.drop i) i=r->
  To E Tryz.f220 (.pure (.ret (.int .i64 r))) (.head (stk Tryz.f220 0) [(0,.slice 1 (gav xs) .no),(1,.func (.func f) [] [.ptr cap]),(7,.int .i64 ((gav xs).length:Nat)),(8,.int .i64 i)] []):=by
  have d:(gav xs).length=xs.length:=by simp
  intro n
  induction n with
  | zero=>
   exact zqca8
  | succ n g=>
   intro i j a
   have b:i<xs.length:=o_
   refine gV ?_
   refine aT fun h=>?_
   refine gV ?_
   refine ⟨i,rfl,?_⟩
   refine gV ?_
   refine ⟨_,zU b,?_⟩
   exact zqca6
theorem aBI (f:FuncId) (cap:List AVal) (xs:List Int) (p:Int->Bool) (b:∀ x∈xs,aA Tryz.prog f [ii x,.ptr cap] [] (.ret (.bool (p x))) []):
  aA Tryz.prog 200 [.slice 1 (iv xs) .no,.func (.func f) [] [.ptr cap]] [] (.ret (.bool (xs.any p))) []:=by
 have c:aA Tryz.prog 222 [.slice 1 (iv xs) .no,.func (.func f) [] [.ptr cap]] [] (.ret (.int .i64 (IF p xs 0))) []:=by
  refine c_ Tryz.f222 fun a=>?_
  refine gV ?_
  refine To.head [0,1,7,8] ?_
  exact PC f cap xs p b a.1 _ xs.length 0 o_ s_
 rw [<-CK p xs 0 (Di _)]
 refine c_ Tryz.f200 fun _=>?_
 repeat' first | (refine gN hE ?_;conv=>whnf) | refine .pure _ [] c ?_ | exact rfl | (refine zt ?_;try intro h) | refine zu (fun h=>?_) fun h=>?_ | fail
theorem aBJ (f:FuncId) (cap:List AVal) (xs:List (List Int)) (p:List Int->Bool) (b:∀ x∈xs,aA Tryz.prog f [.slice 1 (iv x) .no,.ptr cap] [] (.ret (.bool (p x))) []):
  aA Tryz.prog 197 [.slice 1 (gav xs) .no,.func (.func f) [] [.ptr cap]] [] (.ret (.bool (xs.any p))) []:=by
 have c:aA Tryz.prog 220 [.slice 1 (gav xs) .no,.func (.func f) [] [.ptr cap]] [] (.ret (.int .i64 (IF p xs 0))) []:=by
  refine c_ Tryz.f220 fun a=>?_
  refine gV ?_
  refine To.head [0,1,7,8] ?_
  exact PD f cap xs p b a.1 _ xs.length 0 o_ s_
 rw [<-CK p xs 0 (Di _)]
 refine c_ Tryz.f197 fun _=>?_
 repeat' first | (refine gN hE ?_;conv=>whnf) | refine .pure _ [] c ?_ | exact rfl | (refine zt ?_;try intro h) | refine zu (fun h=>?_) fun h=>?_ | fail
theorem aEF (G:List Int) (b:G.length<=1048576) (h:Int):aA Tryz.prog 201 [ii h,.ptr [.slice 1 (iv G) .no]] [] (.ret (.bool (!inB h G))) []:=by
 have a:=MN G b h
 refine c_ Tryz.f201 fun _=>?_
 repeat' first | (refine gN hE ?_;conv=>whnf) | refine .pure _ [] a ?_ | exact rfl | (refine zt ?_;try intro h) | refine zu (fun h=>?_) fun h=>?_ | fail
theorem aHe (G l:List Int) (b:G.length<=1048576):aA Tryz.prog 199 [.slice 1 (iv G) .no,.ptr [.slice 1 (iv l) .no]] [] (.ret (.bool (!(l.any fun h=>!inB h G)))) []:=by
 have a:=aBI 201 [.slice 1 (iv G) .no] l (fun h=>!inB h G) fun x _=>aEF G b x
 refine c_ Tryz.f199 fun _=>?_
 refine cX hE 10 ?_;conv=>whnf
 refine To.frz [2] [0] ?_
 repeat' first | (refine gN hE ?_;conv=>whnf) | refine .pure _ [] a ?_ | exact rfl | (refine zt ?_;try intro h) | refine zu (fun h=>?_) fun h=>?_ | fail
theorem XB {l:List V3} {u:Int} (a:0<=u) (h1:u<(l.length:Int)):(vav l)[u.toNat]? =some ((l[u.toNat]?).getD V3.zero).av:=by
 rw [Ab (show u.toNat<l.length by omega)]
 exact jJ o_
theorem aCo {c:Con} {l:List Rn} {n:Int} (h:c.ok n):(vav (ofL c l))[n.toNat]? =some (atV (ofL c l) n).av:=by
 obtain ⟨a,h1⟩:=h
 have hl:(ofL c l).length=c.ns.length:=by unfold ofL lL;simp
 unfold atV
 rw [if_neg q_]
 exact XB a o_
theorem wR (k:List Int) (v:AVal) (x:List Int):∀ (es:List (List Int×AVal)),aZ (jC es k v) x=if k=x then some v else aZ es x
 | []=>rfl
 | (j,w)::r=>by
  show aZ (if j=k then (k,v)::r else (j,w)::jC r k v) x=if k=x then some v else (if j=x then some w else aZ r x)
  by_cases b:j=k
  .subst b
   rw [if_pos rfl]
   show (if j=x then some v else aZ r x)=_
   by_cases a:j=x
   .rw [if_pos a,if_pos a]
   .rw [if_neg a,if_neg a,if_neg a]
  .rw [if_neg b]
   show (if j=x then some w else aZ (jC r k v) x)=_
   rw [wR k v x r]
   by_cases a:j=x
   .subst a
    rw [if_pos rfl,if_neg (fun q=>b q.symm),if_pos rfl]
   .rw [if_neg a,if_neg a]
def aHu (es:List (List Int×AVal)) (pre:List Int):Prop:=∀ h:Int,aZ es [h]=if pre.count h=0 then none else some (ii ((pre.count h:Nat):Int))
theorem aAv {es:List (List Int×AVal)} {pre:List Int} (hm:aHu es pre) (h v:Int) (b:v=((pre.count h:Nat):Int)+1):aHu (jC es [h] (ii v)) (pre++[h]):=fun x=>by
 rw [wR,Ik]
 by_cases a:h=x
 .subst a
  rw [if_pos rfl,if_neg s_,b]
  simp
 .rw [if_neg (by simpa using a),hm x]
  have:[h].count x=0:=Ie.2 (by simpa using fun q=>a q.symm)
  rw [this,Dy]
def plS (free:List V3) (need:V3) (n h:Int):Bool:=if decide (h<0)=true then false else if decide ((free.length:Int)<=h)=true then false else !decide (cO ((free[h.toNat]?).getD V3.zero) need<n)
def plB (free:List V3) (need:V3):List Int->List Int->Bool
 | _,[]=>true
 | pre,h::r=>plS free need (((pre.count h:Nat):Int)+1) h&&plB free need (pre++[h]) r
noncomputable abbrev aEk:Func:=Tryz.f172
def aAR (l:List Int) (G:List Int):Bool:=!(l.any fun h=>!inB h G)
abbrev plF (c:Con) (free:List V3) (g:Gan) (l:List Int) (i:Int):List (Nat×AVal):=[(1,.slice 3 (vav free) .no),(4,.ptr c.cs),(6,.ptr g.cs),(7,.ptr [.slice 1 (iv l) .no]),(9,.mref 0),(18,.slice 1 (iv l) .no),(19,.int .i64 ((iv l).length:Nat)),(20,ii i)]
theorem ZV (c:Con) (H:c.sm) (free:List V3) (g:Gan) (l:List Int) (hl:l.length<=1048576) (A:Bool) (K:(gpL c g.lev).any (aAR l)=A) (r:Bool):∀ (m i:Nat) (es:List (List Int×AVal)),i+m=l.length->aHu es (l.take i)->(plB free g.need (l.take i) (l.drop i)&&A)=r->
  To E aEk (.pure (.ret (.bool r))) (.head (stk aEk 0) (plF c free g l (i:Int)) [.mp false es]):=by
 have I:(iv l).length=l.length:=by simp
 have N:(vav free).length=free.length:=by simp
 intro m
 induction m with
 | zero=>
  intro i es O hm b
  rw [Ae o_] at b
  have b:A=r:=b
  subst b
  have C:=PH c g.lev
  have M:=H.hs
  have h1:=FY c H g.lev
  have s:=aBJ 199 [.slice 1 (iv l) .no] (gpL c g.lev) (aAR l) fun G P=>aHe G l (by have:=(C.2 G P).2.1;omega)
  rw [K] at s
  generalize gpL c g.lev=gs at h1 s
  refine gV ?_
  refine aF fun h=>?_
  repeat' first | (refine gN hE ?_;conv=>whnf) | refine .pure _ [] h1 ?_ | refine .pure _ [] s ?_ | exact rfl | (refine zt ?_;try intro h) | refine zu (fun h=>?_) fun h=>?_ | fail
 | succ m t=>
  intro i es O hm b
  have p:i<l.length:=o_
  have D:l.take (i+1)=l.take i++[l[i]]:=by rw [List.take_add_one,Ab p];rfl
  rw [Ad p] at b
  have get:=cQ p
  have t:=fun es=>t (i+1) es o_
  rw [D] at t
  generalize l[i]=u0 at b get t
  have y:((l.take i).count u0)<=1048576:=Cm List.count_le_length q_
  have next:=fun v (J:v=(((l.take i).count u0:Nat):Int)+1)=>t (jC es [u0] (ii v)) (aAv hm u0 v J)
  have x:=hm u0
  have d:∀ v,aZ (jC es [u0] v) [u0]=some v:=fun v=>by rw [wR,if_pos rfl]
  have b:((plS free g.need ((((l.take i).count u0:Nat):Int)+1) u0&&plB free g.need (l.take i++[u0]) (l.drop (i+1)))&&A)=r:=b
  generalize plB free g.need (l.take i++[u0]) (l.drop (i+1))=B at b next
  generalize (l.take i).count u0=k at y x b next
  unfold plS at b
  have go:∀ (w:Int),w=(k:Int)->(∃ o,aZ es [u0]=o/\(o=none/\w=0\/o=some (ii w)))->To E aEk (.pure (.ret (.bool r))) (.head (stk aEk 0) (plF c free g l (i:Int)) [.mp false es]):=fun w L ⟨o,j,z⟩=>by
   have next:=next (w+1) o_
   rw [show ((k:Int)+1)=w+1 from by omega] at b
   by_cases h1:u0<0
   .rw [decide_eq_true h1] at b
    exact zqca0
   .rw [decide_eq_false h1,if_neg d_] at b
    by_cases s:(free.length:Int)<=u0
    .rw [decide_eq_true s] at b
     exact zqca0
    .rw [decide_eq_false s,if_neg d_] at b
     have n:u0=(u0.toNat:Int):=o_
     have e:=XB (l:=free) (u:=u0) o_ o_
     generalize (free[u0.toNat]?).getD V3.zero=fv at e b
     have a:=RV fv g.need
     generalize cO fv g.need=q at a b
     by_cases h3:q<w+1
     .rw [decide_eq_true h3] at b
      exact zqca0
     .rw [decide_eq_false h3] at b
      have next:=next b
      rcases z with ⟨rfl,rfl⟩ | rfl
      .refine gV ?_
       refine aT fun h=>?_
       repeat' first | (refine gN hE ?_;conv=>whnf) | refine ⟨i,rfl,?_⟩ | refine ⟨u0.toNat,n,?_⟩ | refine ⟨_,get,?_⟩ | refine ⟨_,e,?_⟩ | refine ⟨_,j,?_⟩ | refine Ai _ (Aa (d _) ?_) | refine .pure _ [] a ?_ | exact rfl | (refine zt ?_;try intro h) | refine zu (fun h=>?_) fun h=>?_ | fail
       exact To.cut [1,4,6,7,9,18,19,20] 1 rfl rfl rfl rfl next
      .refine gV ?_
       refine aT fun h=>?_
       repeat' first | (refine gN hE ?_;conv=>whnf) | refine ⟨i,rfl,?_⟩ | refine ⟨u0.toNat,n,?_⟩ | refine ⟨_,get,?_⟩ | refine ⟨_,e,?_⟩ | refine ⟨_,j,?_⟩ | refine Ai _ (Aa (d _) ?_) | refine .pure _ [] a ?_ | exact rfl | (refine zt ?_;try intro h) | refine zu (fun h=>?_) fun h=>?_ | fail
       exact To.cut [1,4,6,7,9,18,19,20] 1 rfl rfl rfl rfl next
  by_cases F:k=0
  .rw [if_pos F] at x
   exact go 0 o_ ⟨_,x,.inl ⟨rfl,rfl⟩⟩
  .rw [if_neg F] at x
   exact go k rfl ⟨_,x,.inr rfl⟩
theorem H0 {free:List V3} {need:V3} {n h:Int}:plS free need n h=true↔0<=h/\h<(free.length:Int)/\n<=cO ((free[h.toNat]?).getD V3.zero) need:=by
 unfold plS
 by_cases h1:h<0
 .rw [if_pos (decide_eq_true h1)]
  constructor
  .intro q;cases q
  .intro q;omega
 .rw [if_neg (by rw [decide_eq_false h1];decide)]
  by_cases a:(free.length:Int)<=h
  .rw [if_pos (decide_eq_true a)]
   constructor
   .intro q;cases q
   .intro q;omega
  .rw [if_neg (by rw [decide_eq_false a];decide)]
   simp
   omega
theorem R7 {free:List V3} {need:V3}:∀ (l pre:List Int),plB free need pre l=true↔ ∀ u∈l,0<=u/\u<(free.length:Int)/\(((pre++l).count u:Nat):Int)<=cO ((free[u.toNat]?).getD V3.zero) need
 | [],pre=>by simp [plB]
 | h::r,pre=>by
  unfold plB
  rw [Af,H0,R7 r (pre++[h]),Ay]
  show _↔ ∀ u∈h::r,0<=u/\u<(free.length:Int)/\(((pre++h::r).count u:Nat):Int)<=cO ((free[u.toNat]?).getD V3.zero) need
  have e:pre++([h]++r)=pre++h::r:=rfl
  rw [e]
  constructor
  .rintro ⟨⟨a,b,c⟩,d⟩ u f
   by_cases g:u∈r
   .exact d u g
   .rcases Aj.1 f with rfl | f
    .refine ⟨a,b,?_⟩
     rw [Ik,Hi,Ie.2 g]
     simpa using c
    .exact absurd f g
  .intro d
   refine ⟨?_,fun u f=>d u (Ap _ f)⟩
   obtain ⟨a,b,c⟩:=d h (Ak ..)
   refine ⟨a,b,?_⟩
   rw [Ik,Hi] at c
   omega
theorem F8 {free:List V3} {need:V3} {hs:List Int}:CW free need hs=true↔ ∀ u∈hs,0<=u/\u<(free.length:Int)/\((hs.count u:Nat):Int)<=cO ((free[u.toNat]?).getD V3.zero) need:=by
 unfold CW
 rw [Bq]
 have key:∀ u,aA6 free need hs u=plS free need (zH u hs) u:=fun u=>rfl
 constructor
 .intro q u a
  have:=q u a
  rw [key,H0] at this
  have e:zH u hs=((hs.count u:Nat):Int):=by unfold zH;rw [xI];omega
  rw [e] at this
  exact this
 .intro q u a
  rw [key,H0]
  have e:zH u hs=((hs.count u:Nat):Int):=by unfold zH;rw [xI];omega
  rw [e]
  exact q u a
theorem aD4 (l G:List Int):aAR l G=tU G l:=by
 rw [Fz,tT]
 unfold aAR inB
 simp [Ef]
theorem aHf (c:Con) (free:List V3) (g:Gan) (l:List Int) (hl:(l.length:Int)=g.pods):(plB free g.need [] l&&(gpL c g.lev).any (aAR l))=qU c free g l:=by
 unfold qU
 rw [if_pos hl]
 have e:plB free g.need [] l=CW free g.need l:=by
  rw [Fz,R7,F8]
  rfl
 rw [e,Fz,Af,Ef,Ef]
 unfold tM
 simp only [aD4,Af]
 constructor
 .rintro ⟨a,G,b,d⟩
  exact ⟨G,b,d,a⟩
 .rintro ⟨G,b,d,a⟩
  exact ⟨a,G,b,d⟩
theorem aGc (c:Con) (i:c.sm) (free:List V3) (g:Gan) (l:List Int) (hl:l.length<=1048576):aA Tryz.prog 172 [c.av,.slice 3 (vav free) .no,g.av,.slice 1 (iv l) .no] [] (.ret (.bool (qU c free g l))) []:=by
 have a:(iv l).length=l.length:=by simp
 by_cases h1:(l.length:Int)=g.pods
 .have b:=ZV c i free g l hl _ rfl (qU c free g l) l.length 0 [] o_ (fun h=>by simp [aZ]) (aHf c free g l h1)
  have d:((((iv l).length:Nat):Int) !=g.pods)=false:=by rw [a];simp [h1]
  generalize qU c free g l=r at b
  refine c_ Tryz.f172 fun _=>?_
  refine cX hE 16 ?_;conv=>whnf
  refine To.frz [4,6,7] [0,1,2] ?_
  repeat' first | (refine gN hE ?_;conv=>whnf) | refine Aa (fun h=>absurd h (by rw [d];decide)) (fun h=>?_) | exact rfl | (refine zt ?_;try intro h) | refine zu (fun h=>?_) fun h=>?_ | fail
  refine To.part [1,4,6,7,9,18,19,20] [3] rfl rfl rfl ?_
  exact b
 .have d:((((iv l).length:Nat):Int) !=g.pods)=true:=by rw [a];simp [h1]
  have e:qU c free g l=false:=if_neg h1
  rw [e]
  refine c_ Tryz.f172 fun _=>?_
  refine cX hE 16 ?_;conv=>whnf
  refine To.frz [4,6,7] [0,1,2] ?_
  repeat' first | (refine gN hE ?_;conv=>whnf) | refine Aa (fun h=>?_) (fun h=>absurd h (by rw [d];decide)) | exact rfl | (refine zt ?_;try intro h) | refine zu (fun h=>?_) fun h=>?_ | fail
abbrev itP (p:Pn):AVal:=.iface 62 p.av
abbrev itR (r:Rn):AVal:=.iface 44 r.av
abbrev aDN (l:List Pn):List AVal:=l.map itP
abbrev VO (l:List Rn):List AVal:=l.map itR
noncomputable abbrev TB:Func:=Tryz.f123
abbrev alO (s:Sta):List AObj:=[.cells 30 s.cs,.tail 0 1 20]
theorem aET (s:Sta) (j:s.run.length<=1000000) (l:List AVal) (R:List AVal):∀ (m i:Nat) (a:List AVal),i+m=s.run.length->a.length<=1000000+i->a++VO (s.run.drop i)=R->
  To (Eo [3] []) TB (.pure (.ret (.slice 1 R .no))) (.head (stk TB 1) [(1,.ref 0 0),(3,.slice 1 a (.own 1 0)),(22,.slice 14 (rav s.run) .no),(23,.int .i64 ((rav s.run).length:Nat)),(24,ii i)] (alO s)):=by
 have d:(rav s.run).length=s.run.length:=by simp
 intro m
 induction m with
 | zero=>
  intro i a g e b
  rw [Ae o_] at b
  have b:a++[]=R:=b
  rw [Bm] at b
  subst b
  refine gV ?_
  refine aF fun h=>?_
  repeat' first | (refine gN (hEo [3] []) ?_;conv=>whnf) | exact rfl | (refine zt ?_;try intro h) | refine zu (fun h=>?_) fun h=>?_ | fail
 | succ m f=>
  intro i a g e b
  have c:i<s.run.length:=o_
  rw [Ad c] at b
  have get:=cJ c
  generalize s.run[i]=x at b get
  have next:=f (i+1) (a++[itR x]) o_ q_ (by rw [Ay];exact b)
  refine gV ?_
  refine aT fun h=>?_
  repeat' first | (refine gN (hEo [3] []) ?_;conv=>whnf) | refine ⟨i,rfl,?_⟩ | refine ⟨_,get,?_⟩ | refine Aa (Aa (show a.length+1<=maxLen by simp only [maxLen];omega) (show (a.length+1)*16<=140737488355328 by omega)) ?_ | exact rfl | (refine zt ?_;try intro h) | refine zu (fun h=>?_) fun h=>?_ | fail
  refine To.part [1,3,22,23,24] [0,1] rfl rfl rfl ?_
  exact next
theorem aEU (s:Sta) (hp:s.pend.length<=1000000) (e:s.run.length<=1000000) (R:List AVal):∀ (m i:Nat) (a:List AVal),i+m=s.pend.length->a.length<=i->(a++aDN (s.pend.drop i))++VO s.run=R->
  To (Eo [3] []) TB (.pure (.ret (.slice 1 R .no))) (.head (stk TB 0) [(1,.ref 0 0),(3,.slice 1 a (.own 1 0)),(9,.slice 11 (pnv s.pend) .no),(10,.int .i64 ((pnv s.pend).length:Nat)),(11,ii i)] (alO s)):=by
 have d:(pnv s.pend).length=s.pend.length:=by simp
 intro m
 induction m with
 | zero=>
  intro i a j f b
  rw [Ae o_] at b
  have b:(a++[])++VO s.run=R:=b
  rw [Bm] at b
  have next:=aET s e [] R s.run.length 0 a o_ o_ b
  refine gV ?_
  refine aF fun h=>?_
  repeat' first | (refine gN (hEo [3] []) ?_;conv=>whnf) | exact rfl | (refine zt ?_;try intro h) | refine zu (fun h=>?_) fun h=>?_ | fail
  refine To.part [1,3,22,23,24] [0,1] rfl rfl rfl ?_
  exact next
 | succ m g=>
  intro i a j f b
  have c:i<s.pend.length:=o_
  rw [Ad c] at b
  have get:=lR c
  generalize s.pend[i]=x at b get
  have next:=g (i+1) (a++[itP x]) o_ q_ (by rw [Ay a];exact b)
  refine gV ?_
  refine aT fun h=>?_
  repeat' first | (refine gN (hEo [3] []) ?_;conv=>whnf) | refine ⟨i,rfl,?_⟩ | refine ⟨_,get,?_⟩ | refine Aa (Aa (show a.length+1<=maxLen by simp only [maxLen];omega) (show (a.length+1)*16<=140737488355328 by omega)) ?_ | exact rfl | (refine zt ?_;try intro h) | refine zu (fun h=>?_) fun h=>?_ | fail
  refine To.part [1,3,9,10,11] [0,1] rfl rfl rfl ?_
  exact next
theorem aCL (s:Sta) (hp:s.pend.length<=1000000) (a:s.run.length<=1000000):aA Tryz.prog 123 [s.av] [] (.ret (.slice 1 (aDN s.pend++VO s.run) .no)) []:=by
 have next:=aEU s hp a (aDN s.pend++VO s.run) s.pend.length 0 [] o_ s_ rfl
 refine cT (E:=(Eo [3] [])) (fn:=Tryz.f123) (g:=.pure _) fun _=>?_
 refine gV ?_
 refine To.part [1,3,9,10,11] [0,1] rfl rfl rfl ?_
 exact next
theorem Q1 (p:Pn):aA Tryz.prog 124 [itP p] [] (.ret (.tup [p.av,.bool true])) []:=by
 refine c_ Tryz.f124 fun _=>?_
 repeat' first | (refine gN hE ?_;conv=>whnf) | exact rfl | (refine zt ?_;try intro h) | refine zu (fun h=>?_) fun h=>?_ | fail
theorem Q0 (r:Rn):aA Tryz.prog 124 [itR r] [] (.ret (.tup [r.pn.av,.bool true])) []:=by
 refine c_ Tryz.f124 fun _=>?_
 repeat' first | (refine gN hE ?_;conv=>whnf) | exact rfl | (refine zt ?_;try intro h) | refine zu (fun h=>?_) fun h=>?_ | fail
theorem aFu (l:List Rn) (id:Int):aE l [id]=l.filter fun x=>!(x.g.id==id):=by
 unfold aE
 congr 1
 funext x
 simp [inB]
theorem aAP {l:List Hos} {n:Int} (a:0<=n) (h1:n<(l.length:Int)):(hav l)[n.toNat]? =some (aS l n).av:=by
 have h:n.toNat<l.length:=o_
 unfold aS
 rw [Bd,Ab h]
 rfl
theorem WQ {c:Con} {free:List V3} {g:Gan} {l:List Int} (d:free.length=c.hs.length) (hp:1<=g.pods) (h:qU c free g l=true):(iv l)[0]? =some (ii (l.headD 0))/\0<=l.headD 0/\l.headD 0<(c.hs.length:Int):=by
 unfold qU at h
 by_cases hl:(l.length:Int)=g.pods
 .rw [if_pos hl] at h
  cases l with
  | nil=>simp at hl;omega
  | cons u r=>
   rw [Ef] at h
   obtain ⟨G,e,b⟩:=h
   unfold tM at b
   rw [Af] at b
   have a:=F8.1 b.2 u (Ak ..)
   refine ⟨rfl,a.1,?_⟩
   have:=a.2.1
   show u<_
   omega
 .rw [if_neg hl] at h
  cases h
noncomputable abbrev aIf:Func:=Tryz.f127
def rnO (s:Sta) (r:Rn):List AObj:=[.cells 30 s.cs,.cells 44 r.cs]
def aFU (s:Sta) (r:Rn):List AObj:=[.fcells s.cs,.fcells r.cs]
theorem aFT (s:Sta) (r:Rn):frzs [0,1] (rnO s r)=aFU s r:=by kernel_rfl
theorem aCV (s:Sta) (r:Rn):CR [2,3] (aC (aFU s r)) [(2,.ref 0 0),(3,.ref 1 0)]=[(2,.ptr s.cs),(3,.ptr r.cs)]:=by kernel_rfl
theorem RW {g:Goal} {ks:List KI} (s:Sta) (r:Rn) (h:To E aIf g (.code ks [(2,.ptr s.cs),(3,.ptr r.cs)] (aFU s r))):To E aIf g (.code ks [(2,.ref 0 0),(3,.ref 1 0)] (rnO s r)):=by
 refine To.frz [2,3] [0,1] ?_
 rw [aFT,aCV]
 exact h
theorem YB (s:Sta) (r:Rn) (W:List Rn) (F:List V3) (i:Int) (k:Bool) (b:Bool)
  (h1:aA Tryz.prog 44 [r.av] [] (.ret (ii i)) [])
  (d:aA Tryz.prog 171 [.slice 14 (rav s.run) .no,.slice 1 (iv [r.g.id]) .no] [] (.ret (.slice 14 (rav W) .no)) [])
  (h3:aA Tryz.prog 170 [s.c.av,.slice 14 (rav W) .no] [] (.ret (.slice 3 (vav F) .no)) [])
  (l:aA Tryz.prog 172 [s.c.av,.slice 3 (vav F) .no,r.g.av,.slice 1 (iv r.hs) .no] [] (.ret (.bool k)) [])
  (n:k=true->(iv r.hs)[0]? =some (ii (r.hs.headD 0))/\0<=r.hs.headD 0/\(hav s.c.hs)[(r.hs.headD 0).toNat]? =some (aS s.c.hs (r.hs.headD 0)).av)
  (a:(decide ((r.at'<=r.st/\r.st<=s.now)/\s.now<i)&&(k&&decide ((aS s.c.hs (r.hs.headD 0)).f=r.fl)))=b):
  aA Tryz.prog 127 [s.av,r.av] [] (.ret (.bool b)) []:=by
 have d:aA Tryz.prog 171 [.slice 14 (rav s.run) .no,.slice 1 (iv [r.g.id]) .full] [] (.ret (.slice 14 (rav W) .no)) []:=aA.strip d
 cases k with
 | true=>
  obtain ⟨m,j,e⟩:=n rfl
  generalize r.hs.headD 0=u at m j e a
  generalize aS s.c.hs u=y at e a
  refine c_ Tryz.f127 fun _=>?_
  refine cX hE 13 ?_;conv=>whnf
  refine To.cutC [2,3] 2 rfl rfl rfl rfl ?_
  refine RW s r ?_
  repeat' first | (refine gN hE ?_;conv=>whnf) | refine .pure _ [] h1 ?_ | refine .pure _ [] d ?_ | refine .pure _ [] h3 ?_ | refine .pure _ [] l ?_ | refine ⟨0,rfl,?_⟩ | refine ⟨_,m,?_⟩ | refine Ai u.toNat (Aa (by simp only [Hw j]) ?_) | refine ⟨_,e,?_⟩ | exact rfl | (refine zt ?_;try intro h) | refine zu (fun h=>?_) fun h=>?_ | fail
  all_goals
   exact zqca5
 | false=>
  refine c_ Tryz.f127 fun _=>?_
  refine cX hE 13 ?_;conv=>whnf
  refine To.cutC [2,3] 2 rfl rfl rfl rfl ?_
  refine RW s r ?_
  repeat' first | (refine gN hE ?_;conv=>whnf) | refine .pure _ [] h1 ?_ | refine .pure _ [] d ?_ | refine .pure _ [] h3 ?_ | refine .pure _ [] l ?_ | exact rfl | (refine zt ?_;try intro h) | refine zu (fun h=>?_) fun h=>?_ | fail
  all_goals
   exact zqca5
theorem aCM (s:Sta) (a:s.c.sm) (hs:Sm s.run) (r:Rn) (hp:1<=r.g.pods) (h:r.hs.length<=1048576):aA Tryz.prog 127 [s.av,r.av] [] (.ret (.bool (rnB s r))) []:=by
 have k:=nV hs [r.g.id]
 have m:=NE s.run hs [r.g.id] s_
 have h3:=S3 s.c a (aE s.run [r.g.id]) k
 have i:=CT s.c (aE s.run [r.g.id])
 have l:=aGc s.c a (fR s.c (aE s.run [r.g.id])) r.g r.hs h
 refine YB s r _ _ _ _ _ (aBr r) m h3 l (fun j=>?_) ?_
 .obtain ⟨e,b,d⟩:=WQ i hp j
  exact ⟨e,b,aAP b d⟩
 .rw [aFu]
  rfl
noncomputable abbrev pN:Func:=Tryz.f77
def aEY (es:List (List Int×AVal)) (l:List Int):Prop:=∀ h:Int,aZ es [h]=if l.contains h=true then some (.bool true) else none
theorem LJ {es:List (List Int×AVal)} {l:List Int} (hm:aEY es l) (h:Int):aEY (jC es [h] (.bool true)) (h::l):=fun x=>by
 rw [wR,List.contains_cons]
 by_cases a:h=x
 .subst a;simp
 .have b:(x==h)=false:=by simp;exact fun q=>a q.symm
  rw [if_neg (by simpa using a),hm x,b,Jm]
def ggO (s:Sta):List AObj:=[.cells 30 s.cs]
def aGM (s:Sta):List AObj:=[.fcells s.cs]
theorem aGL (s:Sta):frzs [0] (ggO s)=aGM s:=by kernel_rfl
theorem aD9 (s:Sta):CR [1] (aC (aGM s)) [(1,.ref 0 0)]=[(1,.ptr s.cs)]:=by kernel_rfl
theorem aD7 {g:Goal} {ks:List KI} (s:Sta) (h:To (Er [] [64,65,66]) pN g (.code ks [(1,.ptr s.cs)] (aGM s))):To (Er [] [64,65,66]) pN g (.code ks [(1,.ref 0 0)] (ggO s)):=by
 refine To.frz [1] [0] ?_
 rw [aGL,aD9]
 exact h
abbrev ggF (s:Sta) (xs:List AVal) (i:Int):List (Nat×AVal):=[(1,.ptr s.cs),(3,.mref 0),(4,.mref 1),(14,.slice 1 xs .no),(15,.int .i64 (xs.length:Nat)),(16,ii i)]
def gbF (s:Sta) (xs:List AVal) (i:Int) (x:AVal):List (Nat×AVal):=[(1,.ptr s.cs),(3,.mref 0),(4,.mref 1),(6,x),(7,.ref 2 0),(14,.slice 1 xs .no),(15,.int .i64 (xs.length:Nat)),(16,ii i)]
def aIa (s:Sta) (xs:List AVal) (i:Int) (x:AVal) (p:Pn):List (Nat×AVal):=[(1,.ptr s.cs),(3,.mref 0),(4,.mref 1),(6,x),(7,.ptr p.cs),(14,.slice 1 xs .no),(15,.int .i64 (xs.length:Nat)),(16,ii i)]
abbrev Ent:Type:=List (List Int×AVal)
def gbO (b a:Ent) (p:Pn):List AObj:=[.mp false b,.mp false a,.cells 62 p.cs]
def aGP (b a:Ent) (p:Pn):List AObj:=[.mp false b,.mp false a,.fcells p.cs]
theorem aGO (b a:Ent) (p:Pn):frzs [2] (gbO b a p)=aGP b a p:=by kernel_rfl
theorem aEa (s:Sta) (xs:List AVal) (i:Int) (x:AVal) (b a:Ent) (p:Pn):CR [7] (aC (aGP b a p)) (gbF s xs i x)=aIa s xs i x p:=by kernel_rfl
theorem rT {g:Goal} {ks:List KI} {s:Sta} {xs:List AVal} {i:Int} {x:AVal} {b a:Ent} (p:Pn) (h:To (Er [] [64,65,66]) pN g (.code ks (aIa s xs i x p) (aGP b a p))):To (Er [] [64,65,66]) pN g (.code ks (gbF s xs i x) (gbO b a p)):=by
 refine To.frz [7] [2] ?_
 rw [aGO,aEa]
 exact h
def gcB (s:Sta) (p:Pn) (b a:Bool) (G:Int) (N Q:Bool):Bool:=!b&&(!a&&(decide ((0<=p.seq/\p.seq<s.nxt)/\0<=p.at'/\p.at'<=s.now)&&(decide (G=0)&&(!N&&Q))))
theorem ggP (s:Sta) (xs:List AVal) (m:xs.length<=1048576) (i:Nat) (t:i<xs.length) (p:Pn) (get:xs[i]? =some (itP p)) (e j:Ent) (l:aZ e [p.g.id]=none) (n:aZ j [p.seq]=none) (G:Int) (N b:Bool)
  (r:aA Tryz.prog 125 [s.c.av,p.g.av] [] (.ret (ii G)) []) (k:G=0->aA Tryz.prog 126 [s.c.av,p.g.av] [] (.ret (.bool N)) [])
  (d:gcB s p false false G N true=false->b=false)
  (a:gcB s p false false G N true=true->To (Er [] [64,65,66]) pN (.pure (.ret (.bool b))) (.head (stk pN 0) (ggF s xs ((i:Int)+1)) [.mp false (jC e [p.g.id] (.bool true)),.mp false (jC j [p.seq] (.bool true))])):
  To (Er [] [64,65,66]) pN (.pure (.ret (.bool b))) (.head (stk pN 0) (ggF s xs (i:Int)) [.mp false e,.mp false j]):=by
 have o:=Q1 p
 cases N<;>skip
 all_goals
  refine gV ?_
  refine aT fun h=>?_
  refine gV ?_
  refine ⟨i,rfl,?_⟩
  refine gV ?_
  refine ⟨_,get,?_⟩
  refine gV ?_
  refine .pure _ [] o ?_
  refine cX (hEr [] [64,65,66]) 20 ?_;conv=>whnf
  refine To.cutC [1,3,4,6,7,14,15,16] 3 rfl rfl rfl rfl ?_
  refine rT p ?_
  repeat' first | (refine gN (hEr [] [64,65,66]) ?_;conv=>whnf) | refine ⟨_,l,?_⟩ | refine ⟨_,n,?_⟩ | refine .pure _ [] r ?_ | refine .pure _ [] (k (by simpa using ‹(G !=0)=false›)) ?_ | exact rfl | (refine zt ?_;try intro h) | refine zu (fun h=>?_) fun h=>?_ | fail
  all_goals (try (
   refine congrArg (fun q=>Res.ret (AVal.bool q)) (d ?_).symm
   clear d a
   simp only [decide_eq_true_eq,decide_eq_false_iff_not,bne_iff_ne,ne_eq,bne_eq_false_iff_eq,Dm] at *
   simp [gcB]
   try omega))
  all_goals
   exact zqca4
theorem ggR (s:Sta) (xs:List AVal) (n:xs.length<=1048576) (i:Nat) (v:i<xs.length) (r:Rn) (p:Pn) (hp:r.pn=p) (get:xs[i]? =some (itR r)) (e j:Ent) (m:aZ e [p.g.id]=none) (o:aZ j [p.seq]=none) (G:Int) (N Q b:Bool)
  (u:aA Tryz.prog 125 [s.c.av,p.g.av] [] (.ret (ii G)) []) (l:G=0->aA Tryz.prog 126 [s.c.av,p.g.av] [] (.ret (.bool N)) [])
  (t:G=0->aA Tryz.prog 127 [s.av,r.av] [] (.ret (.bool Q)) [])
  (d:gcB s p false false G N Q=false->b=false)
  (a:gcB s p false false G N Q=true->To (Er [] [64,65,66]) pN (.pure (.ret (.bool b))) (.head (stk pN 0) (ggF s xs ((i:Int)+1)) [.mp false (jC e [p.g.id] (.bool true)),.mp false (jC j [p.seq] (.bool true))])):
  To (Er [] [64,65,66]) pN (.pure (.ret (.bool b))) (.head (stk pN 0) (ggF s xs (i:Int)) [.mp false e,.mp false j]):=by
 have k:=Q0 r
 rw [hp] at k
 cases N<;>cases Q
 all_goals
  refine gV ?_
  refine aT fun h=>?_
  refine gV ?_
  refine ⟨i,rfl,?_⟩
  refine gV ?_
  refine ⟨_,get,?_⟩
  refine gV ?_
  refine .pure _ [] k ?_
  refine cX (hEr [] [64,65,66]) 20 ?_;conv=>whnf
  refine To.cutC [1,3,4,6,7,14,15,16] 3 rfl rfl rfl rfl ?_
  refine rT p ?_
  repeat' first | (refine gN (hEr [] [64,65,66]) ?_;conv=>whnf) | refine ⟨_,m,?_⟩ | refine ⟨_,o,?_⟩ | refine .pure _ [] u ?_ | refine .pure _ [] (l (by simpa using ‹(G !=0)=false›)) ?_ | refine .pure _ [] (t (by simpa using ‹(G !=0)=false›)) ?_ | exact rfl | (refine zt ?_;try intro h) | refine zu (fun h=>?_) fun h=>?_ | fail
  all_goals (try (
   refine congrArg (fun q=>Res.ret (AVal.bool q)) (d ?_).symm
   clear d a
   simp only [decide_eq_true_eq,decide_eq_false_iff_not,bne_iff_ne,ne_eq,bne_eq_false_iff_eq,Dm] at *
   simp [gcB]
   try omega))
  all_goals
   exact zqca4
theorem aH9 (s:Sta) (xs:List AVal) (e:xs.length<=1048576) (i:Nat) (j:i<xs.length) (p:Pn) (get:xs[i]? =some (itP p)) (a b:Ent) (m:aZ a [p.g.id]=some (.bool true)\/aZ a [p.g.id]=none/\aZ b [p.seq]=some (.bool true)):
  To (Er [] [64,65,66]) pN (.pure (.ret (.bool false))) (.head (stk pN 0) (ggF s xs (i:Int)) [.mp false a,.mp false b]):=by
 have d:=Q1 p
 exact zqca1
theorem aH8 (s:Sta) (xs:List AVal) (e:xs.length<=1048576) (i:Nat) (j:i<xs.length) (r:Rn) (p:Pn) (hp:r.pn=p) (get:xs[i]? =some (itR r)) (a b:Ent) (m:aZ a [p.g.id]=some (.bool true)\/aZ a [p.g.id]=none/\aZ b [p.seq]=some (.bool true)):
  To (Er [] [64,65,66]) pN (.pure (.ret (.bool false))) (.head (stk pN 0) (ggF s xs (i:Int)) [.mp false a,.mp false b]):=by
 have d:=Q0 r
 rw [hp] at d
 exact zqca1
inductive It where
 | p (x:Pn)
 | r (x:Rn)
def It.av:It->AVal
 | .p x=>itP x
 | .r x=>itR x
def It.pn:It->Pn
 | .p x=>x
 | .r x=>x.pn
def It.q (s:Sta):It->Bool
 | .p _=>true
 | .r x=>rnB s x
def It.sm:It->Prop
 | .p _=>True
 | .r x=>x.hs.length<=1048576
def gaB (s:Sta):List Int->List Int->List It->Bool
 | _,_,[]=>true
 | a,b,x::l=>gcB s x.pn (a.contains x.pn.g.id) (b.contains x.pn.seq) (dQ s.c x.pn.g) (bX s.c [] x.pn.g).isNone (x.q s)&&gaB s (x.pn.g.id::a) (x.pn.seq::b) l
theorem CQ {c:Con} {g:Gan} (h:dQ c g=0):1<=g.pods/\g.pods<=16:=by
 obtain ⟨h1,_⟩:=nE.1 h
 unfold EL at h1
 rw [Af] at h1
 have:=of_decide_eq_true h1.1
 omega
theorem aD8 (s:Sta) (B:s.c.sm) (hs:Sm s.run) (l:List It) (hl:l.length<=1048576) (v:∀ x∈l,x.sm) (b:Bool):∀ (m i:Nat) (a d:Ent) (f j:List Int),i+m=l.length->aEY a f->aEY d j->gaB s f j (l.drop i)=b->
  To (Er [] [64,65,66]) pN (.pure (.ret (.bool b))) (.head (stk pN 0) (ggF s (l.map It.av) (i:Int)) [.mp false a,.mp false d]):=by
 have F:(l.map It.av).length=l.length:=by simp
 intro m
 induction m with
 | zero=>
  intro i a d f j G h1 w e
  rw [Ae o_] at e
  have e:true=b:=e
  subst e
  refine gV ?_
  refine aF fun h=>?_
  repeat' first | (refine gN (hEr [] [64,65,66]) ?_;conv=>whnf) | exact rfl | (refine zt ?_;try intro h) | refine zu (fun h=>?_) fun h=>?_ | fail
 | succ m u=>
  intro i a d f j G h1 w e
  have n:i<l.length:=o_
  rw [Ad n] at e
  have get:(l.map It.av)[i]? =some (l[i].av):=by simp [n]
  have A:=v l[i] (Bg n)
  have u:=fun a d f j=>u (i+1) a d f j o_
  generalize l[i]=x at e get A
  have e:(gcB s x.pn (f.contains x.pn.g.id) (j.contains x.pn.seq) (dQ s.c x.pn.g) (bX s.c [] x.pn.g).isNone (x.q s)&&gaB s (x.pn.g.id::f) (x.pn.seq::j) (l.drop (i+1)))=b:=e
  have k:=h1 x.pn.g.id
  have t:=w x.pn.seq
  have next:=u _ _ (x.pn.g.id::f) (x.pn.seq::j) (LJ h1 x.pn.g.id) (LJ w x.pn.seq)
  generalize gaB s (x.pn.g.id::f) (x.pn.seq::j) (l.drop (i+1))=R at e next
  cases z:f.contains x.pn.g.id with
  | true=>
   rw [z] at e k
   have e:false=b:=by rw [<-e];rfl
   subst e
   cases x with
   | p x=>exact aH9 s _ o_ i o_ x get a d (.inl k)
   | r x=>exact aH8 s _ o_ i o_ x x.pn rfl get a d (.inl k)
  | false=>
   rw [z] at e k
   cases C:j.contains x.pn.seq with
   | true=>
    rw [C] at e t
    have e:false=b:=by rw [<-e];rfl
    subst e
    cases x with
    | p x=>exact aH9 s _ o_ i o_ x get a d (.inr ⟨k,t⟩)
    | r x=>exact aH8 s _ o_ i o_ x x.pn rfl get a d (.inr ⟨k,t⟩)
   | false=>
    rw [C] at e t
    have D:=X5 s.c x.pn.g
    have y:=fun h:dQ s.c x.pn.g=0=>aAk s.c B x.pn.g (by have:=CQ h;omega)
    cases x with
    | p x=>
     refine ggP s _ o_ i o_ x get a d k t _ _ b D y (fun o=>?_) (fun o=>?_)
     .exact e.symm.trans (congrArg (fun q:Bool=>q&&R) o)
     .exact next ((congrArg (fun q:Bool=>q&&R) o).symm.trans e)
    | r x=>
     have H:=fun h:dQ s.c x.pn.g=0=>aCM s B hs x (CQ (g:=x.g) h).1 A
     refine ggR s _ o_ i o_ x x.pn rfl get a d k t _ _ _ b D y H (fun o=>?_) (fun o=>?_)
     .exact e.symm.trans (congrArg (fun q:Bool=>q&&R) o)
     .exact next ((congrArg (fun q:Bool=>q&&R) o).symm.trans e)
def pM (s:Sta):List It:=s.pend.map It.p++s.run.map It.r
theorem aGB (s:Sta):(pM s).map It.av=aDN s.pend++VO s.run:=by
 unfold pM
 rw [Bl,Cu,Cu]
 rfl
theorem aAW (s:Sta) (j:s.c.sm) (hp:s.pend.length<=1000) (k:s.run.length<=1000) (hs:Sm s.run):aA Tryz.prog 77 [s.av] [] (.ret (.bool (gaB s [] [] (pM s)))) []:=by
 have d:=aCL s o_ o_
 rw [<-aGB] at d
 have e:(pM s).length<=2000:=by unfold pM;simp;omega
 have next:=aD8 s j hs (pM s) o_ (fun x a=>by
  unfold pM at a
  rw [Ao,Bb,Bb] at a
  rcases a with ⟨y,_,rfl⟩ | ⟨y,i,rfl⟩
  .trivial
  .exact hs.2 y i) _ (pM s).length 0 [] [] [] [] o_ (fun h=>rfl) (fun h=>rfl) rfl
 rw [Bx] at next
 generalize (pM s).map It.av=xs at d next
 generalize gaB s [] [] (pM s)=b at next
 refine cT (E:=(Er [] [64,65,66])) (fn:=Tryz.f77) (g:=.pure _) fun _=>?_
 refine cX (hEr [] [64,65,66]) 10 ?_;conv=>whnf
 refine To.cutC [1] 1 rfl rfl rfl rfl ?_
 refine aD7 s ?_
 repeat' first | (refine gN (hEr [] [64,65,66]) ?_;conv=>whnf) | refine .pure _ [] d ?_ | exact rfl | (refine zt ?_;try intro h) | refine zu (fun h=>?_) fun h=>?_ | fail
 refine To.part [1,3,4,14,15,16] [1,2] rfl rfl rfl ?_
 exact next
theorem aGN (s:Sta) (p:Pn) (q e d:Bool):gcB s p e d (dQ s.c p.g) (bX s.c [] p.g).isNone q=(!e&&(!d&&(pnB s p&&q))):=by
 unfold gcB pnB
 generalize decide (dQ s.c p.g=0)=a
 generalize (bX s.c [] p.g).isNone=b
 generalize decide ((0<=p.seq/\p.seq<s.nxt)/\0<=p.at'/\p.at'<=s.now)=c
 cases e<;>cases d<;>cases a<;>cases b<;>cases c<;>cases q<;>rfl
theorem S0 (s:Sta):∀ (l:List It) (a b:List Int),gaB s a b l=true↔(∀ x∈l,(pnB s x.pn&&x.q s)=true)/\((l.map fun x=>x.pn.g.id).Nodup/\∀ x∈l,x.pn.g.id∉a)/\((l.map fun x=>x.pn.seq).Nodup/\∀ x∈l,x.pn.seq∉b)
 | [],a,b=>by simp [gaB]
 | x::r,a,b=>by
  unfold gaB
  rw [aGN,Af,S0 s r]
  simp only [Af,Co,List.contains_eq_mem,decide_eq_false_iff_not,Bk,Bp,Aj,forall_eq_or_imp,not_or,Bb,not_exists,not_and]
  constructor
  .rintro ⟨⟨h1,k,h3⟩,j,⟨i,d⟩,h,f⟩
   exact ⟨⟨h3,j⟩,⟨⟨fun y c e=>(d y c).1 e,i⟩,h1,fun y c=>(d y c).2⟩,⟨fun y c e=>(f y c).1 e,h⟩,k,fun y c=>(f y c).2⟩
  .rintro ⟨⟨h3,j⟩,⟨⟨d,i⟩,h1,n⟩,⟨f,h⟩,k,m⟩
   exact ⟨⟨h1,k,h3⟩,j,⟨i,fun y c=>⟨fun e=>d y c e,n y c⟩⟩,h,fun y c=>⟨fun e=>f y c e,m y c⟩⟩
theorem aGQ (s:Sta):gaB s [] [] (pM s)=((s.pend.all (pnB s)&&s.run.all fun r=>pnB s r.pn&&rnB s r)&&(decide (ids s).Nodup&&decide (seqs s).Nodup)):=by
 rw [Fz,S0]
 have c:((pM s).map fun x=>x.pn.g.id)=ids s:=by
  unfold pM ids
  rw [Bl,Cu,Cu]
  rfl
 have d:((pM s).map fun x=>x.pn.seq)=seqs s:=by
  unfold pM seqs
  rw [Bl,Cu,Cu]
  rfl
 rw [c,d]
 simp only [Hr,not_false_eq_true,implies_true,and_true,Af,decide_eq_true_eq,Bq]
 have e3:(∀ x∈pM s,pnB s x.pn=true/\x.q s=true)↔(∀ x∈s.pend,pnB s x=true)/\∀ x∈s.run,pnB s x.pn=true/\rnB s x=true:=by
  unfold pM
  constructor
  .intro h
   exact ⟨fun x a=>(h (.p x) (Cd _ (Ca a))).1,fun x a=>h (.r x) (Cp _ (Ca a))⟩
  .rintro ⟨h1,e⟩ x a
   rw [Ao,Bb,Bb] at a
   rcases a with ⟨y,b,rfl⟩ | ⟨y,b,rfl⟩
   .exact ⟨h1 y b,rfl⟩
   .exact e y b
 rw [e3]
noncomputable abbrev aEj:Func:=Tryz.f78
def quO (s:Sta):List AObj:=[.cells 30 s.cs]
def aF9 (s:Sta):List AObj:=[.fcells s.cs]
theorem aF8 (s:Sta):frzs [0] (quO s)=aF9 s:=by kernel_rfl
theorem aDa (s:Sta):CR [1] (aC (aF9 s)) [(1,.ref 0 0)]=[(1,.ptr s.cs)]:=by kernel_rfl
theorem aC8 {g:Goal} {ks:List KI} (s:Sta) (h:To E aEj g (.code ks [(1,.ptr s.cs)] (aF9 s))):To E aEj g (.code ks [(1,.ref 0 0)] (quO s)):=by
 refine To.frz [1] [0] ?_
 rw [aF8,aDa]
 exact h
theorem aC9 (s:Sta) (l:s.c.sm) (U:List V3) (x:U.length=s.c.ns.length) (q:∀ i:Nat,i<U.length->(vav U)[i]? =some (atV U (i:Int)).av) (b:Bool):∀ (m i:Nat),i+m=U.length->((Gx i m).all fun i:Nat=>bK (atV U (i:Int)) (pE s.c (i:Int)))=b->
  To E aEj (.pure (.ret (.bool b))) (.head (stk aEj 0) [(1,.ptr s.cs),(10,.slice 3 (vav U) .no),(11,.int .i64 ((vav U).length:Nat)),(12,ii (i:Int))] []):=by
 have p:(vav U).length=U.length:=by simp
 have h1:=l.ns
 intro m
 induction m with
 | zero=>
  intro i t a
  have a:true=b:=a
  subst a
  refine gV ?_
  refine aF fun h=>?_
  repeat' first | (refine gN hE ?_;conv=>whnf) | exact rfl | (refine zt ?_;try intro h) | refine zu (fun h=>?_) fun h=>?_ | fail
 | succ m r=>
  intro i t a
  have j:i<U.length:=o_
  have a:(bK (atV U (i:Int)) (pE s.c (i:Int))&&((Gx (i+1) m).all fun i:Nat=>bK (atV U (i:Int)) (pE s.c (i:Int))))=b:=a
  have next:=r (i+1) o_
  generalize ((Gx (i+1) m).all fun i:Nat=>bK (atV U (i:Int)) (pE s.c (i:Int)))=R at a next
  have get:=q i j
  have k:=uS (c:=s.c) (n:=(i:Int)) ⟨by omega,by omega⟩
  have e:=aAe s.c l (i:Int)
  have hl:=oM s.c (i:Int)
  unfold pE at a
  generalize atV U (i:Int)=u at a get
  generalize bN s.c.ns (i:Int)=y at a k
  generalize gE s.c.ns (i:Int) (jP s.c.ns)=v at a e
  cases o:aU s.c.ns (i:Int) with
  | true=>
   rw [o] at a hl
   have g:=jK v y.b
   have a:(bK u (dL v y.b)&&R)=b:=a
   generalize dL v y.b=w at g a
   have d:=AO u w
   cases f:bK u w with
   | true=>
    rw [f] at a d
    have next:=next a
    refine gV ?_
    refine aT fun h=>?_
    repeat' first | (refine gN hE ?_;conv=>whnf) | refine ⟨i,rfl,?_⟩ | refine ⟨_,get,?_⟩ | refine .pure _ [] e ?_ | refine .pure _ [] hl ?_ | refine ⟨_,k,?_⟩ | refine .pure _ [] g ?_ | refine .pure _ [] d ?_ | exact rfl | (refine zt ?_;try intro h) | refine zu (fun h=>?_) fun h=>?_ | fail
    exact zqca10
   | false=>
    rw [f] at a d
    have a:false=b:=a
    subst a
    refine gV ?_
    refine aT fun h=>?_
    repeat' first | (refine gN hE ?_;conv=>whnf) | refine ⟨i,rfl,?_⟩ | refine ⟨_,get,?_⟩ | refine .pure _ [] e ?_ | refine .pure _ [] hl ?_ | refine ⟨_,k,?_⟩ | refine .pure _ [] g ?_ | refine .pure _ [] d ?_ | exact rfl | (refine zt ?_;try intro h) | refine zu (fun h=>?_) fun h=>?_ | fail
  | false=>
   rw [o] at a hl
   have a:(bK u v&&R)=b:=a
   have d:=AO u v
   cases f:bK u v with
   | true=>
    rw [f] at a d
    have next:=next a
    refine gV ?_
    refine aT fun h=>?_
    repeat' first | (refine gN hE ?_;conv=>whnf) | refine ⟨i,rfl,?_⟩ | refine ⟨_,get,?_⟩ | refine .pure _ [] e ?_ | refine .pure _ [] hl ?_ | refine .pure _ [] d ?_ | exact rfl | (refine zt ?_;try intro h) | refine zu (fun h=>?_) fun h=>?_ | fail
    exact zqca10
   | false=>
    rw [f] at a d
    have a:false=b:=a
    subst a
    refine gV ?_
    refine aT fun h=>?_
    repeat' first | (refine gN hE ?_;conv=>whnf) | refine ⟨i,rfl,?_⟩ | refine ⟨_,get,?_⟩ | refine .pure _ [] e ?_ | refine .pure _ [] hl ?_ | refine .pure _ [] d ?_ | exact rfl | (refine zt ?_;try intro h) | refine zu (fun h=>?_) fun h=>?_ | fail
theorem aAc (c:Con) (l:List Rn):(ofL c l).length=c.ns.length:=by unfold ofL lL;simp
theorem U4 (s:Sta) (b:s.c.sm) (j:s.run.length<=1048576):aA Tryz.prog 78 [s.av] [] (.ret (.bool (HY s))) []:=by
 have a:=aAa s.c b s.run j
 have d:=aAc s.c s.run
 have next:=aC9 s b (ofL s.c s.run) d (fun i k=>by
  have:=aCo (c:=s.c) (l:=s.run) (n:=(i:Int)) ⟨by omega,by omega⟩
  rw [Dl] at this
  exact this) _ (ofL s.c s.run).length 0 o_ rfl
 have e:((Gx 0 (ofL s.c s.run).length).all fun i:Nat=>bK (atV (ofL s.c s.run) (i:Int)) (pE s.c (i:Int)))=HY s:=by
  unfold HY
  rw [d,Gm]
 rw [e] at next
 generalize HY s=q at next
 generalize ofL s.c s.run=U at a next
 refine c_ Tryz.f78 fun _=>?_
 refine cX hE 10 ?_;conv=>whnf
 refine To.cutC [1] 1 rfl rfl rfl rfl ?_
 refine aC8 s ?_
 repeat' first | (refine gN hE ?_;conv=>whnf) | refine .pure _ [] a ?_ | exact rfl | (refine zt ?_;try intro h) | refine zu (fun h=>?_) fun h=>?_ | fail
 exact zqca10
def B2 (s:Sta):Prop:=(0<=s.now/\s.now<=1099511627776)/\(1<=s.nxt/\s.nxt<=1099511627776)/\s.hist.length=s.c.ns.length/\s.pend.length+s.run.length<=32
instance (s:Sta):Decidable (B2 s):=by unfold B2;infer_instance
theorem NY (s:Sta) (e:Bool) (k:Int) (q g u:Bool) (b:Int)
  (p:aA Tryz.prog 74 [s.c.av] [] (.ret (.bool e)) [])
  (o:aA Tryz.prog 75 [s.c.av] [] (.ret (ii k)) [])
  (r:s.pend.length+s.run.length<=32->aA Tryz.prog 76 [.slice 11 (pnv s.pend) .no] [] (.ret (.bool q)) [])
  (i:s.pend.length+s.run.length<=32->aA Tryz.prog 77 [s.av] [] (.ret (.bool g)) [])
  (m:s.pend.length+s.run.length<=32->aA Tryz.prog 78 [s.av] [] (.ret (.bool u)) [])
  (l:(if (((e||decide (k=0))&&decide (B2 s))&&(q&&(g&&u)))=true then 0 else 1)=b):
  aA Tryz.prog 43 [s.av] [] (.ret (ii b)) []:=by
 have j:(pnv s.pend).length=s.pend.length:=by simp
 have d:(rav s.run).length=s.run.length:=by simp
 have t:(fv s.hist).length=s.hist.length:=by simp
 have v:(nav s.c.ns).length=s.c.ns.length:=by simp
 refine c_ Tryz.f43 fun _=>?_
 repeat' first | (refine gN hE ?_;conv=>whnf) | refine Gy (Aa (Aa (by simp only [bW,decide_eq_true_eq] at *;omega) (by simp only [bI,decide_eq_true_eq] at *;omega)) ?_) | refine .pure _ [] p ?_ | refine .pure _ [] o ?_ | refine .pure _ [] (r (by simp only [decide_eq_true_eq,decide_eq_false_iff_not,Co,Ig] at *;omega)) ?_ | refine .pure _ [] (i (by simp only [decide_eq_true_eq,decide_eq_false_iff_not,Co,Ig] at *;omega)) ?_ | refine .pure _ [] (m (by simp only [decide_eq_true_eq,decide_eq_false_iff_not,Co,Ig] at *;omega)) ?_ | exact rfl | (refine zt ?_;try intro h) | refine zu (fun h=>?_) fun h=>?_ | fail
 all_goals
  subst l
  refine congrArg (fun n=>Res.ret (AVal.int .i64 n)) ?_
  simp only [decide_eq_true_eq,decide_eq_false_iff_not,Co,Ig,beq_iff_eq,beq_eq_false_iff_ne,ne_eq] at *
  first
  | (exfalso;omega)
  | (by_cases a:B2 s
     .rw [decide_eq_true a]
      unfold B2 at a
      first
      | (exfalso;omega)
      | simp [*]
     .rw [decide_eq_false a]
      first
      | (exfalso;unfold B2 at a;omega)
      | simp)
theorem UI (s:Sta) (a:s.c.sm) (hs:Sm s.run):aA Tryz.prog 43 [s.av] [] (.ret (ii (if tL s=true then 0 else 1))) []:=by
 refine NY s (dP s.c) (bC s.c) (yU s.pend) (gaB s [] [] (pM s)) (HY s) _ (qS s.c) (VA s.c a) (fun h=>?_) (fun h=>aAW s a o_ o_ hs) (fun h=>U4 s a o_) ?_
 .have:=Q2.check_ok (s.pend.map Pn.q) (by rw [Ck];omega)
  rw [uN] at this
  exact this
 .rw [aGQ]
  unfold tL SV B2
  congr 1
  simp only [Ge]
end Go.Proofs.YtlanfgblaebddaaGreat
