/-
  The row of those that wait; which states may be, as walks.
-/
import Derived.Test.YtmalnhgopkfdaaaGreatCAD
set_option linter.all false
set_option maxHeartbeats 1000000
open And renaming intro->Aa
open Bool renaming and_assoc->Gv,and_eq_true->Ad,and_false->Bo,and_true->Ga,eq_iff_iff->Fa,false_and->Ce,false_or->Ji,not_eq_false'->De,not_eq_true'->Cb,true_and->Bt
open Decidable renaming not_not->Dl
open Exists renaming intro->Al
open Int renaming le_refl->Gi,toNat_natCast->Br,toNat_of_nonneg->Fq
open List renaming all_cons->Dq,all_eq_true->Cl,any_cons->Gb,any_eq_true->Gm,append_assoc->Aj,append_nil->Ay,count_append->Jb,count_cons_self->Hv,drop_eq_getElem_cons->Ae,drop_eq_nil_of_le->Af,drop_zero->Db,foldl_cons->Bi,getElem?_eq_getElem->Ac,getElem?_map->Bb,getElem_mem->Bn,length_map->Cv,map_append->Cf,map_cons->Cn,map_map->Fb,mem_append->Ba,mem_append_left->Hw,mem_append_right->Hh,mem_cons->Bh,mem_cons_of_mem->Co,mem_cons_self->Bl,mem_map->Cy,nodup_cons->Dr,not_mem_nil->Fs,range->Dc,range'->Eh,range_eq_range'->Eu,take_add_one->Gw
open Nat renaming add_zero->Dk,le_trans->Cx
open Or renaming inl->Em
namespace Go.Proofs.YtmalnhgopkfdaaaGreat.Q2
open Go Go.AW Go.Proofs
structure Pend where
 (id tenant pods n0 n1 n2 run level prefer seq since:Int)
 deriving DecidableEq
def Pend.cs (p:Pend):List AVal:=[.int .i64 p.id,.int .i64 p.tenant,.int .i64 p.pods,.int .i64 p.n0,.int .i64 p.n1,.int .i64 p.n2,.int .i64 p.run,.int .i64 p.level,.int .i64 p.prefer,.int .i64 p.seq,.int .i64 p.since]
def Pend.av (p:Pend):AVal:=.agg p.cs
abbrev pav (l:List Pend):List AVal:=l.map Pend.av
theorem MT {n:Int} (h1: -9223372036854775808<=n) (h2:n<=9223372036854775807):inR .i64 n:=⟨by simp only [cC];omega,by simp only [bF];omega⟩
def idx (p:Pend->Bool):List Pend->Int->Int
 | [],_=> -1
 | x::r,i=>if p x then i else idx p r (i+1)
def gF (a:Int) (l:List Pend):Int:=idx (fun x=>x.id==a) l 0
theorem gV {l:List Pend} {i:Nat} (h:i<l.length):(pav l)[i]? =some l[i].av:=by
 simp [pav,h]
set_option maxRecDepth 10000
theorem aBM (p:Pend):aA Tryz.prog 217 [p.av] [] (.ret (.int .i64 p.id)) []:=by
 refine cT (E:=E) (fn:=Tryz.f217) (g:=.pure _) fun _=>?_
 refine gW hE ?_;conv=>whnf
theorem OP (p:Pend):aA Tryz.prog 218 [p.av] [] (.ret (.int .i64 p.seq)) []:=by
 refine cT (E:=E) (fn:=Tryz.f218) (g:=.pure _) fun _=>?_
 refine gW hE ?_;conv=>whnf
theorem aBK (p:Pend) (b:Int):aA Tryz.prog 128 [.iface 141 p.av,.int .i64 b] [] (.ret (.bool (p.id==b))) []:=by
 refine cT (E:=E) (fn:=Tryz.f128) (g:=.pure _) fun _=>?_
 refine gW hE ?_;conv=>whnf
 refine .pure _ [] (aBM p) ?_
 refine gW hE ?_;conv=>whnf
theorem NP (p q:Pend):aA Tryz.prog 84 [.iface 141 p.av,.iface 141 q.av] [] (.ret (.bool (decide (q.seq<p.seq)))) []:=by
 refine cT (E:=E) (fn:=Tryz.f84) (g:=.pure _) fun _=>?_
 refine gW hE ?_;conv=>whnf
 refine .pure _ [] (OP p) ?_
 refine gW hE ?_;conv=>whnf
 refine .pure _ [] (OP q) ?_
 refine gW hE ?_;conv=>whnf
theorem SP (x:Pend) (a:Int):aA Tryz.prog 127 [x.av,.ptr [.int .i64 a]] [] (.ret (.bool (x.id==a))) []:=by
 refine cT (E:=E) (fn:=Tryz.f127) (g:=.pure _) fun _=>?_
 refine gW hE ?_;conv=>whnf
 refine .pure _ [] (aBK x a) ?_
 refine gW hE ?_;conv=>whnf
theorem HS (f:FuncId) (l:List AVal) (xs:List Pend) (p:Pend->Bool) (hf:∀ x∈xs,aA Tryz.prog f [x.av,.ptr l] [] (.ret (.bool (p x))) []) (hl:((pav xs).length:Int)<=9223372036854775807) (r:Int):
  ∀ (n i:Nat),i+n=xs.length->idx p (xs.drop i) i=r->
  To E Tryz.f126 (.pure (.ret (.int .i64 r))) (.head (stk Tryz.f126 0)
   [(0,.slice 11 (pav xs) .no),(1,.func (.func f) [] [.ptr l]),(7,.int .i64 ((pav xs).length:Nat)),(8,.int .i64 i)] []):=by
 have hlen:(pav xs).length=xs.length:=by simp
 intro n
 induction n with
 | zero=>
  intro i hi hr
  refine gW hE ?_;conv=>whnf
  refine ⟨fun h=>?_,fun h=>?_⟩
  .exact absurd (of_decide_eq_true h) (by omega)
  .refine gW hE ?_;conv=>whnf
   rw [Af (by omega)] at hr
   rw [<-hr]
   rfl
 | succ n ih=>
  intro i hi hr
  have hlt:i<xs.length:=by omega
  refine gW hE ?_;conv=>whnf
  refine ⟨fun h=>?_,fun h=>?_⟩
  .refine gW hE ?_;conv=>whnf
   refine ⟨i,rfl,?_⟩
   refine gW hE ?_;conv=>whnf
   refine ⟨_,gV hlt,?_⟩
   refine gW hE ?_;conv=>whnf
   refine .pure _ [] (hf xs[i] (Bn hlt)) ?_
   refine gW hE ?_;conv=>whnf
   rw [Ae hlt] at hr
   have hr:(if p xs[i] then (i:Int) else idx p (xs.drop (i+1)) ((i:Int)+1))=r:=hr
   refine ⟨fun h2=>?_,fun h2=>?_⟩
   .refine gW hE ?_;conv=>whnf
    rw [if_pos h2] at hr
    rw [hr]
   .refine gW hE ?_;conv=>whnf
    rw [if_neg (by rw [h2];simp)] at hr
    refine .inl ⟨⟨by simp only [cC];omega,by simp only [bF];omega⟩,?_⟩
    refine gW hE ?_;conv=>whnf
    refine To.head [0,1,7,8] ?_
    exact ih (i+1) (by omega) (by rw [<-hr];push_cast;rfl)
  .exact absurd (of_decide_eq_false h) (by omega)
theorem RU (f:FuncId) (l:List AVal) (xs:List Pend) (p:Pend->Bool) (hf:∀ x∈xs,aA Tryz.prog f [x.av,.ptr l] [] (.ret (.bool (p x))) []):
  aA Tryz.prog 126 [.slice 11 (pav xs) .no,.func (.func f) [] [.ptr l]] [] (.ret (.int .i64 (idx p xs 0))) []:=by
 refine cT (E:=E) (fn:=Tryz.f126) (g:=.pure _) fun ho=>?_
 refine gW hE ?_;conv=>whnf
 refine To.head [0,1,7,8] ?_
 exact HS f l xs p hf ho.1 _ xs.length 0 (by omega) (by simp)
theorem vF (xs:List Pend) (a:Int):aA Tryz.prog 85 [.slice 11 (pav xs) .no,.int .i64 a] [] (.ret (.int .i64 (gF a xs))) []:=by
 refine cT (E:=E) (fn:=Tryz.f85) (g:=.pure _) fun _=>?_
 refine gW hE ?_;conv=>whnf
 refine .pure _ [] (RU _ _ xs (fun x=>x.id==a) fun x _=>SP x a) ?_
 refine gW hE ?_;conv=>whnf
 rfl
theorem CK (xs:List Pend) (a:Int) (hl:((pav xs).length:Int)<=9223372036854775807) (r:Int):∀ (n i:Nat),i+n=xs.length->idx (fun x=>x.id==a) (xs.drop i) i=r->
  To E Tryz.f96 (.pure (.ret (.int .i64 r))) (.head (stk Tryz.f96 0) [(0,.slice 11 (pav xs) .no),(1,.int .i64 a),(5,.int .i64 i)] []):=by
 have hlen:(pav xs).length=xs.length:=by simp
 intro n
 induction n with
 | zero=>
  intro i hi hr
  refine gW hE ?_;conv=>whnf
  refine ⟨fun h=>?_,fun h=>?_⟩
  .exact absurd (of_decide_eq_true h) (by omega)
  .refine gW hE ?_;conv=>whnf
   rw [Af (by omega)] at hr
   rw [<-hr]
   rfl
 | succ n ih=>
  intro i hi hr
  have hlt:i<xs.length:=by omega
  refine gW hE ?_;conv=>whnf
  refine ⟨fun h=>?_,fun h=>?_⟩
  .refine gW hE ?_;conv=>whnf
   refine ⟨i,rfl,?_⟩
   refine gW hE ?_;conv=>whnf
   refine ⟨_,gV hlt,?_⟩
   refine gW hE ?_;conv=>whnf
   rw [Ae hlt] at hr
   have hr:(if xs[i].id==a then (i:Int) else idx (fun x=>x.id==a) (xs.drop (i+1)) ((i:Int)+1))=r:=hr
   refine ⟨fun h2=>?_,fun h2=>?_⟩
   .refine gW hE ?_;conv=>whnf
    rw [if_pos h2] at hr
    rw [hr]
   .refine gW hE ?_;conv=>whnf
    rw [if_neg (by rw [h2];simp)] at hr
    refine .inl ⟨MT (by omega) (by omega),?_⟩
    refine gW hE ?_;conv=>whnf
    refine To.head [0,1,5] ?_
    exact ih (i+1) (by omega) (by rw [<-hr];push_cast;rfl)
  .exact absurd (of_decide_eq_false h) (by omega)
theorem xY (xs:List Pend) (a:Int):aA Tryz.prog 96 [.slice 11 (pav xs) .no,.int .i64 a] [] (.ret (.int .i64 (gF a xs))) []:=by
 refine cT (E:=E) (fn:=Tryz.f96) (g:=.pure _) fun ho=>?_
 refine gW hE ?_;conv=>whnf
 refine To.head [0,1,5] ?_
 exact CK xs a ho.1 _ xs.length 0 (by omega) (by simp [gF])
def xA (l:List Pend) (i:Nat):Bool:=match l[i]?,l[i-1]? with
 | some c,some p=>!((decide (0<i)&& !decide (p.seq<c.seq))||(gF c.id l !=(i:Int)))
 | _,_=>true
def fK (l:List Pend):Nat->Nat->Bool
 | 0,_=>true
 | n+1,i=>xA l i&&fK l n (i+1)
def checkP (l:List Pend):Bool:=fK l l.length 0
theorem IN (l:List Pend) (hl:l.length<=1000000) (r:Bool):∀ (n i:Nat),i+n=l.length->fK l n i=r->
  To E Tryz.f39 (.pure (.ret (.bool r))) (.head (stk Tryz.f39 0) [(0,.slice 11 (pav l) .no),(5,.slice 11 (pav l) .no),(6,.int .i64 ((pav l).length:Nat)),(7,.int .i64 i)] []):=by
 have hlen:(pav l).length=l.length:=by simp
 intro n
 induction n with
 | zero=>
  intro i hi hr
  refine gW hE ?_;conv=>whnf
  refine ⟨fun h=>?_,fun h=>?_⟩
  .exact absurd (of_decide_eq_true h) (by omega)
  .refine gW hE ?_;conv=>whnf
   rw [<-hr]
   rfl
 | succ n ih=>
  intro i hi hr
  have hlt:i<l.length:=by omega
  have hr:(xA l i&&fK l n (i+1))=r:=hr
  have back:fK l n (i+1)=r->inR .i64 ((i:Int)+1)/\To E Tryz.f39 (.pure (.ret (.bool r))) (.head (stk Tryz.f39 0) [(0,.slice 11 (pav l) .no),(5,.slice 11 (pav l) .no),(6,.int .i64 ((pav l).length:Nat)),(7,.int .i64 ((i:Int)+1))] []):=fun h=>
   ⟨MT (by omega) (by omega),by have:=ih (i+1) (by omega) h;push_cast at this;exact this⟩
  refine gW hE ?_;conv=>whnf
  refine ⟨fun h=>?_,fun h=>?_⟩
  .refine gW hE ?_;conv=>whnf
   refine ⟨i,rfl,?_⟩
   refine gW hE ?_;conv=>whnf
   refine ⟨_,gV hlt,?_⟩
   refine gW hE ?_;conv=>whnf
   refine ⟨fun h1=>?_,fun h1=>?_⟩
   .have hpos:0<i:=by have:=of_decide_eq_true h1;omega
    have hlt1:i-1<l.length:=by omega
    have hok:xA l i= !((true&& !decide (l[i-1].seq<l[i].seq))||(gF l[i].id l !=(i:Int))):=by
     unfold xA
     rw [Ac hlt,Ac hlt1,decide_eq_true hpos]
    refine gW hE ?_;conv=>whnf
    refine .inl ⟨MT (by omega) (by omega),?_⟩
    refine gW hE ?_;conv=>whnf
    refine ⟨i-1,by omega,?_⟩
    refine gW hE ?_;conv=>whnf
    refine ⟨_,gV hlt1,?_⟩
    refine gW hE ?_;conv=>whnf
    refine .pure _ [] (NP _ _) ?_
    refine gW hE ?_;conv=>whnf
    refine ⟨fun h2=>?_,fun h2=>?_⟩
    .refine gW hE ?_;conv=>whnf
     refine ⟨fun _=>?_,fun h3=>(by cases h3)⟩
     refine gW hE ?_;conv=>whnf
     rw [hok,h2] at hr
     rw [<-hr]
     rfl
    .refine gW hE ?_;conv=>whnf
     refine .pure _ [] (vF _ _) ?_
     refine gW hE ?_;conv=>whnf
     refine ⟨fun h3=>?_,fun h3=>?_⟩
     .refine gW hE ?_;conv=>whnf
      rw [hok,h2,h3] at hr
      rw [<-hr]
      rfl
     .refine gW hE ?_;conv=>whnf
      rw [hok,h2,h3] at hr
      obtain ⟨b1,b2⟩:=back hr
      refine .inl ⟨b1,?_⟩
      refine gW hE ?_;conv=>whnf
      refine To.cut [0,5,6,7] 0 rfl rfl rfl rfl ?_
      exact b2
   .have h0:i=0:=by have:=of_decide_eq_false h1;omega
    have hok:xA l i= !((false&&false)||(gF l[i].id l !=(i:Int))):=by
     unfold xA
     have hlt1:i-1<l.length:=by omega
     rw [Ac hlt,Ac hlt1]
     subst h0
     simp
    refine gW hE ?_;conv=>whnf
    refine ⟨fun h2=>(by cases h2),fun _=>?_⟩
    refine gW hE ?_;conv=>whnf
    refine .pure _ [] (vF _ _) ?_
    refine gW hE ?_;conv=>whnf
    refine ⟨fun h3=>?_,fun h3=>?_⟩
    .refine gW hE ?_;conv=>whnf
     rw [hok,h3] at hr
     rw [<-hr]
     rfl
    .refine gW hE ?_;conv=>whnf
     rw [hok,h3] at hr
     obtain ⟨b1,b2⟩:=back hr
     refine .inl ⟨b1,?_⟩
     refine gW hE ?_;conv=>whnf
     refine To.cut [0,5,6,7] 0 rfl rfl rfl rfl ?_
     exact b2
  .exact absurd (of_decide_eq_false h) (by omega)
theorem check_ok (l:List Pend) (hl:l.length<=1000000):aA Tryz.prog 39 [.slice 11 (pav l) .no] [] (.ret (.bool (checkP l))) []:=by
 refine cT (E:=E) (fn:=Tryz.f39) (g:=.pure _) fun _=>?_
 refine gW hE ?_;conv=>whnf
 refine To.cut [0,5,6,7] 0 rfl rfl rfl rfl ?_
 exact IN l hl _ l.length 0 (by omega) rfl
theorem zW (l:List Pend) (hl:l.length<=1000000) (r:Bool):∀ (n i:Nat),i+n=l.length->fK l n i=r->
  To E Tryz.f45 (.pure (.ret (.bool r))) (.head (stk Tryz.f45 0) [(0,.slice 11 (pav l) .no),(3,.int .i64 i)] []):=by
 have hlen:(pav l).length=l.length:=by simp
 intro n
 induction n with
 | zero=>
  intro i hi hr
  refine gW hE ?_;conv=>whnf
  refine ⟨fun h=>?_,fun h=>?_⟩
  .exact absurd (of_decide_eq_true h) (by omega)
  .refine gW hE ?_;conv=>whnf
   rw [<-hr]
   rfl
 | succ n ih=>
  intro i hi hr
  have hlt:i<l.length:=by omega
  have hr:(xA l i&&fK l n (i+1))=r:=hr
  have back:fK l n (i+1)=r->inR .i64 ((i:Int)+1)/\To E Tryz.f45 (.pure (.ret (.bool r))) (.head (stk Tryz.f45 0) [(0,.slice 11 (pav l) .no),(3,.int .i64 ((i:Int)+1))] []):=fun h=>
   ⟨MT (by omega) (by omega),by have:=ih (i+1) (by omega) h;push_cast at this;exact this⟩
  refine gW hE ?_;conv=>whnf
  refine ⟨fun h=>?_,fun h=>?_⟩
  .refine gW hE ?_;conv=>whnf
   refine ⟨fun h1=>?_,fun h1=>?_⟩
   .have hpos:0<i:=by have:=of_decide_eq_true h1;omega
    have hlt1:i-1<l.length:=by omega
    have hok:xA l i= !((true&& !decide (l[i-1].seq<l[i].seq))||(gF l[i].id l !=(i:Int))):=by
     unfold xA
     rw [Ac hlt,Ac hlt1,decide_eq_true hpos]
    have hle:(!decide (l[i-1].seq<l[i].seq))=decide (l[i].seq<=l[i-1].seq):=by
     by_cases hq:l[i-1].seq<l[i].seq
     .rw [decide_eq_true hq,decide_eq_false (by omega)];rfl
     .rw [decide_eq_false hq,decide_eq_true (by omega)];rfl
    rw [hle] at hok
    refine gW hE ?_;conv=>whnf
    refine ⟨i,rfl,?_⟩
    refine gW hE ?_;conv=>whnf
    refine ⟨_,gV hlt,?_⟩
    refine gW hE ?_;conv=>whnf
    refine .inl ⟨MT (by omega) (by omega),?_⟩
    refine gW hE ?_;conv=>whnf
    refine ⟨i-1,by omega,?_⟩
    refine gW hE ?_;conv=>whnf
    refine ⟨_,gV hlt1,?_⟩
    refine gW hE ?_;conv=>whnf
    refine ⟨fun h2=>?_,fun h2=>?_⟩
    .refine gW hE ?_;conv=>whnf
     refine ⟨fun _=>?_,fun h3=>(by cases h3)⟩
     refine gW hE ?_;conv=>whnf
     rw [hok,h2] at hr
     rw [<-hr]
     rfl
    .refine gW hE ?_;conv=>whnf
     refine ⟨i,rfl,?_⟩
     refine gW hE ?_;conv=>whnf
     refine ⟨_,gV hlt,?_⟩
     refine gW hE ?_;conv=>whnf
     refine .pure _ [] (xY _ _) ?_
     refine gW hE ?_;conv=>whnf
     refine ⟨fun h3=>?_,fun h3=>?_⟩
     .refine gW hE ?_;conv=>whnf
      rw [hok,h2,h3] at hr
      rw [<-hr]
      rfl
     .refine gW hE ?_;conv=>whnf
      rw [hok,h2,h3] at hr
      obtain ⟨b1,b2⟩:=back hr
      refine .inl ⟨b1,?_⟩
      refine gW hE ?_;conv=>whnf
      refine To.cut [0,3] 0 rfl rfl rfl rfl ?_
      exact b2
   .have h0:i=0:=by have:=of_decide_eq_false h1;omega
    have hok:xA l i= !((false&&false)||(gF l[i].id l !=(i:Int))):=by
     unfold xA
     have hlt1:i-1<l.length:=by omega
     rw [Ac hlt,Ac hlt1]
     subst h0
     simp
    refine gW hE ?_;conv=>whnf
    refine ⟨fun h2=>(by cases h2),fun _=>?_⟩
    refine gW hE ?_;conv=>whnf
    refine ⟨i,rfl,?_⟩
    refine gW hE ?_;conv=>whnf
    refine ⟨_,gV hlt,?_⟩
    refine gW hE ?_;conv=>whnf
    refine .pure _ [] (xY _ _) ?_
    refine gW hE ?_;conv=>whnf
    refine ⟨fun h3=>?_,fun h3=>?_⟩
    .refine gW hE ?_;conv=>whnf
     rw [hok,h3] at hr
     rw [<-hr]
     rfl
    .refine gW hE ?_;conv=>whnf
     rw [hok,h3] at hr
     obtain ⟨b1,b2⟩:=back hr
     refine .inl ⟨b1,?_⟩
     refine gW hE ?_;conv=>whnf
     refine To.cut [0,3] 0 rfl rfl rfl rfl ?_
     exact b2
  .exact absurd (of_decide_eq_false h) (by omega)
theorem checkref_ok (l:List Pend) (hl:l.length<=1000000):aA Tryz.prog 45 [.slice 11 (pav l) .no] [] (.ret (.bool (checkP l))) []:=by
 refine cT (E:=E) (fn:=Tryz.f45) (g:=.pure _) fun _=>?_
 refine gW hE ?_;conv=>whnf
 refine To.cut [0,3] 0 rfl rfl rfl rfl ?_
 exact zW l hl _ l.length 0 (by omega) rfl
def eqP (x y:Pend):Bool:=(x.id==y.id)&&((x.tenant==y.tenant)&&((x.pods==y.pods)&&((x.n0==y.n0)&&((x.n1==y.n1)&&((x.n2==y.n2)&&((x.run==y.run)&&((x.level==y.level)&&((x.prefer==y.prefer)&&((x.seq==y.seq)&&((x.since==y.since)&&true))))))))))
theorem KY {x y:Pend}:eqP x y=true↔x=y:=by
 obtain ⟨a0,a1,a2,a3,a4,a5,a6,a7,a8,a9,a10⟩:=x
 obtain ⟨b0,b1,b2,b3,b4,b5,b6,b7,b8,b9,b10⟩:=y
 simp [eqP]
theorem LS (a b:List Pend) (hab:a.length=b.length) (hl:((pav a).length:Int)<=9223372036854775807) (r:Bool):∀ (n i:Nat),i+n=a.length->decide (a.drop i=b.drop i)=r->
  To E Tryz.f28 (.pure (.ret (.bool r))) (.head (stk Tryz.f28 0) [(0,.slice 11 (pav a) .no),(1,.slice 11 (pav b) .no),(5,.int .i64 i)] []):=by
 have hlen:(pav a).length=a.length:=by simp
 intro n
 induction n with
 | zero=>
  intro i hi hr
  refine gW hE ?_;conv=>whnf
  refine ⟨fun h=>?_,fun h=>?_⟩
  .exact absurd (of_decide_eq_true h) (by omega)
  .refine gW hE ?_;conv=>whnf
   rw [Af (by omega),Af (by omega)] at hr
   rw [<-hr]
   rfl
 | succ n ih=>
  intro i hi hr
  have hlt:i<a.length:=by omega
  have hlt2:i<b.length:=by omega
  rw [Ae hlt,Ae hlt2] at hr
  refine gW hE ?_;conv=>whnf
  refine ⟨fun h=>?_,fun h=>?_⟩
  .refine gW hE ?_;conv=>whnf
   refine ⟨i,rfl,?_⟩
   refine gW hE ?_;conv=>whnf
   refine ⟨_,gV hlt,?_⟩
   refine gW hE ?_;conv=>whnf
   refine ⟨i,rfl,?_⟩
   refine gW hE ?_;conv=>whnf
   refine ⟨_,gV hlt2,?_⟩
   refine gW hE ?_;conv=>whnf
   refine ⟨fun h2=>?_,fun h2=>?_⟩
   .have h3:(!eqP a[i] b[i])=true:=h2
    refine gW hE ?_;conv=>whnf
    have hne:a[i]≠b[i]:=fun e=>by rw [KY.2 e] at h3;cases h3
    rw [<-hr,decide_eq_false fun e=>hne (List.cons.inj e).1]
   .have h3:(!eqP a[i] b[i])=false:=h2
    have he:a[i]=b[i]:=KY.1 (by simpa using h3)
    refine gW hE ?_;conv=>whnf
    refine .inl ⟨MT (by omega) (by omega),?_⟩
    refine gW hE ?_;conv=>whnf
    refine To.head [0,1,5] ?_
    have:=ih (i+1) (by omega) (by rw [<-hr,he];exact decide_eq_decide.2 ⟨fun e=>by rw [e],fun e=>(List.cons.inj e).2⟩)
    push_cast at this
    exact this
  .exact absurd (of_decide_eq_false h) (by omega)
theorem same_ok (a b:List Pend):aA Tryz.prog 28 [.slice 11 (pav a) .no,.slice 11 (pav b) .no] [] (.ret (.bool (decide (a=b)))) []:=by
 have hlen:(pav a).length=a.length:=by simp
 have hlen2:(pav b).length=b.length:=by simp
 refine cT (E:=E) (fn:=Tryz.f28) (g:=.pure _) fun ho=>?_
 refine gW hE ?_;conv=>whnf
 refine ⟨fun h=>?_,fun h=>?_⟩
 .refine gW hE ?_;conv=>whnf
  have hne:a≠b:=fun e=>by subst e;simp at h
  rw [decide_eq_false hne]
 .have hab:a.length=b.length:=by
   have:((a.length:Nat):Int)=b.length:=by simpa using h
   omega
  refine gW hE ?_;conv=>whnf
  refine To.head [0,1,5] ?_
  exact LS a b hab ho.1 _ a.length 0 (by omega) (by simp)
end Go.Proofs.YtmalnhgopkfdaaaGreat.Q2
namespace Go.Proofs.YtmalnhgopkfdaaaGreat
open Go Go.AW Go.Proofs
structure Pn where
 g:Gan
 (seq at':Int)
 deriving DecidableEq
def Pn.cs (x:Pn):List AVal:=[ii x.g.id,ii x.g.ten,ii x.g.pods,ii x.g.need.a,ii x.g.need.b,ii x.g.need.c,ii x.g.run,ii x.g.lev,ii x.g.pref,ii x.seq,ii x.at']
def Pn.av (x:Pn):AVal:=.agg x.cs
abbrev pnv (l:List Pn):List AVal:=l.map Pn.av
theorem uX {l:List Pn} {i:Nat} (h:i<l.length):(pnv l)[i]? =some l[i].av:=by simp [pnv,h]
abbrev fv (l:List Nat):List AVal:=l.map fun x:Nat=>.int .u64 (x:Int)
structure Sta where
 c:Con
 (now nxt:Int)
 pend:List Pn
 run:List Rn
 hist:List Nat
 deriving DecidableEq
def Sta.cs (s:Sta):List AVal:=[.slice 11 (nav s.c.ns) .no,.slice 6 (hav s.c.hs) .no,ii s.c.half,ii s.c.age,ii s.now,ii s.nxt,.slice 11 (pnv s.pend) .no,.slice 14 (rav s.run) .no,.slice 1 (fv s.hist) .no]
def Sta.av (s:Sta):AVal:=.agg s.cs
def fV (c:Con):Bool:=decide (c.ns=[])&&(decide (c.hs=[])&&(decide (c.half=0)&&decide (c.age=0)))
def zZ (g:Gan):Bool:=decide (1<=g.id/\g.id<=1073741824/\1<=g.pods/\g.pods<=16)&&(aV g.need&&decide (1<=g.run/\g.run<=1048576/\0<=g.lev/\g.lev<=3/\0<=g.pref/\g.pref<=g.lev))
def hY (c:Con) (g:Gan):Int:=if zZ g=true then (if bS c.ns g.ten=true then 0 else 3) else 1
def Rn.pn (r:Rn):Pn:=⟨r.g,r.seq,r.at'⟩
def pnB (s:Sta) (p:Pn):Bool:=decide (hY s.c p.g=0)&&(!(iA s.c [] p.g).isNone&&decide ((0<=p.seq/\p.seq<s.nxt)/\0<=p.at'/\p.at'<=s.now))
def rnB (s:Sta) (r:Rn):Bool:=decide ((r.at'<=r.st/\r.st<=s.now)/\s.now<H7 r)&&(rT s.c (hZ s.c (s.run.filter fun x=>!(x.g.id==r.g.id))) r.g r.hs&&decide ((bG s.c.hs (r.hs.headD 0)).f=r.fl))
def lA (c:Con) (n:Int):V3:=if bS c.ns n=true then iG (mV c.ns n (oZ c.ns)) (dM c.ns n).b else mV c.ns n (oZ c.ns)
def qU (s:Sta):Bool:=(Dc s.c.ns.length).all fun i:Nat=>bO (atV (ofL s.c s.run) (i:Int)) (lA s.c (i:Int))
def Pn.q (x:Pn):Q2.Pend:=⟨x.g.id,x.g.ten,x.g.pods,x.g.need.a,x.g.need.b,x.g.need.c,x.g.run,x.g.lev,x.g.pref,x.seq,x.at'⟩
theorem QM (l:List Pn):Q2.pav (l.map Pn.q)=pnv l:=by simp [Q2.pav,pnv,Pn.q,Q2.Pend.av,Q2.Pend.cs,Pn.av,Pn.cs]
def O7 (l:List Pn):Bool:=Q2.checkP (l.map Pn.q)
def ids (s:Sta):List Int:=s.pend.map (fun p=>p.g.id)++s.run.map fun r=>r.g.id
def uM (s:Sta):List Int:=s.pend.map (fun p=>p.seq)++s.run.map fun r=>r.seq
def FB (s:Sta):Bool:=(fV s.c||decide (eV s.c=0))&&decide ((0<=s.now/\s.now<=1099511627776)/\(1<=s.nxt/\s.nxt<=1099511627776)/\s.hist.length=s.c.ns.length/\s.pend.length+s.run.length<=32)
def gA (s:Sta):Bool:=FB s&&(O7 s.pend&&((s.pend.all (pnB s)&&s.run.all fun r=>pnB s r.pn&&rnB s r)&&(decide (ids s).Nodup&&(decide (uM s).Nodup&&qU s))))
theorem oT {c:Con} {g:Gan}:hY c g=0↔zZ g=true/\bS c.ns g.ten=true:=by
 unfold hY
 cases zZ g<;>cases bS c.ns g.ten<;>decide
structure RnOK (s:Sta) (r:Rn):Prop where
 gang:hY s.c r.g=0
 st:0<=r.st/\r.st<=s.now
 chk:rT s.c (hZ s.c (s.run.filter fun x=>!(x.g.id==r.g.id))) r.g r.hs=true
theorem K5 {s:Sta} (h:gA s=true) {r:Rn} (hr:r∈s.run):RnOK s r:=by
 unfold gA at h
 simp only [Ad,Cl] at h
 have h1:=h.2.2.1.2 r hr
 unfold pnB rnB at h1
 simp only [Ad,decide_eq_true_eq] at h1
 obtain ⟨⟨a,_,b⟩,c,d,_⟩:=h1
 exact ⟨a,⟨Int.le_trans b.2.1 c.1.1,c.1.2⟩,d⟩
theorem K7 {c:Con} {free:List V3} {g:Gan} {hs:List Int} (h:rT c free g hs=true):(hs.length:Int)=g.pods/\∀ u∈hs,0<=u/\u<(free.length:Int)/\((hs.count u:Nat):Int)<=dT ((free[u.toNat]?).getD V3.zero) g.need:=by
 unfold rT at h
 by_cases hl:(hs.length:Int)=g.pods
 .rw [if_pos hl,Gm] at h
  obtain ⟨G,_,hG⟩:=h
  refine ⟨hl,fun u hu=>?_⟩
  unfold chkG rK at hG
  simp only [Ad,Cl] at hG
  have hf:=hG.2 u hu
  unfold H0 at hf
  by_cases h1:u<0
  .rw [if_pos (decide_eq_true h1)] at hf
   cases hf
  .rw [if_neg (by rw [decide_eq_false h1];decide)] at hf
   by_cases h2:(free.length:Int)<=u
   .rw [if_pos (decide_eq_true h2)] at hf
    cases hf
   .rw [if_neg (by rw [decide_eq_false h2];decide)] at hf
    have e:CZ u hs=((hs.count u:Nat):Int):=by unfold CZ;rw [CY];omega
    rw [e] at hf
    simp at hf
    exact ⟨by omega,by omega,hf⟩
 .rw [if_neg hl] at h
  cases h
theorem xV (c:Con) (l:List Rn):(hZ c l).length=c.hs.length:=by
 have key:∀ (l:List Rn) (xs:List V3),(l.foldl uB xs).length=xs.length:=fun l=>by
  induction l with
  | nil=>intro xs;rfl
  | cons x r ih=>intro xs;rw [Bi,ih,sW]
 unfold hZ
 rw [key]
 simp
set_option maxRecDepth 10000
def eO (n lo hi:Int):Bool:=decide (lo<=n)&&decide (n<=hi)
theorem eN {n lo hi:Int}:eO n lo hi=true↔lo<=n/\n<=hi:=by unfold eO;simp
theorem gC (n lo hi:Int):aA Tryz.prog 81 [ii n,ii lo,ii hi] [] (.ret (.bool (eO n lo hi))) []:=by
 unfold eO
 by_cases h1:lo<=n
 .rw [decide_eq_true h1,Bt]
  refine cT (E:=E) (fn:=Tryz.f81) (g:=.pure _) fun _=>?_
  repeat' first | (refine gN hE ?_;conv=>whnf) | exact rfl | refine aY ?_ | refine aN ?_ | refine aT fun h=>?_ | refine aF fun h=>?_ | refine ⟨fun h=>?_,fun h=>?_⟩ | refine aJ ?_ | refine ⟨_,rfl,?_⟩ | refine aD ?_ | fail
 .rw [decide_eq_false h1,Ce]
  refine cT (E:=E) (fn:=Tryz.f81) (g:=.pure _) fun _=>?_
  repeat' first | (refine gN hE ?_;conv=>whnf) | exact rfl | refine aY ?_ | refine aN ?_ | refine aT fun h=>?_ | refine aF fun h=>?_ | refine ⟨fun h=>?_,fun h=>?_⟩ | refine aJ ?_ | refine ⟨_,rfl,?_⟩ | refine aD ?_ | fail
theorem qL (n lo hi:Int):aA Tryz.prog 129 [ii n,ii lo,ii hi] [] (.ret (.bool (eO n lo hi))) []:=by
 unfold eO
 by_cases h1:lo<=n
 .rw [decide_eq_true h1,Bt]
  refine cT (E:=E) (fn:=Tryz.f129) (g:=.pure _) fun _=>?_
  repeat' first | (refine gN hE ?_;conv=>whnf) | exact rfl | refine aY ?_ | refine aN ?_ | refine aT fun h=>?_ | refine aF fun h=>?_ | refine ⟨fun h=>?_,fun h=>?_⟩ | refine aJ ?_ | refine ⟨_,rfl,?_⟩ | refine aD ?_ | fail
 .rw [decide_eq_false h1,Ce]
  refine cT (E:=E) (fn:=Tryz.f129) (g:=.pure _) fun _=>?_
  repeat' first | (refine gN hE ?_;conv=>whnf) | exact rfl | refine aY ?_ | refine aN ?_ | refine aT fun h=>?_ | refine aF fun h=>?_ | refine ⟨fun h=>?_,fun h=>?_⟩ | refine aJ ?_ | refine ⟨_,rfl,?_⟩ | refine aD ?_ | fail
theorem HD (v:V3) (b:Bool) (hb:aV v=b):aA Tryz.prog 124 [v.av] [] (.ret (.bool b)) []:=by
 unfold aV at hb
 refine cT (E:=E) (fn:=Tryz.f124) (g:=.pure _) fun _=>?_
 repeat' first
  | (refine gW hE ?_;conv=>whnf)
  | exact hb
  | refine aY ?_
  | refine aN ?_
  | refine Aa (fun h=>?_) (fun h=>?_)
  | refine aJ ?_
  | refine Al _ (Aa rfl ?_)
  | refine Aa (by decide) ?_
 all_goals (refine congrArg (fun b=>Res.ret (AVal.bool b)) ?_;rw [<-hb];simp only [decide_eq_true_eq,decide_eq_false_iff_not] at *)
 .rw [decide_eq_false (p:=0<=v.a/\v.a<=1048576) (by omega)];rfl
 .rw [decide_eq_false (p:=0<=v.a/\v.a<=1048576) (by omega)];rfl
 .rw [decide_eq_false (p:=0<=v.b/\v.b<=1048576) (by omega),Bo];rfl
 .rw [decide_eq_false (p:=0<=v.b/\v.b<=1048576) (by omega),Bo];rfl
 .rw [decide_eq_false (p:=0<=v.c/\v.c<=1048576) (by omega),Bo]
 .rw [decide_eq_false (p:=0<=v.c/\v.c<=1048576) (by omega),Bo]
 .rw [decide_eq_true (p:=0<=v.a/\v.a<=1048576) (by omega),decide_eq_true (p:=0<=v.b/\v.b<=1048576) (by omega),decide_eq_true (p:=0<=v.c/\v.c<=1048576) (by omega)];rfl
theorem dH (v:V3):aA Tryz.prog 124 [v.av] [] (.ret (.bool (aV v))) []:=HD v _ rfl
def AV (x:Hos):Bool:=eO x.f 0 100&&(eO x.b 0 100&&(eO x.r 0 100&&aV x.c))
theorem W3 (x:Hos):aA Tryz.prog 83 [x.av] [] (.ret (.bool (AV x))) []:=by
 have h1:=gC x.f 0 100
 have h2:=gC x.b 0 100
 have h3:=gC x.r 0 100
 have h4:=dH x.c
 unfold AV
 generalize eO x.f 0 100=b1 at h1
 generalize eO x.b 0 100=b2 at h2
 generalize eO x.r 0 100=b3 at h3
 generalize aV x.c=b4 at h4
 cases b1<;>cases b2<;>cases b3<;>cases b4
 all_goals
  refine cT (E:=E) (fn:=Tryz.f83) (g:=.pure _) fun _=>?_
  repeat' first | (refine gN hE ?_;conv=>whnf) | refine .pure _ [] h1 ?_ | refine .pure _ [] h2 ?_ | refine .pure _ [] h3 ?_ | refine .pure _ [] h4 ?_ | exact rfl | refine aY ?_ | refine aN ?_ | refine aT fun h=>?_ | refine aF fun h=>?_ | refine ⟨fun h=>?_,fun h=>?_⟩ | refine aJ ?_ | refine ⟨_,rfl,?_⟩ | refine aD ?_ | fail
theorem RY (x:Hos):AV x=hP x:=by
 rw [Fa]
 unfold AV hP
 by_cases h:tL x
 .rw [if_pos h]
  unfold tL at h
  simp only [Ad,eN]
  constructor
  .intro q;omega
  .intro q;cases q
 .rw [if_neg h]
  unfold tL at h
  simp only [Ad,eN]
  constructor
  .intro q;exact q.2.2.2
  .intro q;exact ⟨by omega,by omega,by omega,q⟩
theorem MF (c:Con) (i:Nat) (hi:i<1048576) (x:Nod) (get:(nav c.ns)[i]? =some x.av) (hb:mH i x):aA Tryz.prog 82 [c.av,ii i] [] (.ret (.bool false)) []:=by
 have b1:=gC x.p 0 ((i:Int)-1)
 have b2:=gC x.w 1 1000
 have hl:=gC x.w 1 1000
 have v1:=dH x.n
 have v2:=dH x.b
 have v3:=dH x.l
 have v4:=kP x.l x.n
 unfold mH at hb
 by_cases h0:i=0
 .by_cases hp:x.p= -1
  .have e2:eO x.w 1 1000=false:=by
    cases hq:eO x.w 1 1000 with
    | false=>rfl
    | true=>have:=eN.1 hq;omega
   rw [e2] at b2
   subst h0
   refine cT (E:=E) (fn:=Tryz.f82) (g:=.pure _) fun _=>?_
   repeat' first | (refine gN hE ?_;conv=>whnf) | refine ⟨i,rfl,?_⟩ | refine ⟨_,get,?_⟩ | refine .pure _ [] b1 ?_ | refine .pure _ [] b2 ?_ | refine .pure _ [] hl ?_ | refine .pure _ [] v1 ?_ | refine .pure _ [] v2 ?_ | refine .pure _ [] v3 ?_ | refine .pure _ [] v4 ?_ | exact rfl | refine aY ?_ | refine aN ?_ | refine aT fun h=>?_ | refine aF fun h=>?_ | refine ⟨fun h=>?_,fun h=>?_⟩ | refine aJ ?_ | refine ⟨_,rfl,?_⟩ | refine aD ?_ | fail
  .subst h0
   refine cT (E:=E) (fn:=Tryz.f82) (g:=.pure _) fun _=>?_
   repeat' first | (refine gN hE ?_;conv=>whnf) | refine ⟨i,rfl,?_⟩ | refine ⟨_,get,?_⟩ | refine .pure _ [] b1 ?_ | refine .pure _ [] b2 ?_ | refine .pure _ [] hl ?_ | refine .pure _ [] v1 ?_ | refine .pure _ [] v2 ?_ | refine .pure _ [] v3 ?_ | refine .pure _ [] v4 ?_ | exact rfl | refine aY ?_ | refine aN ?_ | refine aT fun h=>?_ | refine aF fun h=>?_ | refine ⟨fun h=>?_,fun h=>?_⟩ | refine aJ ?_ | refine ⟨_,rfl,?_⟩ | refine aD ?_ | fail
   all_goals (exfalso;simp at *;omega)
 .cases hq:eO x.p 0 ((i:Int)-1) with
  | false=>
   rw [hq] at b1
   refine cT (E:=E) (fn:=Tryz.f82) (g:=.pure _) fun _=>?_
   repeat' first | (refine gN hE ?_;conv=>whnf) | refine ⟨i,rfl,?_⟩ | refine ⟨_,get,?_⟩ | refine .pure _ [] b1 ?_ | refine .pure _ [] b2 ?_ | refine .pure _ [] hl ?_ | refine .pure _ [] v1 ?_ | refine .pure _ [] v2 ?_ | refine .pure _ [] v3 ?_ | refine .pure _ [] v4 ?_ | exact rfl | refine aY ?_ | refine aN ?_ | refine aT fun h=>?_ | refine aF fun h=>?_ | refine ⟨fun h=>?_,fun h=>?_⟩ | refine aJ ?_ | refine ⟨_,rfl,?_⟩ | refine aD ?_ | fail
  | true=>
   rw [hq] at b1
   have:=eN.1 hq
   have e2:eO x.w 1 1000=false:=by
    cases hq:eO x.w 1 1000 with
    | false=>rfl
    | true=>have:=eN.1 hq;omega
   rw [e2] at b2
   refine cT (E:=E) (fn:=Tryz.f82) (g:=.pure _) fun _=>?_
   repeat' first | (refine gN hE ?_;conv=>whnf) | refine ⟨i,rfl,?_⟩ | refine ⟨_,get,?_⟩ | refine .pure _ [] b1 ?_ | refine .pure _ [] b2 ?_ | refine .pure _ [] hl ?_ | refine .pure _ [] v1 ?_ | refine .pure _ [] v2 ?_ | refine .pure _ [] v3 ?_ | refine .pure _ [] v4 ?_ | exact rfl | refine aY ?_ | refine aN ?_ | refine aT fun h=>?_ | refine aF fun h=>?_ | refine ⟨fun h=>?_,fun h=>?_⟩ | refine aJ ?_ | refine ⟨_,rfl,?_⟩ | refine aD ?_ | fail
set_option maxHeartbeats 2000000 in
theorem HE (c:Con) (i:Nat) (hi:i<1048576) (x:Nod) (get:(nav c.ns)[i]? =some x.av) (hb:¬ mH i x) (hlf:bS c.ns (i:Int)=true):aA Tryz.prog 82 [c.av,ii i] [] (.ret (.bool (aV x.n&&(aV x.b&&(aV x.l&&bO x.l x.n))))) []:=by
 have b1:=gC x.p 0 ((i:Int)-1)
 have b2:=gC x.w 1 1000
 have hl:=lX c (i:Int)
 rw [hlf] at hl
 have v1:=dH x.n
 have v2:=dH x.b
 have v3:=dH x.l
 have v4:=kP x.l x.n
 unfold mH at hb
 rw [eN.2 (show 1<=x.w/\x.w<=1000 by omega)] at b2
 generalize aV x.n=q1 at v1
 generalize aV x.b=q2 at v2
 generalize aV x.l=q3 at v3
 generalize bO x.l x.n=q4 at v4
 by_cases h0:i=0
 .have hp:x.p= -1:=by omega
  subst h0
  cases q1<;>cases q2<;>cases q3<;>cases q4
  all_goals
   refine cT (E:=E) (fn:=Tryz.f82) (g:=.pure _) fun _=>?_
   repeat' first | (refine gN hE ?_;conv=>whnf) | refine ⟨i,rfl,?_⟩ | refine ⟨_,get,?_⟩ | refine .pure _ [] b1 ?_ | refine .pure _ [] b2 ?_ | refine .pure _ [] hl ?_ | refine .pure _ [] v1 ?_ | refine .pure _ [] v2 ?_ | refine .pure _ [] v3 ?_ | refine .pure _ [] v4 ?_ | exact rfl | refine aY ?_ | refine aN ?_ | refine aT fun h=>?_ | refine aF fun h=>?_ | refine ⟨fun h=>?_,fun h=>?_⟩ | refine aJ ?_ | refine ⟨_,rfl,?_⟩ | refine aD ?_ | fail
   all_goals (exfalso;simp at *;omega)
 .rw [eN.2 (show 0<=x.p/\x.p<=(i:Int)-1 by omega)] at b1
  cases q1<;>cases q2<;>cases q3<;>cases q4
  all_goals
   refine cT (E:=E) (fn:=Tryz.f82) (g:=.pure _) fun _=>?_
   repeat' first | (refine gN hE ?_;conv=>whnf) | refine ⟨i,rfl,?_⟩ | refine ⟨_,get,?_⟩ | refine .pure _ [] b1 ?_ | refine .pure _ [] b2 ?_ | refine .pure _ [] hl ?_ | refine .pure _ [] v1 ?_ | refine .pure _ [] v2 ?_ | refine .pure _ [] v3 ?_ | refine .pure _ [] v4 ?_ | exact rfl | refine aY ?_ | refine aN ?_ | refine aT fun h=>?_ | refine aF fun h=>?_ | refine ⟨fun h=>?_,fun h=>?_⟩ | refine aJ ?_ | refine ⟨_,rfl,?_⟩ | refine aD ?_ | fail
theorem QF (c:Con) (i:Nat) (hi:i<1048576) (x:Nod) (get:(nav c.ns)[i]? =some x.av) (hb:¬ mH i x) (hlf:bS c.ns (i:Int)=false) (r:Bool) (hr:(zB x.n&&(zB x.b&&zB x.l))=r):aA Tryz.prog 82 [c.av,ii i] [] (.ret (.bool r)) []:=by
 have b1:=gC x.p 0 ((i:Int)-1)
 have b2:=gC x.w 1 1000
 have hl:=lX c (i:Int)
 rw [hlf] at hl
 have v1:=dH x.n
 have v2:=dH x.b
 have v3:=dH x.l
 have v4:=kP x.l x.n
 unfold mH at hb
 rw [eN.2 (show 1<=x.w/\x.w<=1000 by omega)] at b2
 have fin:(((x.p==x.p)&&((x.w==x.w)&&((x.n.a==0)&&((x.n.b==0)&&((x.n.c==0)&&((x.b.a==0)&&((x.b.b==0)&&((x.b.c==0)&&((x.l.a==0)&&((x.l.b==0)&&((x.l.c==0)&&true)))))))))))=r):=by
  rw [<-hr]
  unfold zB
  simp [Gv]
 by_cases h0:i=0
 .have hp:x.p= -1:=by omega
  subst h0
  refine cT (E:=E) (fn:=Tryz.f82) (g:=.pure _) fun _=>?_
  repeat' first | (refine gN hE ?_;conv=>whnf) | refine ⟨i,rfl,?_⟩ | refine ⟨_,get,?_⟩ | refine .pure _ [] b1 ?_ | refine .pure _ [] b2 ?_ | refine .pure _ [] hl ?_ | refine .pure _ [] v1 ?_ | refine .pure _ [] v2 ?_ | refine .pure _ [] v3 ?_ | refine .pure _ [] v4 ?_ | exact rfl | refine aY ?_ | refine aN ?_ | refine aT fun h=>?_ | refine aF fun h=>?_ | refine ⟨fun h=>?_,fun h=>?_⟩ | refine aJ ?_ | refine ⟨_,rfl,?_⟩ | refine aD ?_ | fail
  .exact absurd (show (x.p != -1)=true by assumption) (by rw [hp];decide)
  .exact congrArg (fun b=>Res.ret (AVal.bool b)) fin
 .rw [eN.2 (show 0<=x.p/\x.p<=(i:Int)-1 by omega)] at b1
  refine cT (E:=E) (fn:=Tryz.f82) (g:=.pure _) fun _=>?_
  repeat' first | (refine gN hE ?_;conv=>whnf) | refine ⟨i,rfl,?_⟩ | refine ⟨_,get,?_⟩ | refine .pure _ [] b1 ?_ | refine .pure _ [] b2 ?_ | refine .pure _ [] hl ?_ | refine .pure _ [] v1 ?_ | refine .pure _ [] v2 ?_ | refine .pure _ [] v3 ?_ | refine .pure _ [] v4 ?_ | exact rfl | refine aY ?_ | refine aN ?_ | refine aT fun h=>?_ | refine aF fun h=>?_ | refine ⟨fun h=>?_,fun h=>?_⟩ | refine aJ ?_ | refine ⟨_,rfl,?_⟩ | refine aD ?_ | fail
  exact congrArg (fun b=>Res.ret (AVal.bool b)) fin
theorem QE (c:Con) (i:Nat) (hi:i<1048576) (x:Nod) (get:(nav c.ns)[i]? =some x.av):aA Tryz.prog 82 [c.av,ii i] [] (.ret (.bool (kZ (bS c.ns (i:Int)) i x))) []:=by
 unfold kZ
 by_cases hb:mH i x
 .rw [if_pos hb]
  exact MF c i hi x get hb
 .rw [if_neg hb]
  cases hl:bS c.ns (i:Int) with
  | false=>rw [if_neg (by decide)];exact QF c i hi x get hb hl _ rfl
  | true=>rw [if_pos rfl];exact HE c i hi x get hb hl
noncomputable abbrev KS:Func:=Tryz.f38
def xE (ns:List Nod):Nat->List Nod->Bool
 | _,[]=>true
 | i,x::r=>kZ (bS ns (i:Int)) i x&&xE ns (i+1) r
theorem wU (c:Con) (hc:c.sm) (r:Int):∀ (m i:Nat) (b:Bool),i+m=c.hs.length->(if (b&&(c.hs.drop i).all hP)=true then (0:Int) else 2)=r->
  To E KS (.pure (.ret (ii r))) (.head (stk KS 1) [(1,.ref 0 0),(3,.bool b),(5,ii i)] [.cells 26 c.cs]):=by
 have hlen:(hav c.hs).length=c.hs.length:=by simp
 have h1:=hc.hs
 intro m
 induction m with
 | zero=>
  intro i b hi hr
  rw [Af (by omega)] at hr
  cases b with
  | false=>
   have hr:2=r:=hr
   subst hr
   refine gW hE ?_;conv=>whnf
   repeat' first | (refine gN hE ?_;conv=>whnf) | exact rfl | refine aY ?_ | refine aN ?_ | refine aT fun h=>?_ | refine aF fun h=>?_ | refine ⟨fun h=>?_,fun h=>?_⟩ | refine aJ ?_ | refine ⟨_,rfl,?_⟩ | refine aD ?_ | fail
  | true=>
   have hr:0=r:=hr
   subst hr
   refine gW hE ?_;conv=>whnf
   repeat' first | (refine gN hE ?_;conv=>whnf) | exact rfl | refine aY ?_ | refine aN ?_ | refine aT fun h=>?_ | refine aF fun h=>?_ | refine ⟨fun h=>?_,fun h=>?_⟩ | refine aJ ?_ | refine ⟨_,rfl,?_⟩ | refine aD ?_ | fail
 | succ m ih=>
  intro i b hi hr
  cases b with
  | false=>
   have hr:2=r:=hr
   subst hr
   refine gW hE ?_;conv=>whnf
   repeat' first | (refine gN hE ?_;conv=>whnf) | exact rfl | refine aY ?_ | refine aN ?_ | refine aT fun h=>?_ | refine aF fun h=>?_ | refine ⟨fun h=>?_,fun h=>?_⟩ | refine aJ ?_ | refine ⟨_,rfl,?_⟩ | refine aD ?_ | fail
  | true=>
   have hlt:i<c.hs.length:=by omega
   rw [Ae hlt,Dq,<-RY] at hr
   have get:=lZ hlt
   generalize c.hs[i]=x at hr get
   have hcal:=W3 x
   have next:=ih (i+1) (AV x) (by omega) hr
   generalize AV x=q at hcal next
   refine gW hE ?_;conv=>whnf
   repeat' first | (refine gN hE ?_;conv=>whnf) | refine ⟨i,rfl,?_⟩ | refine ⟨_,get,?_⟩ | refine .pure _ [] hcal ?_ | exact rfl | refine aY ?_ | refine aN ?_ | refine aT fun h=>?_ | refine aF fun h=>?_ | refine ⟨fun h=>?_,fun h=>?_⟩ | refine aJ ?_ | refine ⟨_,rfl,?_⟩ | refine aD ?_ | fail
   exact To.cut [1,3,5] 1 rfl rfl rfl rfl next
theorem HG (c:Con) (hc:c.sm) (r:Int):∀ (m i:Nat) (b:Bool),i+m=c.ns.length->(if ((b&&xE c.ns i (c.ns.drop i))&&c.hs.all hP)=true then (0:Int) else 2)=r->
  To E KS (.pure (.ret (ii r))) (.head (stk KS 0) [(1,.ref 0 0),(3,.bool b),(4,ii i)] [.cells 26 c.cs]):=by
 have hlen:(nav c.ns).length=c.ns.length:=by simp
 have h1:=hc.ns
 intro m
 induction m with
 | zero=>
  intro i b hi hr
  rw [Af (by omega)] at hr
  have next:=wU c hc r c.hs.length 0 b (by omega) (by rw [<-hr];show _=if ((b&&true)&&_)=true then (0:Int) else 2;rw [Ga];rfl)
  cases b with
  | false=>
   refine gW hE ?_;conv=>whnf
   repeat' first | (refine gN hE ?_;conv=>whnf) | exact rfl | refine aY ?_ | refine aN ?_ | refine aT fun h=>?_ | refine aF fun h=>?_ | refine ⟨fun h=>?_,fun h=>?_⟩ | refine aJ ?_ | refine ⟨_,rfl,?_⟩ | refine aD ?_ | fail
   exact To.cut [1,3,5] 1 rfl rfl rfl rfl next
  | true=>
   refine gW hE ?_;conv=>whnf
   repeat' first | (refine gN hE ?_;conv=>whnf) | exact rfl | refine aY ?_ | refine aN ?_ | refine aT fun h=>?_ | refine aF fun h=>?_ | refine ⟨fun h=>?_,fun h=>?_⟩ | refine aJ ?_ | refine ⟨_,rfl,?_⟩ | refine aD ?_ | fail
   exact To.cut [1,3,5] 1 rfl rfl rfl rfl next
 | succ m ih=>
  intro i b hi hr
  cases b with
  | false=>
   have next:=wU c hc r c.hs.length 0 false (by omega) (by rw [<-hr];rfl)
   refine gW hE ?_;conv=>whnf
   repeat' first | (refine gN hE ?_;conv=>whnf) | exact rfl | refine aY ?_ | refine aN ?_ | refine aT fun h=>?_ | refine aF fun h=>?_ | refine ⟨fun h=>?_,fun h=>?_⟩ | refine aJ ?_ | refine ⟨_,rfl,?_⟩ | refine aD ?_ | fail
   exact To.cut [1,3,5] 1 rfl rfl rfl rfl next
  | true=>
   have hlt:i<c.ns.length:=by omega
   rw [Ae hlt] at hr
   have get:=eF hlt
   generalize c.ns[i]=x at hr get
   have hcal:=QE c i (by omega) x get
   have next:=ih (i+1) (kZ (bS c.ns (i:Int)) i x) (by omega) hr
   generalize kZ (bS c.ns (i:Int)) i x=q at hcal next
   refine gW hE ?_;conv=>whnf
   repeat' first | (refine gN hE ?_;conv=>whnf) | refine .pure _ [] hcal ?_ | exact rfl | refine aY ?_ | refine aN ?_ | refine aT fun h=>?_ | refine aF fun h=>?_ | refine ⟨fun h=>?_,fun h=>?_⟩ | refine aJ ?_ | refine ⟨_,rfl,?_⟩ | refine aD ?_ | fail
   exact To.cut [1,3,4] 1 rfl rfl rfl rfl next
theorem EJ (ns:List Nod):∀ (l:List Nod) (i:Nat),xE ns i l=jF ns i l
 | [],_=>rfl
 | x::r,i=>by
  unfold xE jF
  rw [EJ ns r (i+1),sG]
  cases kZ (bS ns (i:Int)) i x<;>rfl
def LN (c:Con):Bool:=eO c.ns.length 1 12&&(eO c.hs.length 1 24&&(eO c.half 1 1048576&&eO c.age 0 1048576))
theorem DH (c:Con):LN c=true↔sB c:=by
 unfold LN sB
 simp only [Ad,eN]
 omega
theorem NL (c:Con):(if ((LN c&&xE c.ns 0 (c.ns.drop 0))&&c.hs.all hP)=true then (0:Int) else 2)=eV c:=by
 unfold eV
 rw [Db,EJ]
 cases hs:LN c with
 | false=>
  rw [if_neg (c:=sB c) (fun q=>by rw [(DH c).2 q] at hs;cases hs)]
  rfl
 | true=>
  rw [if_pos (c:=sB c) ((DH c).1 hs)]
  cases jF c.ns 0 c.ns<;>cases c.hs.all hP<;>rfl
set_option maxHeartbeats 2000000 in
theorem MI (c:Con) (hc:c.sm):aA Tryz.prog 38 [c.av] [] (.ret (ii (eV c))) []:=by
 have hln:(nav c.ns).length=c.ns.length:=by simp
 have hlh:(hav c.hs).length=c.hs.length:=by simp
 have h:=HG c hc (eV c) c.ns.length 0 (LN c) (by omega) (NL c)
 have b1:=gC ((nav c.ns).length:Nat) 1 12
 have b2:=gC ((hav c.hs).length:Nat) 1 24
 have b3:=gC c.half 1 1048576
 have b4:=gC c.age 0 1048576
 unfold LN at h
 rw [<-hln,<-hlh] at h
 generalize eO ((nav c.ns).length:Nat) 1 12=q1 at b1 h
 generalize eO ((hav c.hs).length:Nat) 1 24=q2 at b2 h
 generalize eO c.half 1 1048576=q3 at b3 h
 generalize eO c.age 0 1048576=q4 at b4 h
 generalize eV c=r at h
 cases q1<;>cases q2<;>cases q3<;>cases q4
 all_goals
  refine cT (E:=E) (fn:=Tryz.f38) (g:=.pure _) fun _=>?_
  repeat' first | (refine gN hE ?_;conv=>whnf) | refine .pure _ [] b1 ?_ | refine .pure _ [] b2 ?_ | refine .pure _ [] b3 ?_ | refine .pure _ [] b4 ?_ | exact rfl | refine aY ?_ | refine aN ?_ | refine aT fun h=>?_ | refine aF fun h=>?_ | refine ⟨fun h=>?_,fun h=>?_⟩ | refine aJ ?_ | refine ⟨_,rfl,?_⟩ | refine aD ?_ | fail
  exact To.cut [1,3,4] 1 rfl rfl rfl rfl h
def aBj (g:Gan):Bool:=eO g.id 1 1073741824&&(eO g.pods 1 16&&(aV g.need&&(eO g.run 1 1048576&&(eO g.lev 0 3&&eO g.pref 0 g.lev))))
theorem YT (g:Gan):aBj g=zZ g:=by
 rw [Fa]
 unfold aBj zZ
 simp only [Ad,eN,decide_eq_true_eq]
 constructor
 .rintro ⟨a,b,c,d,e,f⟩
  exact ⟨⟨a.1,a.2,b.1,b.2⟩,c,d.1,d.2,e.1,e.2,f.1,f.2⟩
 .rintro ⟨⟨a,b,c,d⟩,v,e,f,h,i,j,k⟩
  exact ⟨⟨a,b⟩,⟨c,d⟩,v,⟨e,f⟩,⟨h,i⟩,j,k⟩
theorem OO (c:Con) (g:Gan):aA Tryz.prog 88 [c.av,g.av] [] (.ret (ii (hY c g))) []:=by
 have b1:=qL g.id 1 1073741824
 have b2:=qL g.pods 1 16
 have b3:=dH g.need
 have b4:=qL g.run 1 1048576
 have b5:=qL g.lev 0 3
 have b6:=qL g.pref 0 g.lev
 have b7:=lX c g.ten
 unfold hY
 rw [<-YT]
 unfold aBj
 generalize eO g.id 1 1073741824=q1 at b1
 generalize eO g.pods 1 16=q2 at b2
 generalize aV g.need=q3 at b3
 generalize eO g.run 1 1048576=q4 at b4
 generalize eO g.lev 0 3=q5 at b5
 generalize eO g.pref 0 g.lev=q6 at b6
 generalize bS c.ns g.ten=q7 at b7
 cases q1 with
 | false=>
  refine cT (E:=E) (fn:=Tryz.f88) (g:=.pure _) fun _=>?_
  repeat' first | (refine gN hE ?_;conv=>whnf) | refine .pure _ [] b1 ?_ | refine .pure _ [] b2 ?_ | refine .pure _ [] b3 ?_ | refine .pure _ [] b4 ?_ | refine .pure _ [] b5 ?_ | refine .pure _ [] b6 ?_ | refine .pure _ [] b7 ?_ | exact rfl | refine aY ?_ | refine aN ?_ | refine aT fun h=>?_ | refine aF fun h=>?_ | refine ⟨fun h=>?_,fun h=>?_⟩ | refine aJ ?_ | refine ⟨_,rfl,?_⟩ | refine aD ?_ | fail
 | true=>
  cases q2 with
  | false=>
   refine cT (E:=E) (fn:=Tryz.f88) (g:=.pure _) fun _=>?_
   repeat' first | (refine gN hE ?_;conv=>whnf) | refine .pure _ [] b1 ?_ | refine .pure _ [] b2 ?_ | refine .pure _ [] b3 ?_ | refine .pure _ [] b4 ?_ | refine .pure _ [] b5 ?_ | refine .pure _ [] b6 ?_ | refine .pure _ [] b7 ?_ | exact rfl | refine aY ?_ | refine aN ?_ | refine aT fun h=>?_ | refine aF fun h=>?_ | refine ⟨fun h=>?_,fun h=>?_⟩ | refine aJ ?_ | refine ⟨_,rfl,?_⟩ | refine aD ?_ | fail
  | true=>
   cases q3 with
   | false=>
    refine cT (E:=E) (fn:=Tryz.f88) (g:=.pure _) fun _=>?_
    repeat' first | (refine gN hE ?_;conv=>whnf) | refine .pure _ [] b1 ?_ | refine .pure _ [] b2 ?_ | refine .pure _ [] b3 ?_ | refine .pure _ [] b4 ?_ | refine .pure _ [] b5 ?_ | refine .pure _ [] b6 ?_ | refine .pure _ [] b7 ?_ | exact rfl | refine aY ?_ | refine aN ?_ | refine aT fun h=>?_ | refine aF fun h=>?_ | refine ⟨fun h=>?_,fun h=>?_⟩ | refine aJ ?_ | refine ⟨_,rfl,?_⟩ | refine aD ?_ | fail
   | true=>
    cases q4 with
    | false=>
     refine cT (E:=E) (fn:=Tryz.f88) (g:=.pure _) fun _=>?_
     repeat' first | (refine gN hE ?_;conv=>whnf) | refine .pure _ [] b1 ?_ | refine .pure _ [] b2 ?_ | refine .pure _ [] b3 ?_ | refine .pure _ [] b4 ?_ | refine .pure _ [] b5 ?_ | refine .pure _ [] b6 ?_ | refine .pure _ [] b7 ?_ | exact rfl | refine aY ?_ | refine aN ?_ | refine aT fun h=>?_ | refine aF fun h=>?_ | refine ⟨fun h=>?_,fun h=>?_⟩ | refine aJ ?_ | refine ⟨_,rfl,?_⟩ | refine aD ?_ | fail
    | true=>
     cases q5 with
     | false=>
      refine cT (E:=E) (fn:=Tryz.f88) (g:=.pure _) fun _=>?_
      repeat' first | (refine gN hE ?_;conv=>whnf) | refine .pure _ [] b1 ?_ | refine .pure _ [] b2 ?_ | refine .pure _ [] b3 ?_ | refine .pure _ [] b4 ?_ | refine .pure _ [] b5 ?_ | refine .pure _ [] b6 ?_ | refine .pure _ [] b7 ?_ | exact rfl | refine aY ?_ | refine aN ?_ | refine aT fun h=>?_ | refine aF fun h=>?_ | refine ⟨fun h=>?_,fun h=>?_⟩ | refine aJ ?_ | refine ⟨_,rfl,?_⟩ | refine aD ?_ | fail
     | true=>
      cases q6 with
      | false=>
       refine cT (E:=E) (fn:=Tryz.f88) (g:=.pure _) fun _=>?_
       repeat' first | (refine gN hE ?_;conv=>whnf) | refine .pure _ [] b1 ?_ | refine .pure _ [] b2 ?_ | refine .pure _ [] b3 ?_ | refine .pure _ [] b4 ?_ | refine .pure _ [] b5 ?_ | refine .pure _ [] b6 ?_ | refine .pure _ [] b7 ?_ | exact rfl | refine aY ?_ | refine aN ?_ | refine aT fun h=>?_ | refine aF fun h=>?_ | refine ⟨fun h=>?_,fun h=>?_⟩ | refine aJ ?_ | refine ⟨_,rfl,?_⟩ | refine aD ?_ | fail
      | true=>
       cases q7 with
       | false=>
        refine cT (E:=E) (fn:=Tryz.f88) (g:=.pure _) fun _=>?_
        repeat' first | (refine gN hE ?_;conv=>whnf) | refine .pure _ [] b1 ?_ | refine .pure _ [] b2 ?_ | refine .pure _ [] b3 ?_ | refine .pure _ [] b4 ?_ | refine .pure _ [] b5 ?_ | refine .pure _ [] b6 ?_ | refine .pure _ [] b7 ?_ | exact rfl | refine aY ?_ | refine aN ?_ | refine aT fun h=>?_ | refine aF fun h=>?_ | refine ⟨fun h=>?_,fun h=>?_⟩ | refine aJ ?_ | refine ⟨_,rfl,?_⟩ | refine aD ?_ | fail
       | true=>
        refine cT (E:=E) (fn:=Tryz.f88) (g:=.pure _) fun _=>?_
        repeat' first | (refine gN hE ?_;conv=>whnf) | refine .pure _ [] b1 ?_ | refine .pure _ [] b2 ?_ | refine .pure _ [] b3 ?_ | refine .pure _ [] b4 ?_ | refine .pure _ [] b5 ?_ | refine .pure _ [] b6 ?_ | refine .pure _ [] b7 ?_ | exact rfl | refine aY ?_ | refine aN ?_ | refine aT fun h=>?_ | refine aF fun h=>?_ | refine ⟨fun h=>?_,fun h=>?_⟩ | refine aJ ?_ | refine ⟨_,rfl,?_⟩ | refine aD ?_ | fail
theorem G8 (c:Con) (hc:c.sm) (g:Gan):aA Tryz.prog 112 [c.av,g.av] [] (.ret (ii (hY c g))) []:=by
 have hv:=nB g.need
 have hl:=kU c hc g.ten
 rw [sG] at hl
 unfold hY zZ
 generalize aV g.need=q3 at hv
 generalize bS c.ns g.ten=q7 at hl
 by_cases p1:1<=g.id/\g.id<=1073741824/\1<=g.pods/\g.pods<=16
 .rw [decide_eq_true p1]
  cases q3 with
  | false=>
   refine cT (E:=E) (fn:=Tryz.f112) (g:=.pure _) fun _=>?_
   repeat' first | (refine gN hE ?_;conv=>whnf) | refine .pure _ [] hv ?_ | refine .pure _ [] hl ?_ | exact rfl | refine aY ?_ | refine aN ?_ | refine aT fun h=>?_ | refine aF fun h=>?_ | refine ⟨fun h=>?_,fun h=>?_⟩ | refine aJ ?_ | refine ⟨_,rfl,?_⟩ | refine aD ?_ | fail
  | true=>
   by_cases p2:1<=g.run/\g.run<=1048576/\0<=g.lev/\g.lev<=3/\0<=g.pref/\g.pref<=g.lev
   .rw [decide_eq_true p2]
    cases q7 with
    | false=>
     refine cT (E:=E) (fn:=Tryz.f112) (g:=.pure _) fun _=>?_
     repeat' first | (refine gN hE ?_;conv=>whnf) | refine .pure _ [] hv ?_ | refine .pure _ [] hl ?_ | exact rfl | refine aY ?_ | refine aN ?_ | refine aT fun h=>?_ | refine aF fun h=>?_ | refine ⟨fun h=>?_,fun h=>?_⟩ | refine aJ ?_ | refine ⟨_,rfl,?_⟩ | refine aD ?_ | fail
    | true=>
     refine cT (E:=E) (fn:=Tryz.f112) (g:=.pure _) fun _=>?_
     repeat' first | (refine gN hE ?_;conv=>whnf) | refine .pure _ [] hv ?_ | refine .pure _ [] hl ?_ | exact rfl | refine aY ?_ | refine aN ?_ | refine aT fun h=>?_ | refine aF fun h=>?_ | refine ⟨fun h=>?_,fun h=>?_⟩ | refine aJ ?_ | refine ⟨_,rfl,?_⟩ | refine aD ?_ | fail
   .rw [decide_eq_false p2]
    refine cT (E:=E) (fn:=Tryz.f112) (g:=.pure _) fun _=>?_
    repeat' first | (refine gN hE ?_;conv=>whnf) | refine .pure _ [] hv ?_ | refine .pure _ [] hl ?_ | exact rfl | refine aY ?_ | refine aN ?_ | refine aT fun h=>?_ | refine aF fun h=>?_ | refine ⟨fun h=>?_,fun h=>?_⟩ | refine aJ ?_ | refine ⟨_,rfl,?_⟩ | refine aD ?_ | fail
    all_goals (exfalso;simp only [decide_eq_true_eq,decide_eq_false_iff_not] at *;omega)
 .rw [decide_eq_false p1]
  refine cT (E:=E) (fn:=Tryz.f112) (g:=.pure _) fun _=>?_
  repeat' first | (refine gN hE ?_;conv=>whnf) | refine .pure _ [] hv ?_ | refine .pure _ [] hl ?_ | exact rfl | refine aY ?_ | refine aN ?_ | refine aT fun h=>?_ | refine aF fun h=>?_ | refine ⟨fun h=>?_,fun h=>?_⟩ | refine aJ ?_ | refine ⟨_,rfl,?_⟩ | refine aD ?_ | fail
  all_goals (exfalso;simp only [decide_eq_true_eq,decide_eq_false_iff_not] at *;omega)
def H8 (c:Con):Bool:=C8.eqL Nod.eqb c.ns []&&(C8.eqL Hos.eqb c.hs []&&(c.half==0&&c.age==0))
theorem NA (c:Con):H8 c=fV c:=by
 obtain ⟨ns,hs,hf,ag⟩:=c
 unfold H8 fV
 cases ns<;>cases hs<;>simp [C8.eqL]<;>rfl
def aCg:Con:=⟨[],[],0,0⟩
theorem OQ (c:Con):aA Tryz.prog 80 [c.av,aCg.av] [] (.ret (.bool (fV c))) []:=by
 have h1:=C8.eqN_ok c.ns []
 have h2:=C8.eqH_ok c.hs []
 rw [<-NA]
 unfold H8
 generalize C8.eqL Nod.eqb c.ns []=q1 at h1
 generalize C8.eqL Hos.eqb c.hs []=q2 at h2
 obtain ⟨R,hR⟩:∃ R:Bool,R=(q1&&(q2&&(c.half==0&&c.age==0))):=⟨_,rfl⟩
 rw [<-hR]
 cases q1 with
 | false=>
  have hR:R=false:=hR
  subst hR
  refine cT (E:=E) (fn:=Tryz.f80) (g:=.pure _) fun _=>?_
  repeat' first | (refine gN hE ?_;conv=>whnf) | refine .pure _ [] h1 ?_ | refine .pure _ [] h2 ?_ | exact rfl | refine aY ?_ | refine aN ?_ | refine aT fun h=>?_ | refine aF fun h=>?_ | refine ⟨fun h=>?_,fun h=>?_⟩ | refine aJ ?_ | refine ⟨_,rfl,?_⟩ | refine aD ?_ | fail
 | true=>
  cases q2 with
  | false=>
   have hR:R=false:=hR
   subst hR
   refine cT (E:=E) (fn:=Tryz.f80) (g:=.pure _) fun _=>?_
   repeat' first | (refine gN hE ?_;conv=>whnf) | refine .pure _ [] h1 ?_ | refine .pure _ [] h2 ?_ | exact rfl | refine aY ?_ | refine aN ?_ | refine aT fun h=>?_ | refine aF fun h=>?_ | refine ⟨fun h=>?_,fun h=>?_⟩ | refine aJ ?_ | refine ⟨_,rfl,?_⟩ | refine aD ?_ | fail
  | true=>
   have hR:R=(c.half==0&&c.age==0):=hR
   refine cT (E:=E) (fn:=Tryz.f80) (g:=.pure _) fun _=>?_
   repeat' first | (refine gN hE ?_;conv=>whnf) | refine .pure _ [] h1 ?_ | refine .pure _ [] h2 ?_ | exact rfl | refine aY ?_ | refine aN ?_ | refine aT fun h=>?_ | refine aF fun h=>?_ | refine ⟨fun h=>?_,fun h=>?_⟩ | refine aJ ?_ | refine ⟨_,rfl,?_⟩ | refine aD ?_ | fail
   all_goals (rw [hR];simp_all [aCg])
theorem nW (c:Con):aA Tryz.prog 37 [c.av] [] (.ret (.bool (fV c))) []:=by
 have h:=OQ c
 generalize fV c=q at h
 refine cT (E:=E) (fn:=Tryz.f37) (g:=.pure _) fun _=>?_
 repeat' first | (refine gN hE ?_;conv=>whnf) | refine .pure _ [] (aA.strip h) ?_ | exact rfl | refine aY ?_ | refine aN ?_ | refine aT fun h=>?_ | refine aF fun h=>?_ | refine ⟨fun h=>?_,fun h=>?_⟩ | refine aJ ?_ | refine ⟨_,rfl,?_⟩ | refine aD ?_ | fail
def CG {α:Type} (p:α->Bool):List α->Int->Int
 | [],_=> -1
 | x::r,i=>if p x=true then i else CG p r (i+1)
theorem xR {α:Type} (p:α->Bool):∀ (l:List α) (i:Int),0<=i->decide (0<=CG p l i)=l.any p
 | [],i,_=>rfl
 | x::r,i,h=>by
  unfold CG
  rw [Gb]
  cases hp:p x with
  | true=>rw [if_pos rfl,decide_eq_true h];rfl
  | false=>rw [if_neg (by decide),xR p r (i+1) (by omega)];rfl
theorem HT (f:FuncId) (cap:List AVal) (xs:List Int) (p:Int->Bool) (hf:∀ x∈xs,aA Tryz.prog f [ii x,.ptr cap] [] (.ret (.bool (p x))) []) (hl:((iv xs).length:Int)<=9223372036854775807) (r:Int):
  ∀ (n i:Nat),i+n=xs.length->CG p (xs.drop i) i=r->
  To E Tryz.f184 (.pure (.ret (.int .i64 r))) (.head (stk Tryz.f184 0) [(0,.slice 1 (iv xs) .no),(1,.func (.func f) [] [.ptr cap]),(7,.int .i64 ((iv xs).length:Nat)),(8,.int .i64 i)] []):=by
  have hlen:(iv xs).length=xs.length:=by simp
  intro n
  induction n with
  | zero=>
   intro i hi hr
   refine gW hE ?_;conv=>whnf
   refine aF fun h=>?_
   refine gW hE ?_;conv=>whnf
   rw [Af (by omega)] at hr
   rw [<-hr]
   rfl
  | succ n ih=>
   intro i hi hr
   have hlt:i<xs.length:=by omega
   refine gW hE ?_;conv=>whnf
   refine aT fun h=>?_
   refine gW hE ?_;conv=>whnf
   refine ⟨i,rfl,?_⟩
   refine gW hE ?_;conv=>whnf
   refine ⟨_,cG hlt,?_⟩
   refine gW hE ?_;conv=>whnf
   refine .pure _ [] (hf xs[i] (Bn hlt)) ?_
   refine gW hE ?_;conv=>whnf
   rw [Ae hlt] at hr
   have hr:(if p xs[i]=true then (i:Int) else CG p (xs.drop (i+1)) ((i:Int)+1))=r:=hr
   refine ⟨fun h2=>?_,fun h2=>?_⟩
   .refine gW hE ?_;conv=>whnf
    rw [if_pos h2] at hr
    rw [hr]
   .refine gW hE ?_;conv=>whnf
    rw [if_neg (by rw [h2];simp)] at hr
    refine .inl ⟨⟨by simp only [cC];omega,by simp only [bF];omega⟩,?_⟩
    refine gW hE ?_;conv=>whnf
    refine To.head [0,1,7,8] ?_
    exact ih (i+1) (by omega) (by rw [<-hr];push_cast;rfl)
theorem HU (f:FuncId) (cap:List AVal) (xs:List (List Int)) (p:List Int->Bool) (hf:∀ x∈xs,aA Tryz.prog f [.slice 1 (iv x) .no,.ptr cap] [] (.ret (.bool (p x))) []) (hl:((gav xs).length:Int)<=9223372036854775807) (r:Int):
  ∀ (n i:Nat),i+n=xs.length->CG p (xs.drop i) i=r->
  To E Tryz.f182 (.pure (.ret (.int .i64 r))) (.head (stk Tryz.f182 0) [(0,.slice 1 (gav xs) .no),(1,.func (.func f) [] [.ptr cap]),(7,.int .i64 ((gav xs).length:Nat)),(8,.int .i64 i)] []):=by
  have hlen:(gav xs).length=xs.length:=by simp
  intro n
  induction n with
  | zero=>
   intro i hi hr
   refine gW hE ?_;conv=>whnf
   refine aF fun h=>?_
   refine gW hE ?_;conv=>whnf
   rw [Af (by omega)] at hr
   rw [<-hr]
   rfl
  | succ n ih=>
   intro i hi hr
   have hlt:i<xs.length:=by omega
   refine gW hE ?_;conv=>whnf
   refine aT fun h=>?_
   refine gW hE ?_;conv=>whnf
   refine ⟨i,rfl,?_⟩
   refine gW hE ?_;conv=>whnf
   refine ⟨_,rI hlt,?_⟩
   refine gW hE ?_;conv=>whnf
   refine .pure _ [] (hf xs[i] (Bn hlt)) ?_
   refine gW hE ?_;conv=>whnf
   rw [Ae hlt] at hr
   have hr:(if p xs[i]=true then (i:Int) else CG p (xs.drop (i+1)) ((i:Int)+1))=r:=hr
   refine ⟨fun h2=>?_,fun h2=>?_⟩
   .refine gW hE ?_;conv=>whnf
    rw [if_pos h2] at hr
    rw [hr]
   .refine gW hE ?_;conv=>whnf
    rw [if_neg (by rw [h2];simp)] at hr
    refine .inl ⟨⟨by simp only [cC];omega,by simp only [bF];omega⟩,?_⟩
    refine gW hE ?_;conv=>whnf
    refine To.head [0,1,7,8] ?_
    exact ih (i+1) (by omega) (by rw [<-hr];push_cast;rfl)
theorem TO (f:FuncId) (cap:List AVal) (xs:List Int) (p:Int->Bool) (hf:∀ x∈xs,aA Tryz.prog f [ii x,.ptr cap] [] (.ret (.bool (p x))) []):
  aA Tryz.prog 163 [.slice 1 (iv xs) .no,.func (.func f) [] [.ptr cap]] [] (.ret (.bool (xs.any p))) []:=by
 have hi:aA Tryz.prog 184 [.slice 1 (iv xs) .no,.func (.func f) [] [.ptr cap]] [] (.ret (.int .i64 (CG p xs 0))) []:=by
  refine cT (E:=E) (fn:=Tryz.f184) (g:=.pure _) fun ho=>?_
  refine gW hE ?_;conv=>whnf
  refine To.head [0,1,7,8] ?_
  exact HT f cap xs p hf ho.1 _ xs.length 0 (by omega) (by simp)
 rw [<-xR p xs 0 (Gi _)]
 refine cT (E:=E) (fn:=Tryz.f163) (g:=.pure _) fun _=>?_
 repeat' first | (refine gN hE ?_;conv=>whnf) | refine .pure _ [] hi ?_ | exact rfl | refine aY ?_ | refine aN ?_ | refine aT fun h=>?_ | refine aF fun h=>?_ | refine ⟨fun h=>?_,fun h=>?_⟩ | refine aJ ?_ | refine ⟨_,rfl,?_⟩ | refine aD ?_ | fail
theorem TP (f:FuncId) (cap:List AVal) (xs:List (List Int)) (p:List Int->Bool) (hf:∀ x∈xs,aA Tryz.prog f [.slice 1 (iv x) .no,.ptr cap] [] (.ret (.bool (p x))) []):
  aA Tryz.prog 160 [.slice 1 (gav xs) .no,.func (.func f) [] [.ptr cap]] [] (.ret (.bool (xs.any p))) []:=by
 have hi:aA Tryz.prog 182 [.slice 1 (gav xs) .no,.func (.func f) [] [.ptr cap]] [] (.ret (.int .i64 (CG p xs 0))) []:=by
  refine cT (E:=E) (fn:=Tryz.f182) (g:=.pure _) fun ho=>?_
  refine gW hE ?_;conv=>whnf
  refine To.head [0,1,7,8] ?_
  exact HU f cap xs p hf ho.1 _ xs.length 0 (by omega) (by simp)
 rw [<-xR p xs 0 (Gi _)]
 refine cT (E:=E) (fn:=Tryz.f160) (g:=.pure _) fun _=>?_
 repeat' first | (refine gN hE ?_;conv=>whnf) | refine .pure _ [] hi ?_ | exact rfl | refine aY ?_ | refine aN ?_ | refine aT fun h=>?_ | refine aF fun h=>?_ | refine ⟨fun h=>?_,fun h=>?_⟩ | refine aJ ?_ | refine ⟨_,rfl,?_⟩ | refine aD ?_ | fail
theorem YN (G:List Int) (hG:G.length<=1048576) (h:Int):aA Tryz.prog 164 [ii h,.ptr [.slice 1 (iv G) .no]] [] (.ret (.bool (!inB h G))) []:=by
 have hc:=qAa G hG h
 refine cT (E:=E) (fn:=Tryz.f164) (g:=.pure _) fun _=>?_
 repeat' first | (refine gN hE ?_;conv=>whnf) | refine .pure _ [] hc ?_ | exact rfl | refine aY ?_ | refine aN ?_ | refine aT fun h=>?_ | refine aF fun h=>?_ | refine ⟨fun h=>?_,fun h=>?_⟩ | refine aJ ?_ | refine ⟨_,rfl,?_⟩ | refine aD ?_ | fail
theorem aBf (G l:List Int) (hG:G.length<=1048576):aA Tryz.prog 162 [.slice 1 (iv G) .no,.ptr [.slice 1 (iv l) .no]] [] (.ret (.bool (!(l.any fun h=>!inB h G)))) []:=by
 have hc:=TO 164 [.slice 1 (iv G) .no] l (fun h=>!inB h G) fun x _=>YN G hG x
 refine cT (E:=E) (fn:=Tryz.f162) (g:=.pure _) fun _=>?_
 refine bW hE 10 ?_;conv=>whnf
 refine To.frz [2] [0] ?_
 repeat' first | (refine gN hE ?_;conv=>whnf) | refine .pure _ [] hc ?_ | exact rfl | refine aY ?_ | refine aN ?_ | refine aT fun h=>?_ | refine aF fun h=>?_ | refine ⟨fun h=>?_,fun h=>?_⟩ | refine aJ ?_ | refine ⟨_,rfl,?_⟩ | refine aD ?_ | fail
theorem N4 {l:List V3} {u:Int} (h0:0<=u) (h1:u<(l.length:Int)):(vav l)[u.toNat]? =some ((l[u.toNat]?).getD V3.zero).av:=by
 rw [Ac (show u.toNat<l.length by omega)]
 exact iP (by omega)
theorem I7 {c:Con} {l:List Rn} {n:Int} (h:c.ok n):(vav (ofL c l))[n.toNat]? =some (atV (ofL c l) n).av:=by
 obtain ⟨h0,h1⟩:=h
 have hl:(ofL c l).length=c.ns.length:=by unfold ofL mJ;simp
 unfold atV
 rw [if_neg (by simp;omega)]
 exact N4 h0 (by omega)
theorem B9 (k:List Int) (v:AVal) (x:List Int):∀ (es:List (List Int×AVal)),bL (jG es k v) x=if k=x then some v else bL es x
 | []=>rfl
 | (j,w)::r=>by
  show bL (if j=k then (k,v)::r else (j,w)::jG r k v) x=if k=x then some v else (if j=x then some w else bL r x)
  by_cases hj:j=k
  .subst hj
   rw [if_pos rfl]
   show (if j=x then some v else bL r x)=_
   by_cases hx:j=x
   .rw [if_pos hx,if_pos hx]
   .rw [if_neg hx,if_neg hx,if_neg hx]
  .rw [if_neg hj]
   show (if j=x then some w else bL (jG r k v) x)=_
   rw [B9 k v x r]
   by_cases hx:j=x
   .subst hx
    rw [if_pos rfl,if_neg (fun q=>hj q.symm),if_pos rfl]
   .rw [if_neg hx,if_neg hx]
def aBq (es:List (List Int×AVal)) (pre:List Int):Prop:=∀ h:Int,bL es [h]=if pre.count h=0 then none else some (ii ((pre.count h:Nat):Int))
theorem RB {es:List (List Int×AVal)} {pre:List Int} (hm:aBq es pre) (h v:Int) (hv:v=((pre.count h:Nat):Int)+1):aBq (jG es [h] (ii v)) (pre++[h]):=fun x=>by
 rw [B9,Jb]
 by_cases hx:h=x
 .subst hx
  rw [if_pos rfl,if_neg (by simp),hv]
  simp
 .rw [if_neg (by simpa using hx),hm x]
  have:[h].count x=0:=List.count_eq_zero.2 (by simpa using fun q=>hx q.symm)
  rw [this,Dk]
def plS (free:List V3) (need:V3) (n h:Int):Bool:=if decide (h<0)=true then false else if decide ((free.length:Int)<=h)=true then false else !decide (dT ((free[h.toNat]?).getD V3.zero) need<n)
def plB (free:List V3) (need:V3):List Int->List Int->Bool
 | _,[]=>true
 | pre,h::r=>plS free need (((pre.count h:Nat):Int)+1) h&&plB free need (pre++[h]) r
noncomputable abbrev XR:Func:=Tryz.f134
def R0 (l:List Int) (G:List Int):Bool:=!(l.any fun h=>!inB h G)
abbrev plF (c:Con) (free:List V3) (g:Gan) (l:List Int) (i:Int):List (Nat×AVal):=[(1,.slice 3 (vav free) .no),(4,.ptr c.cs),(6,.ptr g.cs),(7,.ptr [.slice 1 (iv l) .no]),(9,.mref 0),(18,.slice 1 (iv l) .no),(19,.int .i64 ((iv l).length:Nat)),(20,ii i)]
theorem QH (c:Con) (hc:c.sm) (free:List V3) (g:Gan) (l:List Int) (hl:l.length<=1048576) (A:Bool) (hA:(gpL c g.lev).any (R0 l)=A) (r:Bool):∀ (m i:Nat) (es:List (List Int×AVal)),i+m=l.length->aBq es (l.take i)->(plB free g.need (l.take i) (l.drop i)&&A)=r->
  To E XR (.pure (.ret (.bool r))) (.head (stk XR 0) (plF c free g l (i:Int)) [.mp false es]):=by
 have hlen:(iv l).length=l.length:=by simp
 have hfl:(vav free).length=free.length:=by simp
 intro m
 induction m with
 | zero=>
  intro i es hi hm hr
  rw [Af (by omega)] at hr
  have hr:A=r:=hr
  subst hr
  have hok:=CH c g.lev
  have hch:=hc.hs
  have h1:=AZ c hc g.lev
  have h2:=TP 162 [.slice 1 (iv l) .no] (gpL c g.lev) (R0 l) fun G hG=>aBf G l (by have:=(hok.2 G hG).2.1;omega)
  rw [hA] at h2
  generalize gpL c g.lev=gs at h1 h2
  refine gW hE ?_;conv=>whnf
  refine aF fun h=>?_
  repeat' first | (refine gN hE ?_;conv=>whnf) | refine .pure _ [] h1 ?_ | refine .pure _ [] h2 ?_ | exact rfl | refine aY ?_ | refine aN ?_ | refine aT fun h=>?_ | refine aF fun h=>?_ | refine ⟨fun h=>?_,fun h=>?_⟩ | refine aJ ?_ | refine ⟨_,rfl,?_⟩ | refine aD ?_ | fail
 | succ m ih=>
  intro i es hi hm hr
  have hlt:i<l.length:=by omega
  have htk:l.take (i+1)=l.take i++[l[i]]:=by rw [Gw,Ac hlt];rfl
  rw [Ae hlt] at hr
  have get:=cG hlt
  have ih:=fun es=>ih (i+1) es (by omega)
  rw [htk] at ih
  generalize l[i]=u0 at hr get ih
  have hcnt:((l.take i).count u0)<=1048576:=Cx List.count_le_length (by simp;omega)
  have next:=fun v (hv:v=(((l.take i).count u0:Nat):Int)+1)=>ih (jG es [u0] (ii v)) (RB hm u0 v hv)
  have hf:=hm u0
  have hf2:∀ v,bL (jG es [u0] v) [u0]=some v:=fun v=>by rw [B9,if_pos rfl]
  have hr:((plS free g.need ((((l.take i).count u0:Nat):Int)+1) u0&&plB free g.need (l.take i++[u0]) (l.drop (i+1)))&&A)=r:=hr
  generalize plB free g.need (l.take i++[u0]) (l.drop (i+1))=B at hr next
  generalize (l.take i).count u0=k at hcnt hf hr next
  unfold plS at hr
  have go:∀ (w:Int),w=(k:Int)->(∃ o,bL es [u0]=o/\(o=none/\w=0\/o=some (ii w)))->To E XR (.pure (.ret (.bool r))) (.head (stk XR 0) (plF c free g l (i:Int)) [.mp false es]):=fun w hwk ⟨o,ho,hw⟩=>by
   have next:=next (w+1) (by omega)
   rw [show ((k:Int)+1)=w+1 from by omega] at hr
   by_cases h1:u0<0
   .rw [decide_eq_true h1] at hr
    have hr:false=r:=hr
    subst hr
    rcases hw with ⟨rfl,rfl⟩ | rfl
    .refine gW hE ?_;conv=>whnf
     refine aT fun h=>?_
     repeat' first | (refine gN hE ?_;conv=>whnf) | refine ⟨i,rfl,?_⟩ | refine ⟨u0.toNat,hn,?_⟩ | refine ⟨_,get,?_⟩ | refine ⟨_,gv,?_⟩ | refine ⟨_,ho,?_⟩ | refine Al _ (Aa (hf2 _) ?_) | refine .pure _ [] hroom ?_ | exact rfl | refine aY ?_ | refine aN ?_ | refine aT fun h=>?_ | refine aF fun h=>?_ | refine ⟨fun h=>?_,fun h=>?_⟩ | refine aJ ?_ | refine ⟨_,rfl,?_⟩ | refine aD ?_ | fail
    .refine gW hE ?_;conv=>whnf
     refine aT fun h=>?_
     repeat' first | (refine gN hE ?_;conv=>whnf) | refine ⟨i,rfl,?_⟩ | refine ⟨u0.toNat,hn,?_⟩ | refine ⟨_,get,?_⟩ | refine ⟨_,gv,?_⟩ | refine ⟨_,ho,?_⟩ | refine Al _ (Aa (hf2 _) ?_) | refine .pure _ [] hroom ?_ | exact rfl | refine aY ?_ | refine aN ?_ | refine aT fun h=>?_ | refine aF fun h=>?_ | refine ⟨fun h=>?_,fun h=>?_⟩ | refine aJ ?_ | refine ⟨_,rfl,?_⟩ | refine aD ?_ | fail
   .rw [decide_eq_false h1,if_neg (by decide)] at hr
    by_cases h2:(free.length:Int)<=u0
    .rw [decide_eq_true h2] at hr
     have hr:false=r:=hr
     subst hr
     rcases hw with ⟨rfl,rfl⟩ | rfl
     .refine gW hE ?_;conv=>whnf
      refine aT fun h=>?_
      repeat' first | (refine gN hE ?_;conv=>whnf) | refine ⟨i,rfl,?_⟩ | refine ⟨u0.toNat,hn,?_⟩ | refine ⟨_,get,?_⟩ | refine ⟨_,gv,?_⟩ | refine ⟨_,ho,?_⟩ | refine Al _ (Aa (hf2 _) ?_) | refine .pure _ [] hroom ?_ | exact rfl | refine aY ?_ | refine aN ?_ | refine aT fun h=>?_ | refine aF fun h=>?_ | refine ⟨fun h=>?_,fun h=>?_⟩ | refine aJ ?_ | refine ⟨_,rfl,?_⟩ | refine aD ?_ | fail
     .refine gW hE ?_;conv=>whnf
      refine aT fun h=>?_
      repeat' first | (refine gN hE ?_;conv=>whnf) | refine ⟨i,rfl,?_⟩ | refine ⟨u0.toNat,hn,?_⟩ | refine ⟨_,get,?_⟩ | refine ⟨_,gv,?_⟩ | refine ⟨_,ho,?_⟩ | refine Al _ (Aa (hf2 _) ?_) | refine .pure _ [] hroom ?_ | exact rfl | refine aY ?_ | refine aN ?_ | refine aT fun h=>?_ | refine aF fun h=>?_ | refine ⟨fun h=>?_,fun h=>?_⟩ | refine aJ ?_ | refine ⟨_,rfl,?_⟩ | refine aD ?_ | fail
    .rw [decide_eq_false h2,if_neg (by decide)] at hr
     have hn:u0=(u0.toNat:Int):=by omega
     have gv:=N4 (l:=free) (u:=u0) (by omega) (by omega)
     generalize (free[u0.toNat]?).getD V3.zero=fv at gv hr
     have hroom:=JI fv g.need
     generalize dT fv g.need=q at hroom hr
     by_cases h3:q<w+1
     .rw [decide_eq_true h3] at hr
      have hr:false=r:=hr
      subst hr
      rcases hw with ⟨rfl,rfl⟩ | rfl
      .refine gW hE ?_;conv=>whnf
       refine aT fun h=>?_
       repeat' first | (refine gN hE ?_;conv=>whnf) | refine ⟨i,rfl,?_⟩ | refine ⟨u0.toNat,hn,?_⟩ | refine ⟨_,get,?_⟩ | refine ⟨_,gv,?_⟩ | refine ⟨_,ho,?_⟩ | refine Al _ (Aa (hf2 _) ?_) | refine .pure _ [] hroom ?_ | exact rfl | refine aY ?_ | refine aN ?_ | refine aT fun h=>?_ | refine aF fun h=>?_ | refine ⟨fun h=>?_,fun h=>?_⟩ | refine aJ ?_ | refine ⟨_,rfl,?_⟩ | refine aD ?_ | fail
      .refine gW hE ?_;conv=>whnf
       refine aT fun h=>?_
       repeat' first | (refine gN hE ?_;conv=>whnf) | refine ⟨i,rfl,?_⟩ | refine ⟨u0.toNat,hn,?_⟩ | refine ⟨_,get,?_⟩ | refine ⟨_,gv,?_⟩ | refine ⟨_,ho,?_⟩ | refine Al _ (Aa (hf2 _) ?_) | refine .pure _ [] hroom ?_ | exact rfl | refine aY ?_ | refine aN ?_ | refine aT fun h=>?_ | refine aF fun h=>?_ | refine ⟨fun h=>?_,fun h=>?_⟩ | refine aJ ?_ | refine ⟨_,rfl,?_⟩ | refine aD ?_ | fail
     .rw [decide_eq_false h3] at hr
      have next:=next hr
      rcases hw with ⟨rfl,rfl⟩ | rfl
      .refine gW hE ?_;conv=>whnf
       refine aT fun h=>?_
       repeat' first | (refine gN hE ?_;conv=>whnf) | refine ⟨i,rfl,?_⟩ | refine ⟨u0.toNat,hn,?_⟩ | refine ⟨_,get,?_⟩ | refine ⟨_,gv,?_⟩ | refine ⟨_,ho,?_⟩ | refine Al _ (Aa (hf2 _) ?_) | refine .pure _ [] hroom ?_ | exact rfl | refine aY ?_ | refine aN ?_ | refine aT fun h=>?_ | refine aF fun h=>?_ | refine ⟨fun h=>?_,fun h=>?_⟩ | refine aJ ?_ | refine ⟨_,rfl,?_⟩ | refine aD ?_ | fail
       exact To.cut [1,4,6,7,9,18,19,20] 1 rfl rfl rfl rfl next
      .refine gW hE ?_;conv=>whnf
       refine aT fun h=>?_
       repeat' first | (refine gN hE ?_;conv=>whnf) | refine ⟨i,rfl,?_⟩ | refine ⟨u0.toNat,hn,?_⟩ | refine ⟨_,get,?_⟩ | refine ⟨_,gv,?_⟩ | refine ⟨_,ho,?_⟩ | refine Al _ (Aa (hf2 _) ?_) | refine .pure _ [] hroom ?_ | exact rfl | refine aY ?_ | refine aN ?_ | refine aT fun h=>?_ | refine aF fun h=>?_ | refine ⟨fun h=>?_,fun h=>?_⟩ | refine aJ ?_ | refine ⟨_,rfl,?_⟩ | refine aD ?_ | fail
       exact To.cut [1,4,6,7,9,18,19,20] 1 rfl rfl rfl rfl next
  by_cases hk:k=0
  .rw [if_pos hk] at hf
   exact go 0 (by omega) ⟨_,hf,.inl ⟨rfl,rfl⟩⟩
  .rw [if_neg hk] at hf
   exact go k rfl ⟨_,hf,.inr rfl⟩
theorem B3 {free:List V3} {need:V3} {n h:Int}:plS free need n h=true↔0<=h/\h<(free.length:Int)/\n<=dT ((free[h.toNat]?).getD V3.zero) need:=by
 unfold plS
 by_cases h1:h<0
 .rw [if_pos (decide_eq_true h1)]
  constructor
  .intro q;cases q
  .intro q;omega
 .rw [if_neg (by rw [decide_eq_false h1];decide)]
  by_cases h2:(free.length:Int)<=h
  .rw [if_pos (decide_eq_true h2)]
   constructor
   .intro q;cases q
   .intro q;omega
  .rw [if_neg (by rw [decide_eq_false h2];decide)]
   simp
   omega
theorem JY {free:List V3} {need:V3}:∀ (l pre:List Int),plB free need pre l=true↔ ∀ u∈l,0<=u/\u<(free.length:Int)/\(((pre++l).count u:Nat):Int)<=dT ((free[u.toNat]?).getD V3.zero) need
 | [],pre=>by simp [plB]
 | h::r,pre=>by
  unfold plB
  rw [Ad,B3,JY r (pre++[h]),Aj]
  show _↔ ∀ u∈h::r,0<=u/\u<(free.length:Int)/\(((pre++h::r).count u:Nat):Int)<=dT ((free[u.toNat]?).getD V3.zero) need
  have e:pre++([h]++r)=pre++h::r:=rfl
  rw [e]
  constructor
  .rintro ⟨⟨a,b,c⟩,d⟩ u hu
   by_cases hr:u∈r
   .exact d u hr
   .rcases Bh.1 hu with rfl | hu
    .refine ⟨a,b,?_⟩
     rw [Jb,Hv,List.count_eq_zero.2 hr]
     simpa using c
    .exact absurd hu hr
  .intro d
   refine ⟨?_,fun u hu=>d u (Co _ hu)⟩
   obtain ⟨a,b,c⟩:=d h (Bl ..)
   refine ⟨a,b,?_⟩
   rw [Jb,Hv] at c
   omega
theorem A6 {free:List V3} {need:V3} {hs:List Int}:rK free need hs=true↔ ∀ u∈hs,0<=u/\u<(free.length:Int)/\((hs.count u:Nat):Int)<=dT ((free[u.toNat]?).getD V3.zero) need:=by
 unfold rK
 rw [Cl]
 have key:∀ u,H0 free need hs u=plS free need (CZ u hs) u:=fun u=>rfl
 constructor
 .intro q u hu
  have:=q u hu
  rw [key,B3] at this
  have e:CZ u hs=((hs.count u:Nat):Int):=by unfold CZ;rw [CY];omega
  rw [e] at this
  exact this
 .intro q u hu
  rw [key,B3]
  have e:CZ u hs=((hs.count u:Nat):Int):=by unfold CZ;rw [CY];omega
  rw [e]
  exact q u hu
theorem W8 (l G:List Int):R0 l G=kN G l:=by
 rw [Fa,N1]
 unfold R0 inB
 simp [Gm]
theorem aBh (c:Con) (free:List V3) (g:Gan) (l:List Int) (hl:(l.length:Int)=g.pods):(plB free g.need [] l&&(gpL c g.lev).any (R0 l))=rT c free g l:=by
 unfold rT
 rw [if_pos hl]
 have e:plB free g.need [] l=rK free g.need l:=by
  rw [Fa,JY,A6]
  rfl
 rw [e,Fa,Ad,Gm,Gm]
 unfold chkG
 simp only [W8,Ad]
 constructor
 .rintro ⟨a,G,b,d⟩
  exact ⟨G,b,d,a⟩
 .rintro ⟨G,b,d,a⟩
  exact ⟨a,G,b,d⟩
theorem aAq (c:Con) (hc:c.sm) (free:List V3) (g:Gan) (l:List Int) (hl:l.length<=1048576):aA Tryz.prog 134 [c.av,.slice 3 (vav free) .no,g.av,.slice 1 (iv l) .no] [] (.ret (.bool (rT c free g l))) []:=by
 have hlen:(iv l).length=l.length:=by simp
 by_cases h1:(l.length:Int)=g.pods
 .have hlp:=QH c hc free g l hl _ rfl (rT c free g l) l.length 0 [] (by omega) (fun h=>by simp [bL]) (aBh c free g l h1)
  have hk:((((iv l).length:Nat):Int) !=g.pods)=false:=by rw [hlen];simp [h1]
  generalize rT c free g l=r at hlp
  refine cT (E:=E) (fn:=Tryz.f134) (g:=.pure _) fun _=>?_
  refine bW hE 16 ?_;conv=>whnf
  refine To.frz [4,6,7] [0,1,2] ?_
  repeat' first | (refine gN hE ?_;conv=>whnf) | refine Aa (fun h=>absurd h (by rw [hk];decide)) (fun h=>?_) | exact rfl | refine aY ?_ | refine aN ?_ | refine aT fun h=>?_ | refine aF fun h=>?_ | refine ⟨fun h=>?_,fun h=>?_⟩ | refine aJ ?_ | refine ⟨_,rfl,?_⟩ | refine aD ?_ | fail
  refine To.part [1,4,6,7,9,18,19,20] [3] rfl rfl rfl ?_
  exact hlp
 .have hk:((((iv l).length:Nat):Int) !=g.pods)=true:=by rw [hlen];simp [h1]
  have e:rT c free g l=false:=if_neg h1
  rw [e]
  refine cT (E:=E) (fn:=Tryz.f134) (g:=.pure _) fun _=>?_
  refine bW hE 16 ?_;conv=>whnf
  refine To.frz [4,6,7] [0,1,2] ?_
  repeat' first | (refine gN hE ?_;conv=>whnf) | refine Aa (fun h=>?_) (fun h=>absurd h (by rw [hk];decide)) | exact rfl | refine aY ?_ | refine aN ?_ | refine aT fun h=>?_ | refine aF fun h=>?_ | refine ⟨fun h=>?_,fun h=>?_⟩ | refine aJ ?_ | refine ⟨_,rfl,?_⟩ | refine aD ?_ | fail
abbrev itP (p:Pn):AVal:=.iface 67 p.av
abbrev itR (r:Rn):AVal:=.iface 70 r.av
abbrev WZ (l:List Pn):List AVal:=l.map itP
abbrev MR (l:List Rn):List AVal:=l.map itR
noncomputable abbrev KR:Func:=Tryz.f86
abbrev alO (s:Sta):List AObj:=[.cells 31 s.cs,.tail 0 1 20]
theorem YW (s:Sta) (hr:s.run.length<=1000000) (l:List AVal) (R:List AVal):∀ (m i:Nat) (acc:List AVal),i+m=s.run.length->acc.length<=1000000+i->acc++MR (s.run.drop i)=R->
  To (Eo [3] []) KR (.pure (.ret (.slice 1 R .no))) (.head (stk KR 1) [(1,.ref 0 0),(3,.slice 1 acc (.own 1 0)),(22,.slice 14 (rav s.run) .no),(23,.int .i64 ((rav s.run).length:Nat)),(24,ii i)] (alO s)):=by
 have hlen:(rav s.run).length=s.run.length:=by simp
 intro m
 induction m with
 | zero=>
  intro i acc hi ha hR
  rw [Af (by omega)] at hR
  have hR:acc++[]=R:=hR
  rw [Ay] at hR
  subst hR
  refine gW (hEo [3] []) ?_;conv=>whnf
  refine aF fun h=>?_
  repeat' first | (refine gN (hEo [3] []) ?_;conv=>whnf) | exact rfl | refine aY ?_ | refine aN ?_ | refine aT fun h=>?_ | refine aF fun h=>?_ | refine ⟨fun h=>?_,fun h=>?_⟩ | refine aJ ?_ | refine ⟨_,rfl,?_⟩ | refine aD ?_ | fail
 | succ m ih=>
  intro i acc hi ha hR
  have hlt:i<s.run.length:=by omega
  rw [Ae hlt] at hR
  have get:=fQ hlt
  generalize s.run[i]=x at hR get
  have next:=ih (i+1) (acc++[itR x]) (by omega) (by simp;omega) (by rw [Aj];exact hR)
  refine gW (hEo [3] []) ?_;conv=>whnf
  refine aT fun h=>?_
  repeat' first | (refine gN (hEo [3] []) ?_;conv=>whnf) | refine ⟨i,rfl,?_⟩ | refine ⟨_,get,?_⟩ | refine Aa (Aa (show acc.length+1<=maxLen by simp only [maxLen];omega) (show (acc.length+1)*16<=140737488355328 by omega)) ?_ | exact rfl | refine aY ?_ | refine aN ?_ | refine aT fun h=>?_ | refine aF fun h=>?_ | refine ⟨fun h=>?_,fun h=>?_⟩ | refine aJ ?_ | refine ⟨_,rfl,?_⟩ | refine aD ?_ | fail
  refine To.part [1,3,22,23,24] [0,1] rfl rfl rfl ?_
  exact next
theorem YX (s:Sta) (hp:s.pend.length<=1000000) (hr:s.run.length<=1000000) (R:List AVal):∀ (m i:Nat) (acc:List AVal),i+m=s.pend.length->acc.length<=i->(acc++WZ (s.pend.drop i))++MR s.run=R->
  To (Eo [3] []) KR (.pure (.ret (.slice 1 R .no))) (.head (stk KR 0) [(1,.ref 0 0),(3,.slice 1 acc (.own 1 0)),(9,.slice 11 (pnv s.pend) .no),(10,.int .i64 ((pnv s.pend).length:Nat)),(11,ii i)] (alO s)):=by
 have hlen:(pnv s.pend).length=s.pend.length:=by simp
 intro m
 induction m with
 | zero=>
  intro i acc hi ha hR
  rw [Af (by omega)] at hR
  have hR:(acc++[])++MR s.run=R:=hR
  rw [Ay] at hR
  have next:=YW s hr [] R s.run.length 0 acc (by omega) (by omega) hR
  refine gW (hEo [3] []) ?_;conv=>whnf
  refine aF fun h=>?_
  repeat' first | (refine gN (hEo [3] []) ?_;conv=>whnf) | exact rfl | refine aY ?_ | refine aN ?_ | refine aT fun h=>?_ | refine aF fun h=>?_ | refine ⟨fun h=>?_,fun h=>?_⟩ | refine aJ ?_ | refine ⟨_,rfl,?_⟩ | refine aD ?_ | fail
  refine To.part [1,3,22,23,24] [0,1] rfl rfl rfl ?_
  exact next
 | succ m ih=>
  intro i acc hi ha hR
  have hlt:i<s.pend.length:=by omega
  rw [Ae hlt] at hR
  have get:=uX hlt
  generalize s.pend[i]=x at hR get
  have next:=ih (i+1) (acc++[itP x]) (by omega) (by simp;omega) (by rw [Aj acc];exact hR)
  refine gW (hEo [3] []) ?_;conv=>whnf
  refine aT fun h=>?_
  repeat' first | (refine gN (hEo [3] []) ?_;conv=>whnf) | refine ⟨i,rfl,?_⟩ | refine ⟨_,get,?_⟩ | refine Aa (Aa (show acc.length+1<=maxLen by simp only [maxLen];omega) (show (acc.length+1)*16<=140737488355328 by omega)) ?_ | exact rfl | refine aY ?_ | refine aN ?_ | refine aT fun h=>?_ | refine aF fun h=>?_ | refine ⟨fun h=>?_,fun h=>?_⟩ | refine aJ ?_ | refine ⟨_,rfl,?_⟩ | refine aD ?_ | fail
  refine To.part [1,3,9,10,11] [0,1] rfl rfl rfl ?_
  exact next
theorem U6 (s:Sta) (hp:s.pend.length<=1000000) (hr:s.run.length<=1000000):aA Tryz.prog 86 [s.av] [] (.ret (.slice 1 (WZ s.pend++MR s.run) .no)) []:=by
 have next:=YX s hp hr (WZ s.pend++MR s.run) s.pend.length 0 [] (by omega) (by simp) rfl
 refine cT (E:=(Eo [3] [])) (fn:=Tryz.f86) (g:=.pure _) fun _=>?_
 refine gW (hEo [3] []) ?_;conv=>whnf
 refine To.part [1,3,9,10,11] [0,1] rfl rfl rfl ?_
 exact next
theorem I5 (p:Pn):aA Tryz.prog 87 [itP p] [] (.ret (.tup [p.av,.bool true])) []:=by
 refine cT (E:=E) (fn:=Tryz.f87) (g:=.pure _) fun _=>?_
 repeat' first | (refine gN hE ?_;conv=>whnf) | exact rfl | refine aY ?_ | refine aN ?_ | refine aT fun h=>?_ | refine aF fun h=>?_ | refine ⟨fun h=>?_,fun h=>?_⟩ | refine aJ ?_ | refine ⟨_,rfl,?_⟩ | refine aD ?_ | fail
theorem I4 (r:Rn):aA Tryz.prog 87 [itR r] [] (.ret (.tup [r.pn.av,.bool true])) []:=by
 refine cT (E:=E) (fn:=Tryz.f87) (g:=.pure _) fun _=>?_
 repeat' first | (refine gN hE ?_;conv=>whnf) | exact rfl | refine aY ?_ | refine aN ?_ | refine aT fun h=>?_ | refine aF fun h=>?_ | refine ⟨fun h=>?_,fun h=>?_⟩ | refine aJ ?_ | refine ⟨_,rfl,?_⟩ | refine aD ?_ | fail
theorem N0 (l:List Rn) (id:Int):cJ l [id]=l.filter fun x=>!(x.g.id==id):=by
 unfold cJ
 congr 1
 funext x
 simp [inB]
theorem E5 {l:List Hos} {n:Int} (h0:0<=n) (h1:n<(l.length:Int)):(hav l)[n.toNat]? =some (bG l n).av:=by
 have h:n.toNat<l.length:=by omega
 unfold bG
 rw [Bb,Ac h]
 rfl
theorem BD {c:Con} {free:List V3} {g:Gan} {l:List Int} (hf:free.length=c.hs.length) (hp:1<=g.pods) (h:rT c free g l=true):(iv l)[0]? =some (ii (l.headD 0))/\0<=l.headD 0/\l.headD 0<(c.hs.length:Int):=by
 unfold rT at h
 by_cases hl:(l.length:Int)=g.pods
 .rw [if_pos hl] at h
  cases l with
  | nil=>simp at hl;omega
  | cons u r=>
   rw [Gm] at h
   obtain ⟨G,hG,hk⟩:=h
   unfold chkG at hk
   rw [Ad] at hk
   have hk2:=A6.1 hk.2 u (Bl ..)
   refine ⟨rfl,hk2.1,?_⟩
   have:=hk2.2.1
   show u<_
   omega
 .rw [if_neg hl] at h
  cases h
noncomputable abbrev aBX:Func:=Tryz.f90
def rnO (s:Sta) (r:Rn):List AObj:=[.cells 31 s.cs,.cells 70 r.cs]
def VG (s:Sta) (r:Rn):List AObj:=[.fcells s.cs,.fcells r.cs]
theorem PC (s:Sta) (r:Rn):frzs [0,1] (rnO s r)=VG s r:=by kernel_rfl
theorem JM (s:Sta) (r:Rn):uP [2,3] (aE (VG s r)) [(2,.ref 0 0),(3,.ref 1 0)]=[(2,.ptr s.cs),(3,.ptr r.cs)]:=by kernel_rfl
theorem JL {g:Goal} {ks:List KI} (s:Sta) (r:Rn) (h:To E aBX g (.code ks [(2,.ptr s.cs),(3,.ptr r.cs)] (VG s r))):To E aBX g (.code ks [(2,.ref 0 0),(3,.ref 1 0)] (rnO s r)):=by
 refine To.frz [2,3] [0,1] ?_
 rw [PC,JM]
 exact h
theorem OT (s:Sta) (r:Rn) (W:List Rn) (F:List V3) (e1:Int) (k:Bool) (b:Bool)
  (h1:aA Tryz.prog 131 [r.av] [] (.ret (ii e1)) [])
  (h2:aA Tryz.prog 133 [.slice 14 (rav s.run) .no,.slice 1 (iv [r.g.id]) .no] [] (.ret (.slice 14 (rav W) .no)) [])
  (h3:aA Tryz.prog 132 [s.c.av,.slice 14 (rav W) .no] [] (.ret (.slice 3 (vav F) .no)) [])
  (h4:aA Tryz.prog 134 [s.c.av,.slice 3 (vav F) .no,r.g.av,.slice 1 (iv r.hs) .no] [] (.ret (.bool k)) [])
  (hk:k=true->(iv r.hs)[0]? =some (ii (r.hs.headD 0))/\0<=r.hs.headD 0/\(hav s.c.hs)[(r.hs.headD 0).toNat]? =some (bG s.c.hs (r.hs.headD 0)).av)
  (hb:(decide ((r.at'<=r.st/\r.st<=s.now)/\s.now<e1)&&(k&&decide ((bG s.c.hs (r.hs.headD 0)).f=r.fl)))=b):
  aA Tryz.prog 90 [s.av,r.av] [] (.ret (.bool b)) []:=by
 have h2:aA Tryz.prog 133 [.slice 14 (rav s.run) .no,.slice 1 (iv [r.g.id]) .full] [] (.ret (.slice 14 (rav W) .no)) []:=aA.strip h2
 cases k with
 | true=>
  obtain ⟨g1,g2,g3⟩:=hk rfl
  generalize r.hs.headD 0=u at g1 g2 g3 hb
  generalize bG s.c.hs u=y at g3 hb
  refine cT (E:=E) (fn:=Tryz.f90) (g:=.pure _) fun _=>?_
  refine bW hE 13 ?_;conv=>whnf
  refine To.cutC [2,3] 2 rfl rfl rfl rfl ?_
  refine JL s r ?_
  repeat' first | (refine gN hE ?_;conv=>whnf) | refine .pure _ [] h1 ?_ | refine .pure _ [] h2 ?_ | refine .pure _ [] h3 ?_ | refine .pure _ [] h4 ?_ | refine ⟨0,rfl,?_⟩ | refine ⟨_,g1,?_⟩ | refine Al u.toNat (Aa (by simp only [Fq g2]) ?_) | refine ⟨_,g3,?_⟩ | exact rfl | refine aY ?_ | refine aN ?_ | refine aT fun h=>?_ | refine aF fun h=>?_ | refine ⟨fun h=>?_,fun h=>?_⟩ | refine aJ ?_ | refine ⟨_,rfl,?_⟩ | refine aD ?_ | fail
  all_goals
   subst hb
   refine congrArg (fun q=>Res.ret (AVal.bool q)) ?_
   simp only [decide_eq_true_eq,decide_eq_false_iff_not] at *
   first | (rw [decide_eq_false (by omega)];rfl) | (rw [decide_eq_true (by omega)];rfl)
 | false=>
  refine cT (E:=E) (fn:=Tryz.f90) (g:=.pure _) fun _=>?_
  refine bW hE 13 ?_;conv=>whnf
  refine To.cutC [2,3] 2 rfl rfl rfl rfl ?_
  refine JL s r ?_
  repeat' first | (refine gN hE ?_;conv=>whnf) | refine .pure _ [] h1 ?_ | refine .pure _ [] h2 ?_ | refine .pure _ [] h3 ?_ | refine .pure _ [] h4 ?_ | exact rfl | refine aY ?_ | refine aN ?_ | refine aT fun h=>?_ | refine aF fun h=>?_ | refine ⟨fun h=>?_,fun h=>?_⟩ | refine aJ ?_ | refine ⟨_,rfl,?_⟩ | refine aD ?_ | fail
  all_goals
   subst hb
   refine congrArg (fun q=>Res.ret (AVal.bool q)) ?_
   simp only [decide_eq_true_eq,decide_eq_false_iff_not] at *
   first | (rw [decide_eq_false (by omega)];rfl) | (rw [decide_eq_true (by omega)];rfl)
theorem U7 (s:Sta) (hc:s.c.sm) (hs:Sm s.run) (r:Rn) (hp:1<=r.g.pods) (hr:r.hs.length<=1048576):aA Tryz.prog 90 [s.av,r.av] [] (.ret (.bool (rnB s r))) []:=by
 have hw:=vP hs [r.g.id]
 have h2:=GE s.run hs [r.g.id] (by simp)
 have h3:=KO s.c hc (cJ s.run [r.g.id]) hw
 have hf:=xV s.c (cJ s.run [r.g.id])
 have h4:=aAq s.c hc (hZ s.c (cJ s.run [r.g.id])) r.g r.hs hr
 refine OT s r _ _ _ _ _ (aAZ r) h2 h3 h4 (fun hk=>?_) ?_
 .obtain ⟨a1,a2,a3⟩:=BD hf hp hk
  exact ⟨a1,a2,E5 a2 a3⟩
 .rw [N0]
  rfl
noncomputable abbrev mY:Func:=Tryz.f40
def Y1 (es:List (List Int×AVal)) (l:List Int):Prop:=∀ h:Int,bL es [h]=if l.contains h=true then some (.bool true) else none
theorem EQ {es:List (List Int×AVal)} {l:List Int} (hm:Y1 es l) (h:Int):Y1 (jG es [h] (.bool true)) (h::l):=fun x=>by
 rw [B9,List.contains_cons]
 by_cases hx:h=x
 .subst hx;simp
 .have e1:(x==h)=false:=by simp;exact fun q=>hx q.symm
  rw [if_neg (by simpa using hx),hm x,e1,Ji]
def ggO (s:Sta):List AObj:=[.cells 31 s.cs]
def aAO (s:Sta):List AObj:=[.fcells s.cs]
theorem aAN (s:Sta):frzs [0] (ggO s)=aAO s:=by kernel_rfl
theorem XC (s:Sta):uP [1] (aE (aAO s)) [(1,.ref 0 0)]=[(1,.ptr s.cs)]:=by kernel_rfl
theorem XA {g:Goal} {ks:List KI} (s:Sta) (h:To (Er [] [64,65,66]) mY g (.code ks [(1,.ptr s.cs)] (aAO s))):To (Er [] [64,65,66]) mY g (.code ks [(1,.ref 0 0)] (ggO s)):=by
 refine To.frz [1] [0] ?_
 rw [aAN,XC]
 exact h
abbrev ggF (s:Sta) (xs:List AVal) (i:Int):List (Nat×AVal):=[(1,.ptr s.cs),(3,.mref 0),(4,.mref 1),(14,.slice 1 xs .no),(15,.int .i64 (xs.length:Nat)),(16,ii i)]
def gbF (s:Sta) (xs:List AVal) (i:Int) (x:AVal):List (Nat×AVal):=[(1,.ptr s.cs),(3,.mref 0),(4,.mref 1),(6,x),(7,.ref 2 0),(14,.slice 1 xs .no),(15,.int .i64 (xs.length:Nat)),(16,ii i)]
def aBR (s:Sta) (xs:List AVal) (i:Int) (x:AVal) (p:Pn):List (Nat×AVal):=[(1,.ptr s.cs),(3,.mref 0),(4,.mref 1),(6,x),(7,.ptr p.cs),(14,.slice 1 xs .no),(15,.int .i64 (xs.length:Nat)),(16,ii i)]
abbrev Ent:Type:=List (List Int×AVal)
def gbO (es1 es2:Ent) (p:Pn):List AObj:=[.mp false es1,.mp false es2,.cells 67 p.cs]
def aAR (es1 es2:Ent) (p:Pn):List AObj:=[.mp false es1,.mp false es2,.fcells p.cs]
theorem aAQ (es1 es2:Ent) (p:Pn):frzs [2] (gbO es1 es2 p)=aAR es1 es2 p:=by kernel_rfl
theorem XE (s:Sta) (xs:List AVal) (i:Int) (x:AVal) (es1 es2:Ent) (p:Pn):uP [7] (aE (aAR es1 es2 p)) (gbF s xs i x)=aBR s xs i x p:=by kernel_rfl
theorem oS {g:Goal} {ks:List KI} {s:Sta} {xs:List AVal} {i:Int} {x:AVal} {es1 es2:Ent} (p:Pn) (h:To (Er [] [64,65,66]) mY g (.code ks (aBR s xs i x p) (aAR es1 es2 p))):To (Er [] [64,65,66]) mY g (.code ks (gbF s xs i x) (gbO es1 es2 p)):=by
 refine To.frz [7] [2] ?_
 rw [aAQ,XE]
 exact h
def gcB (s:Sta) (p:Pn) (o1 o2:Bool) (G:Int) (N Q:Bool):Bool:=!o1&&(!o2&&(decide ((0<=p.seq/\p.seq<s.nxt)/\0<=p.at'/\p.at'<=s.now)&&(decide (G=0)&&(!N&&Q))))
theorem ggP (s:Sta) (xs:List AVal) (hxs:xs.length<=1048576) (i:Nat) (hi:i<xs.length) (p:Pn) (get:xs[i]? =some (itP p)) (es1 es2:Ent) (m1:bL es1 [p.g.id]=none) (m2:bL es2 [p.seq]=none) (G:Int) (N b:Bool)
  (hG:aA Tryz.prog 88 [s.c.av,p.g.av] [] (.ret (ii G)) []) (hN:G=0->aA Tryz.prog 89 [s.c.av,p.g.av] [] (.ret (.bool N)) [])
  (hbad:gcB s p false false G N true=false->b=false)
  (hnext:gcB s p false false G N true=true->To (Er [] [64,65,66]) mY (.pure (.ret (.bool b))) (.head (stk mY 0) (ggF s xs ((i:Int)+1)) [.mp false (jG es1 [p.g.id] (.bool true)),.mp false (jG es2 [p.seq] (.bool true))])):
  To (Er [] [64,65,66]) mY (.pure (.ret (.bool b))) (.head (stk mY 0) (ggF s xs (i:Int)) [.mp false es1,.mp false es2]):=by
 have hw:=I5 p
 cases N<;>skip
 all_goals
  refine gW (hEr [] [64,65,66]) ?_;conv=>whnf
  refine aT fun h=>?_
  refine gW (hEr [] [64,65,66]) ?_;conv=>whnf
  refine ⟨i,rfl,?_⟩
  refine gW (hEr [] [64,65,66]) ?_;conv=>whnf
  refine ⟨_,get,?_⟩
  refine gW (hEr [] [64,65,66]) ?_;conv=>whnf
  refine .pure _ [] hw ?_
  refine bW (hEr [] [64,65,66]) 20 ?_;conv=>whnf
  refine To.cutC [1,3,4,6,7,14,15,16] 3 rfl rfl rfl rfl ?_
  refine oS p ?_
  repeat' first | (refine gN (hEr [] [64,65,66]) ?_;conv=>whnf) | refine ⟨_,m1,?_⟩ | refine ⟨_,m2,?_⟩ | refine .pure _ [] hG ?_ | refine .pure _ [] (hN (by simpa using ‹(G !=0)=false›)) ?_ | exact rfl | refine aY ?_ | refine aN ?_ | refine aT fun h=>?_ | refine aF fun h=>?_ | refine ⟨fun h=>?_,fun h=>?_⟩ | refine aJ ?_ | refine ⟨_,rfl,?_⟩ | refine aD ?_ | fail
  all_goals (try (
   refine congrArg (fun q=>Res.ret (AVal.bool q)) (hbad ?_).symm
   clear hbad hnext
   simp only [decide_eq_true_eq,decide_eq_false_iff_not,bne_iff_ne,ne_eq,bne_eq_false_iff_eq,Dl] at *
   simp [gcB]
   try omega))
  all_goals
   refine To.part [1,3,4,14,15,16] [0,1] rfl rfl rfl ?_
   refine hnext ?_
   clear hbad hnext
   simp only [decide_eq_true_eq,decide_eq_false_iff_not,bne_iff_ne,ne_eq,bne_eq_false_iff_eq,Dl] at *
   simp [gcB]
   try omega
theorem ggR (s:Sta) (xs:List AVal) (hxs:xs.length<=1048576) (i:Nat) (hi:i<xs.length) (r:Rn) (p:Pn) (hp:r.pn=p) (get:xs[i]? =some (itR r)) (es1 es2:Ent) (m1:bL es1 [p.g.id]=none) (m2:bL es2 [p.seq]=none) (G:Int) (N Q b:Bool)
  (hG:aA Tryz.prog 88 [s.c.av,p.g.av] [] (.ret (ii G)) []) (hN:G=0->aA Tryz.prog 89 [s.c.av,p.g.av] [] (.ret (.bool N)) [])
  (hQ:G=0->aA Tryz.prog 90 [s.av,r.av] [] (.ret (.bool Q)) [])
  (hbad:gcB s p false false G N Q=false->b=false)
  (hnext:gcB s p false false G N Q=true->To (Er [] [64,65,66]) mY (.pure (.ret (.bool b))) (.head (stk mY 0) (ggF s xs ((i:Int)+1)) [.mp false (jG es1 [p.g.id] (.bool true)),.mp false (jG es2 [p.seq] (.bool true))])):
  To (Er [] [64,65,66]) mY (.pure (.ret (.bool b))) (.head (stk mY 0) (ggF s xs (i:Int)) [.mp false es1,.mp false es2]):=by
 have hw:=I4 r
 rw [hp] at hw
 cases N<;>cases Q
 all_goals
  refine gW (hEr [] [64,65,66]) ?_;conv=>whnf
  refine aT fun h=>?_
  refine gW (hEr [] [64,65,66]) ?_;conv=>whnf
  refine ⟨i,rfl,?_⟩
  refine gW (hEr [] [64,65,66]) ?_;conv=>whnf
  refine ⟨_,get,?_⟩
  refine gW (hEr [] [64,65,66]) ?_;conv=>whnf
  refine .pure _ [] hw ?_
  refine bW (hEr [] [64,65,66]) 20 ?_;conv=>whnf
  refine To.cutC [1,3,4,6,7,14,15,16] 3 rfl rfl rfl rfl ?_
  refine oS p ?_
  repeat' first | (refine gN (hEr [] [64,65,66]) ?_;conv=>whnf) | refine ⟨_,m1,?_⟩ | refine ⟨_,m2,?_⟩ | refine .pure _ [] hG ?_ | refine .pure _ [] (hN (by simpa using ‹(G !=0)=false›)) ?_ | refine .pure _ [] (hQ (by simpa using ‹(G !=0)=false›)) ?_ | exact rfl | refine aY ?_ | refine aN ?_ | refine aT fun h=>?_ | refine aF fun h=>?_ | refine ⟨fun h=>?_,fun h=>?_⟩ | refine aJ ?_ | refine ⟨_,rfl,?_⟩ | refine aD ?_ | fail
  all_goals (try (
   refine congrArg (fun q=>Res.ret (AVal.bool q)) (hbad ?_).symm
   clear hbad hnext
   simp only [decide_eq_true_eq,decide_eq_false_iff_not,bne_iff_ne,ne_eq,bne_eq_false_iff_eq,Dl] at *
   simp [gcB]
   try omega))
  all_goals
   refine To.part [1,3,4,14,15,16] [0,1] rfl rfl rfl ?_
   refine hnext ?_
   clear hbad hnext
   simp only [decide_eq_true_eq,decide_eq_false_iff_not,bne_iff_ne,ne_eq,bne_eq_false_iff_eq,Dl] at *
   simp [gcB]
   try omega
theorem aBQ (s:Sta) (xs:List AVal) (hxs:xs.length<=1048576) (i:Nat) (hi:i<xs.length) (p:Pn) (get:xs[i]? =some (itP p)) (es1 es2:Ent) (m:bL es1 [p.g.id]=some (.bool true)\/bL es1 [p.g.id]=none/\bL es2 [p.seq]=some (.bool true)):
  To (Er [] [64,65,66]) mY (.pure (.ret (.bool false))) (.head (stk mY 0) (ggF s xs (i:Int)) [.mp false es1,.mp false es2]):=by
 have hw:=I5 p
 rcases m with m1 | ⟨m1,m2⟩
 .refine gW (hEr [] [64,65,66]) ?_;conv=>whnf
  refine aT fun h=>?_
  refine gW (hEr [] [64,65,66]) ?_;conv=>whnf
  refine ⟨i,rfl,?_⟩
  refine gW (hEr [] [64,65,66]) ?_;conv=>whnf
  refine ⟨_,get,?_⟩
  refine gW (hEr [] [64,65,66]) ?_;conv=>whnf
  refine .pure _ [] hw ?_
  refine bW (hEr [] [64,65,66]) 20 ?_;conv=>whnf
  refine To.cutC [1,3,4,6,7,14,15,16] 3 rfl rfl rfl rfl ?_
  refine oS p ?_
  repeat' first | (refine gN (hEr [] [64,65,66]) ?_;conv=>whnf) | refine ⟨_,m1,?_⟩ | exact rfl | refine aY ?_ | refine aN ?_ | refine aT fun h=>?_ | refine aF fun h=>?_ | refine ⟨fun h=>?_,fun h=>?_⟩ | refine aJ ?_ | refine ⟨_,rfl,?_⟩ | refine aD ?_ | fail
 .refine gW (hEr [] [64,65,66]) ?_;conv=>whnf
  refine aT fun h=>?_
  refine gW (hEr [] [64,65,66]) ?_;conv=>whnf
  refine ⟨i,rfl,?_⟩
  refine gW (hEr [] [64,65,66]) ?_;conv=>whnf
  refine ⟨_,get,?_⟩
  refine gW (hEr [] [64,65,66]) ?_;conv=>whnf
  refine .pure _ [] hw ?_
  refine bW (hEr [] [64,65,66]) 20 ?_;conv=>whnf
  refine To.cutC [1,3,4,6,7,14,15,16] 3 rfl rfl rfl rfl ?_
  refine oS p ?_
  repeat' first | (refine gN (hEr [] [64,65,66]) ?_;conv=>whnf) | refine ⟨_,m1,?_⟩ | refine ⟨_,m2,?_⟩ | exact rfl | refine aY ?_ | refine aN ?_ | refine aT fun h=>?_ | refine aF fun h=>?_ | refine ⟨fun h=>?_,fun h=>?_⟩ | refine aJ ?_ | refine ⟨_,rfl,?_⟩ | refine aD ?_ | fail
theorem aBP (s:Sta) (xs:List AVal) (hxs:xs.length<=1048576) (i:Nat) (hi:i<xs.length) (r:Rn) (p:Pn) (hp:r.pn=p) (get:xs[i]? =some (itR r)) (es1 es2:Ent) (m:bL es1 [p.g.id]=some (.bool true)\/bL es1 [p.g.id]=none/\bL es2 [p.seq]=some (.bool true)):
  To (Er [] [64,65,66]) mY (.pure (.ret (.bool false))) (.head (stk mY 0) (ggF s xs (i:Int)) [.mp false es1,.mp false es2]):=by
 have hw:=I4 r
 rw [hp] at hw
 rcases m with m1 | ⟨m1,m2⟩
 .refine gW (hEr [] [64,65,66]) ?_;conv=>whnf
  refine aT fun h=>?_
  refine gW (hEr [] [64,65,66]) ?_;conv=>whnf
  refine ⟨i,rfl,?_⟩
  refine gW (hEr [] [64,65,66]) ?_;conv=>whnf
  refine ⟨_,get,?_⟩
  refine gW (hEr [] [64,65,66]) ?_;conv=>whnf
  refine .pure _ [] hw ?_
  refine bW (hEr [] [64,65,66]) 20 ?_;conv=>whnf
  refine To.cutC [1,3,4,6,7,14,15,16] 3 rfl rfl rfl rfl ?_
  refine oS p ?_
  repeat' first | (refine gN (hEr [] [64,65,66]) ?_;conv=>whnf) | refine ⟨_,m1,?_⟩ | exact rfl | refine aY ?_ | refine aN ?_ | refine aT fun h=>?_ | refine aF fun h=>?_ | refine ⟨fun h=>?_,fun h=>?_⟩ | refine aJ ?_ | refine ⟨_,rfl,?_⟩ | refine aD ?_ | fail
 .refine gW (hEr [] [64,65,66]) ?_;conv=>whnf
  refine aT fun h=>?_
  refine gW (hEr [] [64,65,66]) ?_;conv=>whnf
  refine ⟨i,rfl,?_⟩
  refine gW (hEr [] [64,65,66]) ?_;conv=>whnf
  refine ⟨_,get,?_⟩
  refine gW (hEr [] [64,65,66]) ?_;conv=>whnf
  refine .pure _ [] hw ?_
  refine bW (hEr [] [64,65,66]) 20 ?_;conv=>whnf
  refine To.cutC [1,3,4,6,7,14,15,16] 3 rfl rfl rfl rfl ?_
  refine oS p ?_
  repeat' first | (refine gN (hEr [] [64,65,66]) ?_;conv=>whnf) | refine ⟨_,m1,?_⟩ | refine ⟨_,m2,?_⟩ | exact rfl | refine aY ?_ | refine aN ?_ | refine aT fun h=>?_ | refine aF fun h=>?_ | refine ⟨fun h=>?_,fun h=>?_⟩ | refine aJ ?_ | refine ⟨_,rfl,?_⟩ | refine aD ?_ | fail
inductive It where
 | p (x:Pn)
 | r (x:Rn)
def It.av:It->AVal
 | .p x=>itP x
 | .r x=>itR x
def It.pn:It->Pn
 | .p x=>x
 | .r x=>x.pn
def It.q (s:Sta):It->Bool
 | .p _=>true
 | .r x=>rnB s x
def It.sm:It->Prop
 | .p _=>True
 | .r x=>x.hs.length<=1048576
def gaB (s:Sta):List Int->List Int->List It->Bool
 | _,_,[]=>true
 | a,b,x::l=>gcB s x.pn (a.contains x.pn.g.id) (b.contains x.pn.seq) (hY s.c x.pn.g) (iA s.c [] x.pn.g).isNone (x.q s)&&gaB s (x.pn.g.id::a) (x.pn.seq::b) l
theorem jK {c:Con} {g:Gan} (h:hY c g=0):1<=g.pods/\g.pods<=16:=by
 obtain ⟨h1,_⟩:=oT.1 h
 unfold zZ at h1
 rw [Ad] at h1
 have:=of_decide_eq_true h1.1
 omega
theorem XB (s:Sta) (hc:s.c.sm) (hs:Sm s.run) (l:List It) (hl:l.length<=1048576) (hsm:∀ x∈l,x.sm) (b:Bool):∀ (m i:Nat) (es1 es2:Ent) (a1 a2:List Int),i+m=l.length->Y1 es1 a1->Y1 es2 a2->gaB s a1 a2 (l.drop i)=b->
  To (Er [] [64,65,66]) mY (.pure (.ret (.bool b))) (.head (stk mY 0) (ggF s (l.map It.av) (i:Int)) [.mp false es1,.mp false es2]):=by
 have hlen:(l.map It.av).length=l.length:=by simp
 intro m
 induction m with
 | zero=>
  intro i es1 es2 a1 a2 hi h1 h2 hb
  rw [Af (by omega)] at hb
  have hb:true=b:=hb
  subst hb
  refine gW (hEr [] [64,65,66]) ?_;conv=>whnf
  refine aF fun h=>?_
  repeat' first | (refine gN (hEr [] [64,65,66]) ?_;conv=>whnf) | exact rfl | refine aY ?_ | refine aN ?_ | refine aT fun h=>?_ | refine aF fun h=>?_ | refine ⟨fun h=>?_,fun h=>?_⟩ | refine aJ ?_ | refine ⟨_,rfl,?_⟩ | refine aD ?_ | fail
 | succ m ih=>
  intro i es1 es2 a1 a2 hi h1 h2 hb
  have hlt:i<l.length:=by omega
  rw [Ae hlt] at hb
  have get:(l.map It.av)[i]? =some (l[i].av):=by simp [hlt]
  have hx:=hsm l[i] (Bn hlt)
  have ih:=fun es1 es2 a1 a2=>ih (i+1) es1 es2 a1 a2 (by omega)
  generalize l[i]=x at hb get hx
  have hb:(gcB s x.pn (a1.contains x.pn.g.id) (a2.contains x.pn.seq) (hY s.c x.pn.g) (iA s.c [] x.pn.g).isNone (x.q s)&&gaB s (x.pn.g.id::a1) (x.pn.seq::a2) (l.drop (i+1)))=b:=hb
  have m1:=h1 x.pn.g.id
  have m2:=h2 x.pn.seq
  have next:=ih _ _ (x.pn.g.id::a1) (x.pn.seq::a2) (EQ h1 x.pn.g.id) (EQ h2 x.pn.seq)
  generalize gaB s (x.pn.g.id::a1) (x.pn.seq::a2) (l.drop (i+1))=R at hb next
  cases o1:a1.contains x.pn.g.id with
  | true=>
   rw [o1] at hb m1
   have hb:false=b:=by rw [<-hb];rfl
   subst hb
   cases x with
   | p x=>exact aBQ s _ (by omega) i (by omega) x get es1 es2 (.inl m1)
   | r x=>exact aBP s _ (by omega) i (by omega) x x.pn rfl get es1 es2 (.inl m1)
  | false=>
   rw [o1] at hb m1
   cases o2:a2.contains x.pn.seq with
   | true=>
    rw [o2] at hb m2
    have hb:false=b:=by rw [<-hb];rfl
    subst hb
    cases x with
    | p x=>exact aBQ s _ (by omega) i (by omega) x get es1 es2 (.inr ⟨m1,m2⟩)
    | r x=>exact aBP s _ (by omega) i (by omega) x x.pn rfl get es1 es2 (.inr ⟨m1,m2⟩)
   | false=>
    rw [o2] at hb m2
    have hG:=OO s.c x.pn.g
    have hN:=fun h:hY s.c x.pn.g=0=>Q4 s.c hc x.pn.g (by have:=jK h;omega)
    cases x with
    | p x=>
     refine ggP s _ (by omega) i (by omega) x get es1 es2 m1 m2 _ _ b hG hN (fun hq=>?_) (fun hq=>?_)
     .exact hb.symm.trans (congrArg (fun q:Bool=>q&&R) hq)
     .exact next ((congrArg (fun q:Bool=>q&&R) hq).symm.trans hb)
    | r x=>
     have hQ:=fun h:hY s.c x.pn.g=0=>U7 s hc hs x (jK (g:=x.g) h).1 hx
     refine ggR s _ (by omega) i (by omega) x x.pn rfl get es1 es2 m1 m2 _ _ _ b hG hN hQ (fun hq=>?_) (fun hq=>?_)
     .exact hb.symm.trans (congrArg (fun q:Bool=>q&&R) hq)
     .exact next ((congrArg (fun q:Bool=>q&&R) hq).symm.trans hb)
def mX (s:Sta):List It:=s.pend.map It.p++s.run.map It.r
theorem aAI (s:Sta):(mX s).map It.av=WZ s.pend++MR s.run:=by
 unfold mX
 rw [Cf,Fb,Fb]
 rfl
theorem R9 (s:Sta) (hc:s.c.sm) (hp:s.pend.length<=1000) (hr:s.run.length<=1000) (hs:Sm s.run):aA Tryz.prog 40 [s.av] [] (.ret (.bool (gaB s [] [] (mX s)))) []:=by
 have ha:=U6 s (by omega) (by omega)
 rw [<-aAI] at ha
 have hlen:(mX s).length<=2000:=by unfold mX;simp;omega
 have next:=XB s hc hs (mX s) (by omega) (fun x hx=>by
  unfold mX at hx
  rw [Ba,Cy,Cy] at hx
  rcases hx with ⟨y,_,rfl⟩ | ⟨y,hy,rfl⟩
  .trivial
  .exact hs.2 y hy) _ (mX s).length 0 [] [] [] [] (by omega) (fun h=>rfl) (fun h=>rfl) rfl
 rw [Db] at next
 generalize (mX s).map It.av=xs at ha next
 generalize gaB s [] [] (mX s)=b at next
 refine cT (E:=(Er [] [64,65,66])) (fn:=Tryz.f40) (g:=.pure _) fun _=>?_
 refine bW (hEr [] [64,65,66]) 10 ?_;conv=>whnf
 refine To.cutC [1] 1 rfl rfl rfl rfl ?_
 refine XA s ?_
 repeat' first | (refine gN (hEr [] [64,65,66]) ?_;conv=>whnf) | refine .pure _ [] ha ?_ | exact rfl | refine aY ?_ | refine aN ?_ | refine aT fun h=>?_ | refine aF fun h=>?_ | refine ⟨fun h=>?_,fun h=>?_⟩ | refine aJ ?_ | refine ⟨_,rfl,?_⟩ | refine aD ?_ | fail
 refine To.part [1,3,4,14,15,16] [1,2] rfl rfl rfl ?_
 exact next
theorem aAP (s:Sta) (p:Pn) (q o1 o2:Bool):gcB s p o1 o2 (hY s.c p.g) (iA s.c [] p.g).isNone q=(!o1&&(!o2&&(pnB s p&&q))):=by
 unfold gcB pnB
 generalize decide (hY s.c p.g=0)=a
 generalize (iA s.c [] p.g).isNone=b
 generalize decide ((0<=p.seq/\p.seq<s.nxt)/\0<=p.at'/\p.at'<=s.now)=c
 cases o1<;>cases o2<;>cases a<;>cases b<;>cases c<;>cases q<;>rfl
theorem KN (s:Sta):∀ (l:List It) (a b:List Int),gaB s a b l=true↔(∀ x∈l,(pnB s x.pn&&x.q s)=true)/\((l.map fun x=>x.pn.g.id).Nodup/\∀ x∈l,x.pn.g.id∉a)/\((l.map fun x=>x.pn.seq).Nodup/\∀ x∈l,x.pn.seq∉b)
 | [],a,b=>by simp [gaB]
 | x::r,a,b=>by
  unfold gaB
  rw [aAP,Ad,KN s r]
  simp only [Ad,Cb,List.contains_eq_mem,decide_eq_false_iff_not,Cn,Dr,Bh,forall_eq_or_imp,not_or,Cy,not_exists,not_and]
  constructor
  .rintro ⟨⟨h1,h2,h3⟩,h4,⟨h5,h6⟩,h7,h8⟩
   exact ⟨⟨h3,h4⟩,⟨⟨fun y hy e=>(h6 y hy).1 e,h5⟩,h1,fun y hy=>(h6 y hy).2⟩,⟨fun y hy e=>(h8 y hy).1 e,h7⟩,h2,fun y hy=>(h8 y hy).2⟩
  .rintro ⟨⟨h3,h4⟩,⟨⟨h6,h5⟩,h1,h9⟩,⟨h8,h7⟩,h2,h10⟩
   exact ⟨⟨h1,h2,h3⟩,h4,⟨h5,fun y hy=>⟨fun e=>h6 y hy e,h9 y hy⟩⟩,h7,fun y hy=>⟨fun e=>h8 y hy e,h10 y hy⟩⟩
theorem aAS (s:Sta):gaB s [] [] (mX s)=((s.pend.all (pnB s)&&s.run.all fun r=>pnB s r.pn&&rnB s r)&&(decide (ids s).Nodup&&decide (uM s).Nodup)):=by
 rw [Fa,KN]
 have e1:((mX s).map fun x=>x.pn.g.id)=ids s:=by
  unfold mX ids
  rw [Cf,Fb,Fb]
  rfl
 have e2:((mX s).map fun x=>x.pn.seq)=uM s:=by
  unfold mX uM
  rw [Cf,Fb,Fb]
  rfl
 rw [e1,e2]
 simp only [Fs,not_false_eq_true,implies_true,and_true,Ad,decide_eq_true_eq,Cl]
 have e3:(∀ x∈mX s,pnB s x.pn=true/\x.q s=true)↔(∀ x∈s.pend,pnB s x=true)/\∀ x∈s.run,pnB s x.pn=true/\rnB s x=true:=by
  unfold mX
  constructor
  .intro h
   exact ⟨fun x hx=>(h (.p x) (Hw _ (List.mem_map_of_mem hx))).1,fun x hx=>h (.r x) (Hh _ (List.mem_map_of_mem hx))⟩
  .rintro ⟨h1,h2⟩ x hx
   rw [Ba,Cy,Cy] at hx
   rcases hx with ⟨y,hy,rfl⟩ | ⟨y,hy,rfl⟩
   .exact ⟨h1 y hy,rfl⟩
   .exact h2 y hy
 rw [e3]
noncomputable abbrev XP:Func:=Tryz.f41
def quO (s:Sta):List AObj:=[.cells 31 s.cs]
def aAl (s:Sta):List AObj:=[.fcells s.cs]
theorem aAk (s:Sta):frzs [0] (quO s)=aAl s:=by kernel_rfl
theorem VY (s:Sta):uP [1] (aE (aAl s)) [(1,.ref 0 0)]=[(1,.ptr s.cs)]:=by kernel_rfl
theorem VW {g:Goal} {ks:List KI} (s:Sta) (h:To E XP g (.code ks [(1,.ptr s.cs)] (aAl s))):To E XP g (.code ks [(1,.ref 0 0)] (quO s)):=by
 refine To.frz [1] [0] ?_
 rw [aAk,VY]
 exact h
theorem VX (s:Sta) (hc:s.c.sm) (U:List V3) (hU:U.length=s.c.ns.length) (hg:∀ i:Nat,i<U.length->(vav U)[i]? =some (atV U (i:Int)).av) (b:Bool):∀ (m i:Nat),i+m=U.length->((Eh i m).all fun i:Nat=>bO (atV U (i:Int)) (lA s.c (i:Int)))=b->
  To E XP (.pure (.ret (.bool b))) (.head (stk XP 0) [(1,.ptr s.cs),(10,.slice 3 (vav U) .no),(11,.int .i64 ((vav U).length:Nat)),(12,ii (i:Int))] []):=by
 have hlen:(vav U).length=U.length:=by simp
 have h1:=hc.ns
 intro m
 induction m with
 | zero=>
  intro i hi hb
  have hb:true=b:=hb
  subst hb
  refine gW hE ?_;conv=>whnf
  refine aF fun h=>?_
  repeat' first | (refine gN hE ?_;conv=>whnf) | exact rfl | refine aY ?_ | refine aN ?_ | refine aT fun h=>?_ | refine aF fun h=>?_ | refine ⟨fun h=>?_,fun h=>?_⟩ | refine aJ ?_ | refine ⟨_,rfl,?_⟩ | refine aD ?_ | fail
 | succ m ih=>
  intro i hi hb
  have hlt:i<U.length:=by omega
  have hb:(bO (atV U (i:Int)) (lA s.c (i:Int))&&((Eh (i+1) m).all fun i:Nat=>bO (atV U (i:Int)) (lA s.c (i:Int))))=b:=hb
  have next:=ih (i+1) (by omega)
  generalize ((Eh (i+1) m).all fun i:Nat=>bO (atV U (i:Int)) (lA s.c (i:Int)))=R at hb next
  have get:=hg i hlt
  have gn:=rA (c:=s.c) (n:=(i:Int)) ⟨by omega,by omega⟩
  have hn:=QW s.c hc (i:Int)
  have hl:=lX s.c (i:Int)
  unfold lA at hb
  generalize atV U (i:Int)=u at hb get
  generalize dM s.c.ns (i:Int)=y at hb gn
  generalize mV s.c.ns (i:Int) (oZ s.c.ns)=v at hb hn
  cases hq:bS s.c.ns (i:Int) with
  | true=>
   rw [hq] at hb hl
   have ha:=iQ v y.b
   have hb:(bO u (iG v y.b)&&R)=b:=hb
   generalize iG v y.b=w at ha hb
   have ho:=vT u w
   cases hf:bO u w with
   | true=>
    rw [hf] at hb ho
    have next:=next hb
    refine gW hE ?_;conv=>whnf
    refine aT fun h=>?_
    repeat' first | (refine gN hE ?_;conv=>whnf) | refine ⟨i,rfl,?_⟩ | refine ⟨_,get,?_⟩ | refine .pure _ [] hn ?_ | refine .pure _ [] hl ?_ | refine ⟨_,gn,?_⟩ | refine .pure _ [] ha ?_ | refine .pure _ [] ho ?_ | exact rfl | refine aY ?_ | refine aN ?_ | refine aT fun h=>?_ | refine aF fun h=>?_ | refine ⟨fun h=>?_,fun h=>?_⟩ | refine aJ ?_ | refine ⟨_,rfl,?_⟩ | refine aD ?_ | fail
    refine To.part [1,10,11,12] [] rfl rfl rfl ?_
    exact next
   | false=>
    rw [hf] at hb ho
    have hb:false=b:=hb
    subst hb
    refine gW hE ?_;conv=>whnf
    refine aT fun h=>?_
    repeat' first | (refine gN hE ?_;conv=>whnf) | refine ⟨i,rfl,?_⟩ | refine ⟨_,get,?_⟩ | refine .pure _ [] hn ?_ | refine .pure _ [] hl ?_ | refine ⟨_,gn,?_⟩ | refine .pure _ [] ha ?_ | refine .pure _ [] ho ?_ | exact rfl | refine aY ?_ | refine aN ?_ | refine aT fun h=>?_ | refine aF fun h=>?_ | refine ⟨fun h=>?_,fun h=>?_⟩ | refine aJ ?_ | refine ⟨_,rfl,?_⟩ | refine aD ?_ | fail
  | false=>
   rw [hq] at hb hl
   have hb:(bO u v&&R)=b:=hb
   have ho:=vT u v
   cases hf:bO u v with
   | true=>
    rw [hf] at hb ho
    have next:=next hb
    refine gW hE ?_;conv=>whnf
    refine aT fun h=>?_
    repeat' first | (refine gN hE ?_;conv=>whnf) | refine ⟨i,rfl,?_⟩ | refine ⟨_,get,?_⟩ | refine .pure _ [] hn ?_ | refine .pure _ [] hl ?_ | refine .pure _ [] ho ?_ | exact rfl | refine aY ?_ | refine aN ?_ | refine aT fun h=>?_ | refine aF fun h=>?_ | refine ⟨fun h=>?_,fun h=>?_⟩ | refine aJ ?_ | refine ⟨_,rfl,?_⟩ | refine aD ?_ | fail
    refine To.part [1,10,11,12] [] rfl rfl rfl ?_
    exact next
   | false=>
    rw [hf] at hb ho
    have hb:false=b:=hb
    subst hb
    refine gW hE ?_;conv=>whnf
    refine aT fun h=>?_
    repeat' first | (refine gN hE ?_;conv=>whnf) | refine ⟨i,rfl,?_⟩ | refine ⟨_,get,?_⟩ | refine .pure _ [] hn ?_ | refine .pure _ [] hl ?_ | refine .pure _ [] ho ?_ | exact rfl | refine aY ?_ | refine aN ?_ | refine aT fun h=>?_ | refine aF fun h=>?_ | refine ⟨fun h=>?_,fun h=>?_⟩ | refine aJ ?_ | refine ⟨_,rfl,?_⟩ | refine aD ?_ | fail
theorem EH (c:Con) (l:List Rn):(ofL c l).length=c.ns.length:=by unfold ofL mJ;simp
theorem MC (s:Sta) (hc:s.c.sm) (hr:s.run.length<=1048576):aA Tryz.prog 41 [s.av] [] (.ret (.bool (qU s))) []:=by
 have ho:=ZD s.c hc s.run hr
 have hU:=EH s.c s.run
 have next:=VX s hc (ofL s.c s.run) hU (fun i hi=>by
  have:=I7 (c:=s.c) (l:=s.run) (n:=(i:Int)) ⟨by omega,by omega⟩
  rw [Br] at this
  exact this) _ (ofL s.c s.run).length 0 (by omega) rfl
 have e:((Eh 0 (ofL s.c s.run).length).all fun i:Nat=>bO (atV (ofL s.c s.run) (i:Int)) (lA s.c (i:Int)))=qU s:=by
  unfold qU
  rw [hU,Eu]
 rw [e] at next
 generalize qU s=q at next
 generalize ofL s.c s.run=U at ho next
 refine cT (E:=E) (fn:=Tryz.f41) (g:=.pure _) fun _=>?_
 refine bW hE 10 ?_;conv=>whnf
 refine To.cutC [1] 1 rfl rfl rfl rfl ?_
 refine VW s ?_
 repeat' first | (refine gN hE ?_;conv=>whnf) | refine .pure _ [] ho ?_ | exact rfl | refine aY ?_ | refine aN ?_ | refine aT fun h=>?_ | refine aF fun h=>?_ | refine ⟨fun h=>?_,fun h=>?_⟩ | refine aJ ?_ | refine ⟨_,rfl,?_⟩ | refine aD ?_ | fail
 refine To.part [1,10,11,12] [] rfl rfl rfl ?_
 exact next
def gE (s:Sta):Prop:=(0<=s.now/\s.now<=1099511627776)/\(1<=s.nxt/\s.nxt<=1099511627776)/\s.hist.length=s.c.ns.length/\s.pend.length+s.run.length<=32
instance (s:Sta):Decidable (gE s):=by unfold gE;infer_instance
theorem GR (s:Sta) (e:Bool) (k:Int) (q g u:Bool) (b:Int)
  (he:aA Tryz.prog 37 [s.c.av] [] (.ret (.bool e)) [])
  (hk:aA Tryz.prog 38 [s.c.av] [] (.ret (ii k)) [])
  (hq:s.pend.length+s.run.length<=32->aA Tryz.prog 39 [.slice 11 (pnv s.pend) .no] [] (.ret (.bool q)) [])
  (hg:s.pend.length+s.run.length<=32->aA Tryz.prog 40 [s.av] [] (.ret (.bool g)) [])
  (hu:s.pend.length+s.run.length<=32->aA Tryz.prog 41 [s.av] [] (.ret (.bool u)) [])
  (hb:(if (((e||decide (k=0))&&decide (gE s))&&(q&&(g&&u)))=true then 0 else 1)=b):
  aA Tryz.prog 13 [s.av] [] (.ret (ii b)) []:=by
 have hlp:(pnv s.pend).length=s.pend.length:=by simp
 have hlr:(rav s.run).length=s.run.length:=by simp
 have hlh:(fv s.hist).length=s.hist.length:=by simp
 have hln:(nav s.c.ns).length=s.c.ns.length:=by simp
 refine cT (E:=E) (fn:=Tryz.f13) (g:=.pure _) fun _=>?_
 repeat' first | (refine gN hE ?_;conv=>whnf) | refine Em (Aa (Aa (by simp only [cC,decide_eq_true_eq] at *;omega) (by simp only [bF,decide_eq_true_eq] at *;omega)) ?_) | refine .pure _ [] he ?_ | refine .pure _ [] hk ?_ | refine .pure _ [] (hq (by simp only [decide_eq_true_eq,decide_eq_false_iff_not,Cb,De] at *;omega)) ?_ | refine .pure _ [] (hg (by simp only [decide_eq_true_eq,decide_eq_false_iff_not,Cb,De] at *;omega)) ?_ | refine .pure _ [] (hu (by simp only [decide_eq_true_eq,decide_eq_false_iff_not,Cb,De] at *;omega)) ?_ | exact rfl | refine aY ?_ | refine aN ?_ | refine aT fun h=>?_ | refine aF fun h=>?_ | refine ⟨fun h=>?_,fun h=>?_⟩ | refine aJ ?_ | refine ⟨_,rfl,?_⟩ | refine aD ?_ | fail
 all_goals
  subst hb
  refine congrArg (fun n=>Res.ret (AVal.int .i64 n)) ?_
  simp only [decide_eq_true_eq,decide_eq_false_iff_not,Cb,De,beq_iff_eq,beq_eq_false_iff_ne,ne_eq] at *
  first
  | (exfalso;omega)
  | (by_cases hL:gE s
     .rw [decide_eq_true hL]
      unfold gE at hL
      first
      | (exfalso;omega)
      | simp [*]
     .rw [decide_eq_false hL]
      first
      | (exfalso;unfold gE at hL;omega)
      | simp)
theorem sC (s:Sta) (hc:s.c.sm) (hs:Sm s.run):aA Tryz.prog 13 [s.av] [] (.ret (ii (if gA s=true then 0 else 1))) []:=by
 refine GR s (fV s.c) (eV s.c) (O7 s.pend) (gaB s [] [] (mX s)) (qU s) _ (nW s.c) (MI s.c hc) (fun h=>?_) (fun h=>R9 s hc (by omega) (by omega) hs) (fun h=>MC s hc (by omega)) ?_
 .have:=Q2.check_ok (s.pend.map Pn.q) (by rw [Cv];omega)
  rw [QM] at this
  exact this
 .rw [aAS]
  unfold gA FB gE
  congr 1
  simp only [Gv]
end Go.Proofs.YtmalnhgopkfdaaaGreat
