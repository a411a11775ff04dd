/-
  The row of those that wait; which states may be, as walks.
-/
import Derived.Test.YtmalnhgopkfdaaaGreatCAO
set_option linter.all false
set_option maxHeartbeats 1000000
open And renaming intro->Ad
open Bool renaming and_assoc->Hn,and_eq_true->Ac,and_false->Ch,and_true->Fi,eq_iff_iff->Fh,false_and->Ek,not_eq_false'->Gf,not_eq_true'->Cg,true_and->Co
open Decidable renaming not_not->Gh
open Exists renaming intro->Ba
open Int renaming le_refl->Jn,toNat_natCast->Br
open List renaming all_cons->Gz,all_eq_true->Ck,any_cons->Ih,any_eq_true->Fx,append_assoc->Al,append_nil->Bd,count_append->Hy,count_cons_self->Hc,drop_eq_getElem_cons->Ag,drop_eq_nil_of_le->Ai,drop_zero->Dq,foldl_cons->Cs,getElem?_eq_getElem->Ab,getElem?_map->Az,getElem_mem->Bw,length_map->Cv,map_append->Cu,map_cons->Cx,map_map->Eh,mem_append->Bf,mem_append_left->Jo,mem_append_right->Jk,mem_cons->Bk,mem_cons_of_mem->Ct,mem_cons_self->Bt,mem_map->Cm,nodup_cons->Ge,not_mem_nil->Gs,range->Dk,range'->Fs,range_eq_range'->Ft
open Nat renaming add_zero->Da,le_trans->Cq
open Or renaming inl->Fk
namespace Go.Proofs.YtmalnhgopkfdaaaGreat.Q2
open Go Go.AW Go.Proofs
structure Pend where
 (id tenant pods n0 n1 n2 run level prefer seq since:Int)
 deriving DecidableEq
def Pend.cs (p:Pend):List AVal:=[.int .i64 p.id,.int .i64 p.tenant,.int .i64 p.pods,.int .i64 p.n0,.int .i64 p.n1,.int .i64 p.n2,.int .i64 p.run,.int .i64 p.level,.int .i64 p.prefer,.int .i64 p.seq,.int .i64 p.since]
def Pend.av (p:Pend):AVal:=.agg p.cs
abbrev pav (l:List Pend):List AVal:=l.map Pend.av
theorem S4 {n:Int} (h1: -9223372036854775808<=n) (h2:n<=9223372036854775807):inR .i64 n:=⟨by simp only [cU];omega,by simp only [bQ];omega⟩
def idx (p:Pend->Bool):List Pend->Int->Int
 | [],_=> -1
 | x::r,i=>if p x then i else idx p r (i+1)
def iK (a:Int) (l:List Pend):Int:=idx (fun x=>x.id==a) l 0
theorem nW {l:List Pend} {i:Nat} (h:i<l.length):(pav l)[i]? =some l[i].av:=by
 simp [pav,h]
set_option maxRecDepth 10000
theorem US (p:Pend):aA Tryz.prog 217 [p.av] [] (.ret (.int .i64 p.id)) []:=by
 refine cT (E:=E) (fn:=Tryz.f217) (g:=.pure _) fun _=>?_
 refine gW hE ?_;conv=>whnf
theorem IF (p:Pend):aA Tryz.prog 218 [p.av] [] (.ret (.int .i64 p.seq)) []:=by
 refine cT (E:=E) (fn:=Tryz.f218) (g:=.pure _) fun _=>?_
 refine gW hE ?_;conv=>whnf
theorem UP (p:Pend) (b:Int):aA Tryz.prog 128 [.iface 141 p.av,.int .i64 b] [] (.ret (.bool (p.id==b))) []:=by
 refine cT (E:=E) (fn:=Tryz.f128) (g:=.pure _) fun _=>?_
 refine gW hE ?_;conv=>whnf
 refine .pure _ [] (US p) ?_
 refine gW hE ?_;conv=>whnf
theorem HJ (p q:Pend):aA Tryz.prog 84 [.iface 141 p.av,.iface 141 q.av] [] (.ret (.bool (decide (q.seq<p.seq)))) []:=by
 refine cT (E:=E) (fn:=Tryz.f84) (g:=.pure _) fun _=>?_
 refine gW hE ?_;conv=>whnf
 refine .pure _ [] (IF p) ?_
 refine gW hE ?_;conv=>whnf
 refine .pure _ [] (IF q) ?_
 refine gW hE ?_;conv=>whnf
theorem LK (x:Pend) (a:Int):aA Tryz.prog 127 [x.av,.ptr [.int .i64 a]] [] (.ret (.bool (x.id==a))) []:=by
 refine cT (E:=E) (fn:=Tryz.f127) (g:=.pure _) fun _=>?_
 refine gW hE ?_;conv=>whnf
 refine .pure _ [] (UP x a) ?_
 refine gW hE ?_;conv=>whnf
theorem CT (f:FuncId) (l:List AVal) (xs:List Pend) (p:Pend->Bool) (hf:∀ x∈xs,aA Tryz.prog f [x.av,.ptr l] [] (.ret (.bool (p x))) []) (hl:((pav xs).length:Int)<=9223372036854775807) (r:Int):
  ∀ (n i:Nat),i+n=xs.length->idx p (xs.drop i) i=r->
  To E Tryz.f126 (.pure (.ret (.int .i64 r))) (.head (stk Tryz.f126 0)
   [(0,.slice 11 (pav xs) .no),(1,.func (.func f) [] [.ptr l]),(7,.int .i64 ((pav xs).length:Nat)),(8,.int .i64 i)] []):=by
 have hlen:(pav xs).length=xs.length:=by simp
 intro n
 induction n with
 | zero=>
  intro i hi hr
  refine gW hE ?_;conv=>whnf
  refine ⟨fun h=>?_,fun h=>?_⟩
  .exact absurd (of_decide_eq_true h) (by omega)
  .refine gW hE ?_;conv=>whnf
   rw [Ai (by omega)] at hr
   rw [<-hr]
   rfl
 | succ n ih=>
  intro i hi hr
  have hlt:i<xs.length:=by omega
  refine gW hE ?_;conv=>whnf
  refine ⟨fun h=>?_,fun h=>?_⟩
  .refine gW hE ?_;conv=>whnf
   refine ⟨i,rfl,?_⟩
   refine gW hE ?_;conv=>whnf
   refine ⟨_,nW hlt,?_⟩
   refine gW hE ?_;conv=>whnf
   refine .pure _ [] (hf xs[i] (Bw hlt)) ?_
   refine gW hE ?_;conv=>whnf
   rw [Ag hlt] at hr
   have hr:(if p xs[i] then (i:Int) else idx p (xs.drop (i+1)) ((i:Int)+1))=r:=hr
   refine ⟨fun h2=>?_,fun h2=>?_⟩
   .refine gW hE ?_;conv=>whnf
    rw [if_pos h2] at hr
    rw [hr]
   .refine gW hE ?_;conv=>whnf
    rw [if_neg (by rw [h2];simp)] at hr
    refine .inl ⟨⟨by simp only [cU];omega,by simp only [bQ];omega⟩,?_⟩
    refine gW hE ?_;conv=>whnf
    refine To.head [0,1,7,8] ?_
    exact ih (i+1) (by omega) (by rw [<-hr];push_cast;rfl)
  .exact absurd (of_decide_eq_false h) (by omega)
theorem KN (f:FuncId) (l:List AVal) (xs:List Pend) (p:Pend->Bool) (hf:∀ x∈xs,aA Tryz.prog f [x.av,.ptr l] [] (.ret (.bool (p x))) []):
  aA Tryz.prog 126 [.slice 11 (pav xs) .no,.func (.func f) [] [.ptr l]] [] (.ret (.int .i64 (idx p xs 0))) []:=by
 refine cT (E:=E) (fn:=Tryz.f126) (g:=.pure _) fun ho=>?_
 refine gW hE ?_;conv=>whnf
 refine To.head [0,1,7,8] ?_
 exact CT f l xs p hf ho.1 _ xs.length 0 (by omega) (by simp)
theorem rI (xs:List Pend) (a:Int):aA Tryz.prog 85 [.slice 11 (pav xs) .no,.int .i64 a] [] (.ret (.int .i64 (iK a xs))) []:=by
 refine cT (E:=E) (fn:=Tryz.f85) (g:=.pure _) fun _=>?_
 refine gW hE ?_;conv=>whnf
 refine .pure _ [] (KN _ _ xs (fun x=>x.id==a) fun x _=>LK x a) ?_
 refine gW hE ?_;conv=>whnf
 rfl
def GK (l:List Pend) (i:Nat):Bool:=match l[i]?,l[i-1]? with
 | some c,some p=>!((decide (0<i)&& !decide (p.seq<c.seq))||(iK c.id l !=(i:Int)))
 | _,_=>true
def jL (l:List Pend):Nat->Nat->Bool
 | 0,_=>true
 | n+1,i=>GK l i&&jL l n (i+1)
def checkP (l:List Pend):Bool:=jL l l.length 0
theorem DK (l:List Pend) (hl:l.length<=1000000) (r:Bool):∀ (n i:Nat),i+n=l.length->jL l n i=r->
  To E Tryz.f39 (.pure (.ret (.bool r))) (.head (stk Tryz.f39 0) [(0,.slice 11 (pav l) .no),(5,.slice 11 (pav l) .no),(6,.int .i64 ((pav l).length:Nat)),(7,.int .i64 i)] []):=by
 have hlen:(pav l).length=l.length:=by simp
 intro n
 induction n with
 | zero=>
  intro i hi hr
  refine gW hE ?_;conv=>whnf
  refine ⟨fun h=>?_,fun h=>?_⟩
  .exact absurd (of_decide_eq_true h) (by omega)
  .refine gW hE ?_;conv=>whnf
   rw [<-hr]
   rfl
 | succ n ih=>
  intro i hi hr
  have hlt:i<l.length:=by omega
  have hr:(GK l i&&jL l n (i+1))=r:=hr
  have back:jL l n (i+1)=r->inR .i64 ((i:Int)+1)/\To E Tryz.f39 (.pure (.ret (.bool r))) (.head (stk Tryz.f39 0) [(0,.slice 11 (pav l) .no),(5,.slice 11 (pav l) .no),(6,.int .i64 ((pav l).length:Nat)),(7,.int .i64 ((i:Int)+1))] []):=fun h=>
   ⟨S4 (by omega) (by omega),by have:=ih (i+1) (by omega) h;push_cast at this;exact this⟩
  refine gW hE ?_;conv=>whnf
  refine ⟨fun h=>?_,fun h=>?_⟩
  .refine gW hE ?_;conv=>whnf
   refine ⟨i,rfl,?_⟩
   refine gW hE ?_;conv=>whnf
   refine ⟨_,nW hlt,?_⟩
   refine gW hE ?_;conv=>whnf
   refine ⟨fun h1=>?_,fun h1=>?_⟩
   .have hpos:0<i:=by have:=of_decide_eq_true h1;omega
    have hlt1:i-1<l.length:=by omega
    have hok:GK l i= !((true&& !decide (l[i-1].seq<l[i].seq))||(iK l[i].id l !=(i:Int))):=by
     unfold GK
     rw [Ab hlt,Ab hlt1,decide_eq_true hpos]
    refine gW hE ?_;conv=>whnf
    refine .inl ⟨S4 (by omega) (by omega),?_⟩
    refine gW hE ?_;conv=>whnf
    refine ⟨i-1,by omega,?_⟩
    refine gW hE ?_;conv=>whnf
    refine ⟨_,nW hlt1,?_⟩
    refine gW hE ?_;conv=>whnf
    refine .pure _ [] (HJ _ _) ?_
    refine gW hE ?_;conv=>whnf
    refine ⟨fun h2=>?_,fun h2=>?_⟩
    .refine gW hE ?_;conv=>whnf
     refine ⟨fun _=>?_,fun h3=>(by cases h3)⟩
     refine gW hE ?_;conv=>whnf
     rw [hok,h2] at hr
     rw [<-hr]
     rfl
    .refine gW hE ?_;conv=>whnf
     refine .pure _ [] (rI _ _) ?_
     refine gW hE ?_;conv=>whnf
     refine ⟨fun h3=>?_,fun h3=>?_⟩
     .refine gW hE ?_;conv=>whnf
      rw [hok,h2,h3] at hr
      rw [<-hr]
      rfl
     .refine gW hE ?_;conv=>whnf
      rw [hok,h2,h3] at hr
      obtain ⟨b1,b2⟩:=back hr
      refine .inl ⟨b1,?_⟩
      refine gW hE ?_;conv=>whnf
      refine To.cut [0,5,6,7] 0 rfl rfl rfl rfl ?_
      exact b2
   .have h0:i=0:=by have:=of_decide_eq_false h1;omega
    have hok:GK l i= !((false&&false)||(iK l[i].id l !=(i:Int))):=by
     unfold GK
     have hlt1:i-1<l.length:=by omega
     rw [Ab hlt,Ab hlt1]
     subst h0
     simp
    refine gW hE ?_;conv=>whnf
    refine ⟨fun h2=>(by cases h2),fun _=>?_⟩
    refine gW hE ?_;conv=>whnf
    refine .pure _ [] (rI _ _) ?_
    refine gW hE ?_;conv=>whnf
    refine ⟨fun h3=>?_,fun h3=>?_⟩
    .refine gW hE ?_;conv=>whnf
     rw [hok,h3] at hr
     rw [<-hr]
     rfl
    .refine gW hE ?_;conv=>whnf
     rw [hok,h3] at hr
     obtain ⟨b1,b2⟩:=back hr
     refine .inl ⟨b1,?_⟩
     refine gW hE ?_;conv=>whnf
     refine To.cut [0,5,6,7] 0 rfl rfl rfl rfl ?_
     exact b2
  .exact absurd (of_decide_eq_false h) (by omega)
theorem check_ok (l:List Pend) (hl:l.length<=1000000):aA Tryz.prog 39 [.slice 11 (pav l) .no] [] (.ret (.bool (checkP l))) []:=by
 refine cT (E:=E) (fn:=Tryz.f39) (g:=.pure _) fun _=>?_
 refine gW hE ?_;conv=>whnf
 refine To.cut [0,5,6,7] 0 rfl rfl rfl rfl ?_
 exact DK l hl _ l.length 0 (by omega) rfl
def eqP (x y:Pend):Bool:=(x.id==y.id)&&((x.tenant==y.tenant)&&((x.pods==y.pods)&&((x.n0==y.n0)&&((x.n1==y.n1)&&((x.n2==y.n2)&&((x.run==y.run)&&((x.level==y.level)&&((x.prefer==y.prefer)&&((x.seq==y.seq)&&((x.since==y.since)&&true))))))))))
theorem FD {x y:Pend}:eqP x y=true↔x=y:=by
 obtain ⟨a0,a1,a2,a3,a4,a5,a6,a7,a8,a9,a10⟩:=x
 obtain ⟨b0,b1,b2,b3,b4,b5,b6,b7,b8,b9,b10⟩:=y
 simp [eqP]
theorem F3 (a b:List Pend) (hab:a.length=b.length) (hl:((pav a).length:Int)<=9223372036854775807) (r:Bool):∀ (n i:Nat),i+n=a.length->decide (a.drop i=b.drop i)=r->
  To E Tryz.f28 (.pure (.ret (.bool r))) (.head (stk Tryz.f28 0) [(0,.slice 11 (pav a) .no),(1,.slice 11 (pav b) .no),(5,.int .i64 i)] []):=by
 have hlen:(pav a).length=a.length:=by simp
 intro n
 induction n with
 | zero=>
  intro i hi hr
  refine gW hE ?_;conv=>whnf
  refine ⟨fun h=>?_,fun h=>?_⟩
  .exact absurd (of_decide_eq_true h) (by omega)
  .refine gW hE ?_;conv=>whnf
   rw [Ai (by omega),Ai (by omega)] at hr
   rw [<-hr]
   rfl
 | succ n ih=>
  intro i hi hr
  have hlt:i<a.length:=by omega
  have hlt2:i<b.length:=by omega
  rw [Ag hlt,Ag hlt2] at hr
  refine gW hE ?_;conv=>whnf
  refine ⟨fun h=>?_,fun h=>?_⟩
  .refine gW hE ?_;conv=>whnf
   refine ⟨i,rfl,?_⟩
   refine gW hE ?_;conv=>whnf
   refine ⟨_,nW hlt,?_⟩
   refine gW hE ?_;conv=>whnf
   refine ⟨i,rfl,?_⟩
   refine gW hE ?_;conv=>whnf
   refine ⟨_,nW hlt2,?_⟩
   refine gW hE ?_;conv=>whnf
   refine ⟨fun h2=>?_,fun h2=>?_⟩
   .have h3:(!eqP a[i] b[i])=true:=h2
    refine gW hE ?_;conv=>whnf
    have hne:a[i]≠b[i]:=fun e=>by rw [FD.2 e] at h3;cases h3
    rw [<-hr,decide_eq_false fun e=>hne (List.cons.inj e).1]
   .have h3:(!eqP a[i] b[i])=false:=h2
    have he:a[i]=b[i]:=FD.1 (by simpa using h3)
    refine gW hE ?_;conv=>whnf
    refine .inl ⟨S4 (by omega) (by omega),?_⟩
    refine gW hE ?_;conv=>whnf
    refine To.head [0,1,5] ?_
    have:=ih (i+1) (by omega) (by rw [<-hr,he];exact decide_eq_decide.2 ⟨fun e=>by rw [e],fun e=>(List.cons.inj e).2⟩)
    push_cast at this
    exact this
  .exact absurd (of_decide_eq_false h) (by omega)
theorem same_ok (a b:List Pend):aA Tryz.prog 28 [.slice 11 (pav a) .no,.slice 11 (pav b) .no] [] (.ret (.bool (decide (a=b)))) []:=by
 have hlen:(pav a).length=a.length:=by simp
 have hlen2:(pav b).length=b.length:=by simp
 refine cT (E:=E) (fn:=Tryz.f28) (g:=.pure _) fun ho=>?_
 refine gW hE ?_;conv=>whnf
 refine ⟨fun h=>?_,fun h=>?_⟩
 .refine gW hE ?_;conv=>whnf
  have hne:a≠b:=fun e=>by subst e;simp at h
  rw [decide_eq_false hne]
 .have hab:a.length=b.length:=by
   have:((a.length:Nat):Int)=b.length:=by simpa using h
   omega
  refine gW hE ?_;conv=>whnf
  refine To.head [0,1,5] ?_
  exact F3 a b hab ho.1 _ a.length 0 (by omega) (by simp)
end Go.Proofs.YtmalnhgopkfdaaaGreat.Q2
namespace Go.Proofs.YtmalnhgopkfdaaaGreat
open Go Go.AW Go.Proofs
structure Pn where
 g:Gan
 (seq at':Int)
 deriving DecidableEq
def Pn.cs (x:Pn):List AVal:=[ii x.g.id,ii x.g.ten,ii x.g.pods,ii x.g.need.a,ii x.g.need.b,ii x.g.need.c,ii x.g.run,ii x.g.lev,ii x.g.pref,ii x.seq,ii x.at']
def Pn.av (x:Pn):AVal:=.agg x.cs
abbrev pnv (l:List Pn):List AVal:=l.map Pn.av
theorem EI {l:List Pn} {i:Nat} (h:i<l.length):(pnv l)[i]? =some l[i].av:=by simp [pnv,h]
abbrev fv (l:List Nat):List AVal:=l.map fun x:Nat=>.int .u64 (x:Int)
structure Sta where
 c:Con
 (now nxt:Int)
 pend:List Pn
 run:List Rn
 hist:List Nat
 deriving DecidableEq
def Sta.cs (s:Sta):List AVal:=[.slice 11 (nav s.c.ns) .no,.slice 6 (hav s.c.hs) .no,ii s.c.half,ii s.c.age,ii s.now,ii s.nxt,.slice 11 (pnv s.pend) .no,.slice 14 (rav s.run) .no,.slice 1 (fv s.hist) .no]
def Sta.av (s:Sta):AVal:=.agg s.cs
def iV (c:Con):Bool:=decide (c.ns=[])&&(decide (c.hs=[])&&(decide (c.half=0)&&decide (c.age=0)))
def DO (g:Gan):Bool:=decide (1<=g.id/\g.id<=1073741824/\1<=g.pods/\g.pods<=16)&&(cO g.need&&decide (1<=g.run/\g.run<=1048576/\0<=g.lev/\g.lev<=3/\0<=g.pref/\g.pref<=g.lev))
def iJ (c:Con) (g:Gan):Int:=if DO g=true then (if cC c.ns g.ten=true then 0 else 3) else 1
def Rn.pn (r:Rn):Pn:=⟨r.g,r.seq,r.at'⟩
def pnB (s:Sta) (p:Pn):Bool:=decide (iJ s.c p.g=0)&&(!(lM s.c [] p.g).isNone&&decide ((0<=p.seq/\p.seq<s.nxt)/\0<=p.at'/\p.at'<=s.now))
def rnB (s:Sta) (r:Rn):Bool:=decide ((r.at'<=r.st/\r.st<=s.now)/\s.now<P2 r)&&(qU s.c (lK s.c (s.run.filter fun x=>!(x.g.id==r.g.id))) r.g r.hs&&decide ((cS s.c.hs (r.hs.headD 0)).f=r.fl))
def sV (c:Con) (n:Int):V3:=if cC c.ns n=true then oQ (uP c.ns n (xR c.ns)) (gF c.ns n).b else uP c.ns n (xR c.ns)
def GA (s:Sta):Bool:=(Dk s.c.ns.length).all fun i:Nat=>dU (atV (ofL s.c s.run) (i:Int)) (sV s.c (i:Int))
def Pn.q (x:Pn):Q2.Pend:=⟨x.g.id,x.g.ten,x.g.pods,x.g.need.a,x.g.need.b,x.g.need.c,x.g.run,x.g.lev,x.g.pref,x.seq,x.at'⟩
theorem RF (l:List Pn):Q2.pav (l.map Pn.q)=pnv l:=by simp [Q2.pav,pnv,Pn.q,Q2.Pend.av,Q2.Pend.cs,Pn.av,Pn.cs]
def UG (l:List Pn):Bool:=Q2.checkP (l.map Pn.q)
def ids (s:Sta):List Int:=s.pend.map (fun p=>p.g.id)++s.run.map fun r=>r.g.id
def NQ (s:Sta):List Int:=s.pend.map (fun p=>p.seq)++s.run.map fun r=>r.seq
def EY (s:Sta):Bool:=(iV s.c||decide (hO s.c=0))&&decide ((0<=s.now/\s.now<=1099511627776)/\(1<=s.nxt/\s.nxt<=1099511627776)/\s.hist.length=s.c.ns.length/\s.pend.length+s.run.length<=32)
def hJ (s:Sta):Bool:=EY s&&(UG s.pend&&((s.pend.all (pnB s)&&s.run.all fun r=>pnB s r.pn&&rnB s r)&&(decide (ids s).Nodup&&(decide (NQ s).Nodup&&GA s))))
theorem wE {c:Con} {g:Gan}:iJ c g=0↔DO g=true/\cC c.ns g.ten=true:=by
 unfold iJ
 cases DO g<;>cases cC c.ns g.ten<;>decide
structure RnOK (s:Sta) (r:Rn):Prop where
 gang:iJ s.c r.g=0
 st:0<=r.st/\r.st<=s.now
 chk:qU s.c (lK s.c (s.run.filter fun x=>!(x.g.id==r.g.id))) r.g r.hs=true
theorem FJ {s:Sta} (h:hJ s=true) {r:Rn} (hr:r∈s.run):RnOK s r:=by
 unfold hJ at h
 simp only [Ac,Ck] at h
 have h1:=h.2.2.1.2 r hr
 unfold pnB rnB at h1
 simp only [Ac,decide_eq_true_eq] at h1
 obtain ⟨⟨a,_,b⟩,c,d,_⟩:=h1
 exact ⟨a,⟨Int.le_trans b.2.1 c.1.1,c.1.2⟩,d⟩
theorem FM {c:Con} {free:List V3} {g:Gan} {hs:List Int} (h:qU c free g hs=true):(hs.length:Int)=g.pods/\∀ u∈hs,0<=u/\u<(free.length:Int)/\((hs.count u:Nat):Int)<=gO ((free[u.toNat]?).getD V3.zero) g.need:=by
 unfold qU at h
 by_cases hl:(hs.length:Int)=g.pods
 .rw [if_pos hl,Fx] at h
  obtain ⟨G,_,hG⟩:=h
  refine ⟨hl,fun u hu=>?_⟩
  unfold chkG BF at hG
  simp only [Ac,Ck] at hG
  have hf:=hG.2 u hu
  unfold TF at hf
  by_cases h1:u<0
  .rw [if_pos (decide_eq_true h1)] at hf
   cases hf
  .rw [if_neg (by rw [decide_eq_false h1];decide)] at hf
   by_cases h2:(free.length:Int)<=u
   .rw [if_pos (decide_eq_true h2)] at hf
    cases hf
   .rw [if_neg (by rw [decide_eq_false h2];decide)] at hf
    have e:BP u hs=((hs.count u:Nat):Int):=by unfold BP;rw [yP];omega
    rw [e] at hf
    simp at hf
    exact ⟨by omega,by omega,hf⟩
 .rw [if_neg hl] at h
  cases h
theorem BC (c:Con) (l:List Rn):(lK c l).length=c.hs.length:=by
 have key:∀ (l:List Rn) (xs:List V3),(l.foldl wH xs).length=xs.length:=fun l=>by
  induction l with
  | nil=>intro xs;rfl
  | cons x r ih=>intro xs;rw [Cs,ih,wG]
 unfold lK
 rw [key]
 simp
set_option maxRecDepth 10000
def eA (n lo hi:Int):Bool:=decide (lo<=n)&&decide (n<=hi)
theorem dZ {n lo hi:Int}:eA n lo hi=true↔lo<=n/\n<=hi:=by unfold eA;simp
theorem eZ (n lo hi:Int):aA Tryz.prog 81 [ii n,ii lo,ii hi] [] (.ret (.bool (eA n lo hi))) []:=by
 unfold eA
 by_cases h1:lo<=n
 .rw [decide_eq_true h1,Co]
  refine cT (E:=E) (fn:=Tryz.f81) (g:=.pure _) fun _=>?_
  repeat' first | (refine gN hE ?_;conv=>whnf) | exact rfl | refine aY ?_ | refine aN ?_ | refine aT fun h=>?_ | refine aF fun h=>?_ | refine ⟨fun h=>?_,fun h=>?_⟩ | refine aJ ?_ | refine ⟨_,rfl,?_⟩ | refine aD ?_ | fail
 .rw [decide_eq_false h1,Ek]
  refine cT (E:=E) (fn:=Tryz.f81) (g:=.pure _) fun _=>?_
  repeat' first | (refine gN hE ?_;conv=>whnf) | exact rfl | refine aY ?_ | refine aN ?_ | refine aT fun h=>?_ | refine aF fun h=>?_ | refine ⟨fun h=>?_,fun h=>?_⟩ | refine aJ ?_ | refine ⟨_,rfl,?_⟩ | refine aD ?_ | fail
theorem nR (n lo hi:Int):aA Tryz.prog 129 [ii n,ii lo,ii hi] [] (.ret (.bool (eA n lo hi))) []:=by
 unfold eA
 by_cases h1:lo<=n
 .rw [decide_eq_true h1,Co]
  refine cT (E:=E) (fn:=Tryz.f129) (g:=.pure _) fun _=>?_
  repeat' first | (refine gN hE ?_;conv=>whnf) | exact rfl | refine aY ?_ | refine aN ?_ | refine aT fun h=>?_ | refine aF fun h=>?_ | refine ⟨fun h=>?_,fun h=>?_⟩ | refine aJ ?_ | refine ⟨_,rfl,?_⟩ | refine aD ?_ | fail
 .rw [decide_eq_false h1,Ek]
  refine cT (E:=E) (fn:=Tryz.f129) (g:=.pure _) fun _=>?_
  repeat' first | (refine gN hE ?_;conv=>whnf) | exact rfl | refine aY ?_ | refine aN ?_ | refine aT fun h=>?_ | refine aF fun h=>?_ | refine ⟨fun h=>?_,fun h=>?_⟩ | refine aJ ?_ | refine ⟨_,rfl,?_⟩ | refine aD ?_ | fail
theorem CK (v:V3) (b:Bool) (hb:cO v=b):aA Tryz.prog 124 [v.av] [] (.ret (.bool b)) []:=by
 unfold cO at hb
 refine cT (E:=E) (fn:=Tryz.f124) (g:=.pure _) fun _=>?_
 repeat' first
  | (refine gW hE ?_;conv=>whnf)
  | exact hb
  | refine aY ?_
  | refine aN ?_
  | refine Ad (fun h=>?_) (fun h=>?_)
  | refine aJ ?_
  | refine Ba _ (Ad rfl ?_)
  | refine Ad (by decide) ?_
 all_goals (refine congrArg (fun b=>Res.ret (AVal.bool b)) ?_;rw [<-hb];simp only [decide_eq_true_eq,decide_eq_false_iff_not] at *)
 .rw [decide_eq_false (p:=0<=v.a/\v.a<=1048576) (by omega)];rfl
 .rw [decide_eq_false (p:=0<=v.a/\v.a<=1048576) (by omega)];rfl
 .rw [decide_eq_false (p:=0<=v.b/\v.b<=1048576) (by omega),Ch];rfl
 .rw [decide_eq_false (p:=0<=v.b/\v.b<=1048576) (by omega),Ch];rfl
 .rw [decide_eq_false (p:=0<=v.c/\v.c<=1048576) (by omega),Ch]
 .rw [decide_eq_false (p:=0<=v.c/\v.c<=1048576) (by omega),Ch]
 .rw [decide_eq_true (p:=0<=v.a/\v.a<=1048576) (by omega),decide_eq_true (p:=0<=v.b/\v.b<=1048576) (by omega),decide_eq_true (p:=0<=v.c/\v.c<=1048576) (by omega)];rfl
theorem cX (v:V3):aA Tryz.prog 124 [v.av] [] (.ret (.bool (cO v))) []:=CK v _ rfl
def vX (x:Hos):Bool:=eA x.f 0 100&&(eA x.b 0 100&&(eA x.r 0 100&&cO x.c))
theorem PA (x:Hos):aA Tryz.prog 83 [x.av] [] (.ret (.bool (vX x))) []:=by
 have h1:=eZ x.f 0 100
 have h2:=eZ x.b 0 100
 have h3:=eZ x.r 0 100
 have h4:=cX x.c
 unfold vX
 generalize eA x.f 0 100=b1 at h1
 generalize eA x.b 0 100=b2 at h2
 generalize eA x.r 0 100=b3 at h3
 generalize cO x.c=b4 at h4
 cases b1<;>cases b2<;>cases b3<;>cases b4
 all_goals
  refine cT (E:=E) (fn:=Tryz.f83) (g:=.pure _) fun _=>?_
  repeat' first | (refine gN hE ?_;conv=>whnf) | refine .pure _ [] h1 ?_ | refine .pure _ [] h2 ?_ | refine .pure _ [] h3 ?_ | refine .pure _ [] h4 ?_ | exact rfl | refine aY ?_ | refine aN ?_ | refine aT fun h=>?_ | refine aF fun h=>?_ | refine ⟨fun h=>?_,fun h=>?_⟩ | refine aJ ?_ | refine ⟨_,rfl,?_⟩ | refine aD ?_ | fail
theorem KS (x:Hos):vX x=jK x:=by
 rw [Fh]
 unfold vX jK
 by_cases h:vE x
 .rw [if_pos h]
  unfold vE at h
  simp only [Ac,dZ]
  constructor
  .intro q;omega
  .intro q;cases q
 .rw [if_neg h]
  unfold vE at h
  simp only [Ac,dZ]
  constructor
  .intro q;exact q.2.2.2
  .intro q;exact ⟨by omega,by omega,by omega,q⟩
theorem GC (c:Con) (i:Nat) (hi:i<1048576) (x:Nod) (get:(nav c.ns)[i]? =some x.av) (hb:qX i x):aA Tryz.prog 82 [c.av,ii i] [] (.ret (.bool false)) []:=by
 have b1:=eZ x.p 0 ((i:Int)-1)
 have b2:=eZ x.w 1 1000
 have hl:=eZ x.w 1 1000
 have v1:=cX x.n
 have v2:=cX x.b
 have v3:=cX x.l
 have v4:=iY x.l x.n
 unfold qX at hb
 by_cases h0:i=0
 .by_cases hp:x.p= -1
  .have e2:eA x.w 1 1000=false:=by
    cases hq:eA x.w 1 1000 with
    | false=>rfl
    | true=>have:=dZ.1 hq;omega
   rw [e2] at b2
   subst h0
   refine cT (E:=E) (fn:=Tryz.f82) (g:=.pure _) fun _=>?_
   repeat' first | (refine gN hE ?_;conv=>whnf) | refine ⟨i,rfl,?_⟩ | refine ⟨_,get,?_⟩ | refine .pure _ [] b1 ?_ | refine .pure _ [] b2 ?_ | refine .pure _ [] hl ?_ | refine .pure _ [] v1 ?_ | refine .pure _ [] v2 ?_ | refine .pure _ [] v3 ?_ | refine .pure _ [] v4 ?_ | exact rfl | refine aY ?_ | refine aN ?_ | refine aT fun h=>?_ | refine aF fun h=>?_ | refine ⟨fun h=>?_,fun h=>?_⟩ | refine aJ ?_ | refine ⟨_,rfl,?_⟩ | refine aD ?_ | fail
  .subst h0
   refine cT (E:=E) (fn:=Tryz.f82) (g:=.pure _) fun _=>?_
   repeat' first | (refine gN hE ?_;conv=>whnf) | refine ⟨i,rfl,?_⟩ | refine ⟨_,get,?_⟩ | refine .pure _ [] b1 ?_ | refine .pure _ [] b2 ?_ | refine .pure _ [] hl ?_ | refine .pure _ [] v1 ?_ | refine .pure _ [] v2 ?_ | refine .pure _ [] v3 ?_ | refine .pure _ [] v4 ?_ | exact rfl | refine aY ?_ | refine aN ?_ | refine aT fun h=>?_ | refine aF fun h=>?_ | refine ⟨fun h=>?_,fun h=>?_⟩ | refine aJ ?_ | refine ⟨_,rfl,?_⟩ | refine aD ?_ | fail
   all_goals (exfalso;simp at *;omega)
 .cases hq:eA x.p 0 ((i:Int)-1) with
  | false=>
   rw [hq] at b1
   refine cT (E:=E) (fn:=Tryz.f82) (g:=.pure _) fun _=>?_
   repeat' first | (refine gN hE ?_;conv=>whnf) | refine ⟨i,rfl,?_⟩ | refine ⟨_,get,?_⟩ | refine .pure _ [] b1 ?_ | refine .pure _ [] b2 ?_ | refine .pure _ [] hl ?_ | refine .pure _ [] v1 ?_ | refine .pure _ [] v2 ?_ | refine .pure _ [] v3 ?_ | refine .pure _ [] v4 ?_ | exact rfl | refine aY ?_ | refine aN ?_ | refine aT fun h=>?_ | refine aF fun h=>?_ | refine ⟨fun h=>?_,fun h=>?_⟩ | refine aJ ?_ | refine ⟨_,rfl,?_⟩ | refine aD ?_ | fail
  | true=>
   rw [hq] at b1
   have:=dZ.1 hq
   have e2:eA x.w 1 1000=false:=by
    cases hq:eA x.w 1 1000 with
    | false=>rfl
    | true=>have:=dZ.1 hq;omega
   rw [e2] at b2
   refine cT (E:=E) (fn:=Tryz.f82) (g:=.pure _) fun _=>?_
   repeat' first | (refine gN hE ?_;conv=>whnf) | refine ⟨i,rfl,?_⟩ | refine ⟨_,get,?_⟩ | refine .pure _ [] b1 ?_ | refine .pure _ [] b2 ?_ | refine .pure _ [] hl ?_ | refine .pure _ [] v1 ?_ | refine .pure _ [] v2 ?_ | refine .pure _ [] v3 ?_ | refine .pure _ [] v4 ?_ | exact rfl | refine aY ?_ | refine aN ?_ | refine aT fun h=>?_ | refine aF fun h=>?_ | refine ⟨fun h=>?_,fun h=>?_⟩ | refine aJ ?_ | refine ⟨_,rfl,?_⟩ | refine aD ?_ | fail
set_option maxHeartbeats 2000000 in
theorem CL (c:Con) (i:Nat) (hi:i<1048576) (x:Nod) (get:(nav c.ns)[i]? =some x.av) (hb:¬ qX i x) (hlf:cC c.ns (i:Int)=true):aA Tryz.prog 82 [c.av,ii i] [] (.ret (.bool (cO x.n&&(cO x.b&&(cO x.l&&dU x.l x.n))))) []:=by
 have b1:=eZ x.p 0 ((i:Int)-1)
 have b2:=eZ x.w 1 1000
 have hl:=kB c (i:Int)
 rw [hlf] at hl
 have v1:=cX x.n
 have v2:=cX x.b
 have v3:=cX x.l
 have v4:=iY x.l x.n
 unfold qX at hb
 rw [dZ.2 (show 1<=x.w/\x.w<=1000 by omega)] at b2
 generalize cO x.n=q1 at v1
 generalize cO x.b=q2 at v2
 generalize cO x.l=q3 at v3
 generalize dU x.l x.n=q4 at v4
 by_cases h0:i=0
 .have hp:x.p= -1:=by omega
  subst h0
  cases q1<;>cases q2<;>cases q3<;>cases q4
  all_goals
   refine cT (E:=E) (fn:=Tryz.f82) (g:=.pure _) fun _=>?_
   repeat' first | (refine gN hE ?_;conv=>whnf) | refine ⟨i,rfl,?_⟩ | refine ⟨_,get,?_⟩ | refine .pure _ [] b1 ?_ | refine .pure _ [] b2 ?_ | refine .pure _ [] hl ?_ | refine .pure _ [] v1 ?_ | refine .pure _ [] v2 ?_ | refine .pure _ [] v3 ?_ | refine .pure _ [] v4 ?_ | exact rfl | refine aY ?_ | refine aN ?_ | refine aT fun h=>?_ | refine aF fun h=>?_ | refine ⟨fun h=>?_,fun h=>?_⟩ | refine aJ ?_ | refine ⟨_,rfl,?_⟩ | refine aD ?_ | fail
   all_goals (exfalso;simp at *;omega)
 .rw [dZ.2 (show 0<=x.p/\x.p<=(i:Int)-1 by omega)] at b1
  cases q1<;>cases q2<;>cases q3<;>cases q4
  all_goals
   refine cT (E:=E) (fn:=Tryz.f82) (g:=.pure _) fun _=>?_
   repeat' first | (refine gN hE ?_;conv=>whnf) | refine ⟨i,rfl,?_⟩ | refine ⟨_,get,?_⟩ | refine .pure _ [] b1 ?_ | refine .pure _ [] b2 ?_ | refine .pure _ [] hl ?_ | refine .pure _ [] v1 ?_ | refine .pure _ [] v2 ?_ | refine .pure _ [] v3 ?_ | refine .pure _ [] v4 ?_ | exact rfl | refine aY ?_ | refine aN ?_ | refine aT fun h=>?_ | refine aF fun h=>?_ | refine ⟨fun h=>?_,fun h=>?_⟩ | refine aJ ?_ | refine ⟨_,rfl,?_⟩ | refine aD ?_ | fail
theorem JJ (c:Con) (i:Nat) (hi:i<1048576) (x:Nod) (get:(nav c.ns)[i]? =some x.av) (hb:¬ qX i x) (hlf:cC c.ns (i:Int)=false) (r:Bool) (hr:(zB x.n&&(zB x.b&&zB x.l))=r):aA Tryz.prog 82 [c.av,ii i] [] (.ret (.bool r)) []:=by
 have b1:=eZ x.p 0 ((i:Int)-1)
 have b2:=eZ x.w 1 1000
 have hl:=kB c (i:Int)
 rw [hlf] at hl
 have v1:=cX x.n
 have v2:=cX x.b
 have v3:=cX x.l
 have v4:=iY x.l x.n
 unfold qX at hb
 rw [dZ.2 (show 1<=x.w/\x.w<=1000 by omega)] at b2
 have fin:(((x.p==x.p)&&((x.w==x.w)&&((x.n.a==0)&&((x.n.b==0)&&((x.n.c==0)&&((x.b.a==0)&&((x.b.b==0)&&((x.b.c==0)&&((x.l.a==0)&&((x.l.b==0)&&((x.l.c==0)&&true)))))))))))=r):=by
  rw [<-hr]
  unfold zB
  simp [Hn]
 by_cases h0:i=0
 .have hp:x.p= -1:=by omega
  subst h0
  refine cT (E:=E) (fn:=Tryz.f82) (g:=.pure _) fun _=>?_
  repeat' first | (refine gN hE ?_;conv=>whnf) | refine ⟨i,rfl,?_⟩ | refine ⟨_,get,?_⟩ | refine .pure _ [] b1 ?_ | refine .pure _ [] b2 ?_ | refine .pure _ [] hl ?_ | refine .pure _ [] v1 ?_ | refine .pure _ [] v2 ?_ | refine .pure _ [] v3 ?_ | refine .pure _ [] v4 ?_ | exact rfl | refine aY ?_ | refine aN ?_ | refine aT fun h=>?_ | refine aF fun h=>?_ | refine ⟨fun h=>?_,fun h=>?_⟩ | refine aJ ?_ | refine ⟨_,rfl,?_⟩ | refine aD ?_ | fail
  .exact absurd (show (x.p != -1)=true by assumption) (by rw [hp];decide)
  .exact congrArg (fun b=>Res.ret (AVal.bool b)) fin
 .rw [dZ.2 (show 0<=x.p/\x.p<=(i:Int)-1 by omega)] at b1
  refine cT (E:=E) (fn:=Tryz.f82) (g:=.pure _) fun _=>?_
  repeat' first | (refine gN hE ?_;conv=>whnf) | refine ⟨i,rfl,?_⟩ | refine ⟨_,get,?_⟩ | refine .pure _ [] b1 ?_ | refine .pure _ [] b2 ?_ | refine .pure _ [] hl ?_ | refine .pure _ [] v1 ?_ | refine .pure _ [] v2 ?_ | refine .pure _ [] v3 ?_ | refine .pure _ [] v4 ?_ | exact rfl | refine aY ?_ | refine aN ?_ | refine aT fun h=>?_ | refine aF fun h=>?_ | refine ⟨fun h=>?_,fun h=>?_⟩ | refine aJ ?_ | refine ⟨_,rfl,?_⟩ | refine aD ?_ | fail
  exact congrArg (fun b=>Res.ret (AVal.bool b)) fin
theorem JI (c:Con) (i:Nat) (hi:i<1048576) (x:Nod) (get:(nav c.ns)[i]? =some x.av):aA Tryz.prog 82 [c.av,ii i] [] (.ret (.bool (mU (cC c.ns (i:Int)) i x))) []:=by
 unfold mU
 by_cases hb:qX i x
 .rw [if_pos hb]
  exact GC c i hi x get hb
 .rw [if_neg hb]
  cases hl:cC c.ns (i:Int) with
  | false=>rw [if_neg (by decide)];exact JJ c i hi x get hb hl _ rfl
  | true=>rw [if_pos rfl];exact CL c i hi x get hb hl
noncomputable abbrev E9:Func:=Tryz.f38
def sU (ns:List Nod):Nat->List Nod->Bool
 | _,[]=>true
 | i,x::r=>mU (cC ns (i:Int)) i x&&sU ns (i+1) r
theorem sM (c:Con) (hc:c.sm) (r:Int):∀ (m i:Nat) (b:Bool),i+m=c.hs.length->(if (b&&(c.hs.drop i).all jK)=true then (0:Int) else 2)=r->
  To E E9 (.pure (.ret (ii r))) (.head (stk E9 1) [(1,.ref 0 0),(3,.bool b),(5,ii i)] [.cells 26 c.cs]):=by
 have hlen:(hav c.hs).length=c.hs.length:=by simp
 have h1:=hc.hs
 intro m
 induction m with
 | zero=>
  intro i b hi hr
  rw [Ai (by omega)] at hr
  cases b with
  | false=>
   have hr:2=r:=hr
   subst hr
   refine gW hE ?_;conv=>whnf
   repeat' first | (refine gN hE ?_;conv=>whnf) | exact rfl | refine aY ?_ | refine aN ?_ | refine aT fun h=>?_ | refine aF fun h=>?_ | refine ⟨fun h=>?_,fun h=>?_⟩ | refine aJ ?_ | refine ⟨_,rfl,?_⟩ | refine aD ?_ | fail
  | true=>
   have hr:0=r:=hr
   subst hr
   refine gW hE ?_;conv=>whnf
   repeat' first | (refine gN hE ?_;conv=>whnf) | exact rfl | refine aY ?_ | refine aN ?_ | refine aT fun h=>?_ | refine aF fun h=>?_ | refine ⟨fun h=>?_,fun h=>?_⟩ | refine aJ ?_ | refine ⟨_,rfl,?_⟩ | refine aD ?_ | fail
 | succ m ih=>
  intro i b hi hr
  cases b with
  | false=>
   have hr:2=r:=hr
   subst hr
   refine gW hE ?_;conv=>whnf
   repeat' first | (refine gN hE ?_;conv=>whnf) | exact rfl | refine aY ?_ | refine aN ?_ | refine aT fun h=>?_ | refine aF fun h=>?_ | refine ⟨fun h=>?_,fun h=>?_⟩ | refine aJ ?_ | refine ⟨_,rfl,?_⟩ | refine aD ?_ | fail
  | true=>
   have hlt:i<c.hs.length:=by omega
   rw [Ag hlt,Gz,<-KS] at hr
   have get:=rG hlt
   generalize c.hs[i]=x at hr get
   have hcal:=PA x
   have next:=ih (i+1) (vX x) (by omega) hr
   generalize vX x=q at hcal next
   refine gW hE ?_;conv=>whnf
   repeat' first | (refine gN hE ?_;conv=>whnf) | refine ⟨i,rfl,?_⟩ | refine ⟨_,get,?_⟩ | refine .pure _ [] hcal ?_ | exact rfl | refine aY ?_ | refine aN ?_ | refine aT fun h=>?_ | refine aF fun h=>?_ | refine ⟨fun h=>?_,fun h=>?_⟩ | refine aJ ?_ | refine ⟨_,rfl,?_⟩ | refine aD ?_ | fail
   exact To.cut [1,3,5] 1 rfl rfl rfl rfl next
theorem CM (c:Con) (hc:c.sm) (r:Int):∀ (m i:Nat) (b:Bool),i+m=c.ns.length->(if ((b&&sU c.ns i (c.ns.drop i))&&c.hs.all jK)=true then (0:Int) else 2)=r->
  To E E9 (.pure (.ret (ii r))) (.head (stk E9 0) [(1,.ref 0 0),(3,.bool b),(4,ii i)] [.cells 26 c.cs]):=by
 have hlen:(nav c.ns).length=c.ns.length:=by simp
 have h1:=hc.ns
 intro m
 induction m with
 | zero=>
  intro i b hi hr
  rw [Ai (by omega)] at hr
  have next:=sM c hc r c.hs.length 0 b (by omega) (by rw [<-hr];show _=if ((b&&true)&&_)=true then (0:Int) else 2;rw [Fi];rfl)
  cases b with
  | false=>
   refine gW hE ?_;conv=>whnf
   repeat' first | (refine gN hE ?_;conv=>whnf) | exact rfl | refine aY ?_ | refine aN ?_ | refine aT fun h=>?_ | refine aF fun h=>?_ | refine ⟨fun h=>?_,fun h=>?_⟩ | refine aJ ?_ | refine ⟨_,rfl,?_⟩ | refine aD ?_ | fail
   exact To.cut [1,3,5] 1 rfl rfl rfl rfl next
  | true=>
   refine gW hE ?_;conv=>whnf
   repeat' first | (refine gN hE ?_;conv=>whnf) | exact rfl | refine aY ?_ | refine aN ?_ | refine aT fun h=>?_ | refine aF fun h=>?_ | refine ⟨fun h=>?_,fun h=>?_⟩ | refine aJ ?_ | refine ⟨_,rfl,?_⟩ | refine aD ?_ | fail
   exact To.cut [1,3,5] 1 rfl rfl rfl rfl next
 | succ m ih=>
  intro i b hi hr
  cases b with
  | false=>
   have next:=sM c hc r c.hs.length 0 false (by omega) (by rw [<-hr];rfl)
   refine gW hE ?_;conv=>whnf
   repeat' first | (refine gN hE ?_;conv=>whnf) | exact rfl | refine aY ?_ | refine aN ?_ | refine aT fun h=>?_ | refine aF fun h=>?_ | refine ⟨fun h=>?_,fun h=>?_⟩ | refine aJ ?_ | refine ⟨_,rfl,?_⟩ | refine aD ?_ | fail
   exact To.cut [1,3,5] 1 rfl rfl rfl rfl next
  | true=>
   have hlt:i<c.ns.length:=by omega
   rw [Ag hlt] at hr
   have get:=jX hlt
   generalize c.ns[i]=x at hr get
   have hcal:=JI c i (by omega) x get
   have next:=ih (i+1) (mU (cC c.ns (i:Int)) i x) (by omega) hr
   generalize mU (cC c.ns (i:Int)) i x=q at hcal next
   refine gW hE ?_;conv=>whnf
   repeat' first | (refine gN hE ?_;conv=>whnf) | refine .pure _ [] hcal ?_ | exact rfl | refine aY ?_ | refine aN ?_ | refine aT fun h=>?_ | refine aF fun h=>?_ | refine ⟨fun h=>?_,fun h=>?_⟩ | refine aJ ?_ | refine ⟨_,rfl,?_⟩ | refine aD ?_ | fail
   exact To.cut [1,3,4] 1 rfl rfl rfl rfl next
theorem AN (ns:List Nod):∀ (l:List Nod) (i:Nat),sU ns i l=jW ns i l
 | [],_=>rfl
 | x::r,i=>by
  unfold sU jW
  rw [AN ns r (i+1),R8]
  cases mU (cC ns (i:Int)) i x<;>rfl
def FX (c:Con):Bool:=eA c.ns.length 1 12&&(eA c.hs.length 1 24&&(eA c.half 1 1048576&&eA c.age 0 1048576))
theorem zK (c:Con):FX c=true↔uQ c:=by
 unfold FX uQ
 simp only [Ac,dZ]
 omega
theorem HF (c:Con):(if ((FX c&&sU c.ns 0 (c.ns.drop 0))&&c.hs.all jK)=true then (0:Int) else 2)=hO c:=by
 unfold hO
 rw [Dq,AN]
 cases hs:FX c with
 | false=>
  rw [if_neg (c:=uQ c) (fun q=>by rw [(zK c).2 q] at hs;cases hs)]
  rfl
 | true=>
  rw [if_pos (c:=uQ c) ((zK c).1 hs)]
  cases jW c.ns 0 c.ns<;>cases c.hs.all jK<;>rfl
set_option maxHeartbeats 2000000 in
theorem GF (c:Con) (hc:c.sm):aA Tryz.prog 38 [c.av] [] (.ret (ii (hO c))) []:=by
 have hln:(nav c.ns).length=c.ns.length:=by simp
 have hlh:(hav c.hs).length=c.hs.length:=by simp
 have h:=CM c hc (hO c) c.ns.length 0 (FX c) (by omega) (HF c)
 have b1:=eZ ((nav c.ns).length:Nat) 1 12
 have b2:=eZ ((hav c.hs).length:Nat) 1 24
 have b3:=eZ c.half 1 1048576
 have b4:=eZ c.age 0 1048576
 unfold FX at h
 rw [<-hln,<-hlh] at h
 generalize eA ((nav c.ns).length:Nat) 1 12=q1 at b1 h
 generalize eA ((hav c.hs).length:Nat) 1 24=q2 at b2 h
 generalize eA c.half 1 1048576=q3 at b3 h
 generalize eA c.age 0 1048576=q4 at b4 h
 generalize hO c=r at h
 cases q1<;>cases q2<;>cases q3<;>cases q4
 all_goals
  refine cT (E:=E) (fn:=Tryz.f38) (g:=.pure _) fun _=>?_
  repeat' first | (refine gN hE ?_;conv=>whnf) | refine .pure _ [] b1 ?_ | refine .pure _ [] b2 ?_ | refine .pure _ [] b3 ?_ | refine .pure _ [] b4 ?_ | exact rfl | refine aY ?_ | refine aN ?_ | refine aT fun h=>?_ | refine aF fun h=>?_ | refine ⟨fun h=>?_,fun h=>?_⟩ | refine aJ ?_ | refine ⟨_,rfl,?_⟩ | refine aD ?_ | fail
  exact To.cut [1,3,4] 1 rfl rfl rfl rfl h
def T5 (g:Gan):Bool:=eA g.id 1 1073741824&&(eA g.pods 1 16&&(cO g.need&&(eA g.run 1 1048576&&(eA g.lev 0 3&&eA g.pref 0 g.lev))))
theorem QX (g:Gan):T5 g=DO g:=by
 rw [Fh]
 unfold T5 DO
 simp only [Ac,dZ,decide_eq_true_eq]
 constructor
 .rintro ⟨a,b,c,d,e,f⟩
  exact ⟨⟨a.1,a.2,b.1,b.2⟩,c,d.1,d.2,e.1,e.2,f.1,f.2⟩
 .rintro ⟨⟨a,b,c,d⟩,v,e,f,h,i,j,k⟩
  exact ⟨⟨a,b⟩,⟨c,d⟩,v,⟨e,f⟩,⟨h,i⟩,j,k⟩
theorem IE (c:Con) (g:Gan):aA Tryz.prog 88 [c.av,g.av] [] (.ret (ii (iJ c g))) []:=by
 have b1:=nR g.id 1 1073741824
 have b2:=nR g.pods 1 16
 have b3:=cX g.need
 have b4:=nR g.run 1 1048576
 have b5:=nR g.lev 0 3
 have b6:=nR g.pref 0 g.lev
 have b7:=kB c g.ten
 unfold iJ
 rw [<-QX]
 unfold T5
 generalize eA g.id 1 1073741824=q1 at b1
 generalize eA g.pods 1 16=q2 at b2
 generalize cO g.need=q3 at b3
 generalize eA g.run 1 1048576=q4 at b4
 generalize eA g.lev 0 3=q5 at b5
 generalize eA g.pref 0 g.lev=q6 at b6
 generalize cC c.ns g.ten=q7 at b7
 cases q1 with
 | false=>
  refine cT (E:=E) (fn:=Tryz.f88) (g:=.pure _) fun _=>?_
  repeat' first | (refine gN hE ?_;conv=>whnf) | refine .pure _ [] b1 ?_ | refine .pure _ [] b2 ?_ | refine .pure _ [] b3 ?_ | refine .pure _ [] b4 ?_ | refine .pure _ [] b5 ?_ | refine .pure _ [] b6 ?_ | refine .pure _ [] b7 ?_ | exact rfl | refine aY ?_ | refine aN ?_ | refine aT fun h=>?_ | refine aF fun h=>?_ | refine ⟨fun h=>?_,fun h=>?_⟩ | refine aJ ?_ | refine ⟨_,rfl,?_⟩ | refine aD ?_ | fail
 | true=>
  cases q2 with
  | false=>
   refine cT (E:=E) (fn:=Tryz.f88) (g:=.pure _) fun _=>?_
   repeat' first | (refine gN hE ?_;conv=>whnf) | refine .pure _ [] b1 ?_ | refine .pure _ [] b2 ?_ | refine .pure _ [] b3 ?_ | refine .pure _ [] b4 ?_ | refine .pure _ [] b5 ?_ | refine .pure _ [] b6 ?_ | refine .pure _ [] b7 ?_ | exact rfl | refine aY ?_ | refine aN ?_ | refine aT fun h=>?_ | refine aF fun h=>?_ | refine ⟨fun h=>?_,fun h=>?_⟩ | refine aJ ?_ | refine ⟨_,rfl,?_⟩ | refine aD ?_ | fail
  | true=>
   cases q3 with
   | false=>
    refine cT (E:=E) (fn:=Tryz.f88) (g:=.pure _) fun _=>?_
    repeat' first | (refine gN hE ?_;conv=>whnf) | refine .pure _ [] b1 ?_ | refine .pure _ [] b2 ?_ | refine .pure _ [] b3 ?_ | refine .pure _ [] b4 ?_ | refine .pure _ [] b5 ?_ | refine .pure _ [] b6 ?_ | refine .pure _ [] b7 ?_ | exact rfl | refine aY ?_ | refine aN ?_ | refine aT fun h=>?_ | refine aF fun h=>?_ | refine ⟨fun h=>?_,fun h=>?_⟩ | refine aJ ?_ | refine ⟨_,rfl,?_⟩ | refine aD ?_ | fail
   | true=>
    cases q4 with
    | false=>
     refine cT (E:=E) (fn:=Tryz.f88) (g:=.pure _) fun _=>?_
     repeat' first | (refine gN hE ?_;conv=>whnf) | refine .pure _ [] b1 ?_ | refine .pure _ [] b2 ?_ | refine .pure _ [] b3 ?_ | refine .pure _ [] b4 ?_ | refine .pure _ [] b5 ?_ | refine .pure _ [] b6 ?_ | refine .pure _ [] b7 ?_ | exact rfl | refine aY ?_ | refine aN ?_ | refine aT fun h=>?_ | refine aF fun h=>?_ | refine ⟨fun h=>?_,fun h=>?_⟩ | refine aJ ?_ | refine ⟨_,rfl,?_⟩ | refine aD ?_ | fail
    | true=>
     cases q5 with
     | false=>
      refine cT (E:=E) (fn:=Tryz.f88) (g:=.pure _) fun _=>?_
      repeat' first | (refine gN hE ?_;conv=>whnf) | refine .pure _ [] b1 ?_ | refine .pure _ [] b2 ?_ | refine .pure _ [] b3 ?_ | refine .pure _ [] b4 ?_ | refine .pure _ [] b5 ?_ | refine .pure _ [] b6 ?_ | refine .pure _ [] b7 ?_ | exact rfl | refine aY ?_ | refine aN ?_ | refine aT fun h=>?_ | refine aF fun h=>?_ | refine ⟨fun h=>?_,fun h=>?_⟩ | refine aJ ?_ | refine ⟨_,rfl,?_⟩ | refine aD ?_ | fail
     | true=>
      cases q6 with
      | false=>
       refine cT (E:=E) (fn:=Tryz.f88) (g:=.pure _) fun _=>?_
       repeat' first | (refine gN hE ?_;conv=>whnf) | refine .pure _ [] b1 ?_ | refine .pure _ [] b2 ?_ | refine .pure _ [] b3 ?_ | refine .pure _ [] b4 ?_ | refine .pure _ [] b5 ?_ | refine .pure _ [] b6 ?_ | refine .pure _ [] b7 ?_ | exact rfl | refine aY ?_ | refine aN ?_ | refine aT fun h=>?_ | refine aF fun h=>?_ | refine ⟨fun h=>?_,fun h=>?_⟩ | refine aJ ?_ | refine ⟨_,rfl,?_⟩ | refine aD ?_ | fail
      | true=>
       cases q7 with
       | false=>
        refine cT (E:=E) (fn:=Tryz.f88) (g:=.pure _) fun _=>?_
        repeat' first | (refine gN hE ?_;conv=>whnf) | refine .pure _ [] b1 ?_ | refine .pure _ [] b2 ?_ | refine .pure _ [] b3 ?_ | refine .pure _ [] b4 ?_ | refine .pure _ [] b5 ?_ | refine .pure _ [] b6 ?_ | refine .pure _ [] b7 ?_ | exact rfl | refine aY ?_ | refine aN ?_ | refine aT fun h=>?_ | refine aF fun h=>?_ | refine ⟨fun h=>?_,fun h=>?_⟩ | refine aJ ?_ | refine ⟨_,rfl,?_⟩ | refine aD ?_ | fail
       | true=>
        refine cT (E:=E) (fn:=Tryz.f88) (g:=.pure _) fun _=>?_
        repeat' first | (refine gN hE ?_;conv=>whnf) | refine .pure _ [] b1 ?_ | refine .pure _ [] b2 ?_ | refine .pure _ [] b3 ?_ | refine .pure _ [] b4 ?_ | refine .pure _ [] b5 ?_ | refine .pure _ [] b6 ?_ | refine .pure _ [] b7 ?_ | exact rfl | refine aY ?_ | refine aN ?_ | refine aT fun h=>?_ | refine aF fun h=>?_ | refine ⟨fun h=>?_,fun h=>?_⟩ | refine aJ ?_ | refine ⟨_,rfl,?_⟩ | refine aD ?_ | fail
def C5 (c:Con):Bool:=C8.eqL Nod.eqb c.ns []&&(C8.eqL Hos.eqb c.hs []&&(c.half==0&&c.age==0))
theorem G0 (c:Con):C5 c=iV c:=by
 obtain ⟨ns,hs,hf,ag⟩:=c
 unfold C5 iV
 cases ns<;>cases hs<;>simp [C8.eqL]<;>rfl
def VD:Con:=⟨[],[],0,0⟩
theorem IG (c:Con):aA Tryz.prog 80 [c.av,VD.av] [] (.ret (.bool (iV c))) []:=by
 have h1:=C8.eqN_ok c.ns []
 have h2:=C8.eqH_ok c.hs []
 rw [<-G0]
 unfold C5
 generalize C8.eqL Nod.eqb c.ns []=q1 at h1
 generalize C8.eqL Hos.eqb c.hs []=q2 at h2
 obtain ⟨R,hR⟩:∃ R:Bool,R=(q1&&(q2&&(c.half==0&&c.age==0))):=⟨_,rfl⟩
 rw [<-hR]
 cases q1 with
 | false=>
  have hR:R=false:=hR
  subst hR
  refine cT (E:=E) (fn:=Tryz.f80) (g:=.pure _) fun _=>?_
  repeat' first | (refine gN hE ?_;conv=>whnf) | refine .pure _ [] h1 ?_ | refine .pure _ [] h2 ?_ | exact rfl | refine aY ?_ | refine aN ?_ | refine aT fun h=>?_ | refine aF fun h=>?_ | refine ⟨fun h=>?_,fun h=>?_⟩ | refine aJ ?_ | refine ⟨_,rfl,?_⟩ | refine aD ?_ | fail
 | true=>
  cases q2 with
  | false=>
   have hR:R=false:=hR
   subst hR
   refine cT (E:=E) (fn:=Tryz.f80) (g:=.pure _) fun _=>?_
   repeat' first | (refine gN hE ?_;conv=>whnf) | refine .pure _ [] h1 ?_ | refine .pure _ [] h2 ?_ | exact rfl | refine aY ?_ | refine aN ?_ | refine aT fun h=>?_ | refine aF fun h=>?_ | refine ⟨fun h=>?_,fun h=>?_⟩ | refine aJ ?_ | refine ⟨_,rfl,?_⟩ | refine aD ?_ | fail
  | true=>
   have hR:R=(c.half==0&&c.age==0):=hR
   refine cT (E:=E) (fn:=Tryz.f80) (g:=.pure _) fun _=>?_
   repeat' first | (refine gN hE ?_;conv=>whnf) | refine .pure _ [] h1 ?_ | refine .pure _ [] h2 ?_ | exact rfl | refine aY ?_ | refine aN ?_ | refine aT fun h=>?_ | refine aF fun h=>?_ | refine ⟨fun h=>?_,fun h=>?_⟩ | refine aJ ?_ | refine ⟨_,rfl,?_⟩ | refine aD ?_ | fail
   all_goals (rw [hR];simp_all [VD])
theorem LV (c:Con):aA Tryz.prog 37 [c.av] [] (.ret (.bool (iV c))) []:=by
 have h:=IG c
 generalize iV c=q at h
 refine cT (E:=E) (fn:=Tryz.f37) (g:=.pure _) fun _=>?_
 repeat' first | (refine gN hE ?_;conv=>whnf) | refine .pure _ [] (aA.strip h) ?_ | exact rfl | refine aY ?_ | refine aN ?_ | refine aT fun h=>?_ | refine aF fun h=>?_ | refine ⟨fun h=>?_,fun h=>?_⟩ | refine aJ ?_ | refine ⟨_,rfl,?_⟩ | refine aD ?_ | fail
def xZ {α:Type} (p:α->Bool):List α->Int->Int
 | [],_=> -1
 | x::r,i=>if p x=true then i else xZ p r (i+1)
theorem tE {α:Type} (p:α->Bool):∀ (l:List α) (i:Int),0<=i->decide (0<=xZ p l i)=l.any p
 | [],i,_=>rfl
 | x::r,i,h=>by
  unfold xZ
  rw [Ih]
  cases hp:p x with
  | true=>rw [if_pos rfl,decide_eq_true h];rfl
  | false=>rw [if_neg (by decide),tE p r (i+1) (by omega)];rfl
theorem CU (f:FuncId) (cap:List AVal) (xs:List Int) (p:Int->Bool) (hf:∀ x∈xs,aA Tryz.prog f [ii x,.ptr cap] [] (.ret (.bool (p x))) []) (hl:((iv xs).length:Int)<=9223372036854775807) (r:Int):
  ∀ (n i:Nat),i+n=xs.length->xZ p (xs.drop i) i=r->
  To E Tryz.f184 (.pure (.ret (.int .i64 r))) (.head (stk Tryz.f184 0) [(0,.slice 1 (iv xs) .no),(1,.func (.func f) [] [.ptr cap]),(7,.int .i64 ((iv xs).length:Nat)),(8,.int .i64 i)] []):=by
  have hlen:(iv xs).length=xs.length:=by simp
  intro n
  induction n with
  | zero=>
   intro i hi hr
   refine gW hE ?_;conv=>whnf
   refine aF fun h=>?_
   refine gW hE ?_;conv=>whnf
   rw [Ai (by omega)] at hr
   rw [<-hr]
   rfl
  | succ n ih=>
   intro i hi hr
   have hlt:i<xs.length:=by omega
   refine gW hE ?_;conv=>whnf
   refine aT fun h=>?_
   refine gW hE ?_;conv=>whnf
   refine ⟨i,rfl,?_⟩
   refine gW hE ?_;conv=>whnf
   refine ⟨_,gU hlt,?_⟩
   refine gW hE ?_;conv=>whnf
   refine .pure _ [] (hf xs[i] (Bw hlt)) ?_
   refine gW hE ?_;conv=>whnf
   rw [Ag hlt] at hr
   have hr:(if p xs[i]=true then (i:Int) else xZ p (xs.drop (i+1)) ((i:Int)+1))=r:=hr
   refine ⟨fun h2=>?_,fun h2=>?_⟩
   .refine gW hE ?_;conv=>whnf
    rw [if_pos h2] at hr
    rw [hr]
   .refine gW hE ?_;conv=>whnf
    rw [if_neg (by rw [h2];simp)] at hr
    refine .inl ⟨⟨by simp only [cU];omega,by simp only [bQ];omega⟩,?_⟩
    refine gW hE ?_;conv=>whnf
    refine To.head [0,1,7,8] ?_
    exact ih (i+1) (by omega) (by rw [<-hr];push_cast;rfl)
theorem CV (f:FuncId) (cap:List AVal) (xs:List (List Int)) (p:List Int->Bool) (hf:∀ x∈xs,aA Tryz.prog f [.slice 1 (iv x) .no,.ptr cap] [] (.ret (.bool (p x))) []) (hl:((gav xs).length:Int)<=9223372036854775807) (r:Int):
  ∀ (n i:Nat),i+n=xs.length->xZ p (xs.drop i) i=r->
  To E Tryz.f182 (.pure (.ret (.int .i64 r))) (.head (stk Tryz.f182 0) [(0,.slice 1 (gav xs) .no),(1,.func (.func f) [] [.ptr cap]),(7,.int .i64 ((gav xs).length:Nat)),(8,.int .i64 i)] []):=by
  have hlen:(gav xs).length=xs.length:=by simp
  intro n
  induction n with
  | zero=>
   intro i hi hr
   refine gW hE ?_;conv=>whnf
   refine aF fun h=>?_
   refine gW hE ?_;conv=>whnf
   rw [Ai (by omega)] at hr
   rw [<-hr]
   rfl
  | succ n ih=>
   intro i hi hr
   have hlt:i<xs.length:=by omega
   refine gW hE ?_;conv=>whnf
   refine aT fun h=>?_
   refine gW hE ?_;conv=>whnf
   refine ⟨i,rfl,?_⟩
   refine gW hE ?_;conv=>whnf
   refine ⟨_,E3 hlt,?_⟩
   refine gW hE ?_;conv=>whnf
   refine .pure _ [] (hf xs[i] (Bw hlt)) ?_
   refine gW hE ?_;conv=>whnf
   rw [Ag hlt] at hr
   have hr:(if p xs[i]=true then (i:Int) else xZ p (xs.drop (i+1)) ((i:Int)+1))=r:=hr
   refine ⟨fun h2=>?_,fun h2=>?_⟩
   .refine gW hE ?_;conv=>whnf
    rw [if_pos h2] at hr
    rw [hr]
   .refine gW hE ?_;conv=>whnf
    rw [if_neg (by rw [h2];simp)] at hr
    refine .inl ⟨⟨by simp only [cU];omega,by simp only [bQ];omega⟩,?_⟩
    refine gW hE ?_;conv=>whnf
    refine To.head [0,1,7,8] ?_
    exact ih (i+1) (by omega) (by rw [<-hr];push_cast;rfl)
theorem ME (f:FuncId) (cap:List AVal) (xs:List Int) (p:Int->Bool) (hf:∀ x∈xs,aA Tryz.prog f [ii x,.ptr cap] [] (.ret (.bool (p x))) []):
  aA Tryz.prog 163 [.slice 1 (iv xs) .no,.func (.func f) [] [.ptr cap]] [] (.ret (.bool (xs.any p))) []:=by
 have hi:aA Tryz.prog 184 [.slice 1 (iv xs) .no,.func (.func f) [] [.ptr cap]] [] (.ret (.int .i64 (xZ p xs 0))) []:=by
  refine cT (E:=E) (fn:=Tryz.f184) (g:=.pure _) fun ho=>?_
  refine gW hE ?_;conv=>whnf
  refine To.head [0,1,7,8] ?_
  exact CU f cap xs p hf ho.1 _ xs.length 0 (by omega) (by simp)
 rw [<-tE p xs 0 (Jn _)]
 refine cT (E:=E) (fn:=Tryz.f163) (g:=.pure _) fun _=>?_
 repeat' first | (refine gN hE ?_;conv=>whnf) | refine .pure _ [] hi ?_ | exact rfl | refine aY ?_ | refine aN ?_ | refine aT fun h=>?_ | refine aF fun h=>?_ | refine ⟨fun h=>?_,fun h=>?_⟩ | refine aJ ?_ | refine ⟨_,rfl,?_⟩ | refine aD ?_ | fail
theorem MF (f:FuncId) (cap:List AVal) (xs:List (List Int)) (p:List Int->Bool) (hf:∀ x∈xs,aA Tryz.prog f [.slice 1 (iv x) .no,.ptr cap] [] (.ret (.bool (p x))) []):
  aA Tryz.prog 160 [.slice 1 (gav xs) .no,.func (.func f) [] [.ptr cap]] [] (.ret (.bool (xs.any p))) []:=by
 have hi:aA Tryz.prog 182 [.slice 1 (gav xs) .no,.func (.func f) [] [.ptr cap]] [] (.ret (.int .i64 (xZ p xs 0))) []:=by
  refine cT (E:=E) (fn:=Tryz.f182) (g:=.pure _) fun ho=>?_
  refine gW hE ?_;conv=>whnf
  refine To.head [0,1,7,8] ?_
  exact CV f cap xs p hf ho.1 _ xs.length 0 (by omega) (by simp)
 rw [<-tE p xs 0 (Jn _)]
 refine cT (E:=E) (fn:=Tryz.f160) (g:=.pure _) fun _=>?_
 repeat' first | (refine gN hE ?_;conv=>whnf) | refine .pure _ [] hi ?_ | exact rfl | refine aY ?_ | refine aN ?_ | refine aT fun h=>?_ | refine aF fun h=>?_ | refine ⟨fun h=>?_,fun h=>?_⟩ | refine aJ ?_ | refine ⟨_,rfl,?_⟩ | refine aD ?_ | fail
theorem QS (G:List Int) (hG:G.length<=1048576) (h:Int):aA Tryz.prog 164 [ii h,.ptr [.slice 1 (iv G) .no]] [] (.ret (.bool (!inB h G))) []:=by
 have hc:=BN G hG h
 refine cT (E:=E) (fn:=Tryz.f164) (g:=.pure _) fun _=>?_
 repeat' first | (refine gN hE ?_;conv=>whnf) | refine .pure _ [] hc ?_ | exact rfl | refine aY ?_ | refine aN ?_ | refine aT fun h=>?_ | refine aF fun h=>?_ | refine ⟨fun h=>?_,fun h=>?_⟩ | refine aJ ?_ | refine ⟨_,rfl,?_⟩ | refine aD ?_ | fail
theorem T2 (G l:List Int) (hG:G.length<=1048576):aA Tryz.prog 162 [.slice 1 (iv G) .no,.ptr [.slice 1 (iv l) .no]] [] (.ret (.bool (!(l.any fun h=>!inB h G)))) []:=by
 have hc:=ME 164 [.slice 1 (iv G) .no] l (fun h=>!inB h G) fun x _=>QS G hG x
 refine cT (E:=E) (fn:=Tryz.f162) (g:=.pure _) fun _=>?_
 refine dI hE 10 ?_;conv=>whnf
 refine To.frz [2] [0] ?_
 repeat' first | (refine gN hE ?_;conv=>whnf) | refine .pure _ [] hc ?_ | exact rfl | refine aY ?_ | refine aN ?_ | refine aT fun h=>?_ | refine aF fun h=>?_ | refine ⟨fun h=>?_,fun h=>?_⟩ | refine aJ ?_ | refine ⟨_,rfl,?_⟩ | refine aD ?_ | fail
theorem HU {l:List V3} {u:Int} (h0:0<=u) (h1:u<(l.length:Int)):(vav l)[u.toNat]? =some ((l[u.toNat]?).getD V3.zero).av:=by
 rw [Ab (show u.toNat<l.length by omega)]
 exact qY (by omega)
theorem ND {c:Con} {l:List Rn} {n:Int} (h:c.ok n):(vav (ofL c l))[n.toNat]? =some (atV (ofL c l) n).av:=by
 obtain ⟨h0,h1⟩:=h
 have hl:(ofL c l).length=c.ns.length:=by unfold ofL B3;simp
 unfold atV
 rw [if_neg (by simp;omega)]
 exact HU h0 (by omega)
theorem xU (k:List Int) (v:AVal) (x:List Int):∀ (es:List (List Int×AVal)),bH (gS es k v) x=if k=x then some v else bH es x
 | []=>rfl
 | (j,w)::r=>by
  show bH (if j=k then (k,v)::r else (j,w)::gS r k v) x=if k=x then some v else (if j=x then some w else bH r x)
  by_cases hj:j=k
  .subst hj
   rw [if_pos rfl]
   show (if j=x then some v else bH r x)=_
   by_cases hx:j=x
   .rw [if_pos hx,if_pos hx]
   .rw [if_neg hx,if_neg hx,if_neg hx]
  .rw [if_neg hj]
   show (if j=x then some w else bH (gS r k v) x)=_
   rw [xU k v x r]
   by_cases hx:j=x
   .subst hx
    rw [if_pos rfl,if_neg (fun q=>hj q.symm),if_pos rfl]
   .rw [if_neg hx,if_neg hx]
def UC (es:List (List Int×AVal)) (pre:List Int):Prop:=∀ h:Int,bH es [h]=if pre.count h=0 then none else some (ii ((pre.count h:Nat):Int))
theorem KA {es:List (List Int×AVal)} {pre:List Int} (hm:UC es pre) (h v:Int) (hv:v=((pre.count h:Nat):Int)+1):UC (gS es [h] (ii v)) (pre++[h]):=fun x=>by
 rw [xU,Hy]
 by_cases hx:h=x
 .subst hx
  rw [if_pos rfl,if_neg (by simp),hv]
  simp
 .rw [if_neg (by simpa using hx),hm x]
  have:[h].count x=0:=List.count_eq_zero.2 (by simpa using fun q=>hx q.symm)
  rw [this,Da]
def plS (free:List V3) (need:V3) (n h:Int):Bool:=if decide (h<0)=true then false else if decide ((free.length:Int)<=h)=true then false else !decide (gO ((free[h.toNat]?).getD V3.zero) need<n)
def plB (free:List V3) (need:V3):List Int->List Int->Bool
 | _,[]=>true
 | pre,h::r=>plS free need (((pre.count h:Nat):Int)+1) h&&plB free need (pre++[h]) r
noncomputable abbrev PX:Func:=Tryz.f134
def KV (l:List Int) (G:List Int):Bool:=!(l.any fun h=>!inB h G)
abbrev plF (c:Con) (free:List V3) (g:Gan) (l:List Int) (i:Int):List (Nat×AVal):=[(1,.slice 3 (vav free) .no),(4,.ptr c.cs),(6,.ptr g.cs),(7,.ptr [.slice 1 (iv l) .no]),(9,.mref 0),(18,.slice 1 (iv l) .no),(19,.int .i64 ((iv l).length:Nat)),(20,ii i)]
theorem JL (c:Con) (hc:c.sm) (free:List V3) (g:Gan) (l:List Int) (hl:l.length<=1048576) (A:Bool) (hA:(gpL c g.lev).any (KV l)=A) (r:Bool):∀ (m i:Nat) (es:List (List Int×AVal)),i+m=l.length->UC es (l.take i)->(plB free g.need (l.take i) (l.drop i)&&A)=r->
  To E PX (.pure (.ret (.bool r))) (.head (stk PX 0) (plF c free g l (i:Int)) [.mp false es]):=by
 have hlen:(iv l).length=l.length:=by simp
 have hfl:(vav free).length=free.length:=by simp
 intro m
 induction m with
 | zero=>
  intro i es hi hm hr
  rw [Ai (by omega)] at hr
  have hr:A=r:=hr
  subst hr
  have hok:=KY c g.lev
  have hch:=hc.hs
  have h1:=wB c hc g.lev
  have h2:=MF 162 [.slice 1 (iv l) .no] (gpL c g.lev) (KV l) fun G hG=>T2 G l (by have:=(hok.2 G hG).2.1;omega)
  rw [hA] at h2
  generalize gpL c g.lev=gs at h1 h2
  refine gW hE ?_;conv=>whnf
  refine aF fun h=>?_
  repeat' first | (refine gN hE ?_;conv=>whnf) | refine .pure _ [] h1 ?_ | refine .pure _ [] h2 ?_ | exact rfl | refine aY ?_ | refine aN ?_ | refine aT fun h=>?_ | refine aF fun h=>?_ | refine ⟨fun h=>?_,fun h=>?_⟩ | refine aJ ?_ | refine ⟨_,rfl,?_⟩ | refine aD ?_ | fail
 | succ m ih=>
  intro i es hi hm hr
  have hlt:i<l.length:=by omega
  have htk:l.take (i+1)=l.take i++[l[i]]:=by rw [List.take_add_one,Ab hlt];rfl
  rw [Ag hlt] at hr
  have get:=gU hlt
  have ih:=fun es=>ih (i+1) es (by omega)
  rw [htk] at ih
  generalize l[i]=u0 at hr get ih
  have hcnt:((l.take i).count u0)<=1048576:=Cq List.count_le_length (by simp;omega)
  have next:=fun v (hv:v=(((l.take i).count u0:Nat):Int)+1)=>ih (gS es [u0] (ii v)) (KA hm u0 v hv)
  have hf:=hm u0
  have hf2:∀ v,bH (gS es [u0] v) [u0]=some v:=fun v=>by rw [xU,if_pos rfl]
  have hr:((plS free g.need ((((l.take i).count u0:Nat):Int)+1) u0&&plB free g.need (l.take i++[u0]) (l.drop (i+1)))&&A)=r:=hr
  generalize plB free g.need (l.take i++[u0]) (l.drop (i+1))=B at hr next
  generalize (l.take i).count u0=k at hcnt hf hr next
  unfold plS at hr
  have go:∀ (w:Int),w=(k:Int)->(∃ o,bH es [u0]=o/\(o=none/\w=0\/o=some (ii w)))->To E PX (.pure (.ret (.bool r))) (.head (stk PX 0) (plF c free g l (i:Int)) [.mp false es]):=fun w hwk ⟨o,ho,hw⟩=>by
   have next:=next (w+1) (by omega)
   rw [show ((k:Int)+1)=w+1 from by omega] at hr
   by_cases h1:u0<0
   .rw [decide_eq_true h1] at hr
    have hr:false=r:=hr
    subst hr
    rcases hw with ⟨rfl,rfl⟩ | rfl
    .refine gW hE ?_;conv=>whnf
     refine aT fun h=>?_
     repeat' first | (refine gN hE ?_;conv=>whnf) | refine ⟨i,rfl,?_⟩ | refine ⟨u0.toNat,hn,?_⟩ | refine ⟨_,get,?_⟩ | refine ⟨_,gv,?_⟩ | refine ⟨_,ho,?_⟩ | refine Ba _ (Ad (hf2 _) ?_) | refine .pure _ [] hroom ?_ | exact rfl | refine aY ?_ | refine aN ?_ | refine aT fun h=>?_ | refine aF fun h=>?_ | refine ⟨fun h=>?_,fun h=>?_⟩ | refine aJ ?_ | refine ⟨_,rfl,?_⟩ | refine aD ?_ | fail
    .refine gW hE ?_;conv=>whnf
     refine aT fun h=>?_
     repeat' first | (refine gN hE ?_;conv=>whnf) | refine ⟨i,rfl,?_⟩ | refine ⟨u0.toNat,hn,?_⟩ | refine ⟨_,get,?_⟩ | refine ⟨_,gv,?_⟩ | refine ⟨_,ho,?_⟩ | refine Ba _ (Ad (hf2 _) ?_) | refine .pure _ [] hroom ?_ | exact rfl | refine aY ?_ | refine aN ?_ | refine aT fun h=>?_ | refine aF fun h=>?_ | refine ⟨fun h=>?_,fun h=>?_⟩ | refine aJ ?_ | refine ⟨_,rfl,?_⟩ | refine aD ?_ | fail
   .rw [decide_eq_false h1,if_neg (by decide)] at hr
    by_cases h2:(free.length:Int)<=u0
    .rw [decide_eq_true h2] at hr
     have hr:false=r:=hr
     subst hr
     rcases hw with ⟨rfl,rfl⟩ | rfl
     .refine gW hE ?_;conv=>whnf
      refine aT fun h=>?_
      repeat' first | (refine gN hE ?_;conv=>whnf) | refine ⟨i,rfl,?_⟩ | refine ⟨u0.toNat,hn,?_⟩ | refine ⟨_,get,?_⟩ | refine ⟨_,gv,?_⟩ | refine ⟨_,ho,?_⟩ | refine Ba _ (Ad (hf2 _) ?_) | refine .pure _ [] hroom ?_ | exact rfl | refine aY ?_ | refine aN ?_ | refine aT fun h=>?_ | refine aF fun h=>?_ | refine ⟨fun h=>?_,fun h=>?_⟩ | refine aJ ?_ | refine ⟨_,rfl,?_⟩ | refine aD ?_ | fail
     .refine gW hE ?_;conv=>whnf
      refine aT fun h=>?_
      repeat' first | (refine gN hE ?_;conv=>whnf) | refine ⟨i,rfl,?_⟩ | refine ⟨u0.toNat,hn,?_⟩ | refine ⟨_,get,?_⟩ | refine ⟨_,gv,?_⟩ | refine ⟨_,ho,?_⟩ | refine Ba _ (Ad (hf2 _) ?_) | refine .pure _ [] hroom ?_ | exact rfl | refine aY ?_ | refine aN ?_ | refine aT fun h=>?_ | refine aF fun h=>?_ | refine ⟨fun h=>?_,fun h=>?_⟩ | refine aJ ?_ | refine ⟨_,rfl,?_⟩ | refine aD ?_ | fail
    .rw [decide_eq_false h2,if_neg (by decide)] at hr
     have hn:u0=(u0.toNat:Int):=by omega
     have gv:=HU (l:=free) (u:=u0) (by omega) (by omega)
     generalize (free[u0.toNat]?).getD V3.zero=fv at gv hr
     have hroom:=EC fv g.need
     generalize gO fv g.need=q at hroom hr
     by_cases h3:q<w+1
     .rw [decide_eq_true h3] at hr
      have hr:false=r:=hr
      subst hr
      rcases hw with ⟨rfl,rfl⟩ | rfl
      .refine gW hE ?_;conv=>whnf
       refine aT fun h=>?_
       repeat' first | (refine gN hE ?_;conv=>whnf) | refine ⟨i,rfl,?_⟩ | refine ⟨u0.toNat,hn,?_⟩ | refine ⟨_,get,?_⟩ | refine ⟨_,gv,?_⟩ | refine ⟨_,ho,?_⟩ | refine Ba _ (Ad (hf2 _) ?_) | refine .pure _ [] hroom ?_ | exact rfl | refine aY ?_ | refine aN ?_ | refine aT fun h=>?_ | refine aF fun h=>?_ | refine ⟨fun h=>?_,fun h=>?_⟩ | refine aJ ?_ | refine ⟨_,rfl,?_⟩ | refine aD ?_ | fail
      .refine gW hE ?_;conv=>whnf
       refine aT fun h=>?_
       repeat' first | (refine gN hE ?_;conv=>whnf) | refine ⟨i,rfl,?_⟩ | refine ⟨u0.toNat,hn,?_⟩ | refine ⟨_,get,?_⟩ | refine ⟨_,gv,?_⟩ | refine ⟨_,ho,?_⟩ | refine Ba _ (Ad (hf2 _) ?_) | refine .pure _ [] hroom ?_ | exact rfl | refine aY ?_ | refine aN ?_ | refine aT fun h=>?_ | refine aF fun h=>?_ | refine ⟨fun h=>?_,fun h=>?_⟩ | refine aJ ?_ | refine ⟨_,rfl,?_⟩ | refine aD ?_ | fail
     .rw [decide_eq_false h3] at hr
      have next:=next hr
      rcases hw with ⟨rfl,rfl⟩ | rfl
      .refine gW hE ?_;conv=>whnf
       refine aT fun h=>?_
       repeat' first | (refine gN hE ?_;conv=>whnf) | refine ⟨i,rfl,?_⟩ | refine ⟨u0.toNat,hn,?_⟩ | refine ⟨_,get,?_⟩ | refine ⟨_,gv,?_⟩ | refine ⟨_,ho,?_⟩ | refine Ba _ (Ad (hf2 _) ?_) | refine .pure _ [] hroom ?_ | exact rfl | refine aY ?_ | refine aN ?_ | refine aT fun h=>?_ | refine aF fun h=>?_ | refine ⟨fun h=>?_,fun h=>?_⟩ | refine aJ ?_ | refine ⟨_,rfl,?_⟩ | refine aD ?_ | fail
       exact To.cut [1,4,6,7,9,18,19,20] 1 rfl rfl rfl rfl next
      .refine gW hE ?_;conv=>whnf
       refine aT fun h=>?_
       repeat' first | (refine gN hE ?_;conv=>whnf) | refine ⟨i,rfl,?_⟩ | refine ⟨u0.toNat,hn,?_⟩ | refine ⟨_,get,?_⟩ | refine ⟨_,gv,?_⟩ | refine ⟨_,ho,?_⟩ | refine Ba _ (Ad (hf2 _) ?_) | refine .pure _ [] hroom ?_ | exact rfl | refine aY ?_ | refine aN ?_ | refine aT fun h=>?_ | refine aF fun h=>?_ | refine ⟨fun h=>?_,fun h=>?_⟩ | refine aJ ?_ | refine ⟨_,rfl,?_⟩ | refine aD ?_ | fail
       exact To.cut [1,4,6,7,9,18,19,20] 1 rfl rfl rfl rfl next
  by_cases hk:k=0
  .rw [if_pos hk] at hf
   exact go 0 (by omega) ⟨_,hf,.inl ⟨rfl,rfl⟩⟩
  .rw [if_neg hk] at hf
   exact go k rfl ⟨_,hf,.inr rfl⟩
theorem xO {free:List V3} {need:V3} {n h:Int}:plS free need n h=true↔0<=h/\h<(free.length:Int)/\n<=gO ((free[h.toNat]?).getD V3.zero) need:=by
 unfold plS
 by_cases h1:h<0
 .rw [if_pos (decide_eq_true h1)]
  constructor
  .intro q;cases q
  .intro q;omega
 .rw [if_neg (by rw [decide_eq_false h1];decide)]
  by_cases h2:(free.length:Int)<=h
  .rw [if_pos (decide_eq_true h2)]
   constructor
   .intro q;cases q
   .intro q;omega
  .rw [if_neg (by rw [decide_eq_false h2];decide)]
   simp
   omega
theorem EK {free:List V3} {need:V3}:∀ (l pre:List Int),plB free need pre l=true↔ ∀ u∈l,0<=u/\u<(free.length:Int)/\(((pre++l).count u:Nat):Int)<=gO ((free[u.toNat]?).getD V3.zero) need
 | [],pre=>by simp [plB]
 | h::r,pre=>by
  unfold plB
  rw [Ac,xO,EK r (pre++[h]),Al]
  show _↔ ∀ u∈h::r,0<=u/\u<(free.length:Int)/\(((pre++h::r).count u:Nat):Int)<=gO ((free[u.toNat]?).getD V3.zero) need
  have e:pre++([h]++r)=pre++h::r:=rfl
  rw [e]
  constructor
  .rintro ⟨⟨a,b,c⟩,d⟩ u hu
   by_cases hr:u∈r
   .exact d u hr
   .rcases Bk.1 hu with rfl | hu
    .refine ⟨a,b,?_⟩
     rw [Hy,Hc,List.count_eq_zero.2 hr]
     simpa using c
    .exact absurd hu hr
  .intro d
   refine ⟨?_,fun u hu=>d u (Ct _ hu)⟩
   obtain ⟨a,b,c⟩:=d h (Bt ..)
   refine ⟨a,b,?_⟩
   rw [Hy,Hc] at c
   omega
theorem wO {free:List V3} {need:V3} {hs:List Int}:BF free need hs=true↔ ∀ u∈hs,0<=u/\u<(free.length:Int)/\((hs.count u:Nat):Int)<=gO ((free[u.toNat]?).getD V3.zero) need:=by
 unfold BF
 rw [Ck]
 have key:∀ u,TF free need hs u=plS free need (BP u hs) u:=fun u=>rfl
 constructor
 .intro q u hu
  have:=q u hu
  rw [key,xO] at this
  have e:BP u hs=((hs.count u:Nat):Int):=by unfold BP;rw [yP];omega
  rw [e] at this
  exact this
 .intro q u hu
  rw [key,xO]
  have e:BP u hs=((hs.count u:Nat):Int):=by unfold BP;rw [yP];omega
  rw [e]
  exact q u hu
theorem PD (l G:List Int):KV l G=vI G l:=by
 rw [Fh,HR]
 unfold KV inB
 simp [Fx]
theorem T3 (c:Con) (free:List V3) (g:Gan) (l:List Int) (hl:(l.length:Int)=g.pods):(plB free g.need [] l&&(gpL c g.lev).any (KV l))=qU c free g l:=by
 unfold qU
 rw [if_pos hl]
 have e:plB free g.need [] l=BF free g.need l:=by
  rw [Fh,EK,wO]
  rfl
 rw [e,Fh,Ac,Fx,Fx]
 unfold chkG
 simp only [PD,Ac]
 constructor
 .rintro ⟨a,G,b,d⟩
  exact ⟨G,b,d,a⟩
 .rintro ⟨G,b,d,a⟩
  exact ⟨a,G,b,d⟩
theorem SI (c:Con) (hc:c.sm) (free:List V3) (g:Gan) (l:List Int) (hl:l.length<=1048576):aA Tryz.prog 134 [c.av,.slice 3 (vav free) .no,g.av,.slice 1 (iv l) .no] [] (.ret (.bool (qU c free g l))) []:=by
 have hlen:(iv l).length=l.length:=by simp
 by_cases h1:(l.length:Int)=g.pods
 .have hlp:=JL c hc free g l hl _ rfl (qU c free g l) l.length 0 [] (by omega) (fun h=>by simp [bH]) (T3 c free g l h1)
  have hk:((((iv l).length:Nat):Int) !=g.pods)=false:=by rw [hlen];simp [h1]
  generalize qU c free g l=r at hlp
  refine cT (E:=E) (fn:=Tryz.f134) (g:=.pure _) fun _=>?_
  refine dI hE 16 ?_;conv=>whnf
  refine To.frz [4,6,7] [0,1,2] ?_
  repeat' first | (refine gN hE ?_;conv=>whnf) | refine Ad (fun h=>absurd h (by rw [hk];decide)) (fun h=>?_) | exact rfl | refine aY ?_ | refine aN ?_ | refine aT fun h=>?_ | refine aF fun h=>?_ | refine ⟨fun h=>?_,fun h=>?_⟩ | refine aJ ?_ | refine ⟨_,rfl,?_⟩ | refine aD ?_ | fail
  refine To.part [1,4,6,7,9,18,19,20] [3] rfl rfl rfl ?_
  exact hlp
 .have hk:((((iv l).length:Nat):Int) !=g.pods)=true:=by rw [hlen];simp [h1]
  have e:qU c free g l=false:=if_neg h1
  rw [e]
  refine cT (E:=E) (fn:=Tryz.f134) (g:=.pure _) fun _=>?_
  refine dI hE 16 ?_;conv=>whnf
  refine To.frz [4,6,7] [0,1,2] ?_
  repeat' first | (refine gN hE ?_;conv=>whnf) | refine Ad (fun h=>?_) (fun h=>absurd h (by rw [hk];decide)) | exact rfl | refine aY ?_ | refine aN ?_ | refine aT fun h=>?_ | refine aF fun h=>?_ | refine ⟨fun h=>?_,fun h=>?_⟩ | refine aJ ?_ | refine ⟨_,rfl,?_⟩ | refine aD ?_ | fail
abbrev itP (p:Pn):AVal:=.iface 67 p.av
abbrev itR (r:Rn):AVal:=.iface 70 r.av
abbrev O4 (l:List Pn):List AVal:=l.map itP
abbrev GR (l:List Rn):List AVal:=l.map itR
noncomputable abbrev E8:Func:=Tryz.f86
abbrev alO (s:Sta):List AObj:=[.cells 31 s.cs,.tail 0 1 20]
theorem Q0 (s:Sta) (hr:s.run.length<=1000000) (l:List AVal) (R:List AVal):∀ (m i:Nat) (acc:List AVal),i+m=s.run.length->acc.length<=1000000+i->acc++GR (s.run.drop i)=R->
  To (Eo [3] []) E8 (.pure (.ret (.slice 1 R .no))) (.head (stk E8 1) [(1,.ref 0 0),(3,.slice 1 acc (.own 1 0)),(22,.slice 14 (rav s.run) .no),(23,.int .i64 ((rav s.run).length:Nat)),(24,ii i)] (alO s)):=by
 have hlen:(rav s.run).length=s.run.length:=by simp
 intro m
 induction m with
 | zero=>
  intro i acc hi ha hR
  rw [Ai (by omega)] at hR
  have hR:acc++[]=R:=hR
  rw [Bd] at hR
  subst hR
  refine gW (hEo [3] []) ?_;conv=>whnf
  refine aF fun h=>?_
  repeat' first | (refine gN (hEo [3] []) ?_;conv=>whnf) | exact rfl | refine aY ?_ | refine aN ?_ | refine aT fun h=>?_ | refine aF fun h=>?_ | refine ⟨fun h=>?_,fun h=>?_⟩ | refine aJ ?_ | refine ⟨_,rfl,?_⟩ | refine aD ?_ | fail
 | succ m ih=>
  intro i acc hi ha hR
  have hlt:i<s.run.length:=by omega
  rw [Ag hlt] at hR
  have get:=mD hlt
  generalize s.run[i]=x at hR get
  have next:=ih (i+1) (acc++[itR x]) (by omega) (by simp;omega) (by rw [Al];exact hR)
  refine gW (hEo [3] []) ?_;conv=>whnf
  refine aT fun h=>?_
  repeat' first | (refine gN (hEo [3] []) ?_;conv=>whnf) | refine ⟨i,rfl,?_⟩ | refine ⟨_,get,?_⟩ | refine Ad (Ad (show acc.length+1<=maxLen by simp only [maxLen];omega) (show (acc.length+1)*16<=140737488355328 by omega)) ?_ | exact rfl | refine aY ?_ | refine aN ?_ | refine aT fun h=>?_ | refine aF fun h=>?_ | refine ⟨fun h=>?_,fun h=>?_⟩ | refine aJ ?_ | refine ⟨_,rfl,?_⟩ | refine aD ?_ | fail
  refine To.part [1,3,22,23,24] [0,1] rfl rfl rfl ?_
  exact next
theorem Q1 (s:Sta) (hp:s.pend.length<=1000000) (hr:s.run.length<=1000000) (R:List AVal):∀ (m i:Nat) (acc:List AVal),i+m=s.pend.length->acc.length<=i->(acc++O4 (s.pend.drop i))++GR s.run=R->
  To (Eo [3] []) E8 (.pure (.ret (.slice 1 R .no))) (.head (stk E8 0) [(1,.ref 0 0),(3,.slice 1 acc (.own 1 0)),(9,.slice 11 (pnv s.pend) .no),(10,.int .i64 ((pnv s.pend).length:Nat)),(11,ii i)] (alO s)):=by
 have hlen:(pnv s.pend).length=s.pend.length:=by simp
 intro m
 induction m with
 | zero=>
  intro i acc hi ha hR
  rw [Ai (by omega)] at hR
  have hR:(acc++[])++GR s.run=R:=hR
  rw [Bd] at hR
  have next:=Q0 s hr [] R s.run.length 0 acc (by omega) (by omega) hR
  refine gW (hEo [3] []) ?_;conv=>whnf
  refine aF fun h=>?_
  repeat' first | (refine gN (hEo [3] []) ?_;conv=>whnf) | exact rfl | refine aY ?_ | refine aN ?_ | refine aT fun h=>?_ | refine aF fun h=>?_ | refine ⟨fun h=>?_,fun h=>?_⟩ | refine aJ ?_ | refine ⟨_,rfl,?_⟩ | refine aD ?_ | fail
  refine To.part [1,3,22,23,24] [0,1] rfl rfl rfl ?_
  exact next
 | succ m ih=>
  intro i acc hi ha hR
  have hlt:i<s.pend.length:=by omega
  rw [Ag hlt] at hR
  have get:=EI hlt
  generalize s.pend[i]=x at hR get
  have next:=ih (i+1) (acc++[itP x]) (by omega) (by simp;omega) (by rw [Al acc];exact hR)
  refine gW (hEo [3] []) ?_;conv=>whnf
  refine aT fun h=>?_
  repeat' first | (refine gN (hEo [3] []) ?_;conv=>whnf) | refine ⟨i,rfl,?_⟩ | refine ⟨_,get,?_⟩ | refine Ad (Ad (show acc.length+1<=maxLen by simp only [maxLen];omega) (show (acc.length+1)*16<=140737488355328 by omega)) ?_ | exact rfl | refine aY ?_ | refine aN ?_ | refine aT fun h=>?_ | refine aF fun h=>?_ | refine ⟨fun h=>?_,fun h=>?_⟩ | refine aJ ?_ | refine ⟨_,rfl,?_⟩ | refine aD ?_ | fail
  refine To.part [1,3,9,10,11] [0,1] rfl rfl rfl ?_
  exact next
theorem NS (s:Sta) (hp:s.pend.length<=1000000) (hr:s.run.length<=1000000):aA Tryz.prog 86 [s.av] [] (.ret (.slice 1 (O4 s.pend++GR s.run) .no)) []:=by
 have next:=Q1 s hp hr (O4 s.pend++GR s.run) s.pend.length 0 [] (by omega) (by simp) rfl
 refine cT (E:=(Eo [3] [])) (fn:=Tryz.f86) (g:=.pure _) fun _=>?_
 refine gW (hEo [3] []) ?_;conv=>whnf
 refine To.part [1,3,9,10,11] [0,1] rfl rfl rfl ?_
 exact next
theorem D1 (p:Pn):aA Tryz.prog 87 [itP p] [] (.ret (.tup [p.av,.bool true])) []:=by
 refine cT (E:=E) (fn:=Tryz.f87) (g:=.pure _) fun _=>?_
 repeat' first | (refine gN hE ?_;conv=>whnf) | exact rfl | refine aY ?_ | refine aN ?_ | refine aT fun h=>?_ | refine aF fun h=>?_ | refine ⟨fun h=>?_,fun h=>?_⟩ | refine aJ ?_ | refine ⟨_,rfl,?_⟩ | refine aD ?_ | fail
theorem D0 (r:Rn):aA Tryz.prog 87 [itR r] [] (.ret (.tup [r.pn.av,.bool true])) []:=by
 refine cT (E:=E) (fn:=Tryz.f87) (g:=.pure _) fun _=>?_
 repeat' first | (refine gN hE ?_;conv=>whnf) | exact rfl | refine aY ?_ | refine aN ?_ | refine aT fun h=>?_ | refine aF fun h=>?_ | refine ⟨fun h=>?_,fun h=>?_⟩ | refine aJ ?_ | refine ⟨_,rfl,?_⟩ | refine aD ?_ | fail
theorem RU (l:List Rn) (id:Int):dG l [id]=l.filter fun x=>!(x.g.id==id):=by
 unfold dG
 congr 1
 funext x
 simp [inB]
theorem KT {l:List Hos} {n:Int} (h0:0<=n) (h1:n<(l.length:Int)):(hav l)[n.toNat]? =some (cS l n).av:=by
 have h:n.toNat<l.length:=by omega
 unfold cS
 rw [Az,Ab h]
 rfl
theorem HD {c:Con} {free:List V3} {g:Gan} {l:List Int} (hf:free.length=c.hs.length) (hp:1<=g.pods) (h:qU c free g l=true):(iv l)[0]? =some (ii (l.headD 0))/\0<=l.headD 0/\l.headD 0<(c.hs.length:Int):=by
 unfold qU at h
 by_cases hl:(l.length:Int)=g.pods
 .rw [if_pos hl] at h
  cases l with
  | nil=>simp at hl;omega
  | cons u r=>
   rw [Fx] at h
   obtain ⟨G,hG,hk⟩:=h
   unfold chkG at hk
   rw [Ac] at hk
   have hk2:=wO.1 hk.2 u (Bt ..)
   refine ⟨rfl,hk2.1,?_⟩
   have:=hk2.2.1
   show u<_
   omega
 .rw [if_neg hl] at h
  cases h
noncomputable abbrev U2:Func:=Tryz.f90
def rnO (s:Sta) (r:Rn):List AObj:=[.cells 31 s.cs,.cells 70 r.cs]
def R7 (s:Sta) (r:Rn):List AObj:=[.fcells s.cs,.fcells r.cs]
theorem R6 (s:Sta) (r:Rn):frzs [0,1] (rnO s r)=R7 s r:=by kernel_rfl
theorem N0 (s:Sta) (r:Rn):tH [2,3] (aC (R7 s r)) [(2,.ref 0 0),(3,.ref 1 0)]=[(2,.ptr s.cs),(3,.ptr r.cs)]:=by kernel_rfl
theorem ED {g:Goal} {ks:List KI} (s:Sta) (r:Rn) (h:To E U2 g (.code ks [(2,.ptr s.cs),(3,.ptr r.cs)] (R7 s r))):To E U2 g (.code ks [(2,.ref 0 0),(3,.ref 1 0)] (rnO s r)):=by
 refine To.frz [2,3] [0,1] ?_
 rw [R6,N0]
 exact h
theorem II (s:Sta) (r:Rn) (W:List Rn) (F:List V3) (e1:Int) (k:Bool) (b:Bool)
  (h1:aA Tryz.prog 131 [r.av] [] (.ret (ii e1)) [])
  (h2:aA Tryz.prog 133 [.slice 14 (rav s.run) .no,.slice 1 (iv [r.g.id]) .no] [] (.ret (.slice 14 (rav W) .no)) [])
  (h3:aA Tryz.prog 132 [s.c.av,.slice 14 (rav W) .no] [] (.ret (.slice 3 (vav F) .no)) [])
  (h4:aA Tryz.prog 134 [s.c.av,.slice 3 (vav F) .no,r.g.av,.slice 1 (iv r.hs) .no] [] (.ret (.bool k)) [])
  (hk:k=true->(iv r.hs)[0]? =some (ii (r.hs.headD 0))/\0<=r.hs.headD 0/\(hav s.c.hs)[(r.hs.headD 0).toNat]? =some (cS s.c.hs (r.hs.headD 0)).av)
  (hb:(decide ((r.at'<=r.st/\r.st<=s.now)/\s.now<e1)&&(k&&decide ((cS s.c.hs (r.hs.headD 0)).f=r.fl)))=b):
  aA Tryz.prog 90 [s.av,r.av] [] (.ret (.bool b)) []:=by
 have h2:aA Tryz.prog 133 [.slice 14 (rav s.run) .no,.slice 1 (iv [r.g.id]) .full] [] (.ret (.slice 14 (rav W) .no)) []:=aA.strip h2
 cases k with
 | true=>
  obtain ⟨g1,g2,g3⟩:=hk rfl
  generalize r.hs.headD 0=u at g1 g2 g3 hb
  generalize cS s.c.hs u=y at g3 hb
  refine cT (E:=E) (fn:=Tryz.f90) (g:=.pure _) fun _=>?_
  refine dI hE 13 ?_;conv=>whnf
  refine To.cutC [2,3] 2 rfl rfl rfl rfl ?_
  refine ED s r ?_
  repeat' first | (refine gN hE ?_;conv=>whnf) | refine .pure _ [] h1 ?_ | refine .pure _ [] h2 ?_ | refine .pure _ [] h3 ?_ | refine .pure _ [] h4 ?_ | refine ⟨0,rfl,?_⟩ | refine ⟨_,g1,?_⟩ | refine Ba u.toNat (Ad (by simp only [Int.toNat_of_nonneg g2]) ?_) | refine ⟨_,g3,?_⟩ | exact rfl | refine aY ?_ | refine aN ?_ | refine aT fun h=>?_ | refine aF fun h=>?_ | refine ⟨fun h=>?_,fun h=>?_⟩ | refine aJ ?_ | refine ⟨_,rfl,?_⟩ | refine aD ?_ | fail
  all_goals
   subst hb
   refine congrArg (fun q=>Res.ret (AVal.bool q)) ?_
   simp only [decide_eq_true_eq,decide_eq_false_iff_not] at *
   first | (rw [decide_eq_false (by omega)];rfl) | (rw [decide_eq_true (by omega)];rfl)
 | false=>
  refine cT (E:=E) (fn:=Tryz.f90) (g:=.pure _) fun _=>?_
  refine dI hE 13 ?_;conv=>whnf
  refine To.cutC [2,3] 2 rfl rfl rfl rfl ?_
  refine ED s r ?_
  repeat' first | (refine gN hE ?_;conv=>whnf) | refine .pure _ [] h1 ?_ | refine .pure _ [] h2 ?_ | refine .pure _ [] h3 ?_ | refine .pure _ [] h4 ?_ | exact rfl | refine aY ?_ | refine aN ?_ | refine aT fun h=>?_ | refine aF fun h=>?_ | refine ⟨fun h=>?_,fun h=>?_⟩ | refine aJ ?_ | refine ⟨_,rfl,?_⟩ | refine aD ?_ | fail
  all_goals
   subst hb
   refine congrArg (fun q=>Res.ret (AVal.bool q)) ?_
   simp only [decide_eq_true_eq,decide_eq_false_iff_not] at *
   first | (rw [decide_eq_false (by omega)];rfl) | (rw [decide_eq_true (by omega)];rfl)
theorem NT (s:Sta) (hc:s.c.sm) (hs:Sm s.run) (r:Rn) (hp:1<=r.g.pods) (hr:r.hs.length<=1048576):aA Tryz.prog 90 [s.av,r.av] [] (.ret (.bool (rnB s r))) []:=by
 have hw:=B5 hs [r.g.id]
 have h2:=B6 s.run hs [r.g.id] (by simp)
 have h3:=E5 s.c hc (dG s.run [r.g.id]) hw
 have hf:=BC s.c (dG s.run [r.g.id])
 have h4:=SI s.c hc (lK s.c (dG s.run [r.g.id])) r.g r.hs hr
 refine II s r _ _ _ _ _ (TM r) h2 h3 h4 (fun hk=>?_) ?_
 .obtain ⟨a1,a2,a3⟩:=HD hf hp hk
  exact ⟨a1,a2,KT a2 a3⟩
 .rw [RU]
  rfl
noncomputable abbrev kU:Func:=Tryz.f40
def Q7 (es:List (List Int×AVal)) (l:List Int):Prop:=∀ h:Int,bH es [h]=if l.contains h=true then some (.bool true) else none
theorem AT {es:List (List Int×AVal)} {l:List Int} (hm:Q7 es l) (h:Int):Q7 (gS es [h] (.bool true)) (h::l):=fun x=>by
 rw [xU,List.contains_cons]
 by_cases hx:h=x
 .subst hx;simp
 .have e1:(x==h)=false:=by simp;exact fun q=>hx q.symm
  rw [if_neg (by simpa using hx),hm x,e1,Bool.false_or]
def ggO (s:Sta):List AObj:=[.cells 31 s.cs]
def TA (s:Sta):List AObj:=[.fcells s.cs]
theorem S9 (s:Sta):frzs [0] (ggO s)=TA s:=by kernel_rfl
theorem PH (s:Sta):tH [1] (aC (TA s)) [(1,.ref 0 0)]=[(1,.ptr s.cs)]:=by kernel_rfl
theorem PF {g:Goal} {ks:List KI} (s:Sta) (h:To (Er [] [64,65,66]) kU g (.code ks [(1,.ptr s.cs)] (TA s))):To (Er [] [64,65,66]) kU g (.code ks [(1,.ref 0 0)] (ggO s)):=by
 refine To.frz [1] [0] ?_
 rw [S9,PH]
 exact h
abbrev ggF (s:Sta) (xs:List AVal) (i:Int):List (Nat×AVal):=[(1,.ptr s.cs),(3,.mref 0),(4,.mref 1),(14,.slice 1 xs .no),(15,.int .i64 (xs.length:Nat)),(16,ii i)]
def gbF (s:Sta) (xs:List AVal) (i:Int) (x:AVal):List (Nat×AVal):=[(1,.ptr s.cs),(3,.mref 0),(4,.mref 1),(6,x),(7,.ref 2 0),(14,.slice 1 xs .no),(15,.int .i64 (xs.length:Nat)),(16,ii i)]
def UX (s:Sta) (xs:List AVal) (i:Int) (x:AVal) (p:Pn):List (Nat×AVal):=[(1,.ptr s.cs),(3,.mref 0),(4,.mref 1),(6,x),(7,.ptr p.cs),(14,.slice 1 xs .no),(15,.int .i64 (xs.length:Nat)),(16,ii i)]
abbrev Ent:Type:=List (List Int×AVal)
def gbO (es1 es2:Ent) (p:Pn):List AObj:=[.mp false es1,.mp false es2,.cells 67 p.cs]
def TD (es1 es2:Ent) (p:Pn):List AObj:=[.mp false es1,.mp false es2,.fcells p.cs]
theorem TC (es1 es2:Ent) (p:Pn):frzs [2] (gbO es1 es2 p)=TD es1 es2 p:=by kernel_rfl
theorem PJ (s:Sta) (xs:List AVal) (i:Int) (x:AVal) (es1 es2:Ent) (p:Pn):tH [7] (aC (TD es1 es2 p)) (gbF s xs i x)=UX s xs i x p:=by kernel_rfl
theorem mH {g:Goal} {ks:List KI} {s:Sta} {xs:List AVal} {i:Int} {x:AVal} {es1 es2:Ent} (p:Pn) (h:To (Er [] [64,65,66]) kU g (.code ks (UX s xs i x p) (TD es1 es2 p))):To (Er [] [64,65,66]) kU g (.code ks (gbF s xs i x) (gbO es1 es2 p)):=by
 refine To.frz [7] [2] ?_
 rw [TC,PJ]
 exact h
def gcB (s:Sta) (p:Pn) (o1 o2:Bool) (G:Int) (N Q:Bool):Bool:=!o1&&(!o2&&(decide ((0<=p.seq/\p.seq<s.nxt)/\0<=p.at'/\p.at'<=s.now)&&(decide (G=0)&&(!N&&Q))))
theorem ggP (s:Sta) (xs:List AVal) (hxs:xs.length<=1048576) (i:Nat) (hi:i<xs.length) (p:Pn) (get:xs[i]? =some (itP p)) (es1 es2:Ent) (m1:bH es1 [p.g.id]=none) (m2:bH es2 [p.seq]=none) (G:Int) (N b:Bool)
  (hG:aA Tryz.prog 88 [s.c.av,p.g.av] [] (.ret (ii G)) []) (hN:G=0->aA Tryz.prog 89 [s.c.av,p.g.av] [] (.ret (.bool N)) [])
  (hbad:gcB s p false false G N true=false->b=false)
  (hnext:gcB s p false false G N true=true->To (Er [] [64,65,66]) kU (.pure (.ret (.bool b))) (.head (stk kU 0) (ggF s xs ((i:Int)+1)) [.mp false (gS es1 [p.g.id] (.bool true)),.mp false (gS es2 [p.seq] (.bool true))])):
  To (Er [] [64,65,66]) kU (.pure (.ret (.bool b))) (.head (stk kU 0) (ggF s xs (i:Int)) [.mp false es1,.mp false es2]):=by
 have hw:=D1 p
 cases N<;>skip
 all_goals
  refine gW (hEr [] [64,65,66]) ?_;conv=>whnf
  refine aT fun h=>?_
  refine gW (hEr [] [64,65,66]) ?_;conv=>whnf
  refine ⟨i,rfl,?_⟩
  refine gW (hEr [] [64,65,66]) ?_;conv=>whnf
  refine ⟨_,get,?_⟩
  refine gW (hEr [] [64,65,66]) ?_;conv=>whnf
  refine .pure _ [] hw ?_
  refine dI (hEr [] [64,65,66]) 20 ?_;conv=>whnf
  refine To.cutC [1,3,4,6,7,14,15,16] 3 rfl rfl rfl rfl ?_
  refine mH p ?_
  repeat' first | (refine gN (hEr [] [64,65,66]) ?_;conv=>whnf) | refine ⟨_,m1,?_⟩ | refine ⟨_,m2,?_⟩ | refine .pure _ [] hG ?_ | refine .pure _ [] (hN (by simpa using ‹(G !=0)=false›)) ?_ | exact rfl | refine aY ?_ | refine aN ?_ | refine aT fun h=>?_ | refine aF fun h=>?_ | refine ⟨fun h=>?_,fun h=>?_⟩ | refine aJ ?_ | refine ⟨_,rfl,?_⟩ | refine aD ?_ | fail
  all_goals (try (
   refine congrArg (fun q=>Res.ret (AVal.bool q)) (hbad ?_).symm
   clear hbad hnext
   simp only [decide_eq_true_eq,decide_eq_false_iff_not,bne_iff_ne,ne_eq,bne_eq_false_iff_eq,Gh] at *
   simp [gcB]
   try omega))
  all_goals
   refine To.part [1,3,4,14,15,16] [0,1] rfl rfl rfl ?_
   refine hnext ?_
   clear hbad hnext
   simp only [decide_eq_true_eq,decide_eq_false_iff_not,bne_iff_ne,ne_eq,bne_eq_false_iff_eq,Gh] at *
   simp [gcB]
   try omega
theorem ggR (s:Sta) (xs:List AVal) (hxs:xs.length<=1048576) (i:Nat) (hi:i<xs.length) (r:Rn) (p:Pn) (hp:r.pn=p) (get:xs[i]? =some (itR r)) (es1 es2:Ent) (m1:bH es1 [p.g.id]=none) (m2:bH es2 [p.seq]=none) (G:Int) (N Q b:Bool)
  (hG:aA Tryz.prog 88 [s.c.av,p.g.av] [] (.ret (ii G)) []) (hN:G=0->aA Tryz.prog 89 [s.c.av,p.g.av] [] (.ret (.bool N)) [])
  (hQ:G=0->aA Tryz.prog 90 [s.av,r.av] [] (.ret (.bool Q)) [])
  (hbad:gcB s p false false G N Q=false->b=false)
  (hnext:gcB s p false false G N Q=true->To (Er [] [64,65,66]) kU (.pure (.ret (.bool b))) (.head (stk kU 0) (ggF s xs ((i:Int)+1)) [.mp false (gS es1 [p.g.id] (.bool true)),.mp false (gS es2 [p.seq] (.bool true))])):
  To (Er [] [64,65,66]) kU (.pure (.ret (.bool b))) (.head (stk kU 0) (ggF s xs (i:Int)) [.mp false es1,.mp false es2]):=by
 have hw:=D0 r
 rw [hp] at hw
 cases N<;>cases Q
 all_goals
  refine gW (hEr [] [64,65,66]) ?_;conv=>whnf
  refine aT fun h=>?_
  refine gW (hEr [] [64,65,66]) ?_;conv=>whnf
  refine ⟨i,rfl,?_⟩
  refine gW (hEr [] [64,65,66]) ?_;conv=>whnf
  refine ⟨_,get,?_⟩
  refine gW (hEr [] [64,65,66]) ?_;conv=>whnf
  refine .pure _ [] hw ?_
  refine dI (hEr [] [64,65,66]) 20 ?_;conv=>whnf
  refine To.cutC [1,3,4,6,7,14,15,16] 3 rfl rfl rfl rfl ?_
  refine mH p ?_
  repeat' first | (refine gN (hEr [] [64,65,66]) ?_;conv=>whnf) | refine ⟨_,m1,?_⟩ | refine ⟨_,m2,?_⟩ | refine .pure _ [] hG ?_ | refine .pure _ [] (hN (by simpa using ‹(G !=0)=false›)) ?_ | refine .pure _ [] (hQ (by simpa using ‹(G !=0)=false›)) ?_ | exact rfl | refine aY ?_ | refine aN ?_ | refine aT fun h=>?_ | refine aF fun h=>?_ | refine ⟨fun h=>?_,fun h=>?_⟩ | refine aJ ?_ | refine ⟨_,rfl,?_⟩ | refine aD ?_ | fail
  all_goals (try (
   refine congrArg (fun q=>Res.ret (AVal.bool q)) (hbad ?_).symm
   clear hbad hnext
   simp only [decide_eq_true_eq,decide_eq_false_iff_not,bne_iff_ne,ne_eq,bne_eq_false_iff_eq,Gh] at *
   simp [gcB]
   try omega))
  all_goals
   refine To.part [1,3,4,14,15,16] [0,1] rfl rfl rfl ?_
   refine hnext ?_
   clear hbad hnext
   simp only [decide_eq_true_eq,decide_eq_false_iff_not,bne_iff_ne,ne_eq,bne_eq_false_iff_eq,Gh] at *
   simp [gcB]
   try omega
theorem UV (s:Sta) (xs:List AVal) (hxs:xs.length<=1048576) (i:Nat) (hi:i<xs.length) (p:Pn) (get:xs[i]? =some (itP p)) (es1 es2:Ent) (m:bH es1 [p.g.id]=some (.bool true)\/bH es1 [p.g.id]=none/\bH es2 [p.seq]=some (.bool true)):
  To (Er [] [64,65,66]) kU (.pure (.ret (.bool false))) (.head (stk kU 0) (ggF s xs (i:Int)) [.mp false es1,.mp false es2]):=by
 have hw:=D1 p
 rcases m with m1 | ⟨m1,m2⟩
 .refine gW (hEr [] [64,65,66]) ?_;conv=>whnf
  refine aT fun h=>?_
  refine gW (hEr [] [64,65,66]) ?_;conv=>whnf
  refine ⟨i,rfl,?_⟩
  refine gW (hEr [] [64,65,66]) ?_;conv=>whnf
  refine ⟨_,get,?_⟩
  refine gW (hEr [] [64,65,66]) ?_;conv=>whnf
  refine .pure _ [] hw ?_
  refine dI (hEr [] [64,65,66]) 20 ?_;conv=>whnf
  refine To.cutC [1,3,4,6,7,14,15,16] 3 rfl rfl rfl rfl ?_
  refine mH p ?_
  repeat' first | (refine gN (hEr [] [64,65,66]) ?_;conv=>whnf) | refine ⟨_,m1,?_⟩ | exact rfl | refine aY ?_ | refine aN ?_ | refine aT fun h=>?_ | refine aF fun h=>?_ | refine ⟨fun h=>?_,fun h=>?_⟩ | refine aJ ?_ | refine ⟨_,rfl,?_⟩ | refine aD ?_ | fail
 .refine gW (hEr [] [64,65,66]) ?_;conv=>whnf
  refine aT fun h=>?_
  refine gW (hEr [] [64,65,66]) ?_;conv=>whnf
  refine ⟨i,rfl,?_⟩
  refine gW (hEr [] [64,65,66]) ?_;conv=>whnf
  refine ⟨_,get,?_⟩
  refine gW (hEr [] [64,65,66]) ?_;conv=>whnf
  refine .pure _ [] hw ?_
  refine dI (hEr [] [64,65,66]) 20 ?_;conv=>whnf
  refine To.cutC [1,3,4,6,7,14,15,16] 3 rfl rfl rfl rfl ?_
  refine mH p ?_
  repeat' first | (refine gN (hEr [] [64,65,66]) ?_;conv=>whnf) | refine ⟨_,m1,?_⟩ | refine ⟨_,m2,?_⟩ | exact rfl | refine aY ?_ | refine aN ?_ | refine aT fun h=>?_ | refine aF fun h=>?_ | refine ⟨fun h=>?_,fun h=>?_⟩ | refine aJ ?_ | refine ⟨_,rfl,?_⟩ | refine aD ?_ | fail
theorem UU (s:Sta) (xs:List AVal) (hxs:xs.length<=1048576) (i:Nat) (hi:i<xs.length) (r:Rn) (p:Pn) (hp:r.pn=p) (get:xs[i]? =some (itR r)) (es1 es2:Ent) (m:bH es1 [p.g.id]=some (.bool true)\/bH es1 [p.g.id]=none/\bH es2 [p.seq]=some (.bool true)):
  To (Er [] [64,65,66]) kU (.pure (.ret (.bool false))) (.head (stk kU 0) (ggF s xs (i:Int)) [.mp false es1,.mp false es2]):=by
 have hw:=D0 r
 rw [hp] at hw
 rcases m with m1 | ⟨m1,m2⟩
 .refine gW (hEr [] [64,65,66]) ?_;conv=>whnf
  refine aT fun h=>?_
  refine gW (hEr [] [64,65,66]) ?_;conv=>whnf
  refine ⟨i,rfl,?_⟩
  refine gW (hEr [] [64,65,66]) ?_;conv=>whnf
  refine ⟨_,get,?_⟩
  refine gW (hEr [] [64,65,66]) ?_;conv=>whnf
  refine .pure _ [] hw ?_
  refine dI (hEr [] [64,65,66]) 20 ?_;conv=>whnf
  refine To.cutC [1,3,4,6,7,14,15,16] 3 rfl rfl rfl rfl ?_
  refine mH p ?_
  repeat' first | (refine gN (hEr [] [64,65,66]) ?_;conv=>whnf) | refine ⟨_,m1,?_⟩ | exact rfl | refine aY ?_ | refine aN ?_ | refine aT fun h=>?_ | refine aF fun h=>?_ | refine ⟨fun h=>?_,fun h=>?_⟩ | refine aJ ?_ | refine ⟨_,rfl,?_⟩ | refine aD ?_ | fail
 .refine gW (hEr [] [64,65,66]) ?_;conv=>whnf
  refine aT fun h=>?_
  refine gW (hEr [] [64,65,66]) ?_;conv=>whnf
  refine ⟨i,rfl,?_⟩
  refine gW (hEr [] [64,65,66]) ?_;conv=>whnf
  refine ⟨_,get,?_⟩
  refine gW (hEr [] [64,65,66]) ?_;conv=>whnf
  refine .pure _ [] hw ?_
  refine dI (hEr [] [64,65,66]) 20 ?_;conv=>whnf
  refine To.cutC [1,3,4,6,7,14,15,16] 3 rfl rfl rfl rfl ?_
  refine mH p ?_
  repeat' first | (refine gN (hEr [] [64,65,66]) ?_;conv=>whnf) | refine ⟨_,m1,?_⟩ | refine ⟨_,m2,?_⟩ | exact rfl | refine aY ?_ | refine aN ?_ | refine aT fun h=>?_ | refine aF fun h=>?_ | refine ⟨fun h=>?_,fun h=>?_⟩ | refine aJ ?_ | refine ⟨_,rfl,?_⟩ | refine aD ?_ | fail
inductive It where
 | p (x:Pn)
 | r (x:Rn)
def It.av:It->AVal
 | .p x=>itP x
 | .r x=>itR x
def It.pn:It->Pn
 | .p x=>x
 | .r x=>x.pn
def It.q (s:Sta):It->Bool
 | .p _=>true
 | .r x=>rnB s x
def It.sm:It->Prop
 | .p _=>True
 | .r x=>x.hs.length<=1048576
def gaB (s:Sta):List Int->List Int->List It->Bool
 | _,_,[]=>true
 | a,b,x::l=>gcB s x.pn (a.contains x.pn.g.id) (b.contains x.pn.seq) (iJ s.c x.pn.g) (lM s.c [] x.pn.g).isNone (x.q s)&&gaB s (x.pn.g.id::a) (x.pn.seq::b) l
theorem nF {c:Con} {g:Gan} (h:iJ c g=0):1<=g.pods/\g.pods<=16:=by
 obtain ⟨h1,_⟩:=wE.1 h
 unfold DO at h1
 rw [Ac] at h1
 have:=of_decide_eq_true h1.1
 omega
theorem PG (s:Sta) (hc:s.c.sm) (hs:Sm s.run) (l:List It) (hl:l.length<=1048576) (hsm:∀ x∈l,x.sm) (b:Bool):∀ (m i:Nat) (es1 es2:Ent) (a1 a2:List Int),i+m=l.length->Q7 es1 a1->Q7 es2 a2->gaB s a1 a2 (l.drop i)=b->
  To (Er [] [64,65,66]) kU (.pure (.ret (.bool b))) (.head (stk kU 0) (ggF s (l.map It.av) (i:Int)) [.mp false es1,.mp false es2]):=by
 have hlen:(l.map It.av).length=l.length:=by simp
 intro m
 induction m with
 | zero=>
  intro i es1 es2 a1 a2 hi h1 h2 hb
  rw [Ai (by omega)] at hb
  have hb:true=b:=hb
  subst hb
  refine gW (hEr [] [64,65,66]) ?_;conv=>whnf
  refine aF fun h=>?_
  repeat' first | (refine gN (hEr [] [64,65,66]) ?_;conv=>whnf) | exact rfl | refine aY ?_ | refine aN ?_ | refine aT fun h=>?_ | refine aF fun h=>?_ | refine ⟨fun h=>?_,fun h=>?_⟩ | refine aJ ?_ | refine ⟨_,rfl,?_⟩ | refine aD ?_ | fail
 | succ m ih=>
  intro i es1 es2 a1 a2 hi h1 h2 hb
  have hlt:i<l.length:=by omega
  rw [Ag hlt] at hb
  have get:(l.map It.av)[i]? =some (l[i].av):=by simp [hlt]
  have hx:=hsm l[i] (Bw hlt)
  have ih:=fun es1 es2 a1 a2=>ih (i+1) es1 es2 a1 a2 (by omega)
  generalize l[i]=x at hb get hx
  have hb:(gcB s x.pn (a1.contains x.pn.g.id) (a2.contains x.pn.seq) (iJ s.c x.pn.g) (lM s.c [] x.pn.g).isNone (x.q s)&&gaB s (x.pn.g.id::a1) (x.pn.seq::a2) (l.drop (i+1)))=b:=hb
  have m1:=h1 x.pn.g.id
  have m2:=h2 x.pn.seq
  have next:=ih _ _ (x.pn.g.id::a1) (x.pn.seq::a2) (AT h1 x.pn.g.id) (AT h2 x.pn.seq)
  generalize gaB s (x.pn.g.id::a1) (x.pn.seq::a2) (l.drop (i+1))=R at hb next
  cases o1:a1.contains x.pn.g.id with
  | true=>
   rw [o1] at hb m1
   have hb:false=b:=by rw [<-hb];rfl
   subst hb
   cases x with
   | p x=>exact UV s _ (by omega) i (by omega) x get es1 es2 (.inl m1)
   | r x=>exact UU s _ (by omega) i (by omega) x x.pn rfl get es1 es2 (.inl m1)
  | false=>
   rw [o1] at hb m1
   cases o2:a2.contains x.pn.seq with
   | true=>
    rw [o2] at hb m2
    have hb:false=b:=by rw [<-hb];rfl
    subst hb
    cases x with
    | p x=>exact UV s _ (by omega) i (by omega) x get es1 es2 (.inr ⟨m1,m2⟩)
    | r x=>exact UU s _ (by omega) i (by omega) x x.pn rfl get es1 es2 (.inr ⟨m1,m2⟩)
   | false=>
    rw [o2] at hb m2
    have hG:=IE s.c x.pn.g
    have hN:=fun h:iJ s.c x.pn.g=0=>J3 s.c hc x.pn.g (by have:=nF h;omega)
    cases x with
    | p x=>
     refine ggP s _ (by omega) i (by omega) x get es1 es2 m1 m2 _ _ b hG hN (fun hq=>?_) (fun hq=>?_)
     .exact hb.symm.trans (congrArg (fun q:Bool=>q&&R) hq)
     .exact next ((congrArg (fun q:Bool=>q&&R) hq).symm.trans hb)
    | r x=>
     have hQ:=fun h:iJ s.c x.pn.g=0=>NT s hc hs x (nF (g:=x.g) h).1 hx
     refine ggR s _ (by omega) i (by omega) x x.pn rfl get es1 es2 m1 m2 _ _ _ b hG hN hQ (fun hq=>?_) (fun hq=>?_)
     .exact hb.symm.trans (congrArg (fun q:Bool=>q&&R) hq)
     .exact next ((congrArg (fun q:Bool=>q&&R) hq).symm.trans hb)
def kT (s:Sta):List It:=s.pend.map It.p++s.run.map It.r
theorem S3 (s:Sta):(kT s).map It.av=O4 s.pend++GR s.run:=by
 unfold kT
 rw [Cu,Eh,Eh]
 rfl
theorem K5 (s:Sta) (hc:s.c.sm) (hp:s.pend.length<=1000) (hr:s.run.length<=1000) (hs:Sm s.run):aA Tryz.prog 40 [s.av] [] (.ret (.bool (gaB s [] [] (kT s)))) []:=by
 have ha:=NS s (by omega) (by omega)
 rw [<-S3] at ha
 have hlen:(kT s).length<=2000:=by unfold kT;simp;omega
 have next:=PG s hc hs (kT s) (by omega) (fun x hx=>by
  unfold kT at hx
  rw [Bf,Cm,Cm] at hx
  rcases hx with ⟨y,_,rfl⟩ | ⟨y,hy,rfl⟩
  .trivial
  .exact hs.2 y hy) _ (kT s).length 0 [] [] [] [] (by omega) (fun h=>rfl) (fun h=>rfl) rfl
 rw [Dq] at next
 generalize (kT s).map It.av=xs at ha next
 generalize gaB s [] [] (kT s)=b at next
 refine cT (E:=(Er [] [64,65,66])) (fn:=Tryz.f40) (g:=.pure _) fun _=>?_
 refine dI (hEr [] [64,65,66]) 10 ?_;conv=>whnf
 refine To.cutC [1] 1 rfl rfl rfl rfl ?_
 refine PF s ?_
 repeat' first | (refine gN (hEr [] [64,65,66]) ?_;conv=>whnf) | refine .pure _ [] ha ?_ | exact rfl | refine aY ?_ | refine aN ?_ | refine aT fun h=>?_ | refine aF fun h=>?_ | refine ⟨fun h=>?_,fun h=>?_⟩ | refine aJ ?_ | refine ⟨_,rfl,?_⟩ | refine aD ?_ | fail
 refine To.part [1,3,4,14,15,16] [1,2] rfl rfl rfl ?_
 exact next
theorem TB (s:Sta) (p:Pn) (q o1 o2:Bool):gcB s p o1 o2 (iJ s.c p.g) (lM s.c [] p.g).isNone q=(!o1&&(!o2&&(pnB s p&&q))):=by
 unfold gcB pnB
 generalize decide (iJ s.c p.g=0)=a
 generalize (lM s.c [] p.g).isNone=b
 generalize decide ((0<=p.seq/\p.seq<s.nxt)/\0<=p.at'/\p.at'<=s.now)=c
 cases o1<;>cases o2<;>cases a<;>cases b<;>cases c<;>cases q<;>rfl
theorem E4 (s:Sta):∀ (l:List It) (a b:List Int),gaB s a b l=true↔(∀ x∈l,(pnB s x.pn&&x.q s)=true)/\((l.map fun x=>x.pn.g.id).Nodup/\∀ x∈l,x.pn.g.id∉a)/\((l.map fun x=>x.pn.seq).Nodup/\∀ x∈l,x.pn.seq∉b)
 | [],a,b=>by simp [gaB]
 | x::r,a,b=>by
  unfold gaB
  rw [TB,Ac,E4 s r]
  simp only [Ac,Cg,List.contains_eq_mem,decide_eq_false_iff_not,Cx,Ge,Bk,forall_eq_or_imp,not_or,Cm,not_exists,not_and]
  constructor
  .rintro ⟨⟨h1,h2,h3⟩,h4,⟨h5,h6⟩,h7,h8⟩
   exact ⟨⟨h3,h4⟩,⟨⟨fun y hy e=>(h6 y hy).1 e,h5⟩,h1,fun y hy=>(h6 y hy).2⟩,⟨fun y hy e=>(h8 y hy).1 e,h7⟩,h2,fun y hy=>(h8 y hy).2⟩
  .rintro ⟨⟨h3,h4⟩,⟨⟨h6,h5⟩,h1,h9⟩,⟨h8,h7⟩,h2,h10⟩
   exact ⟨⟨h1,h2,h3⟩,h4,⟨h5,fun y hy=>⟨fun e=>h6 y hy e,h9 y hy⟩⟩,h7,fun y hy=>⟨fun e=>h8 y hy e,h10 y hy⟩⟩
theorem TE (s:Sta):gaB s [] [] (kT s)=((s.pend.all (pnB s)&&s.run.all fun r=>pnB s r.pn&&rnB s r)&&(decide (ids s).Nodup&&decide (NQ s).Nodup)):=by
 rw [Fh,E4]
 have e1:((kT s).map fun x=>x.pn.g.id)=ids s:=by
  unfold kT ids
  rw [Cu,Eh,Eh]
  rfl
 have e2:((kT s).map fun x=>x.pn.seq)=NQ s:=by
  unfold kT NQ
  rw [Cu,Eh,Eh]
  rfl
 rw [e1,e2]
 simp only [Gs,not_false_eq_true,implies_true,and_true,Ac,decide_eq_true_eq,Ck]
 have e3:(∀ x∈kT s,pnB s x.pn=true/\x.q s=true)↔(∀ x∈s.pend,pnB s x=true)/\∀ x∈s.run,pnB s x.pn=true/\rnB s x=true:=by
  unfold kT
  constructor
  .intro h
   exact ⟨fun x hx=>(h (.p x) (Jo _ (List.mem_map_of_mem hx))).1,fun x hx=>h (.r x) (Jk _ (List.mem_map_of_mem hx))⟩
  .rintro ⟨h1,h2⟩ x hx
   rw [Bf,Cm,Cm] at hx
   rcases hx with ⟨y,hy,rfl⟩ | ⟨y,hy,rfl⟩
   .exact ⟨h1 y hy,rfl⟩
   .exact h2 y hy
 rw [e3]
noncomputable abbrev PW:Func:=Tryz.f41
def quO (s:Sta):List AObj:=[.cells 31 s.cs]
def SG (s:Sta):List AObj:=[.fcells s.cs]
theorem SF (s:Sta):frzs [0] (quO s)=SG s:=by kernel_rfl
theorem OA (s:Sta):tH [1] (aC (SG s)) [(1,.ref 0 0)]=[(1,.ptr s.cs)]:=by kernel_rfl
theorem N8 {g:Goal} {ks:List KI} (s:Sta) (h:To E PW g (.code ks [(1,.ptr s.cs)] (SG s))):To E PW g (.code ks [(1,.ref 0 0)] (quO s)):=by
 refine To.frz [1] [0] ?_
 rw [SF,OA]
 exact h
theorem N9 (s:Sta) (hc:s.c.sm) (U:List V3) (hU:U.length=s.c.ns.length) (hg:∀ i:Nat,i<U.length->(vav U)[i]? =some (atV U (i:Int)).av) (b:Bool):∀ (m i:Nat),i+m=U.length->((Fs i m).all fun i:Nat=>dU (atV U (i:Int)) (sV s.c (i:Int)))=b->
  To E PW (.pure (.ret (.bool b))) (.head (stk PW 0) [(1,.ptr s.cs),(10,.slice 3 (vav U) .no),(11,.int .i64 ((vav U).length:Nat)),(12,ii (i:Int))] []):=by
 have hlen:(vav U).length=U.length:=by simp
 have h1:=hc.ns
 intro m
 induction m with
 | zero=>
  intro i hi hb
  have hb:true=b:=hb
  subst hb
  refine gW hE ?_;conv=>whnf
  refine aF fun h=>?_
  repeat' first | (refine gN hE ?_;conv=>whnf) | exact rfl | refine aY ?_ | refine aN ?_ | refine aT fun h=>?_ | refine aF fun h=>?_ | refine ⟨fun h=>?_,fun h=>?_⟩ | refine aJ ?_ | refine ⟨_,rfl,?_⟩ | refine aD ?_ | fail
 | succ m ih=>
  intro i hi hb
  have hlt:i<U.length:=by omega
  have hb:(dU (atV U (i:Int)) (sV s.c (i:Int))&&((Fs (i+1) m).all fun i:Nat=>dU (atV U (i:Int)) (sV s.c (i:Int))))=b:=hb
  have next:=ih (i+1) (by omega)
  generalize ((Fs (i+1) m).all fun i:Nat=>dU (atV U (i:Int)) (sV s.c (i:Int)))=R at hb next
  have get:=hg i hlt
  have gn:=rE (c:=s.c) (n:=(i:Int)) ⟨by omega,by omega⟩
  have hn:=JV s.c hc (i:Int)
  have hl:=kB s.c (i:Int)
  unfold sV at hb
  generalize atV U (i:Int)=u at hb get
  generalize gF s.c.ns (i:Int)=y at hb gn
  generalize uP s.c.ns (i:Int) (xR s.c.ns)=v at hb hn
  cases hq:cC s.c.ns (i:Int) with
  | true=>
   rw [hq] at hb hl
   have ha:=gH v y.b
   have hb:(dU u (oQ v y.b)&&R)=b:=hb
   generalize oQ v y.b=w at ha hb
   have ho:=rV u w
   cases hf:dU u w with
   | true=>
    rw [hf] at hb ho
    have next:=next hb
    refine gW hE ?_;conv=>whnf
    refine aT fun h=>?_
    repeat' first | (refine gN hE ?_;conv=>whnf) | refine ⟨i,rfl,?_⟩ | refine ⟨_,get,?_⟩ | refine .pure _ [] hn ?_ | refine .pure _ [] hl ?_ | refine ⟨_,gn,?_⟩ | refine .pure _ [] ha ?_ | refine .pure _ [] ho ?_ | exact rfl | refine aY ?_ | refine aN ?_ | refine aT fun h=>?_ | refine aF fun h=>?_ | refine ⟨fun h=>?_,fun h=>?_⟩ | refine aJ ?_ | refine ⟨_,rfl,?_⟩ | refine aD ?_ | fail
    refine To.part [1,10,11,12] [] rfl rfl rfl ?_
    exact next
   | false=>
    rw [hf] at hb ho
    have hb:false=b:=hb
    subst hb
    refine gW hE ?_;conv=>whnf
    refine aT fun h=>?_
    repeat' first | (refine gN hE ?_;conv=>whnf) | refine ⟨i,rfl,?_⟩ | refine ⟨_,get,?_⟩ | refine .pure _ [] hn ?_ | refine .pure _ [] hl ?_ | refine ⟨_,gn,?_⟩ | refine .pure _ [] ha ?_ | refine .pure _ [] ho ?_ | exact rfl | refine aY ?_ | refine aN ?_ | refine aT fun h=>?_ | refine aF fun h=>?_ | refine ⟨fun h=>?_,fun h=>?_⟩ | refine aJ ?_ | refine ⟨_,rfl,?_⟩ | refine aD ?_ | fail
  | false=>
   rw [hq] at hb hl
   have hb:(dU u v&&R)=b:=hb
   have ho:=rV u v
   cases hf:dU u v with
   | true=>
    rw [hf] at hb ho
    have next:=next hb
    refine gW hE ?_;conv=>whnf
    refine aT fun h=>?_
    repeat' first | (refine gN hE ?_;conv=>whnf) | refine ⟨i,rfl,?_⟩ | refine ⟨_,get,?_⟩ | refine .pure _ [] hn ?_ | refine .pure _ [] hl ?_ | refine .pure _ [] ho ?_ | exact rfl | refine aY ?_ | refine aN ?_ | refine aT fun h=>?_ | refine aF fun h=>?_ | refine ⟨fun h=>?_,fun h=>?_⟩ | refine aJ ?_ | refine ⟨_,rfl,?_⟩ | refine aD ?_ | fail
    refine To.part [1,10,11,12] [] rfl rfl rfl ?_
    exact next
   | false=>
    rw [hf] at hb ho
    have hb:false=b:=hb
    subst hb
    refine gW hE ?_;conv=>whnf
    refine aT fun h=>?_
    repeat' first | (refine gN hE ?_;conv=>whnf) | refine ⟨i,rfl,?_⟩ | refine ⟨_,get,?_⟩ | refine .pure _ [] hn ?_ | refine .pure _ [] hl ?_ | refine .pure _ [] ho ?_ | exact rfl | refine aY ?_ | refine aN ?_ | refine aT fun h=>?_ | refine aF fun h=>?_ | refine ⟨fun h=>?_,fun h=>?_⟩ | refine aJ ?_ | refine ⟨_,rfl,?_⟩ | refine aD ?_ | fail
theorem JU (c:Con) (l:List Rn):(ofL c l).length=c.ns.length:=by unfold ofL B3;simp
theorem F9 (s:Sta) (hc:s.c.sm) (hr:s.run.length<=1048576):aA Tryz.prog 41 [s.av] [] (.ret (.bool (GA s))) []:=by
 have ho:=RH s.c hc s.run hr
 have hU:=JU s.c s.run
 have next:=N9 s hc (ofL s.c s.run) hU (fun i hi=>by
  have:=ND (c:=s.c) (l:=s.run) (n:=(i:Int)) ⟨by omega,by omega⟩
  rw [Br] at this
  exact this) _ (ofL s.c s.run).length 0 (by omega) rfl
 have e:((Fs 0 (ofL s.c s.run).length).all fun i:Nat=>dU (atV (ofL s.c s.run) (i:Int)) (sV s.c (i:Int)))=GA s:=by
  unfold GA
  rw [hU,Ft]
 rw [e] at next
 generalize GA s=q at next
 generalize ofL s.c s.run=U at ho next
 refine cT (E:=E) (fn:=Tryz.f41) (g:=.pure _) fun _=>?_
 refine dI hE 10 ?_;conv=>whnf
 refine To.cutC [1] 1 rfl rfl rfl rfl ?_
 refine N8 s ?_
 repeat' first | (refine gN hE ?_;conv=>whnf) | refine .pure _ [] ho ?_ | exact rfl | refine aY ?_ | refine aN ?_ | refine aT fun h=>?_ | refine aF fun h=>?_ | refine ⟨fun h=>?_,fun h=>?_⟩ | refine aJ ?_ | refine ⟨_,rfl,?_⟩ | refine aD ?_ | fail
 refine To.part [1,10,11,12] [] rfl rfl rfl ?_
 exact next
def sY (s:Sta):Prop:=(0<=s.now/\s.now<=1099511627776)/\(1<=s.nxt/\s.nxt<=1099511627776)/\s.hist.length=s.c.ns.length/\s.pend.length+s.run.length<=32
instance (s:Sta):Decidable (sY s):=by unfold sY;infer_instance
theorem CD (s:Sta) (e:Bool) (k:Int) (q g u:Bool) (b:Int)
  (he:aA Tryz.prog 37 [s.c.av] [] (.ret (.bool e)) [])
  (hk:aA Tryz.prog 38 [s.c.av] [] (.ret (ii k)) [])
  (hq:s.pend.length+s.run.length<=32->aA Tryz.prog 39 [.slice 11 (pnv s.pend) .no] [] (.ret (.bool q)) [])
  (hg:s.pend.length+s.run.length<=32->aA Tryz.prog 40 [s.av] [] (.ret (.bool g)) [])
  (hu:s.pend.length+s.run.length<=32->aA Tryz.prog 41 [s.av] [] (.ret (.bool u)) [])
  (hb:(if (((e||decide (k=0))&&decide (sY s))&&(q&&(g&&u)))=true then 0 else 1)=b):
  aA Tryz.prog 13 [s.av] [] (.ret (ii b)) []:=by
 have hlp:(pnv s.pend).length=s.pend.length:=by simp
 have hlr:(rav s.run).length=s.run.length:=by simp
 have hlh:(fv s.hist).length=s.hist.length:=by simp
 have hln:(nav s.c.ns).length=s.c.ns.length:=by simp
 refine cT (E:=E) (fn:=Tryz.f13) (g:=.pure _) fun _=>?_
 repeat' first | (refine gN hE ?_;conv=>whnf) | refine Fk (Ad (Ad (by simp only [cU,decide_eq_true_eq] at *;omega) (by simp only [bQ,decide_eq_true_eq] at *;omega)) ?_) | refine .pure _ [] he ?_ | refine .pure _ [] hk ?_ | refine .pure _ [] (hq (by simp only [decide_eq_true_eq,decide_eq_false_iff_not,Cg,Gf] at *;omega)) ?_ | refine .pure _ [] (hg (by simp only [decide_eq_true_eq,decide_eq_false_iff_not,Cg,Gf] at *;omega)) ?_ | refine .pure _ [] (hu (by simp only [decide_eq_true_eq,decide_eq_false_iff_not,Cg,Gf] at *;omega)) ?_ | exact rfl | refine aY ?_ | refine aN ?_ | refine aT fun h=>?_ | refine aF fun h=>?_ | refine ⟨fun h=>?_,fun h=>?_⟩ | refine aJ ?_ | refine ⟨_,rfl,?_⟩ | refine aD ?_ | fail
 all_goals
  subst hb
  refine congrArg (fun n=>Res.ret (AVal.int .i64 n)) ?_
  simp only [decide_eq_true_eq,decide_eq_false_iff_not,Cg,Gf,beq_iff_eq,beq_eq_false_iff_ne,ne_eq] at *
  first
  | (exfalso;omega)
  | (by_cases hL:sY s
     .rw [decide_eq_true hL]
      unfold sY at hL
      first
      | (exfalso;omega)
      | simp [*]
     .rw [decide_eq_false hL]
      first
      | (exfalso;unfold sY at hL;omega)
      | simp)
theorem oV (s:Sta) (hc:s.c.sm) (hs:Sm s.run):aA Tryz.prog 13 [s.av] [] (.ret (ii (if hJ s=true then 0 else 1))) []:=by
 refine CD s (iV s.c) (hO s.c) (UG s.pend) (gaB s [] [] (kT s)) (GA s) _ (LV s.c) (GF s.c hc) (fun h=>?_) (fun h=>K5 s hc (by omega) (by omega) hs) (fun h=>F9 s hc (by omega)) ?_
 .have:=Q2.check_ok (s.pend.map Pn.q) (by rw [Cv];omega)
  rw [RF] at this
  exact this
 .rw [TE]
  unfold hJ EY sY
  congr 1
  simp only [Hn]
end Go.Proofs.YtmalnhgopkfdaaaGreat
