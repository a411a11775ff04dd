/- Part 3 of what the statement rests on. -/
import Derived.Defers
import Derived.RangeFuncRecord
import Derived.ChangeKeysEq
import Derived.Lib.Overlaps
import Derived.WalkKit
import Derived.ProofKit
import Derived.OpenShut
import Derived.Recover
import Derived.Sort.Grow
import Derived.Test.YtenkdioaefckoaaGreatDoorWQ
set_option linter.all false
open List renaming length->Z
open Bool renaming true->O,false->S
open Option renaming some->X,none->U
open Array renaming getD_eq_getD_getElem?->Cm,getElem?_append_left->Gz,replicate->Gm
open Bool renaming and_eq_true->Af,false_eq_true->Cy,not_eq_true'->Db,or_eq_true->Fg
open Go.Instr renaming checkKey->Hv
open Go.Region renaming binds->Js,wanted->Gv
open Go.Result renaming andThen->Es,andThen_ok->Aq
open Go.Sem renaming run_bind->Bd,run_pure->Bu
open Go.Value renaming bool->Mz,int->Em,okWide->Jr,ownBlock->Ge
open Go.World renaming block_lt_of_cell?->Ct,cell?->Ku,cell?_of_block->Cs,freeze->Mk,frozen?->Ly,ownsRow_nil->Hh,putObj_heap_other->Gi,shape?->Jk
open List renaming append_nil->Ap,drop_drop->Ho,eq_nil_of_length_eq_zero->Bb,getD_eq_getElem?_getD->Ha,getElem?_append_left->Ai,getElem?_append_right->Ar,getElem?_eq_getElem->Ab,getElem?_eq_none->Bk,getElem?_eq_some_iff->Ad,getElem?_map->Bw,getElem?_of_mem->Cu,getElem?_set_ne->Bf,getElem?_set_self->Ay,getElem_mem->Av,length_map->Cb,length_pos_iff->Dp,map_cons->Bg,map_drop->Ia,map_map->Dx,map_take->Fw,mem_cons->Ba,mem_map->Co,mem_map_of_mem->Cn,mem_of_getElem?->Ax,prefix_refl->Cp,range'->Hw,replicate->Ak,size_toArray->Gg,take_append_drop->Bl,take_of_length_le->Bq
open Nat renaming add_comm->Md,add_mul->Cg,beq->Au,ble->Fv,blt->Fl,blt_eq->Ka,div_one->Ih,eq_zero_or_pos->Gy,le_of_ble_eq_true->Cj,le_refl->Bc,lor->Nf,mod_one->Ln,mul_le_mul_right->Br,one_mul->Ii,pow_le_pow_right->Ej,sub_zero->Jq,zero_add->Bv,zero_le->Bn
open Option renaming isSome_iff_exists->Da
namespace Go.AW
open Go.RowKit
open Classical
section
variable {P:Program} {M:Imm} {ob:Hs} {L ac:aw} {w:World} {a:Act}
def nG{g:Nat->aa}(e:∀t,Rep M ob (a.tmps.getD t undef) (g t)){u:Value}{v:aa}(f:Rep M ob u v){d:Option Nat}(i:∀c,d=X c->c<a.tmps.size):
  ∀t,Rep M ob ((a.put d u).tmps.getD t undef) (jZ g d v t):=by
 intro t;unfold jZ;cases d with
 |none=>rw[bt s_];exact e t
 |some d=>
  have b:=i d rfl;by_cases h:d=t
  .subst h;simp only[if_true,Act.put];rw[Cm,Array.getElem?_setIfInBounds_self_of_lt b];exact f
  .rw [bt (by grind)];simp only[Act.put];rw[Cm,Array.getElem?_setIfInBounds_ne h,<-Cm];exact e t
def dX(a:Act)(d:Option Nat)(u:Value):(a.put d u).tmps.size=a.tmps.size/\(a.put d u).defers=a.defers:=by cases d<;>simp[Act.put]
theorem GV{fr:au}(h:∀t,Rep M ob (a.tmps.getD t undef) (aX fr t))(x:Operand):Rep M ob (a.eval x) (ev fr x):=by
 cases x with
 |tmp t=>exact h t
 |const v=>exact uG v
 |global g=>exact .undef _
 |func f=>exact .func (.func f) [] [] [] [] rfl rfl (λi v a h=>by simp at h) (λi v a h=>by simp at h)
def aL8{tab:a6}{all:bf}{j:Nat}{g:Nat->aa}(h:∀t,Rep M ob (a.tmps.getD t undef) (g t))(x:Operand):Rep M ob (a.eval x) (evG tab all j g x):=by
 cases x with
 |tmp t=>
  simp only[evG];cases SF tab j t 0 all with
  |true=>exact .undef _
  |false=>exact h t
 |const v=>exact uG v
 |global g=>exact .undef _
 |func f=>exact .func (.func f) [] [] [] [] rfl rfl (λi v a h=>by simp at h) (λi v a h=>by simp at h)
def G(rd:Option Nat)(P:Program)(ops:Array Oper)(p:Oper)(a:Act)(w:World)(next:Act->World->Prop)(Q:Exit->Act->World->Prop):Prop:=
 if Gv p (yielded ops a.tmps)then p.wpIn (fen rd) 0 P a w next Q else next (a.put p.dst undef) w
def dT{ops:Array Oper}{p:Oper}{ρ:Operand->aa}(s:∀x,Rep M ob (a.eval x) (ρ x)){b:Bool}
  (h:cF ops.toList ρ p.guard=X b):Gv p (yielded ops a.tmps)=b:=by
 unfold cF at h;unfold Gv;cases t:p.guard with
 |none=>simp_all
 |some o=>
  obtain⟨j,l⟩:=o;rw[t]at h;dsimp only at h⊢;split at h
  .rename_i q v;have f:ops[j]? =X q:=by simpa using lD v
   split at h
   .rename_i d n;have e:=s (.tmp d);have k:∀u,a.tmps.getD d undef=u->yielded ops a.tmps j=match u with | .bool b=>X b|_=>none:=by
     intro u c;unfold yielded;rw[f];simp only[Option.bind_some,n];rw[Cm]at c;cases m:a.tmps[d]? with
     |none=>rw[m]at c;simp at c;subst c;rfl
     |some x=>rw[m]at c;simp at c;subst c;cases x<;>rfl
    split at h
    .rename_i r i;rw[i]at e;have g:a.tmps.getD d undef= .bool r:=e.bool_inv;rw[k _ g];cases h;simp
    .rename_i i;rw[i]at e;obtain⟨us,c,hl,_⟩:=e.tup_inv;have g:a.tmps.getD d undef= .tuple us.toArray:=c;rw[k _ g];cases h;simp
    .cases h
   .cases h
  .cases h
def pP:Rep M ob undef (.tup []):=.tup [] [] rfl λi v a h=>by simp at h
def B7:∀{L ac:aw},aC L=aC ac->Z L<=Z ac->ac=L++Ak (Z ac-Z L) .dead:=λ{L ac} hg hl=>by
 refine List.ext_getElem? λk=>?_;by_cases b:k<Z L
 .rw [Ai b,pY b,pY (show k<Z ac by omega),hg]
 .rw [Ar o_,List.getElem?_replicate];by_cases a:k<Z ac
  .rw [bu o_,pY a,<-hg];rcases fO L k with⟨h1,_⟩|⟨_,_,e⟩
   .omega
   .rw [e]
  simp_all
def Mem.norm(h:Mem M ob L w)(d:aC L=aC ac)(l:∀(k:Nat),Z ac<=k->∀hs,ob[k]? =X hs->hs=[]):
  ∃ob',Mem M ob' ac w/\(∀(k g:Nat) v,at' ob k g=X v->at' ob' k g=X v)/\∀{M0:Imm} {ob0:Hs} {aq:aw} {w0:World},Ext M0 ob0 aq w0 M ob L w->Z ob0<=Z ac->Ext M0 ob0 aq w0 M ob' ac w:=by
 by_cases hl:Z L<=Z ac
 .have e:=B7 d hl;obtain⟨c,b,_⟩:=h.extend (Z ac-Z L);rw[<-e]at c b;exact⟨_,c,λk g v m=>b.hs.at m,λa _=>a.trans b⟩
 .have e:=B7 d.symm o_;rw[e]at h;obtain⟨f,p,n⟩:=h.shrink λi hs j=>l i j hs;exact⟨_,f,p,λa o=>n (e▸a) o⟩
theorem mX{K d Kp:aa->aw->Prop}(a:∀v o,K v o->d v o):∀{r:OR},orF P ac K Kp r->orF P ac d Kp r
 |.no,k=>k.elim
 |.val v,k=>a _ _ k
 |.mkf fn fs cs,k=>a _ _ k
 |.need p r,k=>⟨k.1,mX a k.2⟩
 |.alt p v w,k=>k.imp (λh=>⟨h.1,a _ _ h.2⟩) (a _ _)
 |.idx n f,⟨i,hi,k⟩=>⟨i,hi,mX a k⟩
 |.elem xs i f,⟨x,hx,k⟩=>⟨x,hx,mX a k⟩
 |.byte l i,⟨c,hc,k⟩=>⟨c,hc,a _ _ k⟩
 |.text xs,⟨l,hl,hm,k⟩=>⟨l,hl,hm,a _ _ k⟩
 |.find es key f,⟨o,ho,k⟩=>⟨o,ho,mX a k⟩
 |.born x v,k=>a _ _ k
 |.upd i x v,k=>a _ _ k
 |.nilq xs neg,k=>λb e=>a _ _ (k b e)
 |.call f args,k=>CallG.mono a k
 |.pan v,k=>k
def vC{e:aw}{base:Nat}{K Kp:aa->aw->Prop}(g:base=aS ac)(hs:e=ac):∀{r:OR},orD P O O S e ac base K Kp r->orF P ac K Kp r
 |.no,k=>k.elim
 |.val v,k=>k
 |.mkf fn fs cs,k=>k
 |.need p r,k=>⟨k.1,vC g hs k.2⟩
 |.alt p v w,k=>k
 |.idx n f,⟨i,hi,k⟩=>⟨i,hi,vC g hs k⟩
 |.elem xs i f,⟨x,hx,k⟩=>⟨x,hx,vC g hs k⟩
 |.byte l i,k=>k
 |.text xs,k=>k
 |.find es key f,⟨o,ho,k⟩=>⟨o,ho,vC g hs k⟩
 |.born x v,k=>by rw[g]at k;exact k
 |.upd i x v,k=>k
 |.nilq xs neg,k=>k
 |.call f args,k=>by
  have k:CallD P f args O e base ac K Kp:=k;cases k with
  |pure r new h k=>subst g hs;exact .eff [] [] r new rfl h k
  |sole _ h=>exact h
  |look ks r o a l b c d q=>subst g hs;exact .eff [] ks r o a b (by show K (embV ks _ e 5 r) (iD ks _ e 0 o e);rw[c,d];exact q)
 |.pan v,k=>k
end
section
variable {rd:Option Nat} {M0:Imm} {ob0:Hs} {aq:aw} {w0:World} {sz:Nat} {dfs:List (Nat×az)} {E:Env} {ops:Array Oper} {Q:Exit->Act->World->Prop} {K:au->aw->Prop} {Kp:(Nat->aa)->aa->aw->Prop}
def HW(M:Imm)(ob:Hs)(a:List Deferred)(dfs:List (Nat×az)):Prop:=
 Z a=Z dfs/\∀(i:Nat) d x,a[i]? =X d->dfs[i]? =X x->d.target= .fn (.func x.1) #[]/\cL M ob d.args.toList x.2
def HW.nil{M:Imm}{ob:Hs}:HW M ob [] []:=⟨rfl,λi d x h=>by simp at h⟩
def HW.nil_inv{M:Imm}{ob:Hs}{a:List Deferred}(h:HW M ob a []):a=[]:=Bb h.1
def HW.mono{M M':Imm}{ob ob':Hs}{f:List Deferred}{dfs:List (Nat×az)}(l:∀b o x,M b o x->M' b o x)(g:dH ob ob')(h:HW M ob f dfs):HW M' ob' f dfs:=
 ⟨h.1,λi d x c e=>⟨(h.2 i d x c e).1,(h.2 i d x c e).2.1,λj v a k m=>((h.2 i d x c e).2.2 j v a k m).mono l g⟩⟩
def HW.monoA{M:Imm}{ob ob':Hs}{e:List Deferred}{dfs:List (Nat×az)}(f:∀(k g:Nat) v,at' ob k g=X v->at' ob' k g=X v)(h:HW M ob e dfs):HW M ob' e dfs:=
 ⟨h.1,λi d x b c=>⟨(h.2 i d x b c).1,(h.2 i d x b c).2.1,λj v a l m=>((h.2 i d x b c).2.2 j v a l m).monoA f⟩⟩
def Mks(w0 w:World):List Deferred->Prop
 |[]=>True
 |d::ds=>(∃b,d.target= .collected b/\w0.heap.size<=b/\w.heap[b]? =X (.deferred (X []))/\∀a∈ds,a.target≠ .collected b)/\Mks w0 w ds
def Mks.same{w0 w w':World}:∀{a:List Deferred},(∀d∈a,∀b,d.target= .collected b->w.heap[b]? =X (.deferred (X []))->w'.heap[b]? =X (.deferred (X [])))->Mks w0 w a->Mks w0 w' a
 |[],_,_=>trivial
 |d::a,hb,⟨⟨b,h1,h2,h3,h4⟩,h5⟩=>⟨⟨b,h1,h2,hb d s_ b h1 h3,h4⟩,Mks.same (λd c=>hb d (by simp[c])) h5⟩
def dD(w0 w:World)(M:Imm)(ob:Hs)(c:List Deferred)(dfs:List (Nat×az)):Prop:=∃a b,c=a++b/\HW M ob a dfs/\Mks w0 w b
def Mem.alive_heap{M:Imm}{ob:Hs}{ac:aw}{w:World}(hm:Mem M ob ac w){k b:Nat}(r:aK ob ac k b):∃o,w.heap[b]? =X o/\F5 o=false:=by
 obtain⟨c,hs,t,i,q,f⟩:=r;obtain⟨hs',j,a⟩:=hm.obj k c t;rw[q]at j;cases j;have row:∀{v:Value} {n sz:Nat} {e:TypeId} {cv:bb},w.ownsRow 0 e sz v n cv->blk hs=v.ownBlock.toList->∃o,w.heap[b]? =X o/\F5 o=false:=λ{v n sz e cv} ho hb=>by
  have h:=yW hb f;rcases ho.2 with⟨rfl,_⟩|⟨g,cap,s,l,_,p,_⟩
  .cases h
  .rw [l]at h;cases h;exact⟨_,p,rfl⟩
 cases c with
 |dead=>cases i
 |fcells cs=>cases i
 |frow g sz xs=>cases i
 |cells T cs=>
  obtain⟨m,rfl,_,cv,d,_⟩:=a;have:=eM.1 f;subst this;exact⟨_,d,rfl⟩
 |row g sz e xs=>
  obtain⟨h1,v,d,cv,h3,_⟩:=a;exact row h3 ((eT h1 d).trans (fM h3))
 |tail g sz e=>
  obtain⟨h1,v,d,n,cv,h3,_⟩:=a;exact row h3 ((eT h1 d).trans (fM h3))
 |mp x es=>
  obtain⟨m,rfl,_,u,cl,d,_⟩:=a;have:=eM.1 f;subst this;exact⟨_,d,rfl⟩
 |bun g I=>
  obtain⟨h1,bs,d,h3,_⟩:=a
  grind[D0,eT]
def dD.nil{w0 w:World}{M:Imm}{ob:Hs}:dD w0 w M ob [] []:=⟨[],[],rfl,.nil,trivial⟩
def dD.marks{w0 w:World}{M:Imm}{ob:Hs}{a:List Deferred}(h:dD w0 w M ob a []):Mks w0 w a:=by obtain⟨c,d,rfl,h1,b⟩:=h;rw[h1.nil_inv];exact b
def dD.bare{w0 w:World}{M M':Imm}{ob ob':Hs}{a:List Deferred}(h:dD w0 w M ob a []):dD w0 w M' ob' a []:=⟨[],a,rfl,.nil,h.marks⟩
def dD.mono{w0 w:World}{M M':Imm}{ob ob':Hs}{a:List Deferred}{dfs:List (Nat×az)}(d:∀b o x,M b o x->M' b o x)(c:dH ob ob')(h:dD w0 w M ob a dfs):dD w0 w M' ob' a dfs:=
 let⟨d1,d2,e,h1,h2⟩:=h;⟨d1,d2,e,h1.mono d c,h2⟩
def dD.monoA{w0 w:World}{M:Imm}{ob ob':Hs}{a:List Deferred}{dfs:List (Nat×az)}(b:∀(k g:Nat) v,at' ob k g=X v->at' ob' k g=X v)(h:dD w0 w M ob a dfs):dD w0 w M ob' a dfs:=
 let⟨d1,d2,e,h1,h2⟩:=h;⟨d1,d2,e,h1.monoA b,h2⟩
def dD.put{w0 w:World}{M:Imm}{ob:Hs}{a:Act}{d:Option Nat}{u:Value}{dfs:List (Nat×az)}(h:dD w0 w M ob a.defers dfs):dD w0 w M ob (a.put d u).defers dfs:=by rw[(dX a d u).2];exact h
def dD.same{w0 w w':World}{M:Imm}{ob:Hs}{a:List Deferred}{dfs:List (Nat×az)}(c:w'.heap=w.heap)(h:dD w0 w M ob a dfs):dD w0 w' M ob a dfs:=
 let⟨d1,d2,e,h1,h2⟩:=h;⟨d1,d2,e,h1,h2.same λd _ b _ h=>by grind⟩
def dD.ext{w0 w w':World}{M M':Imm}{ob ob':Hs}{ac ap:aw}{f:List Deferred}{dfs:List (Nat×az)}(h:dD w0 w M ob f dfs)(hm:Mem M ob ac w)(a:Ext M ob ac w M' ob' ap w'):dD w0 w' M' ob' f dfs:=
 let⟨d1,d2,e,h1,h2⟩:=h
 ⟨d1,d2,e,h1.mono a.imm a.hs,h2.same λd _ b _ h=>by
  rw[a.keep b (gD h) λk i=>by
   obtain⟨o,c,g⟩:=hm.alive_heap i;rw[h]at c;cases c
   cases g]
  exact h⟩
def SS(M0:Imm)(ob0:Hs)(aq:aw)(w0:World)(sz:Nat)(dfs:List (Nat×az))(fr:au)(ac:aw)(a:Act)(w:World):Prop:=
 ∃M ob,Ext M0 ob0 aq w0 M ob ac w/\Mem M ob ac w/\(∀t,Rep M ob (a.tmps.getD t undef) (aX fr t))/\a.tmps.size=sz/\dD w0 w M ob a.defers dfs/\Z ob0<=Z ac
def PP(M0:Imm)(ob0:Hs)(aq:aw)(w0:World)(sz:Nat)(dfs:List (Nat×az))(c:Nat->aa)(v:aa)(ac:aw)(b:List PanicEntry)(a:Act)(w:World):Prop:=
 ∃M ob,Ext M0 ob0 aq w0 M ob ac w/\Mem M ob ac w/\uN M ob (.panicked b) (.pan v)/\(∀t,Rep M ob (a.tmps.getD t undef) (c t))/\a.tmps.size=sz/\dD w0 w M ob a.defers dfs/\Z ob0<=Z ac
def Ext.lens{M M':Imm}{ob ob':Hs}{L L':aw}{w w':World}(a:Ext M ob L w M' ob' L' w'):Z ob<=Z ob':=by
 rcases Gy (Z ob)with h|h
 .omega
 .obtain ⟨hs',e,_⟩:=a.hs (Z ob-1) _ (Ab o_)
  grind
def oJ{P:Program}{hint base:Nat}{ac:aw}{ρ:Operand->aa}{op:Op}{ty:TypeId}{K Kp:aa->aw->Prop}(h:orF P ac K Kp (eop E hint base (aC ac) ρ op ty)):∀c,op≠ .defer c:=by intro c e;subst e;exact h.elim
def PR(hE:ae E){fr:au}{ac:aw}{a:Act}{w:World}(hs:SS M0 ob0 aq w0 sz dfs fr ac a w){p:Oper}(y:∀d,p.dst=X d->d<sz){hint:Nat}
  (h:match cF ops.toList (ev fr) p.guard with
   |none=>False
   |some false=>K (lC fr p.dst (.tup [])) ac
   |some true=>orF E.P ac (λv ac=>K (lC fr p.dst v) ac) (Kp (aX fr)) (eop E hint (aS ac) (aC ac) (ev fr) p.op p.type))
  (hp:∀v ac k w,Kp (aX fr) v ac->PP M0 ob0 aq w0 sz dfs (aX fr) v ac k a w->Q (.panic k) a w):
  G rd E.P ops p a w (λa w=>∃fr ac,K fr ac/\SS M0 ob0 aq w0 sz dfs fr ac a w) Q:=by
 obtain⟨M,ob,o,hm,m,f,i,C⟩:=hs;have l:=GV m;have hl:=hm.len;unfold G;cases z:cF ops.toList (ev fr) p.guard with
 |none=>simp_all
 |some b=>
  rw[z]at h;rw[dT l z];cases b with
  |false=>
   rw[bt s_];refine⟨_,ac,h,M,ob,o,hm,?_,(dX _ _ _).1.trans f,i.put,C⟩;rw[fH];exact nG m pP λr e=>f▸y r e
  |true=>
   rw[bu rfl];have s:∀c,p.op≠ .defer c:=oJ h;refine(DG hE hm l h).wpIn s (λu w' ⟨M',ob',L',g,j,x⟩=>?_) (λk w' ⟨M',ob',L',g,j,x⟩=>?_)
   .rcases x with⟨B,v,e,n,q⟩|⟨k,v,e,_⟩
    .cases e;have:=g.lens;have:=j.len;refine⟨_,L',q,M',ob',o.trans g,j,?_,(dX _ _ _).1.trans f,(i.ext hm g).put,by omega⟩;rw[fH];exact nG (λt=>(m t).mono g.imm g.hs) n λr e=>f▸y r e
    .cases e
   .rcases x with⟨B,v,e,_⟩|⟨A,v,e,n,q⟩
    .cases e
    .cases e;have:=g.lens;have:=j.len;exact hp v L' k w' q ⟨M',ob',o.trans g,j,n,λt=>(m t).mono g.imm g.hs,f,i.ext hm g,by omega⟩
def wk{l:bf}{p:Oper}{a:Act}{w:World}{next:Act->World->Prop}(b:G rd E.P ops p a w next Q)(d:∀a w,next a w->wpListIn (fen rd) 0 E.P ops Q l a w):wpListIn (fen rd) 0 E.P ops Q (p::l) a w:=by
 unfold wpListIn;unfold G at b;split
 .rename_i c;rw[bu c]at b;exact Oper.wpIn_mono d b
 .rename_i c;rw[bt c]at b;exact⟨λ_ _=>trivial,d _ _ b⟩
def oL(hE:ae E)(hp:∀g v ac b a w,Kp g v ac->PP M0 ob0 aq w0 sz dfs g v ac b a w->Q (.panic b) a w)(i:∀fr ac a w,K fr ac->SS M0 ob0 aq w0 sz dfs fr ac a w->Q .normal a w):
  ∀(l:bf) (n:Nat) (fr:au) (ac:aw) (a:Act) (w:World),(∀p∈l,∀d,p.dst=X d->d<sz)->fL E ops.toList K Kp n l fr ac->SS M0 ob0 aq w0 sz dfs fr ac a w->wpListIn (fen rd) 0 E.P ops Q l a w
 |[],n,fr,ac,a,w,_,h,hs=>i fr ac a w h hs
 |p::l,n,fr,ac,a,w,hd,h,hs=>by
  refine wk (PR (K:=λfr ac=>fL E ops.toList K Kp (n+1) l fr ac) (Kp:=Kp) (hint:=gK E p.dst) hE hs (hd p s_) ?_ λv ac b w c f=>hp (aX fr) v ac b a w c f) λj w' ⟨e,ap,c,hs'⟩=>oL hE hp i l (n+1) e ap j w' (λp hp=>hd p (by simp[hp])) c hs';simp only[fL]at h
  grind[mX,xU]
end
section
variable {rd:Option Nat} {M0:Imm} {ob0:Hs} {aq:aw} {w0:World} {sz:Nat} {dfs:List (Nat×az)} {E:Env} {ops:Array Oper} {Q:Exit->Act->World->Prop} {K:AS->Prop} {Kp:(Nat->aa)->aa->aw->Prop} {L0:Nat} {tab:a6}
def H1{P:Program}{og b:Nat->ab}{hint base a:Nat}{ρ:Operand->aa}{op:Op}{ty:TypeId}{z:aa}{bs:aw}(h:iA P b a z bs (eop E hint base og ρ op ty)):∀c,op≠ .defer c:=by intro c e;subst e;exact h.elim
def MT{og:Nat->ab}{hint base k:Nat}{ρ:Operand->aa}{op:Op}{ty:TypeId}{z:aa}{x:ab}(h:MU z k x (eop E hint base og ρ op ty)):∀c,op≠ .defer c:=by intro c e;subst e;exact h.elim
def DS(M0:Imm)(ob0:Hs)(aq:aw)(w0:World)(sz:Nat)(dfs:List (Nat×az))(L0:Nat)(s:AS)(a:Act)(w:World):Prop:=
 ∃M ob L,Ext M0 ob0 aq w0 M ob L w/\Mem M ob L w/\aC L=s.o/\(∀t,Rep M ob (a.tmps.getD t undef) (s.g t))/\a.tmps.size=sz/\dD w0 w M ob a.defers dfs/\Z ob0<=L0/\
  ∀(k:Nat),L0<=k->(∀i,¬ s.br i k)->∀hs,ob[k]? =X hs->hs=[]
def aMx(hE:ae E)(hd:∀(i:Nat) p,ops[i]? =X p->∀d,p.dst=X d->d<sz)(hp:∀g v ac B a w,Kp g v ac->PP M0 ob0 aq w0 sz dfs g v ac B a w->Q (.panic B) a w)
  {s:AS} {a:Act} {w:World} (hs:DS M0 ob0 aq w0 sz dfs L0 s a w) {i:Nat} (h:aOp E ops tab L0 Kp i K s):wpOpIn (fen rd) 0 E.P ops Q i (λa w=>∃s',K s'/\DS M0 ob0 aq w0 sz dfs L0 s' a w) a w:=by
 obtain⟨p,hi,h⟩:=h;have y:=hd i p hi
 suffices hg:G rd E.P ops p a w (λa w=>∃s',K s'/\DS M0 ob0 aq w0 sz dfs L0 s' a w) Q by
  unfold wpOpIn;rw[hi];dsimp only;unfold G at hg;split
  .rename_i n;rw[bu n]at hg;exact hg
  .rename_i n;rw[bt n]at hg;exact⟨λ_ _=>trivial,hg⟩
 obtain⟨M,ob,L,Be,hm,H,F,j,q,W,b⟩:=hs;have l:∀x,Rep M ob (a.eval x) (evG tab ops.toList i s.g x):=aL8 F;have skip:∀{base:Nat},K (s.upd i p.dst (.tup []) base [])->Gv p (yielded ops a.tmps)=S->G rd E.P ops p a w (λa w=>∃s',K s'/\DS M0 ob0 aq w0 sz dfs L0 s' a w) Q:=λ{base} m n=>by unfold G;rw[bt (by rw[n];simp)];refine⟨_,m,?_⟩;rw[DC];exact⟨M,ob,L,Be,hm,H,nG F pP λA e=>j▸y A e,(dX _ _ _).1.trans j,q.put,W,b⟩
 rcases h with⟨_,z,base,bs,⟨C,_,An⟩,Am,m⟩|⟨_,z,base,k,x,⟨⟨C,hbr⟩,n,At,c⟩,m⟩|⟨_,ac,hoo,hl0,hall,hlt,An⟩
 .rcases An with⟨n,rfl,rfl⟩|⟨n,c⟩
  .exact skip m (dT l n)
  .unfold G;rw[dT l n,bu rfl];obtain⟨hid,o⟩:∃hid,aC (cQ hid L)=mS E tab i p.dst s:=by
    cases hbl:blD E p.dst with
    |true=>exact⟨λ_=>True,by rw[gH];unfold mS;rw[bu hbl];simp⟩
    |false=>exact⟨W7 tab i s.br,by rw[gH,H];unfold mS;rw[bt q_];rfl⟩
   rw[<-o]at c;refine(aQl hE hm l (λk m=>b k (Nat.le_trans C m.1) (Am k m)) c).wpIn (H1 c) (λu w' ⟨M',ob',L',I,e,f,r,D,x4,x5,x6⟩=>?_) (λB w' ⟨M',ob',L',I,e,_⟩=>by cases e);cases e;refine⟨_,m,M',ob',L',Be.trans f,r,?_,nG (λt=>(F t).mono f.imm f.hs) x5 λA e=>j▸y A e,(dX _ _ _).1.trans j,(q.ext hm f).put,W,λk h1 As hs V=>?_⟩
   .rw [D,H];rfl
   .have J:¬ inB base (Z bs) k:=λh=>As i (.inr ⟨rfl,h⟩);exact x6 k J (b k h1 λi' C=>As i' (.inl C)) hs V
 .unfold G;rw[dT l n,bu rfl];have o:aC (cQ (W7 tab i s.br) L)=pM tab i s:=by rw[gH,H];rfl
  rw[<-o]at c At;refine(aMy hE hm l (b base C hbr) At c).wpIn (MT c) (λu w' ⟨M',ob',L',I,e,f,r,D,x4,x5,x6⟩=>?_) (λB w' ⟨M',ob',L',I,e,_⟩=>by cases e);cases e;refine⟨_,m,M',ob',L',Be.trans f,r,?_,nG (λt=>(F t).mono f.imm f.hs) x5 λA e=>j▸y A e,(dX _ _ _).1.trans j,(q.ext hm f).put,W,λk' h1 As hs V=>x6 k' (b k' h1 As) hs V⟩;rw[D,H];rfl
 .rcases An with⟨n,m⟩|⟨n,N⟩
  .exact skip m (dT l n)
  .unfold G;rw[dT l n,bu rfl];have hof:=bX ac;obtain⟨ob1,n1,n2,n3⟩:=hm.norm (ac:=ac) (H.trans hoo.symm) λk m=>b k o_ λi C=>by have:=hlt i k C;omega
   have R:∀x,Rep M ob1 (a.eval x) (evG tab ops.toList i s.g x):=λx=>(l x).monoA n2;have T:=n3 Be o_;refine(DG hE n1 R (vC rfl rfl N)).wpIn (oJ (vC rfl rfl N)) (λu w' ⟨M',ob',L',f,r,D⟩=>?_) (λB w' ⟨M',ob',L',f,r,D⟩=>?_)
   .rcases D with⟨I,v,e,Y,m⟩|⟨B,v,e,_⟩
    .cases e;have l1:=f.lens;have l2:=r.len;have l3:=n1.len;have hle:aS ac<=aS L':=by rw[bX,bX];omega
     refine⟨_,m hle,M',ob',L',T.trans f,r,rfl,nG (λt=>((F t).monoA n2).mono f.imm f.hs) Y λA e=>j▸y A e,(dX _ _ _).1.trans j,((q.monoA n2).ext n1 f).put,W,λk h1 As hs V=>?_⟩
     grind[bX,Ad]
    .cases e
   .rcases D with⟨I,v,e,_⟩|⟨ch',v,e,Y,m⟩
    .cases e
    .cases e;have l1:=f.lens;have l2:=r.len;have l3:=n1.len;exact hp _ v L' B a w' m ⟨M',ob',T.trans f,r,Y,λt=>((F t).monoA n2).mono f.imm f.hs,j,(q.monoA n2).ext n1 f,by omega⟩
def qP(hE:ae E)(k:∀(i:Nat) p,ops[i]? =X p->∀d,p.dst=X d->d<sz)(hp:∀g v ac n a w,Kp g v ac->PP M0 ob0 aq w0 sz dfs g v ac n a w->Q (.panic n) a w){m:AS->Prop}
  (j:∀s a w,m s->DS M0 ob0 aq w0 sz dfs L0 s a w->Q .normal a w):
  ∀(b:Nat) (c:Array Bool) (s:AS) (a:Act) (w:World),wpA E ops tab L0 Kp m b c s->DS M0 ob0 aq w0 sz dfs L0 s a w->wpAnyIn (fen rd) 0 E.P .any ops Q b c a w
 |0,_,_,_,_,h,hs=>⟨h.1,j _ _ _ h.2 hs⟩
 |b+1,_,_,_,_,h,hs=>⟨λt=>j _ _ _ (h.1 t) hs,λi r=>by
   have:=aMx (rd:=rd) (K:=wpA E ops tab L0 Kp m b _) hE k hp hs (h.2 i r);unfold wpOpIn at this⊢;cases q:ops[i]? with
   |none=>rw[q]at this;obtain⟨s',f,e⟩:=this;exact qP hE k hp j b _ s' _ _ f e
   |some o=>
    rw[q]at this;dsimp only at this⊢;split
    .rename_i l;rw[bu l]at this;exact Oper.wpIn_mono (λa w ⟨s',f,e⟩=>qP hE k hp j b _ s' a w f e) this
    .rename_i l;rw[bt l]at this;obtain⟨_,s',f,e⟩:=this
     exact⟨λ_ _=>trivial,qP hE k hp j b _ s' _ _ f e⟩⟩
def DS.of{fr:au}{ac:aw}{a:Act}{w:World}(h:SS M0 ob0 aq w0 sz dfs fr ac a w):DS M0 ob0 aq w0 sz dfs (Z ac) (kK fr ac []) a w:=by
 obtain⟨M,ob,e,hm,d,c,b,g⟩:=h
 exact⟨M,ob,ac,e,hm,rfl,d,c,b,g,λk i _ hs f=>by
  have:=(Ad.1 f).1;rw[hm.len]at this
  omega⟩
def DS.back{fr:au}{ac:aw}{br:List (Nat×Nat)}{n:Nat}{a:Act}{w:World}(f:LI L0 n ac br)(h:DS M0 ob0 aq w0 sz dfs L0 (kK fr ac br) a w):SS M0 ob0 aq w0 sz dfs fr ac a w:=by
 obtain⟨M,ob,L,j,hm,l,m,d,c,s,b⟩:=h;have p:=bX ac;have g:=f.low;obtain⟨e,n1,n2,q⟩:=hm.norm (ac:=ac) l λk r=>b k o_ λi o=>by have:=(f.lt i k o).1;omega
 exact⟨M,e,q j o_,n1,λt=>(m t).monoA n2,d,c.monoA n2,by omega⟩
def SS.draw{fr:au}{ac:aw}{a:Act}{w:World}(h:SS M0 ob0 aq w0 sz dfs fr ac a w):SS M0 ob0 aq w0 sz dfs fr ac a {w with drawn:=w.drawn+1}:=by obtain⟨M,ob,b,hm,e,d,c,f⟩:=h;exact⟨M,ob,⟨b.imm,b.new,b.hs,b.os,b.tape,b.output,b.size,b.keep,b.fresh⟩,hm.same (Bc _) λ_ _=>rfl,e,d,dD.same (w:=w) rfl c,f⟩
def VV(hE:ae E){id:Nat}(y:TabSp ops tab)(r:∀(i:Nat) p,ops[i]? =X p->∀d,p.dst=X d->d<sz){Kq:au->aw->Prop}
  (hp:∀g v ac q a w,Kp g v ac->PP M0 ob0 aq w0 sz dfs g v ac q a w->Q (.panic q) a w) (A:∀fr ac a w,Kq fr ac->SS M0 ob0 aq w0 sz dfs fr ac a w->Q .normal a w)
  {fr:au} {ac:aw} {a:Act} {w:World} (hs:SS M0 ob0 aq w0 sz dfs fr ac a w) (h:jM E ops.toList tab Kq Kp 0 ops.toList [] fr ac):(Code.region id ops O).wpIn (fen rd) 0 E.P Q a w:=by
 refine wpIn_region_any hE.mix ?_;have b:∀j,j<ops.size->(Gm ops.size S)[j]? =X (decide (j<0)):=by intro j u;simp[u]
 have f:(Gm ops.size S).size=ops.size:=by simp
 have c:Z ops.toList=ops.size:=by simp
 have t:LI (Z ac) 0 ac []:=⟨by rw[bX];omega,λk h1 x=>by rw[bX]at x;omega,λi k l=>by simp at l⟩
 have:=aLh y ops.toList 0 _ [] fr ac rfl b f t h;rw[c]at this;exact qP hE r hp (λs a w ⟨m,ap,z,B,e,n,l⟩ o=>A m ap a w l (DS.back n (e▸o))) _ _ _ _ _ this (DS.of hs.draw)
end
def KI.item:KI->Item
 |.code c=>.code c
 |.inB id=>.inBlock id
 |.inL c=>.inLoop c
 |.beginR=>.beginRound
def iJ(ks:bg):List Item:=ks.map KI.item
def aHw(rd:Option Nat)(n:Nat):(fen rd).room n:=λd h=>by cases h
def kC(P:Program)(rd:Option Nat)(m:Machine):m.fenced P (fen rd):=fenced_wide P m
def KW(rd:Option Nat)(P:Program)(Q:Exit->Act->World->Prop)(ks:bg)(a:Act)(w:World):Prop:=
 ∀(b:Frame) (cs:List Frame),b.roundOf=rd->∃e c w',Q e c w'/\ArrivesIn (Machine.fenced P (fen rd)) P (lone (b.atR a (iJ ks)) cs w) b [] cs e c w'
section
variable {rd:Option Nat} {P:Program} {Q:Exit->Act->World->Prop} {ks ks':bg} {a:Act} {w:World}
def KW.nil(h:Q .normal a w):KW rd P Q [] a w:=λ_ _ _=>⟨.normal,a,w,h,.refl _⟩
def KW.step(hs:∀(b:Frame) cs,Go.step P (lone (b.atR a (iJ ks)) cs w)= .next (lone (b.atR a (iJ ks')) cs w))(h:KW rd P Q ks' a w):KW rd P Q ks a w:=
 λb cs c=>let⟨e,a',w',q,r⟩:=h b cs c;⟨e,a',w',q,.of_steps (.one (kC _ _ _) (hs b cs)) r⟩
def KW.ret(h:Q .ret a w):KW rd P Q (.code .ret::ks) a w:=λb _ _=>⟨.ret,a,w,h,λc=>⟨_,.one (kC _ _ _) (stepR_ret c)⟩,λ_=>⟨iJ ks,.refl _⟩⟩
def KW.code{c:Code}{Q':Exit->Act->World->Prop}(h:c.wpIn (fen rd) 0 P Q' a w)(h1:∀a w,Q' .normal a w->KW rd P Q ks a w)(k:∀d a w,Q' (.panic d) a w->Q (.panic d) a w)
  (h3:∀e a w,Q' e a w->e= .normal\/∃d,e= .panic d):KW rd P Q (.code c::ks) a w:=by
 intro b cs g;obtain⟨e,f,w',q,r⟩:=h b (iJ ks) cs g trivial (aHw _ _);rcases h3 e f w' q with rfl|⟨d,rfl⟩
 .obtain ⟨m,n,i,l,j⟩:=h1 f w' q b cs g;exact⟨m,n,i,l,.of_steps r j⟩
 .exact ⟨.panic d,f,w',k d f w' q,r⟩
def KW.arrives(h:KW U P Q ks a w)(b:Frame)(cs:List Frame)(d:b.roundOf=U):∃e c w',Q e c w'/\Arrives P (lone (b.at a (iJ ks)) cs w) b [] cs e c w':=by obtain⟨e,c,w',q,r⟩:=h b cs d;rw[Frame.atR_of_none d]at r;exact⟨e,c,w',q,(arrivesIn_iff (I:=Machine.fenced P Fence.wide) (λ_ _=>stepsIn_wide) d).1 r⟩
def nL{id:Nat}:∀(ks ks':bg),GU id ks=X ks'->exitTo id (iJ ks)=X (iJ ks')
 |[],ks',h=>by cases h
 |.inB i::r,ks',h=>by
  simp only[GU]at h;simp only[iJ,Bg,KI.item,exitTo];cases b:Au i id with
  |true=>
   simp_all
  |false=>
   rw[b]at h;have a:¬ (i==id)=true:=λe=>by simp_all
   rw[bt a];exact nL r ks' h
 |.code c::r,ks',h=>nL r ks' h
 |.inL c::r,ks',h=>nL r ks' h
 |.beginR::r,ks',h=>nL r ks' h
end
def N9:Nat->bf->Bool
 |_,[]=>O
 |n,p::r=>(iR p).all (λi=>Fl i n)&&N9 (n+1) r
def TG(tab:a6)(i:Nat)(d:Nat):Nat->bf->Bool
 |_,[]=>O
 |j,q::r=>(match q.dst with|some e=>!Au e d|| !loose tab i j|none=>O)&&TG tab i d (j+1) r
def aMu(tab:a6)(all:bf):Nat->bf->Bool
 |_,[]=>O
 |i,p::r=>(match p.dst with|some d=>TG tab i d 0 all|none=>O)&&aMu tab all (i+1) r
def QB(ops:Array Oper):Bool:=N9 0 ops.toList&&aMu (jU [] ops.toList) ops.toList 0 ops.toList
def aNR(sz:Nat)(l:bf):Bool:=l.all λp=>match p.dst with|some d=>Fl d sz|none=>O
def dR(sz:Nat):Code->Bool
 |.region _ ops dr=>aNR sz ops.toList&&(!dr||QB ops)
 |.seq a b=>dR sz a&&dR sz b
 |.cond _ a b=>dR sz a&&dR sz b
 |.block _ b=>dR sz b
 |.loop b=>dR sz b
 |_=>O
def KI.ok(sz:Nat):KI->Bool
 |.code c=>dR sz c
 |.inL c=>dR sz c
 |.inB _=>O
 |.beginR=>O
def bJ(sz:Nat):bg->Bool
 |[]=>O
 |k::r=>k.ok sz&&bJ sz r
def tZ{sz id:Nat}:∀(ks ks':bg),GU id ks=X ks'->bJ sz ks=O->bJ sz ks'=O
 |[],ks',h,_=>by cases h
 |.inB i::r,ks',h,ho=>by
  simp only[GU]at h;simp only[bJ,Af]at ho;cases a:Au i id with
  |true=>grind
  |false=>rw[a]at h;exact tZ r ks' h ho.2
 |.code c::r,ks',h,ho=>tZ r ks' h (by simp only[bJ,Af]at ho;exact ho.2)
 |.inL c::r,ks',h,ho=>tZ r ks' h (by simp only[bJ,Af]at ho;exact ho.2)
 |.beginR::r,ks',h,ho=>tZ r ks' h (by simp only[bJ,Af]at ho;exact ho.2)
def Goal.res:Goal->Res
 |.pure r=>r
 |.full _ r _=>r
 |.keep _ r _=>r
def Goal.obs:Goal->aw
 |.pure _=>[]
 |.full _ _ o=>o
 |.keep _ _ o=>o
def Goal.strict:Goal->Bool
 |.keep _ _ _=>S
 |_=>O
def RR(M0:Imm)(ob0:Hs)(aq:aw)(w0:World)(g:Goal)(e:Ending)(w':World):Prop:=∃M' ob',Ext M0 ob0 aq w0 M' ob' g.obs w'/\Mem M' ob' g.obs w'/\uN M' ob' e g.res
def fQ(P:Program)(fn:Func)(tmps:Array Value)(R:Ending->World->Prop):List Deferred->FrameMode->World->Prop
 |[],u,w=>Leaves P fn tmps R [] u w
 |d::ds,u,w=>u≠ .run/\((∃r w',d.target= .collected r/\(Instr.takeDeferred r).run P w= .ok [] w'/\fQ P fn tmps R ds u w')\/
   ∃fv cap f args,d.target= .fn fv cap/\(invoke d.target d.args).run P w= .ok (.enter f args) w/\
   CallsD P f args u w fun
    |.returned _,u',w'=>fQ P fn tmps R ds (settle u') w'
    |.panicked fL,u',w'=>fQ P fn tmps R ds (raised u' fL) w'
    |.outgrown,_,w'=>R .outgrown w')
def fV{P:Program}{fn:Func}{tmps:Array Value}{R:Ending->World->Prop}:∀(m:List Deferred) (u:FrameMode) (w:World) (fr:Frame)
  (cs:List Frame),fr.mode=u->fr.defers=m->fr.tmps=tmps->P.funcs[fr.fn]? =X fn->fQ P fn tmps R m u w->
  ∃e w' a,R e w'/\Comes P (lone fr cs w) (lone a cs w') e/\a.fn=fr.fn/\a.kind=fr.kind/\a.going P w' e:=by
 intro m;induction m with
 |nil=>
  intro u w fr cs s z C y h;cases u with
  |run=>exact h.elim
  |returning=>
   obtain⟨v,J,D⟩:=h;exact⟨.returned v,w,fr,D,Steps.refl P _,rfl,rfl,s,z,fn,y,C▸J⟩
  |panicking fL=>exact⟨.panicked fL,w,fr,h,Steps.refl P _,rfl,rfl,s,z,fn,y⟩
 |cons d m H=>
  intro u w fr cs s z C y h;obtain⟨o,⟨r,w',n,t,q⟩|⟨fv,cap,f,args,n,B,x⟩⟩:=h
  .have h1:=step_collected (cs:=cs) (s▸o) z n t;obtain⟨A,l,a,j,hs',g,i,k⟩:=H u w' {fr with defers:=[]++m} cs s rfl C y q;exact⟨A,l,a,j,Comes.of_steps (.one h1) hs',g,i,k⟩
  have h1:=step_defer (cs:=cs) (s▸o) z n B;obtain⟨e,p,w',K,D,b,G,F⟩:=x {fr with defers:=m} cs s;cases e with
  |returned v=>
   have I:=step_going_returned (c:={{fr with defers:=m} with mode:=p}) (cs:=cs) G F;obtain⟨A,l,a,j,hs',g,i,k⟩:=H (settle p) w' {{{fr with defers:=m} with mode:=p} with mode:=settle p} cs rfl rfl C y D;exact⟨A,l,a,j,Comes.of_steps (.head h1 (Steps.trans b (.one I))) hs',g,i,k⟩
  |panicked fL=>
   have I:=step_going_panicked (c:={{fr with defers:=m} with mode:=p}) (cs:=cs) F;obtain⟨A,l,a,j,hs',g,i,k⟩:=H (raised p fL) w' {{{fr with defers:=m} with mode:=p} with mode:=raised p fL} cs rfl rfl C y D;exact⟨A,l,a,j,Comes.of_steps (.head h1 (Steps.trans b (.one I))) hs',g,i,k⟩
  |outgrown=>exact⟨.outgrown,w',fr,D,Outgrown.of_steps (.one h1) b,rfl,rfl,trivial⟩
def oW{P:Program}{fr:Frame}{w:World}{e:Ending}(h:fr.going P w e)(a:fr.kind= .normal):fr.leaving P w e:=by
 cases e with
 |returned v=>exact⟨h.1,h.2.1,a,h.2.2⟩
 |panicked b=>exact h
 |outgrown=>exact h
structure Shut(w0 w w':World):Prop where
 os:w'.os=w.os
 tape:w'.tape=w.tape
 output:w'.output=w.output
 size:w'.heap.size=w.heap.size
 heap:∀b,w'.heap[b]? =w.heap[b]?\/(w0.heap.size<=b/\w.heap[b]? =X (.deferred (X [])))
def oV{P:Program}{fn:Func}{tmps:Array Value}{R:Ending->World->Prop}{w0:World}{u:FrameMode}(e:u≠ .run):∀(a:List Deferred) (w:World),Mks w0 w a->(∀w',Shut w0 w w'->Leaves P fn tmps R [] u w')->fQ P fn tmps R a u w
 |[],w,_,h=>h w ⟨rfl,rfl,rfl,rfl,λb=>.inl rfl⟩
 |d::a,w,⟨⟨b,h1,h2,h3,h4⟩,h5⟩,h=>by
  refine⟨e,.inl ⟨b,_,h1,run_takeDeferred h3,?_⟩⟩;refine oV e a _ (h5.same λi g c f j=>?_) λw' hs=>h w' ⟨hs.os,hs.tape,hs.output,hs.size.trans World.putObj_size,λc=>?_⟩
  .grind [Gi]
  .by_cases f:c=b
   .grind
   .have:=hs.heap c;rwa [Gi f]at this
def Mem.shut{w0 w w':World}{M:Imm}{ob:Hs}{ac:aw}(hm:Mem M ob ac w)(h:Shut w0 w w'):Mem M ob ac w':=by
 have e:∀{b:Nat} {o:Obj},w.heap[b]? =X o->F5 o=S->w'.heap[b]? =X o:=λ{b o} h1 h2=>by
  rcases h.heap b with q|⟨_,q⟩
  .grind
  .rw [h1]at q;cases q;cases h2
 refine⟨λb o x l=>?_,hm.len,λk c i=>?_,λk b p=>by rw[h.size];exact hm.lt k b p,hm.inj⟩
 .obtain ⟨v,d,j⟩:=hm.imm b o x l;refine⟨v,?_,j⟩;unfold Ku at d⊢;dsimp only at d⊢;cases g:w.heap[b]? with
  |none=>simp_all
  |some ob=>
   rw[g]at d;cases ob with
   |cells c _ _=>rw[e g rfl];exact d
   |_=>cases d
 .obtain ⟨hs',a,f⟩:=hm.obj k c i;refine⟨hs',a,f.mono (λ_ _ _ h=>h) (dH.refl _) (λ_ _ _ _ h=>h) (λb t n r m=>?_)⟩;obtain⟨o,s,u⟩:=hm.alive_heap ((cW i a).2 ⟨n,r⟩)
  grind
def Ext.shut{w0 w w':World}{M0 M:Imm}{ob0 ob:Hs}{aq ac:aw}(a:Ext M0 ob0 aq w0 M ob ac w)(h:Shut w0 w w'):Ext M0 ob0 aq w0 M ob ac w':=
 ⟨a.imm,a.new,a.hs,h.os.trans a.os,h.tape.trans a.tape,h.output.trans a.output,by rw[h.size];exact a.size,λb d c=>by
  rcases h.heap b with q|⟨q,_⟩
  .rw [q];exact a.keep b d c
  .omega,a.fresh⟩
def HU(E:Env)(fn:Func)(M0:Imm)(ob0:Hs)(aq:aw)(w0:World)(g:Goal)(b:Bool)(a:Act)(w:World):Prop:=match E.rd with
 |none=>fQ E.P fn a.tmps (RR M0 ob0 aq w0 g) a.defers .returning w
 |some _=>RR M0 ob0 aq w0 g (.returned (.bool b)) w
def rW(E:Env)(fn:Func)(M0:Imm)(ob0:Hs)(aq:aw)(w0:World)(g:Goal):Exit->Act->World->Prop
 |.normal,a,w=>HU E fn M0 ob0 aq w0 g O a w
 |.ret,a,w=>HU E fn M0 ob0 aq w0 g S a w
 |.panic ch,a,w=>(match E.rd with|none=>fQ E.P fn a.tmps (RR M0 ob0 aq w0 g) a.defers (.panicking ch) w|some _=>False)
 |_,_,_=>False
def sD(g:Goal)(ob0:Hs):Prop:=Z ob0=g.n0/\(g.strict=O->∀hs∈ob0,Z hs=1)
def dP(E:Env)(fn:Func)(g:Goal)(ks:bg)(fr:au)(ac:aw):Prop:=
 bJ fn.ntmps ks=O->∀M0 ob0 aq w0 a w,sD g ob0->SS M0 ob0 aq w0 fn.ntmps E.df fr ac a w->KW E.rd E.P (rW E fn M0 ob0 aq w0 g) ks a w
def aI3(E:Env)(fn:Func)(g:Goal)(fr:au)(ac:aw):Prop:=
 ∀M0 ob0 aq w0 a w,sD g ob0->SS M0 ob0 aq w0 fn.ntmps E.df fr ac a w->fQ E.P fn a.tmps (RR M0 ob0 aq w0 g) a.defers .returning w
def aI2(E:Env)(fn:Func)(g:Goal)(c:Nat->aa)(v:aa)(ac:aw):Prop:=
 ∀M0 ob0 aq w0 b a w,sD g ob0->PP M0 ob0 aq w0 fn.ntmps E.df c v ac b a w->fQ E.P fn a.tmps (RR M0 ob0 aq w0 g) a.defers (.panicking b) w
def kD(E:Env)(fn:Func)(g:Goal)(a:Nat->aa)(v:aa)(ac:aw):Prop:=match E.rd with
 |some _=>False
 |none=>match E.df with
  |[]=>S8 g .pan v ac
  |_::_=>aI2 E fn g a v ac
def aPr(E:Env)(fn:Func)(g:Goal)(R:RI)(n:Nat)(rest:bf)(br:List (Nat×Nat))(fr:au)(ac:aw):Prop:=
 match R.dr with
 |false=>fL E R.all (dP E fn g R.ks) (kD E fn g) n rest fr ac
 |true=>jM E R.all R.tab (dP E fn g R.ks) (kD E fn g) n rest br fr ac
def aHc(E:Env)(fn:Func)(g:Goal)(R:RI)(n:Nat)(d:Option Nat)(rest:bf)(br:List (Nat×Nat))(fr:au)(len:Nat)(ac:aw)(v:aa):Prop:=
 wrP rest n d fr v λfr=>aPr E fn g R (n+1) rest (bif R.dr then born n len (iT len ac) br else br) fr ac
def BT(E:Env)(fn:Func)(g:Goal):St->Prop
 |.code ks fr ac=>dP E fn g ks fr ac
 |.head ks fr ac=>dP E fn g ks fr ac
 |.mid R n rest br fr ac=>aPr E fn g R n rest br fr ac
 |.pend R n d rest br fr ac r=>(match R.dr with
  |false=>orF E.P ac (λv ap=>aHc E fn g R n d rest br fr (aS ac) ap v) (kD E fn g (aX fr)) r
  |true=>orD E.P (soN E R.tab R.all n d) (uoN E R.tab R.all n d) (blD E d) (rX E R.tab n br ac d) ac (aS ac) (λv ap=>aHc E fn g R n d rest br fr (aS ac) ap v) (kD E fn g (aX fr)) r)
 |.got R n d rest br fr len ac v=>aHc E fn g R n d rest br fr len ac v
 |.leave none fr ac=>aI3 E fn g fr ac
 |.leave (some v) fr ac=>aI2 E fn g (aX fr) v ac
section
variable {E:Env} {M:Imm} {ob:Hs} {ac:aw} {w:World}
def VP(hE:ae E)(hm:Mem M ob ac w){fr:au}{x:aa}{tmps:Array Value}{r:ResultVar}(h:aOW E ac fr r=X x)(p:∀t,Rep M ob (tmps.getD t undef) (aX fr t)):
  ∃v,(match r with | .tmp t=>(Pure.pure (tmps.getD t undef):Sem Value) | .cell a t=>(asAddr (tmps.getD a undef)) >>= loadVar t).run E.P w= .ok v w/\Rep M ob v x:=by
 cases r with
 |tmp t=>cases h;exact⟨_,rfl,p t⟩
 |cell a t=>
  simp only[aOW]at h;show ∃v,((asAddr (tmps.getD a undef)) >>= loadVar t).run E.P w= .ok v w/\Rep M ob v x;have s:=p a;split at h
  .rename_i z k off G F;rw[F]at s;split at h
   .rename_i cs n;split at h
    .rename_i l hl;obtain⟨b,hav,q⟩:=s.ref_inv;obtain⟨hs,h1,j,rfl,_,cv,A,g,_,f⟩:=hm.obj k _ (cK n s_);have m:j=b:=by rw[cG h1]at q;simpa using q
     subst m;obtain⟨H,B⟩:=kH hl;obtain⟨u,D,y⟩:=R0 (P:=E.P) (w:=w) (M:=M) (ob:=ob) (hE.tab t z G) (b:=j) (o:=off) h H λi c C=>by
      have d:=B i c C;rw[nQ,List.getElem?_drop]at d;have e:off+i<Z cv:=by rw[g];exact(Ad.1 d).1
      exact⟨cv[off+i],by rw[cell_of_row w j _ _ _ (0,0) A];simp[e],f _ _ c (Ab e) d⟩
     refine⟨u,?_,y⟩;rw[hav];simp only[asAddr,Bd,Bu,Aq];exact D
    .cases h
   .cases h
  .cases h
def E5(hE:ae E)(hm:Mem M ob ac w){fr:au}{tmps:Array Value}(e:∀t,Rep M ob (tmps.getD t undef) (aX fr t)):
  ∀(b:List ResultVar) {xs:az},aFr E ac fr b=X xs->∃vs,(b.mapM λ(r:ResultVar)=>(match r with | .tmp t=>(Pure.pure (tmps.getD t undef):Sem Value) | .cell a t=>(asAddr (tmps.getD a undef)) >>= loadVar t)).run E.P w= .ok vs w/\cL M ob vs xs
 |[],xs,h=>by
  cases h;exact⟨[],by simp,rfl,λi v a h=>by simp at h⟩
 |r::b,xs,h=>by
  simp only[aFr]at h;split at h
  .rename_i x l g hl;cases h;obtain⟨v,j,f⟩:=VP hE hm g e;obtain⟨vs,d,c⟩:=E5 hE hm e b hl;refine⟨v::vs,?_,cL.cons f c⟩;rw[List.mapM_cons];simp only[Bd];rw[j];simp only[Aq];rw[d];simp
  .cases h
def VQ(hE:ae E)(hm:Mem M ob ac w){fn:Func}{fr:au}{x:aa}{tmps:Array Value}(h:aFs E ac fn.results.toList fr=X x)
  (i:∀t,Rep M ob (tmps.getD t undef) (aX fr t)):∃v,(results fn tmps).run E.P w= .ok v w/\Rep M ob v x:=by
 have hl:∃xs,aFr E ac fr fn.results.toList=X xs/\((∃y,xs=[y]/\x=y)\/(Z xs≠1/\x= .tup xs)):=by
  unfold aFs at h;split at h
  .simp_all
  .rename_i l c hl;cases h;refine⟨_,hl,.inr ⟨λh1=>?_,rfl⟩⟩
   match l,h1 with
   |[y],_=>grind
  .cases h
 obtain⟨xs,f,d⟩:=hl;obtain⟨vs,e,b⟩:=E5 hE hm i _ f;have g:fn.results=fn.results.toList.toArray:=by simp
 have key:(results fn tmps).run E.P w= .ok (if h:vs.toArray.size=1 then vs.toArray[0]else .tuple vs.toArray) w:=by unfold results;rw[g,List.mapM_toArray];simp only[Bd,map_eq_pure_bind];have:(fn.results.toList.mapM λ(r:ResultVar)=>(match r with | .tmp t=>(Pure.pure (tmps.getD t undef):Sem Value) | .cell a t=>(asAddr (tmps.getD a undef)) >>= loadVar t)).run E.P w= .ok vs w:=e;refine(congrArg (λz=>Es (Es z _) _) this).trans ?_;simp
 rw[key];rcases d with⟨y,rfl,rfl⟩|⟨h1,rfl⟩
 .match vs,b with
  |[v],b=>exact⟨v,by simp,b.2 0 v _ rfl rfl⟩
  |[],b=>have:=b.1;simp at this
  |_::_::_,b=>have:=b.1;simp at this
 .have c:¬ vs.toArray.size=1:=by rw[Gg,b.1];exact h1
  exact⟨.tuple vs.toArray,by rw[dif_neg c],.tup vs xs b.1 b.2⟩
def mJ:∀{n j:Nat} {ks:a6},jP n j ks=O->∀i,i<n->ks[i]? =X (j+i)
 |0,_,_,_,i,hi=>by omega
 |n+1,j,[],h,_,_=>by cases h
 |n+1,j,k::r,h,i,hi=>by
  simp only[jP,Af]at h;have:=aE h.1;subst this;cases i with
  |zero=>rfl
  |succ i=>
   have:=mJ h.2 i o_
   grind
def xJ{M0:Imm}{ob0:Hs}{aq:aw}{w0:World}{g:Goal}{p:aa->Res}{v:aa}{u:Value}(hst:sD g ob0)(d:Ext M0 ob0 aq w0 M ob ac w)(hm:Mem M ob ac w)(z:Rep M ob u v)(h:S8 g p v ac):
  ∃M' ob' y,Ext M0 ob0 aq w0 M' ob' g.obs w/\Mem M' ob' g.obs w/\Rep M' ob' u y/\p y=g.res:=by
 cases g with
 |pure r=>
  obtain⟨q,f,i,_,K⟩:=hm.frzL [v];have P:ob0=[]:=Bb hst.1;subst P;have a:=d.trans i;have no:∀k b,¬ aK ([]:Hs) [] k b:=λk b ⟨c,hs,e,_⟩=>by simp at e
  exact⟨q,[],_,⟨a.imm,a.new,dH.refl _,a.os,a.tape,a.output,a.size,a.keep,λk b m=>(no k b m).elim⟩,f.bare,f.cvtV (n0:=0) (ks:=[]) rfl 5 u v (z.monoM i.imm),h⟩
 |full n0 r ap=>
  obtain⟨F,ks,⟨s,n⟩,h1,x⟩:=h;obtain⟨q,f,i,_,K⟩:=Mem.frzs F M ac hm;obtain⟨Q,As,_⟩:=f.cvt (n0:=n0) s;have a:=d.trans i;have G:Z ob0=n0:=hst.1;refine⟨q,_,_,⟨a.imm,a.new,λj hs C=>?_,a.os,a.tape,a.output,a.size,a.keep,λj b m=>?_⟩,?_,f.cvtV (n0:=n0) s 5 u v (z.monoM i.imm),h1⟩
  .have D:j<n0:=by rw[<-G];exact(Ad.1 C).1
   have l:=mJ n j D;rw[Bv]at l;obtain⟨hs',J,t,L⟩:=a.hs j hs C;have N:=hst.2 rfl hs (Ax C);refine⟨jL n0 j (aC (AW.ak F ac) j) hs',?_,?_⟩
   .rw [iK,l];simp[J]
   .unfold jL
    grind[Bq]
  .obtain ⟨k,_,B⟩:=As j b (by rw[x];exact m);exact a.fresh k b B
  .show Mem q _ ap w
   grind
 |keep n0 r ap=>
  obtain⟨⟨A,o⟩,h1,x⟩:=h;rw[FG]at o x;obtain⟨H,I⟩:=hm.cutO o;have G:Z ob0=n0:=hst.1;rw[x]at H I;refine⟨M,ob.take n0,v,⟨d.imm,d.new,λk hs s=>?_,d.os,d.tape,d.output,d.size,d.keep,λk b m=>d.fresh k b (I m)⟩,H,D1 5 z A,h1⟩;obtain⟨hs',J,L⟩:=d.hs k hs s
  grind
end
section
variable {E:Env} {fn:Func} {g:Goal}
theorem go_ret(hE:ae E)(c:E.df=[])(n:E.rd=U){fr:au}{ac:aw}{v:aa}(m:aFs E ac fn.results.toList fr=X v)(h:S8 g .ret v ac){M0:Imm}{ob0:Hs}{aq:aw}{w0:World}{a:Act}{w:World}
  (hst:sD g ob0) (hs:SS M0 ob0 aq w0 fn.ntmps E.df fr ac a w):fQ E.P fn a.tmps (RR M0 ob0 aq w0 g) a.defers .returning w:=by
 obtain⟨M,ob,d,hm,k,i,e,r⟩:=hs;rw[c]at e;refine oV (w0:=w0) s_ _ _ e.marks λw' b=>?_;have d:=d.shut b;have hm:=hm.shut b;obtain⟨u,l,f⟩:=VQ hE hm m k;obtain⟨M',ob',y,p,j,q,o⟩:=xJ hst d hm f h;refine⟨u,l,M',ob',p,j,?_⟩;rw[<-o];exact q
def aAP(hE:ae E){b:Bool}{fr:au}{ac:aw}(h:aKk E fn g (BT E fn g) b fr ac){M0:Imm}{ob0:Hs}{aq:aw}{w0:World}{a:Act}{w:World}
  (hst:sD g ob0) (hs:SS M0 ob0 aq w0 fn.ntmps E.df fr ac a w):HU E fn M0 ob0 aq w0 g b a w:=by
 unfold aKk at h;unfold HU;cases c:E.rd with
 |some l=>
  rw[c]at h;dsimp only at h⊢;rw[N2]at h;obtain⟨M,ob,f,hm,p,i,o,r⟩:=hs;obtain⟨M',ob',y,m,j,n,k⟩:=xJ hst f hm (.bool b) h;exact⟨M',ob',m,j,by rw[<-k];exact n⟩
 |none=>
 rw[c]at h;dsimp only at h⊢;cases e:E.df with
 |nil=>
  grind[sF,N2,go_ret]
 |cons d q=>
  rw[e]at h;exact h M0 ob0 aq w0 a w hst hs
def aPL(c:E.df=[]){v:aa}{ac:aw}(h:S8 g .pan v ac){M0:Imm}{ob0:Hs}{aq:aw}{w0:World}{sz:Nat}{l:Nat->aa}{f:List PanicEntry}{a:Act}{w:World}
  (hst:sD g ob0) (hs:PP M0 ob0 aq w0 sz E.df l v ac f a w):fQ E.P fn a.tmps (RR M0 ob0 aq w0 g) a.defers (.panicking f) w:=by
 obtain⟨M,ob,j,hm,⟨u,e,i⟩,_,_,d,_⟩:=hs;rw[c]at d;refine oV (w0:=w0) s_ _ _ d.marks λw' b=>?_;obtain⟨M',ob',y,n,k,o,m⟩:=xJ hst (j.shut b) (hm.shut b) i h;refine⟨M',ob',n,k,?_⟩;rw[<-m];exact⟨u,e,o⟩
def DV{f:Nat->aa}{v:aa}{ac:aw}(h:kD E fn g f v ac){M0:Imm}{ob0:Hs}{aq:aw}{w0:World}{c:List PanicEntry}{a:Act}{w:World}
  (hst:sD g ob0) (hs:PP M0 ob0 aq w0 fn.ntmps E.df f v ac c a w):rW E fn M0 ob0 aq w0 g (.panic c) a w:=by
 unfold kD at h;unfold rW;cases e:E.rd with
 |some l=>grind
 |none=>
 rw[e]at h;dsimp only at h⊢;cases b:E.df with
 |nil=>
  rw[b]at h;exact aPL b h hst hs
 |cons d i=>
  rw[b]at h;exact h M0 ob0 aq w0 c a w hst hs
def qI{sz:Nat}{l:bf}(h:aNR sz l=O):∀p∈l,∀d,p.dst=X d->d<sz:=λp hp d a=>by have:=List.all_eq_true.1 h p hp;simp_all
def QR(E:Env)(fn:Func)(g:Goal)(M0:Imm)(ob0:Hs)(aq:aw)(w0:World)(ks:bg):Exit->Act->World->Prop
 |.normal,a,w=>KW E.rd E.P (rW E fn M0 ob0 aq w0 g) ks a w
 |.panic ch,a,w=>rW E fn M0 ob0 aq w0 g (.panic ch) a w
 |_,_,_=>False
def aC1(hE:ae E)(j:∀ops:Array Oper,QB ops=O->TabSp ops (jU [] ops.toList)){id:Nat}{ops:Array Oper}{dr:Bool}{ks:bg}{fr:au}{ac:aw}
  (h:aPr E fn g ⟨ops.toList,dr,jU [] ops.toList,ks⟩ 0 ops.toList [] fr ac):dP E fn g (.code (.region id ops dr)::ks) fr ac:=by
 intro r M0 ob0 aq w0 a w hst hs;simp only[bJ,KI.ok,dR,Af]at r;obtain⟨⟨o,l⟩,n⟩:=r;have q:=qI o
 refine KW.code (Q':=QR E fn g M0 ob0 aq w0 ks) ?_ (λa w h=>h) (λb a w h=>h) (λe a w t=>by cases e<;>first|exact .inl rfl|exact .inr ⟨_,rfl⟩|exact t.elim)
 have hp:∀c v ac b a w,kD E fn g c v ac->PP M0 ob0 aq w0 fn.ntmps E.df c v ac b a w->rW E fn M0 ob0 aq w0 g (.panic b) a w:=λc v ac b a w x k=>DV x hst k;have s:∀fr ac a w,dP E fn g ks fr ac->SS M0 ob0 aq w0 fn.ntmps E.df fr ac a w->KW E.rd E.P (rW E fn M0 ob0 aq w0 g) ks a w:=λfr ac a w u hs=>u n M0 ob0 aq w0 a w hst hs;cases dr with
 |false=>
  refine wpIn_region_list ?_;exact oL (rd:=E.rd) (Q:=QR E fn g M0 ob0 aq w0 ks) (K:=dP E fn g ks) (Kp:=kD E fn g) hE (λc v ac b a w h1 f=>hp c v ac b a w h1 f) (λfr ac a w h1 f=>s fr ac a w h1 f) ops.toList 0 fr ac a w q h hs
 |true=>
  exact VV (rd:=E.rd) (Q:=QR E fn g M0 ob0 aq w0 ks) (Kq:=dP E fn g ks) (Kp:=kD E fn g) hE (j ops (by simpa using l)) (λi p y d m=>q p (Ax (i:=i) q_) d m) (λc v ac b a w h1 f=>hp c v ac b a w h1 f) (λfr ac a w h1 f=>s fr ac a w h1 f) hs h
def dP.step{ks ks':bg}{fr:au}{ac:aw}(hs:∀a w (b:Frame) cs,Go.step E.P (lone (b.atR a (iJ ks)) cs w)= .next (lone (b.atR a (iJ ks')) cs w))(d:bJ fn.ntmps ks=O->bJ fn.ntmps ks'=O)(h:dP E fn g ks' fr ac):dP E fn g ks fr ac:=
 λe M0 ob0 aq w0 a w hst c=>KW.step (hs a w) (h (d e) M0 ob0 aq w0 a w hst c)
def go(hE:ae E)(B:∀ops:Array Oper,QB ops=O->TabSp ops (jU [] ops.toList)):∀(u:Nat) (st:St),cA E fn g (BT E fn g) u st->BT E fn g st:=by
 intro u;induction u with
 |zero=>intro st h;exact h
 |succ n e=>
  intro st h;cases st with
  |head ks fr ac=>exact e (.code ks fr ac) h
  |leave p fr ac=>exact h
  |code ks fr ac=>
   cases ks with
   |nil=>
    simp only[cA]at h;exact λ_ M0 ob0 aq w0 a w hst hs=>KW.nil (aAP (b:=O) hE h hst hs)
   |cons k ks=>
    cases k with
    |inB id=>exact dP.step (λa w b cs=>stepR_inBlock) (λj=>by simp only[bJ,Af]at j;exact j.2) (e (.code ks fr ac) h)
    |inL b=>
     exact dP.step (ks':=.code b:: .inL b::ks) (λa w b cs=>stepR_inLoop) (λj=>by simp only[bJ,KI.ok,Af]at j⊢;grind) h
    |beginR=>exact h
    |code q=>
     cases q with
     |rangeFunc x T as W=>exact h
     |skip=>exact dP.step (λa w b cs=>stepR_skip) (λj=>by simp only[bJ,Af]at j;exact j.2) (e (.code ks fr ac) h)
     |seq x y=>exact dP.step (λa w b cs=>stepR_seq) (λj=>by simp only[bJ,KI.ok,dR,Af]at j⊢;grind) (e (.code (.code x:: .code y::ks) fr ac) h)
     |block id b=>exact dP.step (λa w b cs=>stepR_block) (λj=>by simp only[bJ,KI.ok,dR,Af]at j⊢;grind) (e (.code (.code b:: .inB id::ks) fr ac) h)
     |loop b=>exact dP.step (ks':=.code b:: .inL b::ks) (λa w b cs=>stepR_loop) (λj=>by simp only[bJ,KI.ok,dR,Af]at j⊢;grind) h
     |exit id=>
            simp only[cA]at h;split at h
            .rename_i ks' G;exact dP.step (λa w b cs=>stepR_exit (nL _ _ G)) (λj=>tZ _ _ G (by simp only[bJ,Af]at j;exact j.2)) (e (.code ks' fr ac) h)
            grind
     |ret=>
            simp only[cA]at h;exact λ_ M0 ob0 aq w0 a w hst hs=>KW.ret (aAP (b:=S) hE h hst hs)
     |cond x c d=>
            simp only[cA]at h;split at h
            .rename_i p hp;intro j M0 ob0 aq w0 a w hst hs;simp only[bJ,KI.ok,dR,Af]at j;obtain⟨M,ob,G,hm,N,L,Q,Be⟩:=id hs;have A:=GV (a:=a) N x;rw[hp]at A;cases p with
             |true=>
              refine KW.step (ks':=.code c::ks) (λb cs=>?_) (h.1 rfl (by simp only[bJ,KI.ok,Af];exact⟨j.1.1,j.2⟩) M0 ob0 aq w0 a w hst hs);exact stepR_cond (P:=E.P) (b:=b) (k:=iJ ks) (cs:=cs) (w:=w) (x:=c) (y:=d) A.bool_inv
             |false=>
              refine KW.step (ks':=.code d::ks) (λb cs=>?_) (h.2 rfl (by simp only[bJ,KI.ok,Af];exact⟨j.1.2,j.2⟩) M0 ob0 aq w0 a w hst hs);exact stepR_cond (P:=E.P) (b:=b) (k:=iJ ks) (cs:=cs) (w:=w) (x:=c) (y:=d) A.bool_inv
            grind
     |region id ops dr=>
            simp only[cA]at h;cases z:aRG ops.toList with
            |true=>grind
            |false=>
             rw[z]at h;dsimp only at h;refine aC1 hE B ?_;cases dr with
             |false=>
              have:=e (.mid ⟨ops.toList,S,[],ks⟩ 0 ops.toList [] fr ac) h;exact this
             |true=>
              simp only[aIJ]at h;exact e (.mid ⟨ops.toList,O,jU [] ops.toList,ks⟩ 0 ops.toList [] fr ac) h
     |_=>exact h.elim
  |mid R i rest br fr ac=>
   cases rest with
   |nil=>
    have J:=e (.code R.ks fr ac) h;obtain⟨all,dr,tab,ks⟩:=R;cases dr with
    |false=>exact J
    |true=>exact J
   |cons p rest=>
    obtain⟨all,dr,tab,ks⟩:=R;cases dr with
    |false=>
     simp only[cA]at h;show fL E all (dP E fn g ks) (kD E fn g) i (p::rest) fr ac;simp only[fL];cases H:cF all (ev fr) p.guard with
     |none=>grind
     |some b=>
            rw[H]at h;cases b with
            |false=>
             cases o:p.dst with
             |none=>rw[o]at h;exact e _ h
             |some d=>
              rw[o]at h;dsimp only at h;rw[mA]at h;exact e (.mid ⟨all,S,tab,ks⟩ (i+1) rest br (iI fr d (.tup [])) ac) h
            |true=>exact e (.pend ⟨all,S,tab,ks⟩ i p.dst rest br fr ac _) h
    |true=>
     simp only[cA]at h;show jM E all tab (dP E fn g ks) (kD E fn g) i (p::rest) br fr ac;simp only[jM];cases H:cF all (evH tab all i fr) p.guard with
     |none=>grind
     |some b=>
            rw[H]at h;cases b with
            |false=>
             cases o:p.dst with
             |none=>rw[o]at h;exact e _ h
             |some d=>
              rw[o]at h;dsimp only at h;rw[mA]at h;exact e (.mid ⟨all,O,tab,ks⟩ (i+1) rest br (iI fr d (.tup [])) ac) h
            |true=>
             dsimp only at h;rw[xR]at h;exact e (.pend ⟨all,O,tab,ks⟩ i p.dst rest br fr ac _) h
  |got R i d rest br fr len ac v=>
   simp only[cA,sF,xR]at h;show aHc E fn g R i d rest br fr len ac v;unfold aHc wrP;cases d with
   |none=>exact e _ h
   |some d=>
    dsimp only at h⊢;cases K:rK i rest with
    |false=>
     rw[K]at h;simp only[cond_false,mA]at h;exact e _ h
    |true=>
     rw[K]at h;simp only[cond_true]at h⊢;split at h
     .rw [mA,mA]at h;exact h
     omega
  |pend R i d rest br fr ac r=>
   obtain⟨all,dr,tab,ks⟩:=R;have I:∀{q:Prop} {b:Bool},(match (!dr||b)with|true=>q|false=>False)->q/\(dr=O->b=O):=λ{q b} hq=>by grind
   cases r with
   |no=>exact h.elim
   |val v=>
    simp only[cA,sF]at h;have:=e _ h;cases dr<;>exact this
   |mkf f V cs=>
    simp only[cA,OT (sF 3)]at h;have:=e _ h;cases dr<;>exact this
   |need p r=>
    simp only[cA]at h;cases dr<;>exact h
   |alt p v An=>
    simp only[cA]at h;cases dr<;>exact h
   |idx m f=>
    simp only[cA]at h;cases dr<;>exact h
   |elem xs m f=>
    simp only[cA]at h;cases dr<;>exact h
   |byte l m=>
    simp only[cA]at h;cases dr<;>exact h
   |text xs=>
    simp only[cA]at h;cases dr<;>exact h
   |find es key f=>
    simp only[cA]at h;cases dr<;>exact h
   |born x v=>
    simp only[cA,aI0,xR,sF]at h;cases dr with
    |false=>
     have:=e (.got _ _ _ _ _ _ _ _ _) h;exact this
    |true=>
     cases s:blD E d with
     |true=>rw[s]at h;exact h.elim
     |false=>
            rw[s]at h;have:=e (.got _ _ _ _ _ _ _ _ _) h;simp only[BT];rw[s];exact this
   |upd k x v=>
    simp only[cA,aI0,xR,sF]at h;obtain⟨h,t⟩:=I h;have:=e _ h;cases dr with
    |false=>exact this
    |true=>
     simp only[BT,orD];rw[t rfl];exact this
   |nilq xs As=>
    simp only[cA]at h;obtain⟨h,t⟩:=I h;cases dr with
    |false=>exact h
    |true=>
     simp only[BT];rw[t rfl];exact h
   |call f args=>
    have F:aPd E g (BT E fn g) fr=kD E fn g (aX fr):=by rfl
    simp only[cA,OT (sF 5),F]at h;cases dr with
    |false=>exact h
    |true=>
     dsimp only at h;cases s:blD E d with
     |true=>rw[s]at h;exact h.elim
     |false=>
            rw[s]at h;dsimp only at h;rw[xR]at h;simp only[BT];rw[s];exact h
   |pan v=>
    simp only[cA,sF]at h;obtain⟨D,t⟩:=I h;have h3:kD E fn g (aX fr) v ac:=by
     unfold kD;cases C:E.rd with
     |some l=>rw[C]at D;omega
     |none=>
     rw[C]at D;dsimp only at D⊢;cases z:E.df with
     |nil=>grind[N2]
     |cons d At=>rw[z]at D;exact D
    cases dr with
    |false=>exact h3
    |true=>
     simp only[BT];rw[t rfl];exact h3
end
def pD(P:Program)(f:FuncId):Prop:=∀(args:Array Value) (w:World),(callFunc f args).run P w= .ok (.enter f args) w
def GG:∀(l:az) (n t:Nat),aX (frA n l) t=if n<=t then(l[t-n]?).getD .undef else .undef
 |[],n,t=>by simp[frA,aX]
 |a::l,n,t=>by
  simp only[frA,aX];cases h:Au n t with
  |true=>simp_all
  |false=>
   have b:n≠t:=λe=>by simp_all
   simp only[cond_false];rw[GG l (n+1) t]
   grind
def T5{P:Program}{f:FuncId}{fn:Func}{c:Code}{args:Array Value}{w:World}{R:Ending->World->Prop}(t:P.funcs[f]? =X fn)(v:fn.body=X c)
  {Q:Exit->Act->World->Prop} (u:∀e a w,Q e a w->(match e with | .normal | .ret=>fQ P fn a.tmps R a.defers .returning w | .panic ch=>fQ P fn a.tmps R a.defers (.panicking ch) w|_=>False)) (h:KW U P Q [.code c] {tmps:=args++Gm (fn.ntmps-args.size) undef,defers:=[]} w):Calls P f args w R:=by
 intro cs
 let b:Frame:={(default:Frame)with fn:=f,kind:=.normal}
 have m:Frame.enter P f args .normal=b.at {tmps:=args++Gm (fn.ntmps-args.size) undef,defers:=[]} [.code c]:=by simp[Frame.enter,Frame.at,t,v,b]
 obtain⟨e,o,w',s,d⟩:=h.arrives b cs rfl;have s:=u _ _ _ s;rw[show iJ [.code c]=[.code c]from rfl,<-m]at d;cases e with
 |normal=>
  obtain⟨p,j,i,r,hs,g,q,hl⟩:=fV o.defers .returning w' {b.at o []with mode:=.returning} cs rfl rfl rfl t s;exact⟨p,j,i,r,Comes.of_steps (Steps.trans d (.one step_end)) hs,g,oW hl q⟩
 |ret=>
  obtain⟨k,n⟩:=d;obtain⟨p,j,i,r,hs,g,q,hl⟩:=fV o.defers .returning w' {b.at o k with mode:=.returning} cs rfl rfl rfl t s;exact⟨p,j,i,r,Comes.of_steps n hs,g,oW hl q⟩
 |panic fL=>
  obtain⟨k,n⟩:=d;obtain⟨p,j,i,r,hs,g,q,hl⟩:=fV o.defers (.panicking fL) w' {b.at o k with mode:=.panicking fL} cs rfl rfl rfl t s;exact⟨p,j,i,r,Comes.of_steps n hs,g,oW hl q⟩
 |exit id=>simp_all
 |goto l=>simp_all
 |outgrown=>simp_all
def okA:aa->Prop
 |.int k n=>inR k n
 |.str l=>(Z l:Int)<=9223372036854775807
 |.slice _ xs _=>(Z xs:Int)<=9223372036854775807
 |_=>True
def Rep.okA{M:Imm}{ob:Hs}{v:Value}{a:aa}(h:Rep M ob v a):okA a:=by
 cases a with
 |int k n=>exact h.int_inv.2
 |str l=>exact h.str_inv.2
 |slice sz xs t=>obtain⟨_,_,_,_,_,h⟩:=h.slice_inv;exact h
 |_=>exact trivial
def okL:az->Prop
 |[]=>True
 |a::r=>okA a/\okL r
def cL.okL{M:Imm}{ob:Hs}:∀{vs:bb} {as:az},cL M ob vs as->okL as
 |_,[],_=>trivial
 |[],a::r,h=>by have:=h.1;simp at this
 |v::vs,a::r,h=>⟨(h.2 0 v a rfl rfl).okA,cL.okL (vs:=vs) ⟨by simpa using h.1,λi u b c d=>h.2 (i+1) u b (by simp_all) (by simp_all)⟩⟩
def wX:aw->Bool
 |[]=>O
 |o::r=>o.owns&&Au (iE o) 0&&wX r
def wW:∀{l:aw},wX l=O->∀(k:Nat) o,l[k]? =X o->o.owns=O/\iE o=0
 |[],_,k,o,h=>by simp at h
 |x::r,hb,k,o,h=>by
  simp only[wX,Af]at hb;cases k with
  |zero=>simp_all
  |succ k=>exact wW hb.2 k o (by simp_all)
def aA.of{E:Env}{f:FuncId}{fn:Func}{args:az}{ac:aw}{g:Goal}(l:E.df=[])(v:E.P.funcs[f]? =X fn)(y:fn.body=X (dS fn))(n:pD E.P f)
  (m:dR fn.ntmps (dS fn)=O) (s:Fv (Z args) fn.ntmps=O) (o:wX ac=O) (x:Z ac=g.n0) (h:okL args->BT E fn g (.code [.code (dS fn)] (frA 0 args) ac)) (d:E.rd=none:=by rfl):aA E.P f args ac g.res g.obs:=by
 intro M ob w b hm j;refine .inl ⟨n _ _,T5 (Q:=rW E fn M ob ac w g) v y (λe a w h=>?_) ?_⟩
 .cases e<;>(try unfold rW HU at h)<;>(try rw[d]at h)<;>exact h
 have r:Z b=Z args:=j.1;have z:=Cj s;have hst:sD g ob:=by
  refine⟨by rw[hm.len,x],λ_ hs i=>?_⟩;obtain⟨k,u⟩:=Cu i;have c:k<Z ac:=by rw[<-hm.len];grind
  obtain⟨h1,A⟩:=wW o k _ (Ab c);have e:=gX (Ab c);have:=hm.histLen (by grind) u
  grind
 rw[<-d];refine h j.okL (by simp[bJ,KI.ok,m]) M ob ac w {tmps:=b.toArray++Gm (fn.ntmps-b.toArray.size) undef,defers:=[]} w hst ⟨M,ob,Ext.refl _ _ _ _,hm,λt=>?_,?_,by rw[l];exact dD.nil,by rw[hm.len];omega⟩
 .rw [GG];simp only[Bn,if_true,Jq];by_cases q:t<Z args
  .rw [Ab q];have p:t<Z b:=o_;have:(b.toArray++Gm (fn.ntmps-b.toArray.size) undef).getD t undef=b[t]:=by rw[Cm,Gz o_];simp[p]
   rw[this];exact j.2 t _ _ (Ab p) (Ab q)
  .rw [Bk o_];exact .undef _
 simp_all
theorem yI(m i:Nat):cY m i=m.testBit i:=by
 unfold cY Nat.testBit;have h1:Nat.land (Nat.shiftRight m i) 1=(m >>> i)%2:=Nat.and_one_is_mod _;have a:(1 &&& (m >>> i))=(m >>> i)%2:=by simp
 rw[h1,a];rcases Nat.mod_two_eq_zero_or_one (m >>> i)with h|h<;>rw[h]<;>rfl
theorem LP{tab:a6}{i:Nat}:∀{l:a6},cY (jY tab l) i=O↔ ∃e∈l,e=i\/cY (dF tab e) i=O
 |[]=>by rw[yI];simp[jY]
 |x::r=>by
  have a:=LP (tab:=tab) (i:=i) (l:=r);rw[yI]at a⊢;have e:jY tab (x::r)=(1 <<< x ||| dF tab x) ||| jY tab r:=rfl
  rw[e,Nat.testBit_or,Nat.testBit_or,Nat.one_shiftLeft,Nat.testBit_two_pow,Fg,Fg,a,bo]
  grind[yI]
theorem SL{a b:a6}{j:Nat}(h:j<Z a):dF (a++b) j=dF a j:=by
 induction a generalizing j with
 |nil=>simp at h
 |cons x r c=>
  cases j with
  |zero=>rfl
  |succ j=>exact c (by grind)
def aHh{a:a6}{m:Nat}:dF (a++[m]) (Z a)=m:=by
 induction a with
 |nil=>rfl
 |cons x r b=>exact b
theorem aHg{a:a6}{j:Nat}(h:Z a<=j):dF a j=0:=by
 induction a generalizing j with
 |nil=>rfl
 |cons x r b=>
  cases j with
  |zero=>simp at h
  |succ j=>exact b (by grind)
def BQ:∀(l:bf) (tab:a6),∃t,jU tab l=tab++t/\Z t=Z l
 |[],tab=>⟨[],by simp[jU],rfl⟩
 |p::r,tab=>by obtain⟨t,h1,a⟩:=BQ r (tab++[jY tab (iR p)]);exact⟨jY tab (iR p)::t,by simp[jU,h1],by simp[a]⟩
theorem CN{a b:a6}:∀{l:a6},(∀e∈l,dF a e=dF b e)->jY a l=jY b l
 |[],_=>rfl
 |x::r,h=>by
  have:=CN (l:=r) λe c=>h e (by simp[c]);show Nf (Nf _ (dF a x)) (jY a r)=Nf (Nf _ (dF b x)) (jY b r)
  grind
def UF:∀(l:bf) (tab:a6),N9 (Z tab) l=O->∀(i:Nat) p,l[i]? =X p->dF (jU tab l) (Z tab+i)=jY (jU tab l) (iR p)/\∀e∈iR p,e<Z tab+i
 |[],_,_,i,p,h=>by simp at h
 |q::r,tab,hb,i,p,h=>by
  simp only[N9,Af]at hb;have a:∀e∈iR q,e<Z tab:=λe c=>by simp_all
  cases i with
  |zero=>
   simp at h;subst h;refine⟨?_,λe c=>by grind⟩;obtain⟨t,h1,_⟩:=BQ r (tab++[jY tab (iR q)]);have b:jU tab (q::r)=(tab++[jY tab (iR q)])++t:=h1;rw[Nat.add_zero,b,SL s_,aHh]
   grind[CN,SL]
  |succ i=>
   have:=UF r (tab++[jY tab (iR q)]) (by simp_all) i p (by simp_all);simp only[List.length_append,List.length_singleton]at this;rw[show Z tab+(i+1)=Z tab+1+i from by omega];exact this
theorem RD{p:Oper}{i:Nat}:i∈iR p↔ ∃e∈p.after,Js .any e=O/\e.on=i:=by
 unfold iR
 grind
def G6{tab:a6}{i d:Nat}:∀{l:bf} {n:Nat},TG tab i d n l=O->∀(j:Nat) q,l[j]? =X q->loose tab i (n+j)=O->q.dst≠X d
 |[],_,_,j,q,h,_=>by simp at h
 |x::r,n,hb,j,q,h,hl=>by
  simp only[TG,Af]at hb;cases j with
  |zero=>
   simp at h;subst h;intro e;simp_all
  |succ j=>exact G6 hb.2 j q (by simp_all) (by grind)
def LA{tab:a6}{all:bf}:∀{l:bf} {n:Nat},aMu tab all n l=O->∀(i:Nat) p d,l[i]? =X p->p.dst=X d->TG tab (n+i) d 0 all=O
 |[],_,_,i,p,d,h,_=>by simp at h
 |x::r,n,hb,i,p,d,h,hd=>by
  simp only[aMu,Af]at hb;cases i with
  |zero=>
   grind
  |succ i=>
   have:=LA hb.2 i p d (by simp_all) hd
   grind
def E6(ops:Array Oper)(h:QB ops=O):TabSp ops (jU [] ops.toList):=by
 simp only[QB,Af]at h;obtain⟨h1,l⟩:=h;have get:∀(j:Nat) p,ops[j]? =X p->dF (jU [] ops.toList) j=jY (jU [] ops.toList) (iR p)/\∀e∈iR p,e<j:=λj p hp=>by have:=UF ops.toList [] h1 j p (by grind);simp_all
 have k:Z (jU [] ops.toList)=ops.size:=by obtain⟨t,r,w⟩:=BQ ops.toList [];rw[r];simp;omega
 have a:∀j i,cY (dF (jU [] ops.toList) j) i=O->j<ops.size:=λj i g=>by grind[Nat.lt_of_not_le,aHg,yI]
 have c:∀(j:Nat) p,ops[j]? =X p->∀e∈p.after,Js .any e=O->e.on<j:=λj p hp e s o=>(get j p hp).2 _ (RD.2 ⟨e,s,o,rfl⟩);have d:∀(j:Nat) p,ops[j]? =X p->∀i,cY (dF (jU [] ops.toList) j) i=O->∃e∈p.after,Js .any e=O/\(e.on=i\/cY (dF (jU [] ops.toList) e.on) i=O):=λj p hp i u=>by grind[LP,RD]
 have b:∀i j,cY (dF (jU [] ops.toList) i) j=O->j<i:=by
  intro i;induction i using Nat.strongRecOn with
  |ind i v=>
   intro j g;have f:=a i j g;have hp:ops[i]? =X ops[i]:=Array.getElem?_eq_getElem f
   grind
 exact⟨c,b,d,a,λi j p q hp x hl t m=>by
  have:=LA (n:=0) l i p t q_ m;rw[Bv]at this
  exact G6 this j q q_ q_⟩
inductive To(E:Env)(fn:Func)(g:Goal)(st:St):Prop
 |mk (h:BT E fn g st)
def aSL(E:Env)(fn:Func)(g:Goal):To E fn g=BT E fn g:=funext λst=>propext ⟨λ⟨h⟩=>h,.mk⟩
def bO{E:Env}{fn:Func}{g:Goal}(hE:ae E)(a:Nat){st:St}(h:cA E fn g (To E fn g) a st):To E fn g st:=by rw[aSL]at h⊢;exact go hE E6 a st h
def aA.to{E:Env}{f:FuncId}{fn:Func}{args:az}{ac:aw}{g:Goal}(b:E.df=[])(k:E.P.funcs[f]? =X fn)(l:fn.body=X (dS fn))(a:pD E.P f)
  (e:dR fn.ntmps (dS fn)=O) (i:Fv (Z args) fn.ntmps=O) (c:wX ac=O) (m:Z ac=g.n0) (h:okL args->To E fn g (.code [.code (dS fn)] (frA 0 args) ac)) (d:E.rd=none:=by rfl):aA E.P f args ac g.res g.obs:=
 aA.of b k l a e i c m (λj=>(h j).rec λh=>h) d
def zvL(f:Value->aa):bb->az
 |[]=>[]
 |v::r=>f v::zvL f r
def zv:Nat->Value->aa
 |n+1,.agg vs=>.agg (zvL (zv n) vs.toList)
 |_,v=>aMM v
def YZ{M:Imm}{ob:Hs}{f:Value->aa}(e:∀v,Rep M ob v (f v)):∀(l:bb),Z l=Z (zvL f l)/\∀(i:Nat) v a,l[i]? =X v->(zvL f l)[i]? =X a->Rep M ob v a
 |[]=>⟨rfl,λi v a h=>by simp at h⟩
 |x::l=>by
  obtain⟨h1,d⟩:=YZ e l;refine⟨by simp[zvL,h1],λi v a c b=>?_⟩;cases i with
  |zero=>simp[zvL]at c b;grind
  |succ i=>exact d i v a (by simpa using c) (by simpa[zvL]using b)
def aNZ{M:Imm}{ob:Hs}:∀(n:Nat) (v:Value),Rep M ob v (zv n v):=by
 intro n;induction n with
 |zero=>intro v;exact uG v
 |succ n a=>
  intro v;cases v with
  |agg vs=>
   obtain⟨h1,b⟩:=YZ (M:=M) (ob:=ob) a vs.toList;have:=Rep.agg vs.toList _ h1 b;simpa[zv]using this
  |_=>exact uG _
def T4(P:Program):Nat->Nat->List (Option Nat)
 |0,_=>[]
 |n+1,t=>match P.underlying t with
  |some (.struct fs)=>fs.toList.flatMap λf=>T4 P n f.type
  |some (.array len e)=>(Ak len (T4 P n e)).flatten
  |some (.slice e)=>[X (((P.info? e).map (·.size)).getD 0)]
  |_=>[U]
def aJj:Option Nat->aa->aa
 |some sz,.nilslice=>.slice sz [] .nil
 |_,v=>v
def tyZ:List (Option Nat)->az->az
 |k::ks,c::cs=>aJj k c::tyZ ks cs
 |_,cs=>cs
def zT(P:Program)(t:Nat)(z:Value):aa:=match zv 4 z with
 |.agg cs=>.agg (tyZ (T4 P 6 t) cs)
 |v=>aJj (match T4 P 6 t with|k::_=>k | []=>U) v
def O5{M:Imm}{ob:Hs}{k:Option Nat}{v:Value}{a:aa}(h:Rep M ob v a):Rep M ob v (aJj k a):=by
 unfold aJj;split
 .cases h;exact .slnil _ _ rfl
 .exact h
def ZE{M:Imm}{ob:Hs}:∀{ks:List (Option Nat)} {cs:az} {vs:bb},cL M ob vs cs->cL M ob vs (tyZ ks cs)
 |[],cs,vs,h=>by cases cs<;>exact h
 |k::ks,[],vs,h=>h
 |k::ks,c::cs,[],h=>by have:=h.1;simp at this
 |k::ks,c::cs,v::vs,h=>cL.cons (O5 (h.2 0 v c rfl rfl)) (ZE ⟨by simpa using h.1,λi u b a d=>h.2 (i+1) u b (by simp_all) (by simp_all)⟩)
def aN0{M:Imm}{ob:Hs}{P:Program}{t:Nat}{z:Value}:Rep M ob z (zT P t z):=by
 have h:=aNZ (M:=M) (ob:=ob) 4 z;unfold zT;split
 .rename_i cs a;rw[a]at h;obtain⟨vs,rfl,h1,b⟩:=h.agg_inv;obtain⟨d,c⟩:=ZE (ks:=T4 P 6 t) ⟨h1,b⟩;exact .agg vs _ d c
 .exact O5 h
def sZ(P:Program)(t:Nat):Nat:=((P.info? t).map (·.size)).getD 0
def mkF(P:Program)(f:Field):Nat×Nat×Bool:=(f.offset,sZ P f.type,aR P f.type)
def aPq(P:Program):List Field->List (Nat×Nat×Bool)
 |[]=>[]
 |f::r=>mkF P f::aPq P r
def NP(P:Program)(t:Nat):Bool:=(P.info? t).isSome&&(P.underlying t).isSome
def fsB(P:Program):List Field->Bool
 |[]=>O
 |f::r=>NP P f.type&&fsB P r
def NH(P:Program)(t:Nat):TK:=match P.underlying t with
 |some (.int k)=>.int k
 |some .bool=>.bool
 |some .string=>.str
 |some (.struct fs)=>.strct (aPq P fs.toList)
 |some (.array n e)=>.arr n (sZ P e) (aR P e)
 |some (.slice e)=>.slc e (sZ P e) (((P.info? e).map (·.bytes)).getD 0)
 |some (.pointer e)=>.ptr e
 |some (.interface _)=>.iface
 |some (.map k e)=>.mp k e
 |_=>.other
def aLd(P:Program)(t:Nat):TI:=match P.info? t with
 |some i=>⟨NH P t,i.size,aR P t,match i.zero with|some z=>zT P t z|none=>.undef⟩
 |none=>⟨.other,0,S,.undef⟩
def Y1(P:Program)(t:Nat):Bool:=match P.info? t with
 |some i=>(match i.zero with
  |some z=>Au z.cells.size i.size&&(z.cells.toList.all (·.oneCell')&&FP (zT P t z))
  |none=>S)
 |none=>S
def aSk(P:Program)(e:Nat):Bool:=Y1 P e
def okB(P:Program)(t:Nat):Bool:=Y1 P t&&match P.underlying t with
 |X (.int _)|X .bool|X .string|X (.pointer _)|X (.interface _)|some (.map _ _)=>Au (sZ P t) 1
 |some (.struct fs)=>fsB P fs.toList
 |some (.array _ e)=>NP P e
 |some (.slice e)=>Au (sZ P t) 1&&aSk P e
 |some _=>O
 |none=>S
def aAt(P:Program):∀(l:List Field),fsB P l=O->qO P l (aPq P l)
 |[],_=>trivial
 |f::r,h=>by simp only[fsB,Af,NP]at h;obtain⟨⟨h1,a⟩,h3⟩:=h;obtain⟨i,b⟩:=Da.1 h1;exact⟨rfl,by simp[sZ,b],a,rfl,aAt P r h3⟩
def EA{P:Program}{t:Nat}(h:Y1 P t=O):∃i z,P.info? t=X i/\i.zero=X z/\z.cells.size=i.size/\z.cells.toList.all (·.oneCell')=O/\zT P t z≠ .undef:=by
 unfold Y1 at h;split at h
 .rename_i i a;split at h
  .rename_i z hz;simp only[Af]at h
   grind[aE,DP]
  .cases h
 .cases h
def aLc{P:Program}{t:Nat}(h:okB P t=O):TIOK P t (aLd P t):=by
 simp only[okB,Af]at h;obtain⟨u,h1⟩:=h;obtain⟨i,z,l,hz,hs,f,g⟩:=EA u;have hm:aLd P t=⟨NH P t,i.size,aR P t,zT P t z⟩:=by simp[aLd,l,hz]
 have hst:sZ P t=i.size:=by simp[sZ,l]
 rw[hm];refine⟨⟨i,z,l,rfl,hz,hs,aN0,f,g⟩,?_⟩;show xS P t (aR P t) i.size (NH P t);unfold NH;have b:∀d,P.underlying t=X d->aR P t=match d with | .struct _ | .array _ _=>O|_=>false:=λd p=>by unfold aR;rw[p];cases d<;>rfl
 split at h1
 .rename_i k a;rw[a];exact⟨a,b _ a,by rw[<-hst];exact aE h1⟩
 .rename_i a;rw[a];exact⟨a,b _ a,by rw[<-hst];exact aE h1⟩
 .rename_i a;rw[a];exact⟨a,b _ a,by rw[<-hst];exact aE h1⟩
 .rename_i e a;rw[a];exact⟨a,b _ a,by rw[<-hst];exact aE h1⟩
 .rename_i q a;rw[a];exact⟨⟨q,a⟩,b _ a,by rw[<-hst];exact aE h1⟩
 .rename_i mk v a;rw[a];exact⟨a,b _ a,by rw[<-hst];exact aE h1⟩
 .rename_i s a;rw[a];exact⟨⟨s,a,aAt P _ h1⟩,b _ a⟩
 .rename_i n e a;rw[a];simp only[NP,Af]at h1;obtain⟨j,c⟩:=Da.1 h1.1;exact⟨⟨e,a,by simp[sZ,c],h1.2,rfl⟩,b _ a⟩
 .rename_i e a;rw[a];simp only[Af]at h1;obtain⟨j,y,c,r,o,m,_⟩:=EA h1.2;exact⟨⟨a,j,y,c,by simp[sZ,c],by simp[c],r,by simp[sZ,c,o],m⟩,b _ a,by rw[<-hst];exact aE h1.1⟩
 .rename_i d G F H A C I B w D a;rw[a];have p:∀(α:Type) (x y:α),True:=λ_ _ _=>trivial
  cases d<;>first
   |exact⟨⟨_,a,λq e=>by cases e⟩,rfl⟩
   |grind
 .cases h1
def aAs(P:Program):a6->Tab
 |[]=>[]
 |t::r=>(t,aLd P t)::aAs P r
def aJv(P:Program):a6->Bool
 |[]=>O
 |t::r=>okB P t&&aJv P r
def aGU:Tab->a6
 |[]=>[]
 |(t,_)::r=>t::aGU r
def RU{P:Program}:∀{l:a6},aJv P l=O->∀t a,dE (aAs P l) t=X a->TIOK P t a
 |[],_,t,a,h=>by cases h
 |x::r,hb,t,a,h=>by
  simp only[aJv,Af]at hb;simp only[aAs,dE]at h;cases b:Au x t with
  |true=>
   rw[b]at h;cases h;rw[<-aE b];exact aLc hb.1
  |false=>rw[b]at h;exact RU hb.2 t a h
def UW{P:Program}{T:Tab}(h1:aAs P (aGU T)=T)(b:aJv P (aGU T)=O):∀t a,dE T t=X a->TIOK P t a:=by intro t a h;rw[<-h1]at h;exact RU b t a h
def rM(fr:au)(t:Nat):∀(keep:a6),aX (mW keep fr) t=aX fr t\/aX (mW keep fr) t= .undef
 |[]=>.inr rfl
 |k::r=>by
  simp only[mW,aX];cases h:Au k t with
  |true=>simp_all
  |false=>exact rM fr t r
def SS.weak{M0:Imm}{ob0:Hs}{aq:aw}{w0:World}{sz:Nat}{dfs:List (Nat×az)}{fr b:au}{ac:aw}{a:Act}{w:World}(d:∀t,aX b t=aX fr t\/aX b t= .undef)(h:SS M0 ob0 aq w0 sz dfs fr ac a w):
  SS M0 ob0 aq w0 sz dfs b ac a w:=by
 obtain⟨M,ob,c,hm,f,r⟩:=h;refine⟨M,ob,c,hm,λt=>?_,r⟩;rcases d t with e|e
 .simp_all
 .rw [e];exact .undef _
def dP.weak{E:Env}{fn:Func}{g:Goal}{ks:bg}{fr b:au}{ac:aw}(d:∀t,aX b t=aX fr t\/aX b t= .undef)(h:dP E fn g ks b ac):dP E fn g ks fr ac:=
 λc M0 ob0 aq w0 a w hst hs=>h c M0 ob0 aq w0 a w hst (hs.weak d)
def dP.keep{E:Env}{fn:Func}{g:Goal}{ks:bg}{fr:au}{ac:aw}(l:a6)(h:dP E fn g ks (mW l fr) ac):dP E fn g ks fr ac:=h.weak λt=>rM fr t l
def To.head{E:Env}{fn:Func}{g:Goal}{ks:bg}{fr:au}{ac:aw}(l:a6)(h:To E fn g (.head ks (mW l fr) ac)):To E fn g (.head ks fr ac):=h.rec λh=>.mk (dP.keep l h)
abbrev C3:=IntKind×Int×Int
def vA(cs:List C3):bb:=cs.map λc=>.int c.1 c.2.1
def vB(cs:List C3):bb:=cs.map λc=>.int c.1 c.2.2
def rV:List C3->Bool
 |[]=>O
 |c::r=>(c.2.1==c.2.2)&&rV r
def CO(a b:List C3):rV (a++b)=(rV a&&rV b):=by
 induction a with
 |nil=>simp[rV]
 |cons c r d=>simp[rV,d,Bool.and_assoc]
def oF(P:Program)(t:TypeId)(l:bb):Value:=if aR P t then .agg l.toArray else l.headD undef
def AL(P:Program)(a:TypeId->Bool):Nat->List Field->Nat->Bool
 |off,[],total=>Au off total
 |off,f::fs,total=>((f.name != "_")&&Au f.offset off)&&((a f.type&&(P.info? f.type).isSome)&&AL P a (off+P.cellsOf f.type) fs total)
def fX(P:Program):Nat->TypeId->Bool
 |0,_=>S
 |m+1,t=>match P.underlying t with
  |some (.int _)=>Au (P.cellsOf t) 1
  |some (.array n e)=>(fX P m e&&(P.info? e).isSome)&&Au (P.cellsOf t) (n*P.cellsOf e)
  |some (.struct fs)=>!P.stoodInHeld t&&AL P (fX P m) 0 fs.toList (P.cellsOf t)
  |_=>S
def EqI(P:Program)(d:Nat)(t:TypeId):Prop:=∀(w:World) (cs:List C3),Z cs=P.cellsOf t->(Op.equalIn d t (oF P t (vA cs)) (oF P t (vB cs))).run P w= .ok (rV cs) w
section
variable {P:Program} (w:World)
def rO{m:Nat}{t:TypeId}(h:fX P m t=O):(P.underlying t).isSome=O/\(aR P t=S->P.cellsOf t=1):=by
 cases m with
 |zero=>cases h
 |succ m=>
  unfold fX at h;unfold aR;split at h
  .simp_all
  .grind
  .grind
  .cases h
def kP{e:TypeId}(h:(P.underlying e).isSome=O)(g:(P.info? e).isSome=O)(h1:aR P e=S->P.cellsOf e=1)(l:bb)(off:Nat)(c:off+P.cellsOf e<=Z l):
  (part e l.toArray off).run P w= .ok (oF P e ((l.drop off).take (P.cellsOf e))) w:=by
 unfold part;simp only[Bd,AM h,Aq];unfold oF;obtain⟨i,b⟩:=Da.1 g;have a:(P.info? e).map (·.size)=X (P.cellsOf e):=by simp[Program.cellsOf,b]
 cases f:aR P e with
 |true=>
  simp only[if_true,Bd,AW.af a,Aq,Bu];simp
 |false=>
  have j:=h1 f;have d:off<Z l:=o_;simp only[Cy,if_false]
  grind[Ab,Bu,List.drop_eq_getElem_cons]
def L6(cs:List C3):Z (vA cs)=Z cs:=by simp[vA]
def aN4(cs:List C3):Z (vB cs)=Z cs:=by simp[vB]
def UR(cs:List C3)(o n:Nat):((vA cs).drop o).take n=vA ((cs.drop o).take n):=by simp[vA,Ia,Fw]
def aN5(cs:List C3)(o n:Nat):((vB cs).drop o).take n=vB ((cs.drop o).take n):=by simp[vB,Ia,Fw]
def PY{d m:Nat}{e:TypeId}(h:fX P m e=O)(f:(P.info? e).isSome=O)(i:EqI P d e)(cs:List C3)(off:Nat)(c:off+P.cellsOf e<=Z cs):
  ∃a b,(part e (vA cs).toArray off).run P w= .ok a w/\(part e (vB cs).toArray off).run P w= .ok b w/\(Op.equalIn d e a b).run P w= .ok (rV ((cs.drop off).take (P.cellsOf e))) w:=by
 obtain⟨g,h1⟩:=rO h;refine⟨_,_,kP w g f h1 _ _ (by rw[L6];exact c),kP w g f h1 _ _ (by rw[aN4];exact c),?_⟩;rw[UR,aN5];exact i w _ q_
def take_add(cs:List C3)(o a b:Nat):(cs.drop o).take (a+b)=(cs.drop o).take a++(cs.drop (o+a)).take b:=by rw[List.take_add,Ho]
def aB9{d m:Nat}{e:TypeId}(l:fX P m e=O)(j:(P.info? e).isSome=O)(s:EqI P d e)(cs:List C3):∀(n k:Nat),(k+n)*P.cellsOf e<=Z cs->
  (Op.eqItems d e (P.cellsOf e) (vA cs).toArray (vB cs).toArray (Hw k n)).run P w= .ok (rV ((cs.drop (k*P.cellsOf e)).take (n*P.cellsOf e))) w:=by
 intro n;induction n with
 |zero=>intro k _;simp[Op.eqItems,rV]
 |succ n o=>
  intro k h;have i:(k+1)*P.cellsOf e<=(k+(n+1))*P.cellsOf e:=Br _ o_;have c:(k+1)*P.cellsOf e=k*P.cellsOf e+P.cellsOf e:=by grind
  obtain⟨a,b,q,r,p⟩:=PY w l j s cs (k*P.cellsOf e) o_;have f:=o (k+1) (by rw[show k+1+n=k+(n+1)from by omega];exact h);have g:(n+1)*P.cellsOf e=P.cellsOf e+n*P.cellsOf e:=by rw[Cg,Ii,Md]
  rw[g,take_add,CO,<-c];simp only[List.range'_succ,Op.eqItems,Bd,q,r,p,Aq];cases rV ((cs.drop (k*P.cellsOf e)).take (P.cellsOf e))with
  |true=>simp;omega
  |false=>simp
def VA{d m:Nat}(j:∀t,fX P m t=O->EqI P d t)(cs:List C3):∀(c:List Field) (off:Nat),AL P (fX P m) off c (Z cs)=O->
  (Op.eqFields d (vA cs).toArray (vB cs).toArray c).run P w= .ok (rV (cs.drop off)) w/\off<=Z cs:=by
 intro c;induction c with
 |nil=>
  intro off h;have:=aE h;subst this;exact⟨by simp[Op.eqFields,rV],Bc _⟩
 |cons f c o=>
  intro off h;simp only[AL,Af]at h;obtain⟨⟨h1,p⟩,⟨h3,u⟩,l⟩:=h;obtain⟨n,k⟩:=o _ l;have e:=aE p;obtain⟨a,b,r,s,q⟩:=PY w h3 u (j _ h3) cs f.offset o_;refine⟨?_,by omega⟩;have i:cs.drop off=(cs.drop off).take (P.cellsOf f.type)++cs.drop (off+P.cellsOf f.type):=by rw[<-Ho,Bl]
  rw [i,CO];have g:f.name≠ "_" :=by simpa using h1
  simp only[Op.eqFields,g,ne_eq,not_false_eq_true,if_true,Bd,r,s,q,Aq];rw[e]at*
  cases rV ((cs.drop off).take (P.cellsOf f.type))with
  |true=>simp;omega
  |false=>simp
end
def XI{P:Program}(d:Nat):∀(m:Nat) (t:TypeId),fX P m t=O->EqI P (d+m) t
 |0,_,h=>by cases h
 |m+1,t,h=>by
  intro w cs f;have p:∀t,fX P m t=O->EqI P (d+m) t:=λt h=>XI d m t h;unfold fX at h;split at h
  .rename_i k g;have c:aR P t=false:=by unfold aR;rw[g]
   have h1:=aE h;rw[h1]at f
   match cs,f with
   |[(k',a,b)],_=>
    simp only[oF,c,vA,vB,Bg,List.map_nil,List.headD_cons,Cy,if_false,rV,Bool.and_true];exact run_equalIn_int w (d+m) t k' k a b g
  .rename_i n e g;simp only[Af]at h;obtain⟨⟨h1,j⟩,h3⟩:=h;have c:aR P t=true:=by unfold aR;rw[g]
   obtain⟨i,q⟩:=Da.1 j;have r:=aE h3;simp only[oF,c,if_true];rw[show d+(m+1)=(d+m)+1 from rfl,run_equalIn_array w (d+m) _ _ g q,List.range_eq_range',aB9 w h1 j (p e h1) cs n 0 (by grind)]
   grind
  .rename_i o g;simp only[Af,Db]at h;obtain⟨h1,j⟩:=h;have c:aR P t=true:=by unfold aR;rw[g]
   have l:P.fieldsOf t=o:=by simp[Program.fieldsOf,g]
   simp only[oF,c,if_true];rw[<-f]at j;rw[show d+(m+1)=(d+m)+1 from rfl,run_equalIn_struct w (d+m) t _ _ (by grind) h1,l];simpa using(VA w p cs o.toList 0 j).1
  .cases h
def aIB:∀{xs ys:az} {c:Bool} {vs us:bb},ceq xs ys=X c->cL (λ_ _ _=>False) [] vs xs->cL (λ_ _ _=>False) [] us ys->∃cs:List C3,vs=vA cs/\us=vB cs/\c=rV cs
 |[],[],c,vs,us,h,h1,h2=>by
  cases h;have f:vs=[]:=by simpa using h1.1
  have e:us=[]:=by simpa using h2.1
  exact⟨[],by simp[vA,f],by simp[vB,e],rfl⟩
 |x::xs,y::ys,c,vs,us,h,h1,h2=>by
  cases x<;>first|(simp[ceq]at h;done)|skip
  cases y<;>first|(simp[ceq]at h;done)|skip
  rename_i k a p b;simp only[ceq]at h;obtain⟨j,h3⟩:=fK h;have:=zH j;subst this;cases g:ceq xs ys with
  |none=>grind
  |some o=>
   rw[g]at h3;cases h3
   match vs,us,h1,h2 with
   |v::vs,u::us,h1,h2=>
    have d:=(h1.2 0 v _ rfl rfl).int_inv.1;have l:=(h2.2 0 u _ rfl rfl).int_inv.1;subst d l;obtain⟨cs,f,e,m⟩:=aIB (vs:=vs) (us:=us) g ⟨by simpa using h1.1,λi v a d n=>h1.2 (i+1) v a (by grind) (by grind)⟩ ⟨by simpa using h2.1,λi v a d n=>h2.2 (i+1) v a (by grind) (by grind)⟩;exact⟨(k,a,b)::cs,by simp[vA,f],by simp[vB,e],by simp[rV,m]⟩
 |[],_::_,c,vs,us,h,_,_=>by cases h
 |x::_,[],c,vs,us,h,_,_=>by cases x<;>cases h
def VB{P:Program}(w:World){n:Bool}{d m:Nat}(r:∀(e:TypeId),fX P m e=O->∀(w:World) (cs:List C3),Z cs=P.cellsOf e->(Hv n d e (oF P e (vA cs))).run P w= .ok () w)(cs:List C3){e:TypeId}(g:fX P m e=O)(b:(P.info? e).isSome=O):
  ∀(a:a6),(∀i∈a,(i+1)*P.cellsOf e<=Z cs)->
  (forIn (m:=Sem) a PUnit.unit λi _=>(do Hv n d e (<-part e (vA cs).toArray (i*(<-sizeOf e)));Pure.pure (ForInStep.yield PUnit.unit))).run P w= .ok PUnit.unit w:=by
 intro a;obtain⟨s,f⟩:=Da.1 b;have c:(P.info? e).map (·.size)=X (P.cellsOf e):=by simp[Program.cellsOf,f]
 obtain⟨o,h1⟩:=rO g;induction a with
 |nil=>simp
 |cons j a p=>
  intro h;have k:=h j s_;rw[Cg,Ii]at k;have l:=kP w o b h1 (vA cs) (j*P.cellsOf e) (by rw[L6];exact k);rw[UR]at l;have q:=r e g w ((cs.drop (j*P.cellsOf e)).take (P.cellsOf e)) q_;simp only[List.forIn_cons,Bd,AW.af c,Aq,l,q,Bu];exact p λi b=>h i (by simp[b])
def aIu{P:Program}(v:Bool)(d:Nat):∀(m:Nat) (t:TypeId),fX P m t=O->∀(w:World) (cs:List C3),Z cs=P.cellsOf t->(Hv v (d+m) t (oF P t (vA cs))).run P w= .ok () w
 |0,_,h=>by cases h
 |m+1,t,h=>by
  intro w cs g;have x:=aIu (P:=P) v d m;unfold fX at h;rw[show d+(m+1)=(d+m)+1 from rfl,Hv];split at h
  .rename_i k j;have c:aR P t=false:=by unfold aR;rw[j]
   have h1:=aE h;rw[h1]at g
   match cs,g with
   |[(k',a,b)],_=>
    simp[oF,c,vA,run_underlying j]
  .rename_i n e j;simp only[Af]at h;obtain⟨⟨h1,l⟩,h3⟩:=h;have c:aR P t=true:=by unfold aR;rw[j]
   have G:=aE h3;simp only[oF,c,if_true,Bd,run_underlying j,Aq];simp only[Std.Legacy.Range.forIn_eq_forIn_range',Std.Legacy.Range.size,Jq,Nat.add_one_sub_one,Ih]
   have:=VB w x cs h1 l (Hw 0 n) (λi F=>by
    have:i<n:=by grind
    have:(i+1)*P.cellsOf e<=n*P.cellsOf e:=Br _ this
    omega)
   simp at this⊢;simp_all
  .rename_i q j;simp only[Af,Db]at h;obtain⟨h1,l⟩:=h;have c:aR P t=true:=by unfold aR;rw[j]
   simp only [oF,c,if_true,Bd,run_underlying j,Aq];rw [<-Array.forIn_toList];rw [<-g] at l;have key:∀ (L:List Field) (off:Nat),AL P (fX P m) off L (Z cs)=true→off≤Z cs∧∀ f∈L,f.name≠ "_" ∧fX P m f.type=true∧(P.info? f.type).isSome=true∧f.offset+P.cellsOf f.type≤Z cs:=by
    intro L;induction L with
    |nil=>
     intro off h;have:=aE h;simp_all
    |cons f L s=>
     intro off h;simp only[AL,Af]at h
     grind[aE]
   have each:=(key q.toList 0 l).2;clear key l;generalize q.toList=L at each;induction L with
   |nil=>simp
   |cons f L s=>
    obtain⟨B,r,C,A⟩:=each f s_;obtain⟨o,p⟩:=rO r;have u:=kP w o C p (vA cs) f.offset (by rw[L6];exact A);rw[UR]at u;have D:=x f.type r w ((cs.drop f.offset).take (P.cellsOf f.type)) q_;simp only[List.forIn_cons,Bd,B,ne_eq,not_false_eq_true,if_true,Aq,u,D,Bu];exact s λy z=>each y (by simp[z])
  .cases h
def aPz(a b:ax)(h:Z a=Z b):∃cs:List C3,Z cs=Z a/\hC O a= .agg (vA cs).toArray/\hC O b= .agg (vB cs).toArray/\rV cs=decide (a=b):=by
 refine⟨(a.zip b).map λp=>(.i64,p.1,p.2),by simp;omega,?_,?_,?_⟩
 .simp only[hC,vA,if_true,Dx];congr 2;have:(a.zip b).map Prod.fst=a:=List.map_fst_zip o_
  conv=>lhs;rw[<-this]
  simp
 .simp only[hC,vB,if_true,Dx];congr 2;have:(a.zip b).map Prod.snd=b:=List.map_snd_zip o_
  conv=>lhs;rw[<-this]
  simp
 .induction a generalizing b with
  |nil=>
   cases b with
   |nil=>rfl
   |cons y b=>cases h
  |cons x a c=>
   cases b with
   |nil=>cases h
   |cons y b=>
    simp only[List.zip_cons_cons,Bg,rV]
    grind
def aHq(P:Program)(t n:Nat):Bool:=(aR P t&&fX P 8 t)&&(!P.eqGuardType P.depth t&&Au (P.cellsOf t) n)
def aHp{P:Program}{t n:Nat}(h:aHq P t n=O):YX P t n:=by
 simp only[aHq,Af,Db]at h;obtain⟨⟨h1,d⟩,h3,k⟩:=h;have r:=aE k;refine And.symm ⟨λw a b u s=>?_,?_⟩
 .obtain ⟨cs,v,p,m,l⟩:=aPz a b o_;have e:=XI 9992 8 t d w cs o_;have f:=λq=>aIu q 9992 8 t d w cs o_;simp only[oF,h1,if_true]at e f;rw[p,m,<-l];exact⟨e,f⟩
 intro w x y xs ys vs us c o i g j;obtain⟨cs,rfl,rfl,rfl⟩:=aIB o g j;refine⟨λop=>run_eqGuard_agg w op t x y _ _ h3,?_⟩;have hl:Z cs=P.cellsOf t:=by have:=g.1;rw[L6]at this;omega
 have:=XI 9992 8 t d w cs hl;simp only[oF,h1,if_true]at this;exact this
def XC(P:Program):List (Nat×Nat)->Bool
 |[]=>O
 |(t,n)::r=>aHq P t n&&XC P r
def SY{P:Program}:∀{l:List (Nat×Nat)},XC P l=O->∀t,0<C1 l t->YX P t (C1 l t)
 |[],_,t,h=>by cases h
 |(i,n)::r,hb,t,h=>by
  simp only[XC,Af]at hb;simp only[C1]at h⊢;cases a:Au i t with
  |true=>
   rw[a]at h;rw[<-aE a];exact aHp hb.1
  |false=>rw[a]at h;exact SY hb.2 t h
def CP(P:Program)(mt:aI1):Prop:=∀t a g,aGC mt t a=X g->∀v w,(method (P.types.size+Made.depth) t v a).run P w= .ok (g,v) w
def CP.nil{P:Program}:CP P []:=λt a g h=>by cases h
def CP.cons{P:Program}{i f:Nat}{s:String}{mt:aI1}(h:∀v w,(method (P.types.size+Made.depth) i v s).run P w= .ok (f,v) w)(k:CP P mt):CP P ((i,s,f)::mt):=by
 intro t a g b;simp only[aGC]at b;cases c:(Au i t&&s==a)with
 |false=>rw[c]at b;exact k t a g b
 |true=>
  simp_all
section
variable {E:Env} {fn:Func} {g:Goal} {M0:Imm} {ob0:Hs} {aq:aw} {w0:World} {sz:Nat} {dfs:List (Nat×az)} {fr:au} {ac:aw} {a:Act} {w:World}
def SS.cap{t k i es:Nat}{e:TypeId}{xs:az}(h1:aX fr t= .row k i)(y:aC ac k= .row i es e xs)(h:SS M0 ob0 aq w0 sz dfs fr ac a w):
  ∃c,Z xs<=c/\c<=maxLen/\SS M0 ob0 aq w0 sz dfs (iI fr t (.rowc k i c)) ac a w:=by
 obtain⟨M,ob,s,hm,j,r⟩:=h;have g:=j t;rw[h1]at g;obtain⟨u,n,c,x,d⟩:=g.row_inv;obtain⟨hs',v,F,C,B,f,p,_⟩:=hm.rowOf (bK y s_);rw[d]at f;cases f;have l:Z xs<=c/\c<=maxLen:=by
  rcases p.len with⟨q,rfl⟩|⟨b,z,m,_,A,D⟩
  .cases q;simp
  .cases m;omega
 refine⟨c,l.1,l.2,M,ob,s,hm,λo=>?_,r⟩;rw[vO];split
 .rename_i e;subst e;rw[x];have:=gZ;exact .rowc k i c u n d o_
 .exact j o
def To.cap{ks:bg}{t k i es:Nat}{e:TypeId}{xs:az}(h1:aX fr t= .row k i)(d:aC ac k= .row i es e xs)
  (h:∀c,Z xs<=c->c<=maxLen->To E fn g (.code ks (iI fr t (.rowc k i c)) ac)):To E fn g (.code ks fr ac):=
 .mk λb M0 ob0 aq w0 a w hst hs=>by obtain⟨c,f,j,hs'⟩:=hs.cap h1 d;exact(h c f j).rec λh=>h b M0 ob0 aq w0 a w hst hs'
def Mem.become{M:Imm}{ob:Hs}(hm:Mem M ob ac w){j k i es es':Nat}{e p:TypeId}{xs ys:az}(T:j≠k)(h1:ac[j]? =X (.row i es e xs))(G:ac[k]? =X (.row 0 es' p ys)){v:Value}(W:at' ob k 0=X v):
  ∃ob',Mem M ob' ((ac.set j (.row (i+1) es' p ys)).set k .dead) w/\Ext M ob ac w M ob' ((ac.set j (.row (i+1) es' p ys)).set k .dead) w/\at' ob' j (i+1)=X v:=by
 obtain⟨g,v0,e1,P,e3,e4,R,K⟩:=hm.rowOf h1;obtain⟨s,v1,As,Y,Be,J,u,D⟩:=hm.rowOf G;rw[W]at J;cases J;have F:j<Z ob:=(Ad.1 e1).1;have hjo:j<Z ac:=(Ad.1 h1).1;have Am:k<Z ac:=(Ad.1 G).1;have n:(ob.set j (g++[v]))[j]? =X (g++[v]):=Ay F;have m:∀{i:Nat},i≠j->(ob.set j (g++[v]))[i]? =ob[i]?:=λ{i} h=>Bf (Ne.symm h);have A:dH ob (ob.set j (g++[v])):=λd hs hi=>by grind[Cp]
 have z:Z (g++[v])=i+1+1:=by simp[P]
 have t:(g++[v])[i+1]? =X v:=by rw[<-P];simp
 have N:((ac.set j (.row (i+1) es' p ys)).set k .dead)[k]? =X .dead:=Ay q_;have gj:((ac.set j (.row (i+1) es' p ys)).set k .dead)[j]? =X (.row (i+1) es' p ys):=by grind
 have Q:∀{d},d≠j->d≠k->((ac.set j (.row (i+1) es' p ys)).set k .dead)[d]? =ac[d]?:=λ{d} a b=>by grind
 have alive:∀{d b:Nat},aK (ob.set j (g++[v])) ((ac.set j (.row (i+1) es' p ys)).set k .dead) d b->(d=j/\aK ob ac k b)\/(d≠j/\d≠k/\aK ob ac d b):=by
  rintro d b ⟨c,hs,o,x,B,I⟩;by_cases f:d=j
  .subst f;rw[n]at B;cases B;have H:b∈blk s:=by rw[eT z t]at I;rw[eT Y Be];exact I
   exact .inl ⟨rfl,_,s,G,rfl,As,H⟩
  .by_cases l:d=k
   .subst l;rw[N]at o;cases o;cases x
   .rw [Q f l]at o;rw[m f]at B;exact .inr ⟨f,l,c,hs,o,x,B,I⟩
 refine⟨ob.set j (g++[v]),⟨hm.imm,by simp[hm.len],λd c y=>?_,λd b C=>?_,λd At b C An=>?_⟩,⟨λ_ _ _ h=>h,λ_ _ _ h=>.inl h,A,rfl,rfl,rfl,Bc _,λ_ _ _=>rfl,λd b C=>?_⟩,(cG n).trans t⟩
 .by_cases f:d=j
  .subst f;rw[gj]at y;cases y;exact⟨_,n,z,v,t,u⟩
  .by_cases l:d=k
   .subst l;rw[N]at y;cases y;exact⟨s,(m f).trans As,trivial⟩
   .rw [Q f l]at y;obtain⟨hs,o,x⟩:=hm.obj d c y;exact⟨hs,(m f).trans o,x.mono (λ_ _ _ h=>h) A (λ_ _ _ _ h=>h) (λ_ _ _ _ h=>h)⟩
 .rcases alive C with⟨_,q⟩|⟨_,_,q⟩<;>exact hm.lt _ b q
 .rcases alive C with⟨o,q⟩|⟨o,x,q⟩<;>rcases alive An with⟨L,r⟩|⟨L,V,r⟩
  .rw [o,L]
  .exact bv (hm.inj k At b q r).symm V
  .exact bv (hm.inj d k b q r) x
  .exact hm.inj d At b q r
 grind
def M7:a6->aa->au->au
 |[],_,fr=>fr
 |t::r,v,fr=>M7 r v (iI fr t v)
def OO(k:Nat)(fr:au):a6->Bool
 |[]=>O
 |t::r=>(match aX fr t with | .row j 0=>Au j k|_=>S)&&OO k fr r
def CE{v:aa}{t:Nat}:∀{l:a6} {fr:au},aX (M7 l v fr) t=aX fr t\/(t∈l/\aX (M7 l v fr) t=v)
 |[],fr=>.inl rfl
 |x::r,fr=>by
  rcases CE (v:=v) (t:=t) (l:=r) (fr:=iI fr x v)with h|⟨h1,a⟩
  .rw [vO]at h;by_cases e:t=x
   .subst e;rw[bu rfl]at h;exact .inr ⟨by simp,h⟩
   .rw [bt e]at h;exact .inl h
  .exact .inr ⟨by simp[h1],a⟩
def HO{k:Nat}{fr:au}:∀{l:a6},OO k fr l=O->∀t∈l,aX fr t= .row k 0
 |[],_,t,h=>by simp at h
 |x::r,h,t,a=>by
  simp only[OO,Af]at h;rcases Ba.1 a with rfl|a
  .have:=h.1;split at this
   .simp_all
   grind
  .exact HO h.2 t a
def To.become{ks:bg}{j k i es es':Nat}{e d:TypeId}{xs ys:az}(l:a6)(u:Au j k=S)(h1:aC ac j= .row i es e xs)(I:aC ac k= .row 0 es' d ys)(hl:OO k fr l=O)
  (h:To E fn g (.code ks (M7 l (.row j (i+1)) fr) (bQ (bQ ac j (.row (i+1) es' d ys)) k .dead))):To E fn g (.code ks fr ac):=
 .mk λB M0 ob0 aq w0 a w hst hs=>by
  refine h.rec λh=>h B M0 ob0 aq w0 a w hst ?_;obtain⟨M,ob,x,hm,D,A,F,P⟩:=hs;have m:j≠k:=λe=>by simp_all
  have y:=bK h1 s_;have r:=bK I s_;obtain⟨z,v,N,As,K,p,_⟩:=hm.rowOf r;obtain⟨ob',C,o,J⟩:=hm.become m y r p;have G:bQ (bQ ac j (.row (i+1) es' d ys)) k .dead=(ac.set j (.row (i+1) es' d ys)).set k .dead:=by grind[aQ,gJ,Ad]
  rw[G];refine⟨M,ob',x.trans o,C,λt=>?_,A,F.mono (λ_ _ _ h=>h) o.hs,by simp;omega⟩;have f:=D t;rcases CE (v:=.row j (i+1)) (t:=t) (l:=l) (fr:=fr)with q|⟨s,q⟩
  .rw [q];exact f.mono (λ_ _ _ h=>h) o.hs
  .rw [q];rw[HO hl t s]at f;obtain⟨L,n,c,H,b⟩:=f.row_inv;rw[p]at b;cases b;rw[H];exact .row _ _ _ _ _ J
end
def aRn{M:Imm}{ob:Hs}{vs:bb}{a b:aa}(h:cL M ob vs [a,b]):∃u v,vs=[u,v]/\Rep M ob u a/\Rep M ob v b:=by
 obtain⟨hl,c⟩:=h
 match vs,hl with
 |[u,v],_=>exact⟨u,v,rfl,c 0 _ _ rfl rfl,c 1 _ _ rfl rfl⟩
def Q5{P:Program}{f:FuncId}{fn:Func}{tS tR e:TypeId}(W:P.funcs[f]? =some fn)(o:(fn.name== "runtime.NumGoroutine")=false)(An:fn.body.isNone=true)(hn:Extern.findNext fn=none)
  (he:Extern.find fn=X (Extern.SlicesOverlaps.overlaps #[tS,tS] #[tR])) (F:P.underlying tS=X (.slice e)) {sz:Nat} (hz:(P.info? e).map (·.size)=X sz) (A:0<sz) {p C:TypeId} (xs ys:az) (lo len:Nat):
  aA P f [.row 0 0,.sub 1 0 lo len sz] [.row 0 sz p xs,.row 0 sz C ys] (.ret (.bool S)) [.row 0 sz p xs,.row 0 sz C ys]:=by
 intro M ob w J hm Am;obtain⟨u,v,rfl,hu,hv⟩:=aRn Am;have i:=λw:World=>af (P:=P) hz w;refine .inr ⟨.bool S,w,?_,M,ob,Ext.refl _ _ _ _,hm,.bool S⟩;rw[run_callFunc_extern W o An hn he];have key:(Extern.SlicesOverlaps.overlaps #[tS,tS] #[tR] #[u,v]).run P w= .ok (.bool S) w:=by
  obtain⟨a,n,c,rfl,I⟩:=hu.row_inv;obtain⟨G,v1,p1,p2,p3,N,D,B⟩:=hm.rowOf (k:=0) rfl;obtain⟨K,v2,q1,q2,q3,R,r,y⟩:=hm.rowOf (k:=1) rfl;rw[I]at N;cases N;have g:∀(a:Option Addr) (n c:Nat) (b:Option Addr) (m d:Nat),(a=U\/b=U\/n=0\/m=0)->(Extern.SlicesOverlaps.overlaps #[tS,tS] #[tR] #[.slice a n c,.slice b m d]).run P w= .ok (.bool S) w:=by
   intro a n c b m d h
   change Sem.run P (α:=Value) (do
    let some t:=(#[tS,tS]:Array TypeId)[0]? | stuck "slices.overlaps: no parameter types"
    let .slice elem ←underlying t | stuck "slices.overlaps: slice type expected"
    let size <-sizeOf elem
    match a,b with
    |some a,some b=>
     if n=0\/m=0\/size=0 then pure (Mz S)
     else if a.block !=b.block&&(<-frozen a)&&(<-frozen b)then unsupported .addressObserved
     else do
      if a.block !=b.block then do
           noView a;noView b
           if ←mayBeOne a b then return Mz ((←choose (.extern "sameAddr.stringBytes" 2))==1)
      pure (Mz (a.block==b.block&&a.off<b.off+m*size&&b.off<a.off+n*size))
    |_,_=>pure (Mz S)) w=_
   cases a with
   |none=>simp[run_underlying F,i]
   |some a=>
    cases b with
    |none=>simp[run_underlying F,i]
    |some b=>
     have h0:n=0\/m=0\/sz=0:=by grind
     simp[run_underlying F,i,h0]
  cases hv with
  |sub0 _ _ _ _ At a' n2 T l hl hc=>exact g _ _ _ _ _ _ (.inr (.inr (.inr rfl)))
  |sub _ _ _ _ _ b n2 T l hl hn2 Y hmm=>
   rw[l]at R;cases R;obtain⟨cv,⟨r1,s⟩,_⟩:=D;obtain⟨cv2,⟨s1,z⟩,_⟩:=r;rcases s with⟨s,_⟩|⟨x,As,q,s,_,L,r4,r5,r6,_⟩
   .cases s;exact g _ _ _ _ _ _ (.inl rfl)
   .rcases z with⟨z,_⟩|⟨b2,Q,j,z,_,s3,s4,s5,s6,_⟩
    .cases z
    .cases s;cases z;have H:x≠b:=by
      intro h;subst h
      have Be:aK ob [.row 0 sz p xs,.row 0 sz C ys] 0 x:=⟨_,G,rfl,rfl,p1,oO B rfl⟩
      have At:aK ob [.row 0 sz p xs,.row 0 sz C ys] 1 x:=⟨_,K,rfl,rfl,q1,oO y rfl⟩
      have:=hm.inj 0 1 x Be At;cases this
     have V:j.size≠0:=by rw[s6];have:=Nat.mul_pos (show 0<T by omega) A;omega
     exact Lib.run_overlaps_apart w tS tR e F sz i ⟨x,0,U⟩ ⟨b,lo*sz,U⟩ _ _ _ _ H p C q.size j.size (by simp[Jk,L]) (by simp[Jk,s3]) V (by simp[Ly,L]) (by simp[Ly,L])
 have e0:(([u,v]:bb)).toArray= #[u,v]:=rfl;rw[e0,key];rfl
def strip:Nat->aa->aa
 |0,v=>v
 |n+1,v=>match v with
  |.slice sz xs _=>.slice sz xs .no
  |.agg cs=>.agg (eF (strip n) cs)
  |.tup cs=>.tup (eF (strip n) cs)
  |.iface t v=>.iface t (strip n v)
  |v=>v
def pF{M:Imm}{ob:Hs}:∀(n:Nat) {v:Value} {a:aa},Rep M ob v a->Rep M ob v (strip n a):=by
 intro n;induction n with
 |zero=>intro v a h;exact h
 |succ n m=>
  intro v a h;cases h with
  |agg vs as hl d=>
   obtain⟨h1,j⟩:=cI (λv a=>m) hl d;exact .agg vs _ h1 j
  |tup vs as hl d=>
   obtain⟨h1,j⟩:=cI (λv a=>m) hl d;exact .tup vs _ h1 j
  |iface t v a d=>exact .iface t v _ (m d)
  |slnil sz t p=>exact .slnil sz .no trivial
  |slemp sz t a cap p=>exact .slemp sz .no a cap trivial
  |sl sz b o n cap xs t f e hm hz d p=>exact .sl sz b o n cap xs .no f e hm hz d trivial
  |undef v=>exact .undef v
  |bool b=>exact .bool b
  |int k n d=>exact .int k n d
  |str l hl=>exact .str l hl
  |ptr b o cs h=>exact .ptr b o cs h
  |ref k off b h=>exact .ref k off b h
  |eref k g i sz off b n c h=>exact .eref k g i sz off b n c h
  |csl k off len sz b h hm=>exact .csl k off len sz b h hm
  |row k g a n c h=>exact .row k g a n c h
  |sub k g lo len sz b n c h hl f e hm=>exact .sub k g lo len sz b n c h hl f e hm
  |sub0 k g lo sz a s n c h hl e=>exact .sub0 k g lo sz a s n c h hl e
  |rowc k g c a n h hm=>exact .rowc k g c a n h hm
  |pre k g n c sz b len h e f hl hm=>exact .pre k g n c sz b len h e f hl hm
  |mref k b h=>exact .mref k b h
  |nilptr=>exact .nilptr
  |nilslice=>exact .nilslice
  |nilmap=>exact .nilmap
  |nilfunc=>exact .nilfunc
  |nilif=>exact .nilif
  |hsl a n c=>exact .hsl a n c
  |func fn q cs w r u e h1 j=>exact .func fn q cs w r u e h1 j
def aA.strip{P:Program}{f:FuncId}{args:az}{ac ap:aw}{r:Res}(h:aA P f (eF (strip 5) args) ac r ap):aA P f args ac r ap:=
 λM ob w b hm c=>h M ob w b hm (by
  obtain⟨h1,d⟩:=cI (M':=M) (ob':=ob) (λv a=>pF (M:=M) (ob:=ob) 5) c.1 c.2
  exact⟨h1,d⟩)
def aA.less{P:Program}{f:FuncId}{args:az}{ac ap:aw}{v:aa}(h:aA P f args ac (.ret v) ap):aA P f args ac (.ret (AW.strip 5 v)) ap:=
 λM ob w a hm c=>cP.mono (λe w' ⟨M',ob',g,d,b⟩=>⟨M',ob',g,d,by
  cases e with
  |returned u=>exact pF 5 b
  |panicked i=>exact b.elim
  |outgrown=>exact b.elim⟩) (h M ob w a hm c)
def aDH(n:Nat):List (Nat×az)->Bool
 |[]=>O
 |(_,l)::r=>HJ (bel n 5) l&&aDH n r
def UE{n:Nat}:∀{l:List (Nat×az)},aDH n l=O->∀(i:Nat) x,l[i]? =X x->HJ (bel n 5) x.2=O
 |[],_,i,x,h=>by simp at h
 |(f,y)::r,hb,i,x,h=>by
  simp only[aDH,Af]at hb;cases i with
  |zero=>grind
  |succ i=>exact UE hb.2 i x (by simp_all)
def aII{w0 w:World}{M:Imm}{ob:Hs}{n:Nat}{g:List Deferred}{dfs:List (Nat×az)}(h:dD w0 w M ob g dfs)(l:aDH n dfs=O):dD w0 w M (ob.take n) g dfs:=
 let⟨d1,d2,e,h,h2⟩:=h
 ⟨d1,d2,e,⟨h.1,λi d x c b=>⟨(h.2 i d x c b).1,(h.2 i d x c b).2.1,λj v a k f=>D1 5 ((h.2 i d x c b).2.2 j v a k f) (nS (UE l i x b) j a f)⟩⟩,h2⟩
def To.cut{E:Env}{fn:Func}{g:Goal}{ks:bg}{fr:au}{ac:aw}(l:a6)(n:Nat)(x:Fv g.n0 n=O)(r:aIH n (mW l fr)=O)(i:II n (pW n ac)=O)(j:aDH n E.df=O)
  (h:To E fn g (.head ks (mW l fr) (pW n ac))):To E fn g (.head ks fr ac):=
 .mk λf M0 ob0 aq w0 a w hst hs=>by
  refine h.rec λh=>h f M0 ob0 aq w0 a w hst ?_;obtain⟨M,ob,c,hm,d,m,s,z⟩:=hs;rw[FG]at i⊢;obtain⟨p,v⟩:=hm.cutO i;have B:Z ob0<=n:=by rw[hst.1];simp_all
  refine⟨M,ob.take n,⟨c.imm,c.new,λk hs o=>?_,c.os,c.tape,c.output,c.size,c.keep,λk b u=>c.fresh k b (v u)⟩,p,λt=>?_,m,aII s j,by simp;omega⟩
  .obtain ⟨hs',A,y⟩:=c.hs k hs o
   grind[Ad,List.getElem?_take_of_lt]
  .rcases UD r t with q|q
   .rcases rM fr t l with e|e
    .rw [e]at q⊢;exact D1 5 (d t) q
    .rw [e];exact .undef _
   .rw [q];exact .undef _
open Go.RowKit Go.ChangeShapes Go.WideShapes Go.ChangeAt
section
variable {P:Program} {w:World} {r:Reach} {base:Nat} {t:TypeId} {v:Value}
def aAN{k:IntKind}{n:Int}(h:k.has n):inR k n:=by cases k<;>simpa[IntKind.has,IntKind.min,IntKind.max,IntKind.signed,IntKind.bits,inR,bV,aW]using h
def aGi(a:aR P t=S)(h:Jr P w r base t v):Cell.okWide P w r base t v:=by
 unfold Jr at h;unfold aR at a;split at h
 .grind
 .grind
 .exact h
def aNv{M:Imm}{ob:Hs}{v:Value}{a:aa}(h:Rep M ob v a){vs:bb}{as:az}(hs:cL M ob vs as):cL M ob (v::vs) (a::as):=cL.cons h hs
def aNw{M:Imm}{ob:Hs}:cL M ob [] []:=⟨rfl,λi v a h=>by simp at h⟩
end
def aSG{args:Array Value}(h:Z args.toList=1):∃a,args= #[a]:=by
 obtain⟨l⟩:=args
 match l,h with
 |[a],_=>simp
section
variable {H:Type} {enc:TypeId×Value->H} {P:Program}
def aAa(P:Program):List TypeId->Bool
 |[]=>O
 |t::ts=>(P.readableRec t&&decide (t<P.types.size))&&aAa P ts
theorem HY(hl:laidOutB P=O){W e:World}(j:Below W.heap.size W e):∀{a:List TypeId} {vs:bb} {d:List (DataW H)} {c:List MemPlace},aAa P a=O->(∀x∈c,x.block<W.heap.size)->
  DataW.TrodAll enc P W 0 (λ_=>O) O a vs d c->DataW.TrodAll enc P e 0 (λb=>decide (b<W.heap.size)) O a vs d c:=by
 intro a;induction a with
 |nil=>
  intro vs d c _ _ h;obtain⟨rfl,rfl,rfl⟩:=trodAll_nil h;rfl
 |cons t a i=>
  intro vs d c g f h;simp only[aAa,Af,bo]at g
  grind[trodAll_cons,trodAll_cons_mk,Below.trod]
def sS{W:World}:∀{a:List TypeId} {vs:bb} {b:List (DataW H)} {c:List MemPlace},DataW.TrodAll enc P W 0 (λ_=>O) O a vs b c->Z vs=Z a/\Z b=Z a:=by
 intro a;induction a with
 |nil=>
  intro vs b c h;obtain⟨rfl,rfl,rfl⟩:=trodAll_nil h;omega
 |cons t a d=>
  grind[trodAll_cons]
def JH{fn:Func}{s:ChangeSpec}{W i:World}{args:Array Value}{a t:List (DataW H)}{nW:List MemPlace}{k:TypeId}(hl:laidOutB P=O)(w:aAa P fn.params.toList=O)(j:s.vars=[])
  (d:fn.resultTypes= #[k]) (r:P.underlying k=X .bool) (e:DataW.Whole enc P fn.params.toList s.vars S W args.toList a t nW) (b:Below W.heap.size W i)
  (c:Z a=Z fn.params.toList->(s.fn H a).results=[.lit (.bool O)]/\(s.fn H a).args=a/\(s.fn H a).vars=[]):s.post enc P fn S O S S W args (.bool O) i:=by
 have n:=e.lt;have f:=e;obtain⟨p,q,m,g,rfl,u,v⟩:=e;rw[j]at g;obtain⟨rfl,rfl⟩:=trodVars_none g;obtain⟨o,x,l⟩:=c (sS m).2;refine⟨a,[],_,[],p,[],f,?_,?_,?_,b.frame _,λh=>by cases h⟩
 .rw [Ap,o,d];exact trodAll_cons_mk (shut_bool r _) trodAll_mk0
 .grind [HY]
 .rw [Ap,l,j];exact rfl
end
inductive RepW(w:World):Value->aa->Prop
 |bool (b):RepW w (.bool b) (.bool b)
 |int (k n) (h:inR k n):RepW w (.int k n) (.int k n)
 |str (l:ay) (h:(Z l:Int)<=9223372036854775807):RepW w (.string ⟨l.toArray⟩) (.str l)
 |nilslice (sz:Nat):RepW w (.slice U 0 0) (.slice sz [] .no)
 |emptys (sz:Nat) (a:Addr) (cap:Nat):RepW w (.slice (X a) 0 cap) (.slice sz [] .no)
 |slice (sz b o n cap:Nat) (xs:az) (us:Nat->Nat->Value) (hn:Z xs=n) (hc:n<=cap) (hm:(n:Int)<=9223372036854775807) (hz:∀x∈xs,Z x.cells=sz)
   (h1:∀(i j:Nat) x c,xs[i]? =X x->x.cells[j]? =X c->w.cell? ⟨b,o+i*sz+j,U⟩=X (us i j)) (h2:∀(i j:Nat) x c,xs[i]? =X x->x.cells[j]? =X c->(us i j).oneCell'=O)
   (h3:∀(i j:Nat) x c,xs[i]? =X x->x.cells[j]? =X c->RepW w (us i j) c):RepW w (.slice (X ⟨b,o,U⟩) n cap) (.slice sz xs .no)
def Mw(w:World):Imm:=λb o x=>∃v,w.cell? ⟨b,o,U⟩=X v/\v.oneCell'=O/\RepW w v x
def RepW.rep{w:World}{v:Value}{a:aa}(h:RepW w v a):Rep (Mw w) [] v a:=by
 cases h with
 |bool b=>exact .bool b
 |int k n h=>exact .int k n h
 |str l h=>exact .str l h
 |nilslice sz=>exact .slnil sz .no trivial
 |emptys _ a cap=>exact .slemp _ _ _ _ trivial
 |slice sz b o n cap xs us f m hm hz h1 g h3=>exact .sl sz b o n cap xs .no f m hm hz (λi j x c d e=>⟨us i j,h1 i j x c d e,g i j x c d e,h3 i j x c d e⟩) trivial
def TyF(T:TypeId->az->Prop):List Field->az->Prop
 |[],cs=>cs=[]
 |f::fs,cs=>∃a b,cs=a++b/\T f.type a/\TyF T fs b
def RepW.one{w:World}{v:Value}{a:aa}(h:RepW w v a):v.oneCell'=true:=by cases h<;>rfl
def gS(w:World)(cs:bb)(as:az):Prop:=Z cs=Z as/\∀(i:Nat) v a,cs[i]? =X v->as[i]? =X a->RepW w v a
def gS.append{w:World}{vs us:bb}{as bs:az}(h:gS w vs as)(k:gS w us bs):gS w (vs++us) (as++bs):=by
 refine⟨by simp[h.1,k.1],λi v a c b=>?_⟩;by_cases d:i<Z vs
 .rw [Ai d]at c;rw[Ai (by rw[<-h.1];exact d)]at b;exact h.2 i v a c b
 .rw [Ar o_]at c;rw[Ar (by rw[<-h.1];omega),<-h.1]at b;exact k.2 _ v a c b
def gS.single{w:World}{v:Value}{a:aa}(h:RepW w v a):gS w [v] [a]:=
 ⟨rfl,λi u b c d=>by cases i with|zero=>grind|succ i=>simp at c⟩
def gS.nil{w:World}:gS w [] []:=⟨rfl,λi v a h=>by simp at h⟩
def MC(P:Program)(a:TypeId->Bool):Nat->List Field->Nat->Bool
 |off,[],total=>Au off total
 |off,f::fs,total=>(Au f.offset off&&a f.type)&&MC P a (off+P.cellsOf f.type) fs total
def rY(P:Program):Nat->TypeId->Bool
 |0,_=>S
 |n+1,t=>match P.underlying t with
  |some .bool=>O
  |some (.int _)=>O
  |some .string=>O
  |some (.struct fs)=>MC P (rY P n) 0 fs.toList (P.cellsOf t)
  |some (.array m e)=>rY P n e&&Au (P.cellsOf t) (m*P.cellsOf e)
  |some (.slice e)=>rY P n e&&Fl 0 (P.cellsOf e)
  |_=>S
section
variable {H:Type} {enc:TypeId×Value->H} {P:Program} {w:World} {base:Nat} {spare:Nat->Bool} {held:Bool}
def aCG{r:Reach}{d:Nat}{t e:TypeId}{v:Value}(b:P.underlying t=X (.slice e))(h:Cell.okWide P w r d t v):∃a n c,v= .slice a n c:=by unfold Cell.okWide at h;rw[b]at h;unfold Cell.ok at h;rw[b]at h;cases v<;>simp at h;simp
end
def D6(M:Imm)(ob:Hs)(u:FrameMode):Option aa->Prop
 |none=>u= .returning
 |some v=>∃x,u= .panicking [{v:=x,recovered:=S}]/\Rep M ob x v
def CR(P:Program)(f:FuncId)(args:az)(ac:aw)(p:Option aa)(ap:aw):Prop:=
 ∀M ob w a u,Mem M ob ac w->cL M ob a args->D6 M ob u p->
  (callFunc f a.toArray).run P w= .ok (.enter f a.toArray) w/\
   CallsD P f a.toArray u w λe b w'=>∃v M' ob',e= .returned v/\settle b= .returning/\Ext M ob ac w M' ob' ap w'/\Mem M' ob' ap w'
section
variable {P:Program}
def PZ{o:Oper}{b:Array TypeId}{ρ:Operand->Value}{w:World}(c:o.op= .call {callee:=.builtin .recover,args:= #[],argTypes:=b}):(execOp ρ o).run P w= .ok .recover w:=by obtain⟨dst,op,ty,pos,a,d⟩:=o;subst c;rfl
def MV{M:Imm}{ob:Hs}{u:FrameMode}{p:Option aa}(h:D6 M ob u p)(c:Frame)(cs:List Frame)(b:c.mode=u):
  ∃v d,Rep M ob v (match p with|none=>.nilif|some a=>a)/\settle d= .returning/\
   ((recoverD (c::cs)=X (v,{c with mode:=d}::cs))\/(recoverD (c::cs)=U/\v= .nilIface/\({c with mode:=d}:Frame)=c)):=by
 cases p with
 |none=>
  have h:u= .returning:=h;subst h;refine⟨.nilIface,.returning,.nilif,rfl,.inr ⟨by simp[recoverD,b],rfl,?_⟩⟩;rw[<-b]
 |some a=>
  obtain⟨x,rfl,e⟩:=h;refine⟨x,.panicking [{v:=x,recovered:=O}],e,rfl,.inl ?_⟩;simp[recoverD,b]
end
def HP:Code->Code
 |.seq _ b=>b
 |c=>c
def aOZ:Code->Bool
 |.seq (.region _ ops false) _=>(match ops.toList with
  |[o]=>(match o.op with
   |.call c=>(match c.callee with | .builtin .recover=>c.args.toList.isEmpty&&o.guard.isNone&&o.dst.isSome|_=>S)
   |_=>S)
  |_=>S)
 |_=>S
def aCq:Code->Nat
 |.seq (.region _ ops _) _=>(match ops.toList with | [o]=>o.dst.getD 0|_=>0)
 |_=>0
def aCs{c:Code}(h:aOZ c=O):∃id o b rest,c= .seq (.region id #[o] S) rest/\o.op= .call {callee:=.builtin .recover,args:= #[],argTypes:=b}/\o.guard=U/\o.dst=X (aCq c)/\HP c=rest:=by
 unfold aOZ at h;split at h
 .rename_i id ops rest;split at h
  .rename_i o k;split at h
   .rename_i cl g;split at h
    .rename_i a;simp only[Af]at h;obtain⟨⟨h1,l⟩,h3⟩:=h;obtain⟨f,as,b⟩:=cl;have a:f= .builtin .recover:=a;subst a;have e:ops= #[o]:=by cases ops;grind
     subst e;have j:as= #[]:=by simp_all
     subst j;obtain⟨d,i⟩:=Da.1 h3;refine⟨id,o,b,rest,rfl,g,by simp_all,?_,rfl⟩;simp[aCq,i]
    .cases h
   .cases h
  .cases h
 .cases h
def CR.of{E:Env}{f:FuncId}{fn:Func}{args:az}{ac:aw}{n0:Nat}{r:aa}{ap:aw}{p:Option aa}(hdf:E.df=[])(W:E.P.funcs[f]? =X fn)(hb:fn.body=X (dS fn))(hbo:pD E.P f)
  (N:aOZ (dS fn)=O) (I:dR fn.ntmps (HP (dS fn))=O) (hn:Fv (Z args) fn.ntmps=O) (Y:Fl (aCq (dS fn)) fn.ntmps=O) (hsb:wX ac=O) (hg:Z ac=n0)
  (h:okL args->To E fn (.full n0 (.ret r) ap) (.code [.code (HP (dS fn))] (iI (frA 0 args) (aCq (dS fn)) (match p with|none=>.nilif|some a=>a)) ac)) (z:E.rd=none:=by rfl):CR E.P f args ac p ap:=by
 intro M ob w g u hm Am G;refine⟨hbo _ _,?_⟩;obtain⟨id,o,ats,rest,hc,hop,hgd,L,Be⟩:=aCs N;rw[Be]at h I;have hlen:Z g=Z args:=Am.1;have hle:=Cj hn;have htl:aCq (dS fn)<fn.ntmps:=by simpa[Ka]using Y
 generalize htt:aCq (dS fn)=t at*
 have hst:sD (.full n0 (.ret r) ap) ob:=by
  refine⟨by rw[hm.len,hg];rfl,λ_ hs V=>?_⟩;obtain⟨k,C⟩:=Cu V;have At:k<Z ac:=by rw[<-hm.len];exact(Ad.1 C).1
  obtain⟨h1,h2⟩:=wW hsb k _ (Ab At);have e:=gX (Ab At);have:=hm.histLen (by rw[e];exact h1) C;rw[e,h2]at this;exact this
 intro c cs hu;obtain⟨v,y,An,T,hrecD⟩:=MV G c cs hu
 let b:Frame:={(default:Frame)with fn:=f,kind:=.deferred}
 let a:Act:={tmps:=g.toArray++Gm (fn.ntmps-g.toArray.size) undef,defers:=[]}
 have J:a.tmps.size=fn.ntmps:=by simp[a];omega
 have A:Frame.enter E.P f g.toArray .deferred=b.at a [.code (.seq (.region id #[o] S) rest)]:=by simp[Frame.enter,Frame.at,W,hb,hc,b,a]
 have ha:∀t,Rep M ob (a.tmps.getD t undef) (aX (frA 0 args) t):=λt=>by
  rw[GG];simp only[Bn,if_true,Jq];by_cases Y:t<Z args
  .rw [Ab Y];have An:t<Z g:=o_;have:a.tmps.getD t undef=g[t]:=by show(g.toArray++Gm (fn.ntmps-g.toArray.size) undef).getD t undef=_;rw[Cm,Gz o_];simp[An]
   rw[this];exact Am.2 t _ _ (Ab An) (Ab Y)
  .rw [Bk o_];exact .undef _
 have K:=wp_opsS (P:=E.P) (ops:= #[o]) (Q:=λe a' cs' w'=>e= .normal/\a'=a.put o.dst v/\cs'={c with mode:=y}::cs/\w'=w) [0] a (c::cs) w (by
  have e0:(#[o]:Array Oper)[0]? =X o:=rfl;have hw:Gv o (yielded #[o] a.tmps)=true:=by unfold Gv;rw[hgd]
  simp only[wpOpsS,e0,hw,if_true,PZ hop]
  grind) b [.code rest] rfl rfl
 obtain⟨e1,a1,cs1,B,⟨rfl,rfl,rfl,rfl⟩,F⟩:=K
 have hkw:KW U E.P (rW E fn M ob ac B (.full n0 (.ret r) ap)) [.code rest] (a.put o.dst v) B:=by rw[<-z];obtain⟨hh⟩:=h Am.okL;refine hh (by simp[bJ,KI.ok,I]) M ob ac B _ B hst ⟨M,ob,Ext.refl _ _ _ _,hm,?_,(dX _ _ _).1.trans J,by rw[hdf];exact dD.put (a:=a) .nil,by rw[hm.len];omega⟩;intro s;have:=nG (d:=X t) ha An (λd' e=>by cases e;omega) s;rw[L];rwa [show jZ (aX (frA 0 args)) (X t) _ s=aX (iI (frA 0 args) t _) s from(congrFun (fH (frA 0 args) (X t) _) s).symm]at this
 obtain⟨e2,H,w2,m,j⟩:=hkw.arrives b ({c with mode:=y}::cs) rfl
 have i:Steps E.P (lone (b.at a [.code (.seq (.region id #[o] S) rest)]) (c::cs) B) (lone (b.at (a.put o.dst v) [.code rest]) ({c with mode:=y}::cs) B):=
  .head step_seq (.head step_region F)
 have fin:∀{e:Ending} {w':World},RR M ob ac B (.full n0 (.ret r) ap) e w'->∃v M' ob',e= .returned v/\settle y= .returning/\Ext M ob ac B M' ob' ap w'/\Mem M' ob' ap w':=λ{e w'} ⟨M',ob',x1,x2,x3⟩=>by
  cases e with
  |returned v=>exact⟨v,M',ob',rfl,T,x1,x2⟩
  |panicked ch=>exact x3.elim
  |outgrown=>exact x3.elim
 rw[A];cases e2 with
 |normal=>
  unfold rW HU at m;rw[z]at m;obtain⟨As,n,q,R,hs,_,C,hl⟩:=fV H.defers .returning w2 {b.at H []with mode:=.returning} ({c with mode:=y}::cs) rfl rfl rfl W m;exact⟨As,y,n,q,fin R,Comes.of_steps (i.trans (Steps.trans j (.one step_end))) hs,C,hl⟩
 |ret=>
  obtain⟨x,D⟩:=j;unfold rW HU at m;rw[z]at m;obtain⟨As,n,q,R,hs,_,C,hl⟩:=fV H.defers .returning w2 {b.at H x with mode:=.returning} ({c with mode:=y}::cs) rfl rfl rfl W m;exact⟨As,y,n,q,fin R,Comes.of_steps (i.trans D) hs,C,hl⟩
 |panic fL=>
  obtain⟨x,D⟩:=j;unfold rW at m;rw[z]at m;obtain⟨As,n,q,R,hs,_,C,hl⟩:=fV H.defers (.panicking fL) w2 {b.at H x with mode:=.panicking fL} ({c with mode:=y}::cs) rfl rfl rfl W m;exact⟨As,y,n,q,fin R,Comes.of_steps (i.trans D) hs,C,hl⟩
 |exit id=>exact m.elim
 |goto l=>exact m.elim
 |outgrown=>exact m.elim
def aQp(fr:au):bf->Option (Nat×az)
 |[p]=>(match p.guard,p.op with
  |none,.defer c=>(match c.callee with
   |.value (.func f)=>X (f,evO (ev fr) c.args.toList)
   |_=>U)
  |_,_=>U)
 |_=>U
theorem XF(ρ:Operand->aa):∀(l:List Operand),evO ρ l=l.map ρ
 |[]=>rfl
 |x::r=>by simp[evO,XF ρ r]
def aGA(ks:a6)(og:Nat->ab):Option aa->Option aa
 |none=>U
 |some v=>X (cvtV 0 ks og 5 v)
section
variable {E:Env} {fn:Func} {g:Goal}
def SI{df:List (Nat×az)}{id:Nat}{ops:Array Oper}{ks:bg}{fr:au}{ac:aw}{f:Nat}{args:az}(k:aQp fr ops.toList=X (f,args))
  (t:df=(f,args)::E.df)
  (z:E.rd=U) (h:dP {E with df:=df} fn g ks (match ops.toList with | [o]=>lC fr o.dst (.tup [])|_=>fr) ac):dP E fn g (.code (.region id ops S)::ks) fr ac:=by
 intro C M0 ob0 aq w0 a w hst hs;simp only[bJ,KI.ok,dR,Af]at C;obtain⟨⟨B,_⟩,A⟩:=C;have n:=qI B;unfold aQp at k;split at k
 .rename_i o m;split at k
  .rename_i c L q;split at k
   .rename_i An l;cases k;rw[m]at h n;dsimp only at h
    refine KW.code (Q':=QR {E with df:=df} fn g M0 ob0 aq w0 ks) ?_ (λa w h=>h) (λV a w h=>h) (λe a w H=>by cases e<;>first|exact .inl rfl|exact .inr ⟨_,rfl⟩|exact H.elim)
    refine wpIn_region_list ?_;rw[m];unfold wpListIn;have I:Gv o (yielded ops a.tmps)=true:=by unfold Gv;rw[L]
    rw[bu I];obtain⟨dst,op,ty,pos,p,As⟩:=o;have q:op= .defer c:=q;subst q;obtain⟨y,as,u⟩:=c;have l:y= .value (.func f):=l;subst l;have r:(execOp a.eval ⟨dst,.defer ⟨.value (.func f),as,u⟩,ty,pos,p,As⟩).run E.P w= .ok (.defer {target:=.fn (.func f) #[],args:= #[]++as.map a.eval}) w:=rfl;refine⟨λ_ _=>trivial,?_⟩;rw[show(fen E.rd).round=U from z,Oper.semAt_none,r,Oper.uponIn_defer];obtain⟨M,ob,Q,G,T,D,s,R⟩:=hs;refine h A M0 ob0 aq w0 _ w hst ⟨M,ob,Q,G,?_,(dX _ _ _).1.trans D,?_,R⟩
    .rw [fH];exact nG (a:={a with defers:={target:=Target.fn (Fn.func f) #[],args:= #[]++Array.map a.eval as}::a.defers}) T pP λN e=>D▸n _ (List.mem_singleton.2 rfl) N e
    .rw [t];obtain⟨F,J,At,s,K⟩:=s;refine dD.put (a:={a with defers:=_}) ⟨_::F,J,by rw[At];rfl,⟨by simp[s.1],λi d x k r=>?_⟩,K⟩;cases i with
     |zero=>
      simp at k r;subst k r;refine⟨rfl,?_,λj v b Be W=>?_⟩
      .simp [XF]
      grind[XF,Array.toList_map,GV]
     |succ i=>exact s.2 i d x (by simpa using k) (by simpa using r)
   .cases k
  .cases k
 .cases k
def To.defer(df:List (Nat×az)){id:Nat}{ops:Array Oper}{ks:bg}{fr:au}{ac:aw}{f:Nat}{args:az}(c:aQp fr ops.toList=X (f,args))(a:df=(f,args)::E.df)
  (h:To {E with df:=df} fn g (.code ks (match ops.toList with | [o]=>lC fr o.dst (.tup [])|_=>fr) ac)) (b:E.rd=none:=by rfl):To E fn g (.code (.code (.region id ops S)::ks) fr ac):=
 .mk (h.rec λh=>SI c a b h)
def FW{M0:Imm}{ob0:Hs}{aq:aw}{w0:World}{sz:Nat}{f:Nat}{args:az}{rest:List (Nat×az)}{M:Imm}{ob:Hs}{ac ap:aw}{w:World}{a:Act}{u:FrameMode}{p:Option aa}(b ks:a6)
  {fr:au} (Be:Ext M0 ob0 aq w0 M ob ac w) (A:Mem M ob ac w) (Am:∀t,Rep M ob (a.tmps.getD t undef) (aX fr t)) (T:a.tmps.size=sz) {r:List Deferred} (n:dD w0 w M ob r ((f,args)::rest)) (x6:Z ob0<=Z ac)
  (y:jS ks (ak b ac)=O) (z:D6 M ob u p)
  (h:CR E.P f (eF (cvtV 0 ks (aC (ak b ac)) 5) args) (gT 0 ks (ak b ac)) (aGA ks (aC (ak b ac)) p) ap) {R:Ending->World->Prop}
  (hl:∀(o:List Deferred) w',SS M0 ob0 aq w0 sz rest fr (iD ks (aS (ak b ac)) (ak b ac) 0 ap (ak b ac)) {a with defers:=o} w'->fQ E.P fn a.tmps R o .returning w'):fQ E.P fn a.tmps R r u w:=by
 obtain⟨H,l,rfl,n,As⟩:=n;cases H with
 |nil=>have:=n.1;simp at this
 |cons d r=>
  obtain⟨g,c⟩:=n.2 0 d _ rfl rfl;obtain⟨B,s,D,_,_⟩:=Mem.frzs b M ac A;obtain⟨W,_,_⟩:=s.cvt (n0:=0) y;have m:cL B _ d.args.toList (eF (cvtV 0 ks (aC (ak b ac)) 5) args):=vI (λv a=>s.cvtV (n0:=0) y 5 v a) ⟨c.1,λi v a F I=>(c.2 i v a F I).monoM D.imm⟩;have k:D6 B (fJ 0 ob (ak b ac) 0 ks) u (aGA ks (aC (ak b ac)) p):=by
   cases p with
   |none=>exact z
   |some v=>
    obtain⟨x,e,L⟩:=z;exact⟨x,e,s.cvtV y 5 _ _ (L.monoM D.imm)⟩
  obtain⟨h1,At⟩:=h B _ w d.args.toList u W m k;have C:u≠ .run:=by
   cases p with
   |none=>have:u= .returning:=z;rw[this];simp
   |some v=>obtain⟨x,e,_⟩:=z;rw[e];simp
  obtain⟨G,q⟩:=d;have g:G= .fn (.func f) #[]:=g;subst g;refine⟨C,.inr ⟨.func f,#[],f,q,rfl,?_,?_⟩⟩
  .show (callFunc f (q++ #[])).run E.P w=_;simp;omega
  .refine At.mono λe u' w' ⟨v,M',N,Y,V,Q,K⟩=>?_;subst Y;dsimp only;rw[V];obtain⟨J,An,_⟩:=s.emb y Q K;have ext:=D.trans An;refine hl (r++l) w' ?_;rw[bX];refine⟨M',_,Be.trans ext,J,λt=>(Am t).mono ext.imm ext.hs,T,?_,?_⟩
   .refine ⟨r,l,rfl,⟨by have:=n.1;simpa using this,λi d x hd hx=>?_⟩,(dD.ext (M:=M) (ob:=ob) ⟨[],l,rfl,.nil,As⟩ A ext).marks⟩;have:=n.2 (i+1) d x q_ q_;exact⟨this.1,this.2.1,λj v a F I=>(this.2.2 j v a F I).mono ext.imm ext.hs⟩
   .have:=ext.lens;have:=J.len;have:=A.len;omega
def To.leave(df:List (Nat×az)){f:Nat}{args:az}(i:E.df=(f,args)::df)(b ks:a6){p:Option aa}{fr:au}{ac ap:aw}(q:jS ks (ak b ac)=O)
  (h:CR E.P f (eF (cvtV 0 ks (aC (ak b ac)) 5) args) (gT 0 ks (ak b ac)) (aGA ks (aC (ak b ac)) p) ap)
  (d:To {E with df:=df} fn g (.leave U fr (iD ks (aS (ak b ac)) (ak b ac) 0 ap (ak b ac)))):To E fn g (.leave p fr ac):=by
 obtain⟨d⟩:=d;have d:aI3 {E with df:=df} fn g fr (iD ks (aS (ak b ac)) (ak b ac) 0 ap (ak b ac)):=d;refine .mk ?_;cases p with
 |none=>
  intro M0 ob0 aq w0 a w hst ⟨M,ob,m,k,o,l,j,n⟩;rw[i]at j;exact FW (p:=U) b ks m k o l j n q rfl h λc w' hs=>d M0 ob0 aq w0 {a with defers:=c} w' hst hs
 |some v=>
  intro M0 ob0 aq w0 s a w hst ⟨M,ob,m,k,⟨x,e,r⟩,o,l,j,n⟩;rw[i]at j;exact FW (p:=X v) b ks m k o l j n q ⟨x,by rw[e],r⟩ h λc w' hs=>d M0 ob0 aq w0 {a with defers:=c} w' hst hs
def To.left(hE:ae E)(b:E.df=[]){fr:au}{ac:aw}{v:aa}(d:aFs E ac fn.results.toList fr=X v)(h:S8 g .ret v ac)(c:E.rd=none:=by rfl):To E fn g (.leave U fr ac):=
 .mk λM0 ob0 aq w0 a w hst hs=>go_ret hE b c d h hst hs
end
def nT(r:Nat):Code->bg->Option bg
 |.region id _ _,ks=>bif Au id r then X ks else U
 |.seq a b,ks=>(match nT r a (.code b::ks)with|some x=>X x|none=>nT r b ks)
 |.cond _ a b,ks=>(match nT r a ks with|some x=>X x|none=>nT r b ks)
 |.block id b,ks=>nT r b (.inB id::ks)
 |.loop b,ks=>nT r b (.inL b::ks)
 |_,_=>U
def gB(fn:Func)(r:Nat):bg:=match nT r (dS fn) []with|some ks=>ks|none=>[]
def To.cutC{E:Env}{fn:Func}{g:Goal}{ks:bg}{fr:au}{ac:aw}(l:a6)(n:Nat)(b:Fv g.n0 n=O)(d:aIH n (mW l fr)=O)(a:II n (pW n ac)=O)(c:aDH n E.df=O)
  (h:To E fn g (.code ks (mW l fr) (pW n ac))):To E fn g (.code ks fr ac):=by
 have:=To.cut (E:=E) (fn:=fn) (g:=g) (ks:=ks) (fr:=fr) (ac:=ac) l n b d a c (h.rec λh=>.mk h);exact this.rec λh=>.mk h
def aAo:St->Bool
 |.head _ _ _=>S
 |_=>O
def goN{E:Env}{fn:Func}{g:Goal}(hE:ae E)(a:Nat){st:St}(_hs:aAo st=O)(h:cA E fn g (To E fn g) a st):To E fn g st:=bO hE a h
def PO{w:World}{b:Nat}{u s q:Value}{T:TypeId}(h:w.heap[b]? =X (.cells #[u,s] T (0,0))):w.setCell ⟨b,0,U⟩ q=w.setRow b #[q,s]:=by
 unfold World.setCell World.setRow;congr 1
 grind
def oZ{P:Program}{f:FuncId}{T:TypeId}(q:pD P f)
  (B:∀(b:Nat) (w:World),w.cell? ⟨b,0,U⟩=X (.pointer U)->w.shape? b=X (T,2)->w.frozen? ⟨b,0,U⟩=S->Calls P f #[.pointer (X ⟨b,0,U⟩)] w λe w'=>e= .returned (.tuple #[])/\w'=w.setCell ⟨b,0,U⟩ (.pointer (X ⟨b,0,U⟩)))
  (s:aa):aA P f [.ref 0 0] [.cells T [.nilptr,s]] (.ret (.tup [])) [.cells T [.ref 0 0,s]]:=by
 intro M ob w g hm o;obtain⟨hl,o⟩:=o
 match g,hl with
 |[v],_=>
 obtain⟨b,rfl,c⟩:=(o 0 _ _ rfl rfl).ref_inv;obtain⟨hs,C,l,rfl,z,cv,j,n,h1,d⟩:=hm.obj 0 _ rfl;have p:l=b:=by rw[cG C]at c;simpa using c
 subst p
 match cv,n with
 |[u,t],_=>
 have A:u= .pointer none:=by have:=d 0 u _ rfl rfl;cases this;rfl
 subst A;have j:w.heap[l]? =X (.cells #[.pointer U,t] T (0,0)):=j;have y:=h1 t s_;refine .inl ⟨q _ _,(B l w (by simp[Ku,j]) (by simp[Jk,j]) (by simp[Ly,j])).mono ?_⟩;rintro e w' ⟨rfl,rfl⟩;rw[PO j]
 have:=hm.cellsTurn (k:=0) (cs':=[.ref 0 0,s]) (cv':=[.pointer (X ⟨l,0,U⟩),t]) rfl c rfl (λx r=>by
  rcases Ba.1 r with rfl|r
  .rfl
  grind) (λi v a h m=>by
  match i with
  |0=>
   simp at h m;subst h m;exact .ref 0 0 l c
  |1=>
   simp at h m;subst h m;exact d 1 _ _ rfl rfl
  |i+2=>simp at h)
 exact⟨M,ob,this.2.1,this.1,.tup [] [] rfl (λi v a h=>by simp at h)⟩
def LV(g n:Nat)(w w':World):Prop:=w'.os=w.os/\w'.tape=w.tape/\w'.output=w.output/\w'.heap=(w.freeze ⟨g,0,U⟩ n).heap
def XA{w:World}{g n:Nat}(h:n≠0):LV g n w (w.drew.freeze ⟨g,0,U⟩ n):=by unfold LV Mk;rw[bt h,bt h];exact⟨rfl,rfl,rfl,rfl⟩
theorem KK{w:World}{g n k:Nat}(h:g≠k):(w.freeze ⟨g,0,U⟩ n).heap[k]? =w.heap[k]?:=by
 unfold Mk
 grind
def aHl{w:World}{g n:Nat}:(w.freeze ⟨g,0,U⟩ n).heap.size=w.heap.size:=by
 unfold Mk;split
 .rfl
 .simp
def aHm{w:World}{g n b o:Nat}:(w.freeze ⟨g,0,U⟩ n).cell? ⟨b,o,U⟩=w.cell? ⟨b,o,U⟩:=by
 by_cases h:g=b
 .subst h;unfold Mk;split
  .rfl
  .unfold Ku
   grind
 grind[Cs,KK]
def nR{P:Program}{f:FuncId}{T e:TypeId}(hbo:pD P f)
  (hc:∀(b g cap:Nat) (p:Value) (m:Array Value) (l:ay) (w:World),w.heap[b]? =X (.cells #[p,.slice (X ⟨g,0,U⟩) (Z l) cap] T (0,0))->w.heap[g]? =X (.cells m e (0,0))->l≠[]->
   Z l<=cap->cap<=maxLen->m.size=cap->(∀(j:Nat) x,l[j]? =X x->w.cell? ⟨g,j,U⟩=X (.int .u8 x.toNat))->
   Calls P f #[.pointer (X ⟨b,0,U⟩)] w λe w'=>e= .returned (.string ⟨l.toArray⟩)/\LV g (Z l) w w')
  (l:ay) (Y:l≠[]) (p:aa):aA P f [.ref 0 0] [.cells T [p,.slice 1 (l.map ub) (.own 1 0)],.tail 0 1 e] (.ret (.str l)) [.dead,.dead]:=by
 intro M ob w r hm As;obtain⟨hl,As⟩:=As
 match r,hl with
 |[v],_=>
 obtain⟨b,rfl,D⟩:=(As 0 _ _ rfl rfl).ref_inv;obtain⟨hs,e1,W,rfl,hno,cv,hh,hcl,h1,G⟩:=hm.obj 0 _ rfl;have R:W=b:=by rw[cG e1]at D;simpa using D
 subst R
 match cv,hcl with
 |[u,t],_=>
 have hh:w.heap[W]? =X (.cells #[u,t] T (0,0)):=hh;have F:=G 1 t _ rfl rfl;obtain⟨F,d⟩:=F.untok;have d:at' ob 1 0=X t:=d;obtain⟨J,K,k2,v1,k3,n,cw,Q,k5⟩:=hm.obj 1 _ rfl;have An:v1=t:=by rw[cG K,k3]at d;simpa using d
 subst An;have hn:n=Z (l.map ub):=B4 F Q;have B:Z (l.map ub)=Z l:=by simp
 have Be:=F.slice_inv;obtain⟨_,_,_,_,_,q⟩:=Be;rw[B]at q hn;have hpos:0<Z l:=Dp.2 Y;subst hn;have k4':=Q;obtain⟨hcwl,L⟩:=Q;rcases L with⟨rfl,hz⟩|⟨g,cap,m,rfl,_,hg,Am,hcm,hcs,At⟩
 .omega
 have i:∀(j:Nat) x,l[j]? =X x->w.cell? ⟨g,j,U⟩=X (.int .u8 x.toNat):=λj x I=>by
  rcases F.sl_inv with⟨h1,_⟩|⟨_,_,_,h1⟩|⟨b2,o2,cap2,h1,_,_,_,h⟩
  .cases h1
  .exact bv (List.map_eq_nil_iff.1 h1) Y
  .simp only[Value.slice.injEq,Option.some.injEq,Addr.mk.injEq]at h1;obtain⟨⟨rfl,rfl,_⟩,_,_⟩:=h1;have hM:=h j 0 (ub x) (ub x) (by simp[I]) rfl;obtain⟨u',C,_,N⟩:=hm.imm _ _ _ hM;rw[show 0+j*1+0=j from by omega]at C;rw[C];have:=N.int_inv;rw[this.1]
 refine .inl ⟨hbo _ _,(hc W g cap u m l w hh hg Y Am hcm o_ i).mono ?_⟩;rintro e w' ⟨rfl,V,y,A,a⟩;have s:∀b o,w'.cell? ⟨b,o,U⟩=w.cell? ⟨b,o,U⟩:=λb o=>by
  have:w'.cell? ⟨b,o,U⟩=(w.freeze ⟨g,0,U⟩ (Z l)).cell? ⟨b,o,U⟩:=by unfold Ku;rw[a]
  rw[this,aHm]
 have dead:∀(k b:Nat),¬ aK ob [.dead,.dead] k b:=λk b ⟨c,hs,h1,H,_⟩=>by
  match k with
  |0=>simp at h1;subst h1;cases H
  |1=>simp at h1;subst h1;cases H
  |k+2=>simp at h1
 refine⟨M,ob,?_,?_,.str l q⟩
 .refine ⟨λ_ _ _ h=>h,λ_ _ _ h=>.inl h,dH.refl _,V,y,A,by rw[a,aHl];omega,λk z hal=>?_,λk b h=>bv h (dead k b)⟩;rw[a,KK];intro e;subst e;refine hal 1 ⟨_,J,rfl,rfl,K,?_⟩;rw[eT k2 k3];exact eM.2 rfl
 .refine ⟨λb o x I=>?_,hm.len,λk c z=>?_,λk b h=>bv h (dead k b),λk _ b h=>bv h (dead k b)⟩
  .obtain ⟨v,h1,H,h3⟩:=hm.imm b o x I;exact⟨v,by rw[s];exact h1,H,h3⟩
  .match k with
   |0=>simp at z;subst z;exact⟨_,e1,trivial⟩
   |1=>simp at z;subst z;exact⟨_,K,trivial⟩
   |k+2=>simp at z
def R9(k:IntKind):∃p,aW k+1=2^p/\p<=k.bits:=by
 cases k
 .exact ⟨7,by decide,by decide⟩
 .exact ⟨15,by decide,by decide⟩
 .exact ⟨31,by decide,by decide⟩
 .exact ⟨63,by decide,by decide⟩
 .exact ⟨8,by decide,by decide⟩
 .exact ⟨16,by decide,by decide⟩
 .exact ⟨32,by decide,by decide⟩
 .exact ⟨64,by decide,by decide⟩
def aLn(k:IntKind):bV k<=0:=by cases k<;>decide
theorem vL{k:IntKind}{a:Nat}(h:(a:Int)<=aW k):inR k a:=⟨Int.le_trans (aLn k) (Int.natCast_nonneg a),h⟩
def vE(n a:Nat)(h:a<2^n):(BitVec.ofInt n (a:Int)).toNat=a:=by grind
def NM{k:IntKind}{a p:Nat}(hp:aW k+1=2^p)(h:(a:Int)<=aW k):a<2^p:=by grind
theorem aGN{k:IntKind}{a p:Nat}(hp:aW k+1=2^p)(h:a<2^p):(a:Int)<=aW k:=by grind
def nN(k:IntKind)(a b:Nat)(d:(a:Int)<=aW k)(e:(b:Int)<=aW k):dB .or k a b=((a ||| b:Nat):Int):=by
 obtain⟨p,hp,c⟩:=R9 k;have h1:=NM hp d;have g:=NM hp e;have f:2^p<=2^k.bits:=Ej d_ c;simp only[dB,BitVec.toNat_or,vE k.bits a o_,vE k.bits b o_]
 grind[kU,vL,aGN,Nat.or_lt_two_pow]
def vT(k:IntKind)(a b:Nat)(d:(a:Int)<=aW k)(e:(b:Int)<=aW k):dB .and k a b=((a &&& b:Nat):Int):=by
 obtain⟨p,hp,c⟩:=R9 k;have h1:=NM hp d;have g:=NM hp e;have f:2^p<=2^k.bits:=Ej d_ c;simp only[dB,BitVec.toNat_and,vE k.bits a o_,vE k.bits b o_]
 grind[kU,vL,aGN,Nat.and_lt_two_pow]
def WM{a b i:Nat}(h:a<2^i):a ||| (b*2^i)=a+b*2^i:=by grind[Nat.two_pow_add_eq_or_of_lt,Nat.mul_comm,Md]
def aNf(a p:Nat):a &&& (2^p-1)=a%2^p:=Nat.and_two_pow_sub_one_eq_mod a p
def LW(n:Nat):IntKind.u8.wrap (n:Int)=((n%256:Nat):Int):=by rfl
set_option maxRecDepth 8000 in
def aPh:∀m:Fin 256,m.val ||| 128=128+m.val%128:=by decide
def O2{m:Nat}(h:m<256):ub (UInt8.ofNat m)= .int .u8 m:=by simp only[ub];simp;omega
def TP(n0:Nat)(ks:a6)(og:Nat->ab):au->au
 |[]=>[]
 |(i,v)::r=>(i,cvtV n0 ks og 5 v)::TP n0 ks og r
def A6(n0:Nat)(ks:a6)(og:Nat->ab)(t:Nat):∀(fr:au),aX (TP n0 ks og fr) t=cvtV n0 ks og 5 (aX fr t)
 |[]=>rfl
 |(i,v)::r=>by
  simp only[TP,aX];cases Au i t with
  |true=>rfl
  |false=>exact A6 n0 ks og t r
def To.part{E:Env}{fn:Func}{g:Goal}{st:bg}{fr:au}{ac:aw}(l:a6)(ks:a6)(i:E.df=[])(s:jS ks ac=O)(v:jP g.n0 0 ks=O)
  (h:To E fn g (.head st (TP g.n0 ks (aC ac) (mW l fr)) (gT g.n0 ks ac))) (d:g.strict=true:=by rfl):To E fn g (.head st fr ac):=
 .mk λq M0 ob0 aq w0 a w hst hs=>by
  refine h.rec λh=>h q M0 ob0 aq w0 a w hst ?_;obtain⟨M,ob,c,hm,n,z,u,I⟩:=hs;obtain⟨A,G,_⟩:=hm.cvt (n0:=g.n0) s;have r:Z ob0=g.n0:=hst.1;have x:Z (gT g.n0 ks ac)=Z ks:=by unfold gT;rw[pE]
  have y:Z ob0<=Z ks:=by
   rw[r];rcases Gy g.n0 with F|F
   .omega
   .have:=mJ v (g.n0-1) o_;have:=(Ad.1 this).1;omega
  refine⟨M,_,⟨c.imm,c.new,λj hs o=>?_,c.os,c.tape,c.output,c.size,c.keep,λj b B=>?_⟩,A,λt=>?_,z,?_,by omega⟩
  .have p:j<g.n0:=by rw[<-r];exact(Ad.1 o).1
   have f:=mJ v j p;rw[Bv]at f;obtain⟨hs',D,t,H⟩:=c.hs j hs o;have C:=hst.2 d hs (Ax o);refine⟨jL g.n0 j (aC ac j) hs',?_,?_⟩
   .rw [iK,f];simp[D]
   .unfold jL
    grind[Bq]
  .obtain ⟨k,_,m⟩:=G j b B;exact c.fresh k b m
  .rw [A6];have:Rep M ob (a.tmps.getD t undef) (aX (mW l fr) t):=by
    rcases rM fr t l with e|e
    .rw [e];exact n t
    .rw [e];exact .undef _
   exact hm.cvtV (n0:=g.n0) s 5 _ _ this
  .rw [i]at u⊢;exact u.bare
def PQ:az->Nat->aa->az
 |[],_,_=>[]
 |_::r,0,x=>x::r
 |c::r,n+1,x=>c::PQ r n x
def MJ:∀(l:az) (n:Nat) (x:aa),PQ l n x=l.set n x
 |[],_,_=>rfl
 |_::_,0,_=>rfl
 |c::r,n+1,x=>by simp[PQ,MJ r n x]
def lN:aw->ab->aw
 |[],x=>[x]
 |c::r,x=>c::lN r x
def pK:∀(l:aw) (x:ab),lN l x=l++[x]
 |[],_=>rfl
 |c::r,x=>by simp[lN,pK r x]
def Mem.beginC{M:Imm}{ob:Hs}{ac:aw}{w:World}(hm:Mem M ob ac w){k i sz:Nat}{T e:TypeId}{cs:az}(t:ac[k]? =X (.cells T cs))(I:cs[i]? =X (.slice sz [] .nil)):
  Mem M (ob++[[.slice U 0 0]]) (ac.set k (.cells T (cs.set i (.slice sz [] (.own (Z ac) 0))))++[.tail 0 sz e]) w/\
   Ext M ob ac w M (ob++[[.slice U 0 0]]) (ac.set k (.cells T (cs.set i (.slice sz [] (.own (Z ac) 0))))++[.tail 0 sz e]) w/\dH ob (ob++[[.slice U 0 0]]):=by
 have g:dH ob (ob++[[.slice U 0 0]]):=λj hs z=>⟨hs,by grind[Ai,Ad],Cp _⟩
 have y:k<Z ac:=(Ad.1 t).1;have d:(ob++[[.slice U 0 0]])[Z ac]? =X [.slice U 0 0]:=by rw[<-hm.len];simp
 have u:at' (ob++[[.slice U 0 0]]) (Z ac) 0=X (.slice U 0 0):=by rw[cG d];rfl
 have l:∀{j:Nat} {c:ab},(ac.set k (.cells T (cs.set i (.slice sz [] (.own (Z ac) 0))))++[.tail 0 sz e])[j]? =X c->
   (j=Z ac/\c= .tail 0 sz e)\/(j=k/\c= .cells T (cs.set i (.slice sz [] (.own (Z ac) 0))))\/(j≠k/\j<Z ac/\ac[j]? =X c):=λ{j c} z=>by
  grind
 have r:∀{j b:Nat},aK (ob++[[.slice U 0 0]]) (ac.set k (.cells T (cs.set i (.slice sz [] (.own (Z ac) 0))))++[.tail 0 sz e]) j b->aK ob ac j b:=λ{j b} ⟨c,hs,G,q,e3,e4⟩=>by
  rcases l G with⟨rfl,rfl⟩|⟨rfl,rfl⟩|⟨h1,o,h3⟩
  .rw [d]at e3;cases e3;cases e4
  .rw [Ai (by rw[hm.len];exact y)]at e3;exact⟨_,hs,t,rfl,e3,e4⟩
  .rw [Ai (by rw[hm.len];exact o)]at e3;exact⟨c,hs,h3,q,e3,e4⟩
 have F:∀(j:Nat) c,(ac.set k (.cells T (cs.set i (.slice sz [] (.own (Z ac) 0))))++[.tail 0 sz e])[j]? =X c->∃hs,(ob++[[.slice U 0 0]])[j]? =X hs/\iM M (ob++[[.slice U 0 0]]) w hs c:=λj c z=>by
  rcases l z with⟨rfl,rfl⟩|⟨rfl,rfl⟩|⟨h1,o,h3⟩
  .exact ⟨_,d,rfl,_,rfl,0,[],Hh w 0 _ _,λb L=>by cases L⟩
  .obtain ⟨hs,G,b,s,C,cv,x,J,D,p⟩:=hm.obj _ _ t;refine⟨hs,by grind[Ai],b,s,C,cv,x,by simp;omega,D,λn v a m f=>?_⟩;by_cases H:n=i
   .subst H;have A:n<Z cs:=(Ad.1 I).1;rw[Ay A]at f;cases f;have:=p n v _ m I;obtain⟨_,B⟩:=this.untok;have B:v= .slice U 0 0:=B;subst B;exact .slnil _ _ u
   .rw [Bf (Ne.symm H)]at f;exact(p n v a m f).mono (λ_ _ _ h=>h) g
  .obtain ⟨hs,G,q⟩:=hm.obj j c h3;refine⟨hs,by grind[Ai],?_⟩;cases c with
   |cells N cs'=>
    obtain⟨b,s,C,cv,x,J,D,p⟩:=q;exact⟨b,s,C,cv,x,J,D,λn v a m f=>(p n v a m f).mono (λ_ _ _ h=>h) g⟩
   |_=>exact q
 refine⟨⟨hm.imm,by simp[hm.len],F,λj b f=>hm.lt j b (r f),λj K b h1 o=>hm.inj j K b (r h1) (r o)⟩,⟨λ_ _ _ h=>h,λ_ _ _ h=>.inl h,g,rfl,rfl,rfl,Bc _,λ_ _ _=>rfl,λj b f=>.inl ⟨j,r f⟩⟩,g⟩
def To.begin{E:Env}{fn:Func}{g:Goal}{st:bg}{fr:au}{ac:aw}(k i:Nat)(e:TypeId){T:TypeId}{cs:az}{sz:Nat}(m:aC ac k= .cells T cs)(n:nth cs i=X (.slice sz [] .nil))
  (h:To E fn g (.head st fr (lN (bQ ac k (.cells T (PQ cs i (.slice sz [] (.own (aS ac) 0))))) (.tail 0 sz e)))):To E fn g (.head st fr ac):=
 .mk λd M0 ob0 aq w0 a w hst hs=>by refine h.rec λh=>h d M0 ob0 aq w0 a w hst ?_;obtain⟨M,ob,j,hm,c,l,p,r⟩:=hs;have b:=bK m s_;obtain⟨o,q,f⟩:=hm.beginC (e:=e) b (lD n);rw[pK,MJ,bX,aQ b];exact⟨M,_,j.trans q,o,λt=>(c t).mono (λ_ _ _ h=>h) f,l,p.mono (λ_ _ _ h=>h) f,by simp;omega⟩
def mapO(f:aa->aa):ab->ab
 |.cells T cs=>.cells T (eF f cs)
 |x=>x
def wM(f:aa->aa):aw->aw
 |[]=>[]
 |x::r=>mapO f x::wM f r
def FS(f:aa->aa):∀(l:aw),wM f l=l.map (mapO f)
 |[]=>rfl
 |x::r=>by simp[wM,FS f r]
def aA.mapO{P:Program}{f:FuncId}{args:az}{ac ap:aw}{r:Res}(g:aa->aa)(D:∀(M:Imm) (ob:Hs) v a,Rep M ob v a->Rep M ob v (g a))(h:aA P f args ac r ap):aA P f args ac r (wM g ap):=by
 rw[FS];intro M ob w l hm y;have key:∀{e:Ending} {w':World},(∃M' ob',Ext M ob ac w M' ob' ap w'/\Mem M' ob' ap w'/\uN M' ob' e r)->∃M' ob',Ext M ob ac w M' ob' (ap.map (AW.mapO g)) w'/\Mem M' ob' (ap.map (AW.mapO g)) w'/\uN M' ob' e r:=by
  rintro e w' ⟨M',ob',h1,d,h3⟩;have own:∀x:ab,(AW.mapO g x).owns=x.owns:=λx=>by cases x<;>rfl
  have p:∀{k b:Nat},aK ob' (ap.map (AW.mapO g)) k b->aK ob' ap k b:=λ{k b} ⟨c,hs,o,s,e3,e4⟩=>by
   rw[Bw]at o;cases n:ap[k]? with
   |none=>simp_all
   |some x=>
    rw[n]at o;cases o;exact⟨x,hs,n,by grind,e3,e4⟩
  refine⟨M',ob',⟨h1.imm,h1.new,h1.hs,h1.os,h1.tape,h1.output,h1.size,h1.keep,λk b m=>h1.fresh k b (p m)⟩,⟨d.imm,by simpa using d.len,λk c q=>?_,λk b m=>d.lt k b (p m),λi j b m B=>d.inj i j b (p m) (p B)⟩,h3⟩;rw[Bw]at q;cases n:ap[k]? with
  |none=>grind
  |some x=>
   rw[n]at q;cases q;obtain⟨hs,o,s⟩:=d.obj k x n;refine⟨hs,o,?_⟩;cases x with
   |cells T cs=>
    obtain⟨b,t,A,cv,z,H,C,G⟩:=s;refine⟨b,t,A,cv,z,by rw[zA];simp;omega,C,λi v a F m=>?_⟩
    grind[zA]
   |_=>exact s
 rcases h M ob w l hm y with⟨h1,d⟩|⟨u,w',h1,d⟩
 .exact .inl ⟨h1,d.mono λe w' h=>key h⟩
 .exact .inr ⟨u,w',h1,key d⟩
def aA.blur{P:Program}{f:FuncId}{args:az}{ac ap:aw}{r:Res}(h:aA P f args ac r ap):aA P f args ac r (wM (λ_=>.undef) ap):=
 h.mapO _ λ_ _ _ _ _=>.undef _
def aA.loose{P:Program}{f:FuncId}{args:az}{ac ap:aw}{r:Res}(h:aA P f args ac r ap):aA P f args ac r (wM (AW.strip 5) ap):=
 h.mapO _ λ_ _ _ _=>pF 5
def xH(l:a6)(og:Nat->ab):au->au
 |[]=>[]
 |(i,v)::r=>(i,bif wC i l then ai og 5 v else v)::xH l og r
def KF(l:a6)(og:Nat->ab)(t:Nat):∀(fr:au),aX (xH l og fr) t=aX fr t\/aX (xH l og fr) t=ai og 5 (aX fr t)
 |[]=>.inl rfl
 |(i,v)::r=>by
  simp only[xH,aX];cases Au i t with
  |true=>
   grind
  |false=>exact KF l og t r
def To.frz{E:Env}{fn:Func}{g:Goal}{st:bg}{fr:au}{ac:aw}(l c:a6)
  (h:To E fn g (.code st (xH l (aC (AW.ak c ac)) fr) (AW.ak c ac))):To E fn g (.code st fr ac):=
 .mk λf M0 ob0 aq w0 a w hst hs=>by
  refine h.rec λh=>h f M0 ob0 aq w0 a w hst ?_;obtain⟨M,ob,j,hm,b,k,m,o⟩:=hs;obtain⟨M',i,d,_,n⟩:=Mem.frzs c M ac hm;refine⟨M',ob,j.trans d,i,λt=>?_,k,m.mono d.imm (dH.refl _),by omega⟩;rcases KF l (aC (AW.ak c ac)) t fr with e|e
  .rw [e];exact(b t).monoM d.imm
  .rw [e];exact(i.pureV 5 _ _ ((b t).monoM d.imm)).pure
structure Bulk(H:Type)(N:Nat)(G:DataW H->Prop):Prop where
 str:∀(l:ay),G (.lit (.string l))->Z l<=N
 sl:∀(e r:List (DataW H)),G (.slice e r)->Z e<=N/\∀d∈e,G d
 agg:∀(l:List (DataW H)),G (.agg l)->∀d∈l,G d
def TyN(P:Program)(N:Nat):Nat->TypeId->az->Prop
 |0,_,_=>False
 |n+1,t,cs=>match P.underlying t with
  |some .bool=>∃b,cs=[.bool b]
  |some (.int k)=>∃m,cs=[.int k m]/\inR k m
  |some .string=>∃l,cs=[.str l]/\Z l<=N
  |some (.struct fs)=>TyF (TyN P N n) fs.toList cs
  |some (.array m e)=>∃xs:List az,Z xs=m/\(∀x∈xs,TyN P N n e x)/\cs=xs.flatten
  |some (.slice e)=>∃xs,cs=[.slice (P.cellsOf e) xs .no]/\Z xs<=N/\∀x∈xs,TyN P N n e x.cells/\(aR P e=O->∃l,x= .agg l)/\(aR P e=S->x.cells=[x])
  |_=>False
section
variable {H:Type} {N:Nat} {G:DataW H->Prop} {enc:TypeId×Value->H} {P:Program} {w:World} {base:Nat} {spare:Nat->Bool} {held:Bool}
def NC{n m:Nat}(s:∀t,rY P n t=O->∀cs x,DataW.trod enc P w base spare held m t cs=X x->G x.1->∃as,gS w cs as/\TyN P N n t as)(cs:bb):
  ∀(c:List Field) (off:Nat),(∀f∈c,∃y,DataW.trod enc P w base spare held m f.type ((cs.drop f.offset).take (P.cellsOf f.type))=X y/\G y.1)->MC P (rY P n) off c (Z cs)=O->
   ∃as,gS w (cs.drop off) as/\TyF (TyN P N n) c as:=by
 intro c;induction c with
 |nil=>
  intro off _ h;have:=aE h;subst this;exact⟨[],by simpa using gS.nil,rfl⟩
 |cons f c j=>
  intro off l h;simp only[MC,Af]at h;obtain⟨⟨h1,u⟩,h3⟩:=h;have d:=aE h1;obtain⟨y,p,e⟩:=l f s_;obtain⟨a,o,k⟩:=s f.type u _ y p e;obtain⟨b,v,i⟩:=j (off+P.cellsOf f.type) (λg r=>l g (by simp[r])) h3;refine⟨a++b,?_,a,b,rfl,k,i⟩;have q:cs.drop off=(cs.drop off).take (P.cellsOf f.type)++cs.drop (off+P.cellsOf f.type):=by rw[<-Ho,Bl]
  rw[q];rw[d]at o;exact o.append v
def RB{n m:Nat}{e:TypeId}(s:rY P n e=O)(o:∀t,rY P n t=O->∀cs x,DataW.trod enc P w base spare held m t cs=X x->G x.1->∃as,gS w cs as/\TyN P N n t as)(cs:bb):
  ∀(k:Nat),k*P.cellsOf e<=Z cs->(∀i,i<k->∃y,DataW.trod enc P w base spare held m e ((cs.drop (i*P.cellsOf e)).take (P.cellsOf e))=X y/\G y.1)->
   ∃b:List az,Z b=k/\(∀x∈b,TyN P N n e x)/\gS w (cs.take (k*P.cellsOf e)) b.flatten:=by
 intro k;induction k with
 |zero=>intro _ _;exact⟨[],rfl,λx f=>by simp at f,by simpa using gS.nil⟩
 |succ k d=>
  intro j g;rw[Cg,Ii]at j;obtain⟨b,q,v,p⟩:=d o_ (λi u=>g i o_);obtain⟨y,h,c⟩:=g k o_;obtain⟨a,r,l⟩:=o e s _ y h c;refine⟨b++[a],by simp[q],λx f=>?_,?_⟩
  .grind
  .rw [Cg,Ii,List.take_add];simp only[List.flatten_append,List.flatten_cons,List.flatten_nil,Ap];exact p.append r
def TyN.pack{n:Nat}{t:TypeId}{as:az}(h:TyN P N n t as):∃x:aa,x.cells=as/\(aR P t=O->∃l,x= .agg l)/\(aR P t=S->x.cells=[x]):=by
 cases n with
 |zero=>exact h.elim
 |succ n=>
  unfold TyN at h;cases a:aR P t with
  |true=>exact⟨.agg as,rfl,(λ_=>⟨_,rfl⟩),λh=>by cases h⟩
  |false=>
   unfold aR at a;split at h
   .obtain ⟨b,rfl⟩:=h;exact⟨.bool b,rfl,(λh=>by cases h),λ_=>rfl⟩
   .rename_i k _;obtain⟨m,rfl,_⟩:=h;exact⟨.int k m,rfl,(λh=>by cases h),λ_=>rfl⟩
   .obtain ⟨l,rfl,_⟩:=h;exact⟨.str l,rfl,(λh=>by cases h),λ_=>rfl⟩
   .grind
   .grind
   .rename_i e _;obtain⟨xs,rfl,_⟩:=h;exact⟨.slice (P.cellsOf e) xs .no,rfl,(λh=>by cases h),λ_=>rfl⟩
   grind
def RC{n m:Nat}{e:TypeId}(D:rY P n e=O)(C:∀t,rY P n t=O->∀cs x,DataW.trod enc P w base spare held m t cs=X x->G x.1->∃as,gS w cs as/\TyN P N n t as)(a:Addr):
  ∀(k:Nat),(∀i,i<k->∃y,((w.cells? base (a.add (i*P.cellsOf e)) (P.cellsOf e)).bind (DataW.trod enc P w base spare held m e))=X y/\G y.1)->
   ∃(xs:az) (us:List bb),Z xs=k/\Z us=k/\∀(i:Nat) x u,xs[i]? =X x->us[i]? =X u->Z x.cells=P.cellsOf e/\(∀j,j<P.cellsOf e->w.cell? ((a.add (i*P.cellsOf e)).add j)=u[j]?)/\gS w u x.cells/\
    TyN P N n e x.cells/\(aR P e=O->∃l,x= .agg l)/\(aR P e=S->x.cells=[x]):=by
 intro k;induction k with
 |zero=>intro _;exact⟨[],[],rfl,rfl,λi x u d=>by simp at d⟩
 |succ k q=>
  intro s;obtain⟨xs,us,z,v,H⟩:=q λi A=>s i o_;obtain⟨y,p,h⟩:=s k o_;obtain⟨u,B,p⟩:=Option.bind_eq_some_iff.1 p;obtain⟨_,g,c⟩:=World.cells?_some B;obtain⟨as,has,f⟩:=C e D _ y p h;obtain⟨x,rfl,o⟩:=f.pack;refine⟨xs++[x],us++[u],by simp[z],by simp[v],λi x' F d b=>?_⟩;by_cases A:i<k
  .grind [Ai]
  .have r:i=k:=by grind[Ad]
   subst r;rw[Ar o_]at d b;rw[z,Nat.sub_self]at d;rw[v,Nat.sub_self]at b;simp at d b;subst d b;exact⟨by rw[<-has.1,g],c,has,f,o⟩
def WN(T:Bulk H N G):∀(n:Nat) (t:TypeId),rY P n t=O->∀(A:Nat) (cs:bb) (x:DataW H×List MemPlace),DataW.trod enc P w base spare held A t cs=X x->G x.1->∃as,gS w cs as/\TyN P N n t as:=by
 intro n;induction n with
 |zero=>intro t h;cases h
 |succ n W=>
  intro t h A cs x d D;unfold rY at h;unfold TyN;split at h
  .rename_i g
   try rw[g]
   obtain⟨b,rfl,_⟩:=DataW.trod_bool g d;exact⟨[.bool b],gS.single (.bool b),b,rfl⟩
  .rename_i k g
   try rw[g]
   obtain⟨m,rfl,_,I⟩:=DataW.trod_int g d;simp only[Lit.wf,Af,bo]at I;exact⟨[.int k m],gS.single (.int k m (aAN I)),m,rfl,aAN I⟩
  .rename_i g
   try rw[g]
   obtain⟨s,rfl,p,hs⟩:=DataW.trod_string g d;obtain⟨⟨l⟩⟩:=s;have Am:=T.str _ (by rw[p]at D;exact D);exact⟨[.str l],gS.single (.str l (by have:=gZ;have B:Z l<=maxLen:=hs;omega)),l,rfl,Am⟩
  .rename_i fs g
   try rw[g]
   obtain⟨xs,m,rfl,p,z,hxl,At⟩:=DataW.trod_struct g d;have u:=T.agg _ (by rw[p]at D;exact D);rw[<-z]at h
   have:=NC (λt Q cs x d As=>W t Q m cs x d As) cs fs.toList 0 (λf hf'=>by grind[Cu,Array.getElem?_eq_some_iff,Ab,Cn,Av]) h
   simpa using this
  .rename_i m e g
   try rw[g]
   simp only[Af]at h;obtain⟨h1,B⟩:=h;obtain⟨xs,q,rfl,p,z,hxl,At⟩:=DataW.trod_array g d;have u:=T.agg _ (by rw[p]at D;exact D);have hc:=aE B;obtain⟨Ls,l1,l2,Be⟩:=RB h1 (λt Q cs x d As=>W t Q q cs x d As) cs m o_ (λi M=>⟨xs[i]' o_,(At i M).trans (Ab o_),u _ (Cn (Av _))⟩)
   grind[Bq]
  .rename_i e g
   try rw[g]
   simp only[Af]at h;obtain⟨h1,B⟩:=h;have C:0<P.cellsOf e:=by simpa[Ka]using B
   rcases DataW.trod_slice g d with⟨rfl,_⟩|⟨a,len,cap,L,rest,q,rfl,rfl,p,hb,hlc,hcm,hel,At,_⟩
   .exact ⟨[.slice (P.cellsOf e) [] .no],gS.single (.nilslice _),[],rfl,Bn _,λx d=>by simp at d⟩
   .have u:=T.sl _ _ (by rw[p]at D;exact D);obtain⟨xs,us,l1,l2,Be⟩:=RC h1 (λt Q cs x d As=>W t Q q cs x d As) a len (λi M=>⟨L[i]' o_,(At i M).trans (Ab o_),u.2 _ (Cn (Av _))⟩);have Y:∀x∈xs,TyN P N n e x.cells/\(aR P e=O->∃l,x= .agg l)/\(aR P e=S->x.cells=[x]):=λx d=>by obtain⟨i,M⟩:=Cu d;have hlt:=(Ad.1 M).1;exact(Be i x (us[i]' o_) M (Ab o_)).2.2.2
    by_cases h0:len=0
    .subst h0;have:xs=[]:=Bb l1;subst this;exact⟨[.slice (P.cellsOf e) [] .no],gS.single (.emptys _ a cap),[],rfl,Bn _,λx d=>by simp at d⟩
    .obtain ⟨b,o,sp⟩:=a;have hx0:xs[0]? =X (xs[0]' o_):=Ab o_;have hu0:us[0]? =X (us[0]' o_):=Ab o_;obtain⟨c1,c2,c3,_⟩:=Be 0 _ _ hx0 hu0;have r:=c2 0 C;have K:0<Z (us[0]' o_):=by rw[c3.1,c1];exact C
     rw[Ab K]at r;have V:sp=none:=by have:=World.cell?_spot r;simpa[Addr.add]using this
     subst V;have key:∀(i j:Nat) x c,xs[i]? =X x->x.cells[j]? =X c->∃v,(us.getD i []).getD j undef=v/\w.cell? ⟨b,o+i*P.cellsOf e+j,U⟩=X v/\RepW w v c:=by
      intro i j x c d y;have hlt:=(Ad.1 d).1;have R:us[i]? =X (us[i]' o_):=Ab o_;obtain⟨d1,d2,d3,_⟩:=Be i x _ d R;have An:=(Ad.1 y).1;have F:j<Z (us[i]' o_):=by rw[d3.1];exact An
      have J:=d2 j o_;rw[Ab F]at J;refine⟨_,rfl,?_,?_⟩
      .grind [bI]
      .rw [Ha,Ha,R];simp only[Option.getD_some,Ab F];exact d3.2 j _ c (Ab F) y
     refine⟨[.slice (P.cellsOf e) xs .no],gS.single (.slice (P.cellsOf e) b o len cap xs (λi j=>(us.getD i []).getD j undef) l1 hlc (by have:=gZ;omega) (λx d=>?_) (λi j x c d y=>?_) (λi j x c d y=>?_) (λi j x c d y=>?_)),xs,rfl,by have h9:=u.1;simp only[Cb]at h9;omega,Y⟩
     .grind [Cu,Ad,Ab]
     .obtain ⟨v,rfl,h1,_⟩:=key i j x c d y;exact h1
     .obtain ⟨v,rfl,_,B⟩:=key i j x c d y;exact B.one
     .obtain ⟨v,rfl,_,B⟩:=key i j x c d y;exact B
  .cases h
def YQ(o:Bulk H N G){r:Reach}{j:Nat}{n:Nat}{t e:TypeId}{v:Value}{d:DataW H}{s:List MemPlace}(i:P.underlying t=X (.slice e))(f:rY P (n+1) t=O)(p:Jr P w r j t v)(h:DataW.Trod enc P w base spare held t v d s)(q:G d):
  ∃xs,Rep (Mw w) [] v (.slice (P.cellsOf e) xs .no)/\Z xs<=N/\∀x∈xs,TyN P N n e x.cells/\(aR P e=O->∃l,x= .agg l)/\(aR P e=S->x.cells=[x]):=by
 obtain⟨a,m,c,rfl⟩:=aCG i (aGi (by unfold aR;rw[i]) p);obtain⟨b,h⟩:=h;obtain⟨as,h1,g⟩:=WN o (n+1) t f b _ _ h q;unfold TyN at g;rw[i]at g;obtain⟨xs,rfl,hl,k⟩:=g;exact⟨xs,(h1.2 0 _ _ rfl rfl).rep,hl,k⟩
end
open Go.RowKit Go.Sort
def QV(d:ax)(a:Array Value)(h:Z d<=a.size):
  putCells (Em .i64) 0 d.toArray a=((a.toList.take 0++d.map (Em .i64))++a.toList.drop (0+Z (d.map (Em .i64)))).toArray:=by
 apply Array.ext_getElem?;intro k;simp only[putCells,Array.getElem?_mapIdx,List.take_zero,List.nil_append,List.getElem?_toArray,Bv,Cb,Gg,Bn,true_and,Jq]
 grind[Ar,Cb]
def QQ{w:World}{b k:Nat}{d:ax}{a:Array Value}{e:TypeId}{f:Nat×Nat}{n:Nat}{os:Array Obj}(g:w.heap[b]? =X (.cells a e f))(h:Z d<=a.size)(i:k<w.heap.size):
  (grow (putRow (Em .i64) (Sort.ahead w n) b 0 d.toArray) os).heap[k]? =(w.setRow b ((a.toList.take 0++d.map (Em .i64))++a.toList.drop (0+Z (d.map (Em .i64)))).toArray).heap[k]?:=by
 unfold grow putRow mapBlock World.setRow Sort.ahead;dsimp only;rw[Gz (by grind)];simp only[Array.getElem?_modify];by_cases c:b=k
 .subst c;rw[bu rfl,bu rfl,g];simp only[Option.map_some,onCells,QV d a h]
 grind
def H0{P:Program}{f:FuncId}(R:pD P f)
  (D:∀(p:Option Addr) (cap:Nat) (w:World),Calls P f #[.slice p 0 cap] w λe w'=>e= .returned (.tuple #[])/\w'=w)
  (hs:∀(blk off cap:Nat) (Be:ax) (w:World),Holds (Em .i64) w blk off Be.toArray->blk<w.heap.size->Z Be<4611686018427387904->Calls P f #[.slice (X ⟨blk,off,U⟩) (Z Be) cap] w λe w'=>
   e= .returned (.tuple #[])/\∃n os,w'=grow (putRow (Em .i64) (Sort.ahead w n) blk off (Be.mergeSort λx y=>decide (x<=y)).toArray) os)
  (e:TypeId) (l:ax) (hl:Z l<=1000000000):aA P f [.row 0 0] [.row 0 1 e (l.map (aa.int .i64))] (.ret (.tup [])) [.row 0 1 e ((l.mergeSort λx y=>decide (x<=y)).map (aa.int .i64))]:=by
 intro M ob w F hm B;obtain⟨hln,B⟩:=B
 match F,hln with
 |[v],_=>
 obtain⟨a,n,c,rfl,Am⟩:=(B 0 _ _ rfl rfl).row_inv;obtain⟨hs0,v0,e1,e2,e3,e4,z,hblk⟩:=hm.rowOf (k:=0) rfl;rw[Am]at e4;cases e4;have C:=z;obtain⟨cv,r,h1,hz,hc,hno,hone⟩:=z;have H:Z (l.map (aa.int .i64))=Z l:=by simp
 have K:∀{M':Imm} {ob':Hs},Rep M' ob' (.tuple #[]) (.tup []):=.tup [] [] rfl (λi v a hv=>by simp at hv);by_cases h0:l=[]
 .subst h0;have hn:n=0:=by grind[dW]
  subst hn;refine .inl ⟨R _ _,(D a c w).mono ?_⟩;rintro e' w' ⟨rfl,rfl⟩;have e0:(([]:ax).mergeSort λx y=>decide (x<=y))=[]:=by simp
  rw[e0];exact⟨M,ob,Ext.refl _ _ _ _,hm,K⟩
 .have hpos:0<Z l:=Dp.2 h0;have Y:∀q,q<Z l->∃u,cv[q]? =X u/\u= .int .i64 (l[q]!):=λq V=>by obtain⟨u,A,B⟩:=hc q (.int .i64 l[q]) (by unfold aM;simp[V,aa.cells,Ih,Ln]);refine⟨u,A,?_⟩;rw[B.int_inv.1];simp[V]
  obtain⟨hcl,W⟩:=r;rcases W with⟨q1,q2⟩|⟨b,cap,d,q1,_,L,q4,q5,q6,q7⟩
  .omega
  cases q1
  have r:w.ownsRow 0 e 1 (.slice (X ⟨b,0,U⟩) (Z (l.map (aa.int .i64))) c) (Z (l.map (aa.int .i64))) cv:=⟨hcl,.inr ⟨b,c,d,rfl,Bn _,L,q4,q5,q6,q7⟩⟩
  have Q:b<w.heap.size:=gD L;have hH:Holds (Em .i64) w b 0 l.toArray:=λj G=>by have G:j<Z l:=o_;obtain⟨u,A,rfl⟩:=Y j G;refine⟨?_,by simp[Ly,L]⟩;rw[Bv,fU r rfl A];simp[G]
  have hsl:Z (l.mergeSort λx y=>decide (x<=y))=Z l:=List.length_mergeSort l;rw[H];refine .inl ⟨R _ _,(hs b 0 c l w hH Q o_).mono ?_⟩;rintro e' w' ⟨rfl,k,os,rfl⟩;generalize hS:(l.mergeSort λx y=>decide (x<=y))=At at hsl⊢;have N:∀x∈At,inR .i64 x:=λx s=>by
   have:x∈l:=by grind[List.mergeSort_perm]
   obtain⟨i,hi⟩:=Cu this;have J:=(Ad.1 hi).1;obtain⟨u,A,B⟩:=hc i (.int .i64 x) (by unfold aM;simp[hi,aa.cells,Ih,Ln]);exact B.int_inv.2
  have hw:=C.write (p:=0) (news:=At.map (Em .i64)) (xs':=At.map (aa.int .i64)) rfl o_ (by simp[hsl]) (λu A=>by
    obtain⟨x,_,rfl⟩:=Co.1 A
    rfl) (by simp[hsl]) (λx s=>by
    obtain⟨y,_,rfl⟩:=Co.1 s
    rfl) (λq c' V=>.inl (by
    obtain⟨x,s,As⟩:=gM V;rw[Ih]at s;rw[Ln]at As;rw[Bw]at s;cases g:At[q]? with
    |none=>rw[g]at s;cases s
    |some y=>
     rw[g]at s;cases s;cases As;have J:=(Ad.1 g).1
     exact⟨Bn _,by simp;omega,.int .i64 y,by simp[g],.int _ _ (N y (Ax g))⟩))
  obtain⟨cur',c1,c2,c3⟩:=hw;rw[L]at c1;cases c1;have I:Z At<=d.size:=o_;have t:=hm.rowTurn (k:=0) (hs':=hs0) rfl e1 e3 (Cp _) e2 e3 c3 (λT _ hn=>setRow_other w b T _ (λe=>hn (by simp[Ge,e]))) rfl rfl rfl s_ (λT hb'=>.inl hb');rw[gF e1]at t;obtain⟨t1,t2,_⟩:=t;have hsz:(w.setRow b ((d.toList.take 0++At.map (Em .i64))++d.toList.drop (0+Z (At.map (Em .i64)))).toArray).heap.size=w.heap.size:=by simp
  have An:∀j,j<w.heap.size->(grow (putRow (Em .i64) (Sort.ahead w k) b 0 At.toArray) os).heap[j]? =(w.setRow b ((d.toList.take 0++At.map (Em .i64))++d.toList.drop (0+Z (At.map (Em .i64)))).toArray).heap[j]?:=
   λj G=>QQ L I G
  have m:=t1.more (M':=M) (w':=grow (putRow (Em .i64) (Sort.ahead w k) b 0 At.toArray) os) (λ_ _ _ h=>h) (λ_ _ _ h=>.inl h) (λT o y hy=>by
    obtain⟨u,A,r1,r2⟩:=t1.imm T o y hy;have J:=Ct _ _ A
    grind[Cs]) (λj G=>An j o_) rfl rfl rfl s_
  exact⟨M,ob,t2.trans m.2,m.1,K⟩
def aCN(g:aa->aa)(x:ab):(mapO g x).owns=x.owns:=by cases x<;>rfl
def vY{g:aa->aa}{ob:Hs}{ac:aw}{k b:Nat}(h:aK ob (ac.map (mapO g)) k b):aK ob ac k b:=by
 obtain⟨c,hs,a,i,e,f⟩:=h;rw[Bw]at a;cases d:ac[k]? with
 |none=>simp_all
 |some x=>
  rw[d]at a;cases a;exact⟨x,hs,d,by rw[<-aCN g];exact i,e,f⟩
def Mem.mapO{M:Imm}{ob:Hs}{ac:aw}{w:World}{g:aa->aa}(s:∀(M:Imm) (ob:Hs) v a,Rep M ob v a->Rep M ob v (g a))(d:Mem M ob ac w):Mem M ob (ac.map (AW.mapO g)) w:=by
 refine⟨d.imm,by simpa using d.len,λk c f=>?_,λk b e=>d.lt k b (vY e),λi j b e p=>d.inj i j b (vY e) (vY p)⟩;rw[Bw]at f;cases l:ac[k]? with
 |none=>grind
 |some x=>
  rw[l]at f;cases f;obtain⟨hs,r,h⟩:=d.obj k x l;refine⟨hs,r,?_⟩;cases x with
  |cells T cs=>
   obtain⟨b,m,o,cv,n,y,q,u⟩:=h;refine⟨b,m,o,cv,n,by rw[zA];simp;omega,q,λi v a t e=>?_⟩
   grind[zA]
  |_=>exact h
def Ext.mapO{M M':Imm}{ob ob':Hs}{aq ac:aw}{w w':World}{g:aa->aa}(h1:Ext M ob aq w M' ob' ac w'):Ext M ob aq w M' ob' (ac.map (AW.mapO g)) w':=
 ⟨h1.imm,h1.new,h1.hs,h1.os,h1.tape,h1.output,h1.size,h1.keep,λk b a=>h1.fresh k b (vY a)⟩
def To.mapO{E:Env}{fn:Func}{g:Goal}{st:bg}{fr:au}{ac:aw}(f:aa->aa)(i:∀(M:Imm) (ob:Hs) v a,Rep M ob v a->Rep M ob v (f a))
  (h:To E fn g (.code st fr (wM f ac))):To E fn g (.code st fr ac):=
 .mk λc M0 ob0 aq w0 a w hst hs=>by rw[FS]at h;refine h.rec λh=>h c M0 ob0 aq w0 a w hst ?_;obtain⟨M,ob,d,hm,b,e,j,k⟩:=hs;exact⟨M,ob,d.mapO,hm.mapO i,b,e,j,by simp_all⟩
def To.loose{E:Env}{fn:Func}{g:Goal}{st:bg}{fr:au}{ac:aw}(h:To E fn g (.code st fr (wM (strip 5) ac))):To E fn g (.code st fr ac):=
 h.mapO _ λ_ _ _ _=>pF 5
end Go.AW
