/- Part 3 of what the statement rests on. -/
import Derived.Defers
import Derived.RangeFuncRecord
import Derived.ChangeKeysEq
import Derived.Lib.Overlaps
import Derived.WalkKit
import Derived.ProofKit
import Derived.OpenShut
import Derived.Recover
import Derived.Sort.Grow
import Derived.Test.YtenkdioaefckoaaGreatDoorWB
set_option linter.all false
open List renaming length->Z
open Bool renaming true->O,false->U
open Option renaming some->X,none->D
open Array renaming getD_eq_getD_getElem?->Bh,getElem?_append_left->Hk,replicate->Gg
open Bool renaming and_eq_true->Af,false_eq_true->Dc,not_eq_true'->Dj,or_eq_true->Fo
open Go.Instr renaming checkKey->Ic
open Go.Region renaming binds->Ka,wanted->Fq
open Go.Result renaming andThen->Ez,andThen_ok->Ar
open Go.Sem renaming run_bind->Bd,run_pure->Cb
open Go.Value renaming bool->Nm,int->Eu,ownBlock->Gn
open Go.World renaming block_lt_of_cell?->Cx,cell?->Kz,cell?_of_block->Cw,freeze->Mt,frozen?->Md,ownsRow_nil->Hv,putObj_heap_other->Gt,shape?->Ju
open List renaming append_nil->Ao,drop_drop->Hh,eq_nil_of_length_eq_zero->Ay,getElem?_append_left->Ai,getElem?_append_right->Au,getElem?_eq_getElem->Ab,getElem?_eq_none->Bp,getElem?_eq_some_iff->Ad,getElem?_map->Cd,getElem?_of_mem->Ck,getElem?_set_ne->Bg,getElem?_set_self->Ba,length_map->Bw,length_pos_iff->Dd,map_cons->Bf,map_drop->Ij,map_map->Dz,map_take->Fm,mem_cons->Az,mem_map->Cq,mem_of_getElem?->Ax,prefix_refl->Ct,range'->Ig,replicate->Ak,size_toArray->Gr,take_of_length_le->Bl
open Nat renaming add_comm->Mm,add_mul->Ch,beq->Av,ble->Gc,blt->Fi,div_one->Ir,eq_zero_or_pos->Hj,le_of_ble_eq_true->Co,le_refl->Bc,lor->Nr,mod_one->Lt,mul_le_mul_right->Bu,one_mul->Hu,pow_le_pow_right->Ep,sub_zero->Jz,zero_add->Bv,zero_le->Bq
open Option renaming isSome_iff_exists->Df
namespace Go.AW
open Go.RowKit
open Classical
section
variable {P:Program} {M:Imm} {ob:Hs} {L ac:aw} {w:World} {a:Act}
def oJ{g:Nat->aa}(c:∀t,Rep M ob (a.tmps.getD t undef) (g t)){u:Value}{v:aa}(f:Rep M ob u v){d:Option Nat}(i:∀e,d=X e->e<a.tmps.size):
  ∀t,Rep M ob ((a.put d u).tmps.getD t undef) (kM g d v t):=by
 intro t;unfold kM;cases d with
 | none=>rw[bt s_];exact c t
 | some d=>
  have b:=i d rfl;by_cases h:d=t
  .subst h;simp only[if_true,Act.put];rw[Bh,Array.getElem?_setIfInBounds_self_of_lt b];exact f
  .rw [bt (by grind)];simp only[Act.put];rw[Bh,Array.getElem?_setIfInBounds_ne h,<-Bh];exact c t
def dJ(a:Act)(d:Option Nat)(u:Value):(a.put d u).tmps.size=a.tmps.size/\(a.put d u).defers=a.defers:=by cases d<;>simp[Act.put]
theorem I9{fr:au}(h:∀t,Rep M ob (a.tmps.getD t undef) (bA fr t))(x:Operand):Rep M ob (a.eval x) (ev fr x):=by
 cases x with
 | tmp t=>exact h t
 | const v=>exact rV v
 | global g=>exact .undef _
 | func f=>exact .func (.func f) [] [] [] [] rfl rfl (λi v a h=>by simp at h) (λi v a h=>by simp at h)
def aNe{tab:a6}{all:bc}{j:Nat}{g:Nat->aa}(h:∀t,Rep M ob (a.tmps.getD t undef) (g t))(x:Operand):Rep M ob (a.eval x) (evG tab all j g x):=by
 cases x with
 | tmp t=>
  simp only[evG];cases UW tab j t 0 all with
  | true=>exact .undef _
  | false=>exact h t
 | const v=>exact rV v
 | global g=>exact .undef _
 | func f=>exact .func (.func f) [] [] [] [] rfl rfl (λi v a h=>by simp at h) (λi v a h=>by simp at h)
def G(rd:Option Nat)(P:Program)(ops:Array Oper)(p:Oper)(a:Act)(w:World)(next:Act->World->Prop)(Q:Exit->Act->World->Prop):Prop:=
 if Fq p (yielded ops a.tmps)then p.wpIn (fen rd) 0 P a w next Q else next (a.put p.dst undef) w
def eG{ops:Array Oper}{p:Oper}{ρ:Operand->aa}(t:∀x,Rep M ob (a.eval x) (ρ x)){b:Bool}
  (h:cM ops.toList ρ p.guard=X b):Fq p (yielded ops a.tmps)=b:=by
 unfold cM at h;unfold Fq;cases s:p.guard with
 | none=>simp_all
 | some o=>
  obtain⟨j,k⟩:=o;rw[s]at h;dsimp only at h⊢;split at h
  .rename_i q v;have f:ops[j]? =X q:=by simpa using gZ v
   split at h
   .rename_i d r;have e:=t (.tmp d);have l:∀u,a.tmps.getD d undef=u->yielded ops a.tmps j=match u with | .bool b=>X b|_=>none:=by
     intro u c;unfold yielded;rw[f];simp only[Option.bind_some,r];rw[Bh]at c;cases m:a.tmps[d]? with
     | none=>rw[m]at c;simp at c;subst c;rfl
     | some x=>rw[m]at c;simp at c;subst c;cases x<;>rfl
    split at h
    .rename_i n g;rw[g]at e;have i:a.tmps.getD d undef= .bool n:=e.bool_inv;rw[l _ i];cases h;simp
    .rename_i g;rw[g]at e;obtain⟨us,c,hl,_⟩:=e.tup_inv;have i:a.tmps.getD d undef= .tuple us.toArray:=c;rw[l _ i];cases h;simp
    .cases h
   .cases h
  .cases h
def qW:Rep M ob undef (.tup []):=.tup [] [] rfl λi v a h=>by simp at h
def EA:∀{L ac:aw},aE L=aE ac->Z L<=Z ac->ac=L++Ak (Z ac-Z L) .dead:=λ{L ac} hg hl=>by
 refine List.ext_getElem? λk=>?_;by_cases b:k<Z L
 .rw [Ai b,rG b,rG (show k<Z ac by omega),hg]
 .rw [Au o_,List.getElem?_replicate];by_cases a:k<Z ac
  .rw [bu o_,rG a,<-hg];rcases fZ L k with⟨h1,_⟩|⟨_,_,e⟩
   .omega
   .rw [e]
  simp_all
def Mem.norm(h:Mem M ob L w)(d:aE L=aE ac)(n:∀(k:Nat),Z ac<=k->∀hs,ob[k]? =X hs->hs=[]):
  ∃ob',Mem M ob' ac w/\(∀(k g:Nat) v,at' ob k g=X v->at' ob' k g=X v)/\∀{M0:Imm} {ob0:Hs} {aq:aw} {w0:World},Ext M0 ob0 aq w0 M ob L w->Z ob0<=Z ac->Ext M0 ob0 aq w0 M ob' ac w:=by
 by_cases hl:Z L<=Z ac
 .have e:=EA d hl;obtain⟨c,a,_⟩:=h.extend (Z ac-Z L);rw[<-e]at c a;exact⟨_,c,λk g v o=>a.hs.at o,λb _=>b.trans a⟩
 .have e:=EA d.symm o_;rw[e]at h;obtain⟨f,j,p⟩:=h.shrink λi hs m=>n i m hs;exact⟨_,f,j,λb l=>p (e▸b) l⟩
theorem mE{K d Kp:aa->aw->Prop}(a:∀v o,K v o->d v o):∀{r:OR},orF P ac K Kp r->orF P ac d Kp r
 | .no,k=>k.elim
 | .val v,k=>a _ _ k
 | .mkf fn fs cs,k=>a _ _ k
 | .need p r,k=>⟨k.1,mE a k.2⟩
 | .alt p v w,k=>k.imp (λh=>⟨h.1,a _ _ h.2⟩) (a _ _)
 | .idx n f,⟨i,hi,k⟩=>⟨i,hi,mE a k⟩
 | .elem xs i f,⟨x,hx,k⟩=>⟨x,hx,mE a k⟩
 | .byte l i,⟨c,hc,k⟩=>⟨c,hc,a _ _ k⟩
 | .text xs,⟨l,hl,hm,k⟩=>⟨l,hl,hm,a _ _ k⟩
 | .find es key f,⟨o,ho,k⟩=>⟨o,ho,mE a k⟩
 | .born x v,k=>a _ _ k
 | .upd i x v,k=>a _ _ k
 | .nilq xs neg,k=>λb e=>a _ _ (k b e)
 | .call f args,k=>CallG.mono a k
 | .pan v,k=>k
def wZ{e:aw}{base:Nat}{K Kp:aa->aw->Prop}(g:base=aV ac)(hs:e=ac):∀{r:OR},orD P O O U e ac base K Kp r->orF P ac K Kp r
 | .no,k=>k.elim
 | .val v,k=>k
 | .mkf fn fs cs,k=>k
 | .need p r,k=>⟨k.1,wZ g hs k.2⟩
 | .alt p v w,k=>k
 | .idx n f,⟨i,hi,k⟩=>⟨i,hi,wZ g hs k⟩
 | .elem xs i f,⟨x,hx,k⟩=>⟨x,hx,wZ g hs k⟩
 | .byte l i,k=>k
 | .text xs,k=>k
 | .find es key f,⟨o,ho,k⟩=>⟨o,ho,wZ g hs k⟩
 | .born x v,k=>by rw[g]at k;exact k
 | .upd i x v,k=>k
 | .nilq xs neg,k=>k
 | .call f args,k=>by
  have k:CallD P f args O e base ac K Kp:=k;cases k with
  | pure r new h k=>subst g hs;exact .eff [] [] r new rfl h k
  | sole _ h=>exact h
  | look ks r o a l b c d q=>subst g hs;exact .eff [] ks r o a b (by show K (embV ks _ e 5 r) (iN ks _ e 0 o e);rw[c,d];exact q)
 | .pan v,k=>k
end
section
variable {rd:Option Nat} {M0:Imm} {ob0:Hs} {aq:aw} {w0:World} {sz:Nat} {dfs:List (Nat×az)} {E:Env} {ops:Array Oper} {Q:Exit->Act->World->Prop} {K:au->aw->Prop} {Kp:(Nat->aa)->aa->aw->Prop}
def KG(M:Imm)(ob:Hs)(a:List Deferred)(dfs:List (Nat×az)):Prop:=
 Z a=Z dfs/\∀(i:Nat) d x,a[i]? =X d->dfs[i]? =X x->d.target= .fn (.func x.1) #[]/\cV M ob d.args.toList x.2
def KG.nil{M:Imm}{ob:Hs}:KG M ob [] []:=⟨rfl,λi d x h=>by simp at h⟩
def KG.nil_inv{M:Imm}{ob:Hs}{a:List Deferred}(h:KG M ob a []):a=[]:=Ay h.1
def KG.mono{M M':Imm}{ob ob':Hs}{f:List Deferred}{dfs:List (Nat×az)}(m:∀b o x,M b o x->M' b o x)(g:dR ob ob')(h:KG M ob f dfs):KG M' ob' f dfs:=
 ⟨h.1,λi d x c e=>⟨(h.2 i d x c e).1,(h.2 i d x c e).2.1,λj v a l k=>((h.2 i d x c e).2.2 j v a l k).mono m g⟩⟩
def KG.monoA{M:Imm}{ob ob':Hs}{e:List Deferred}{dfs:List (Nat×az)}(f:∀(k g:Nat) v,at' ob k g=X v->at' ob' k g=X v)(h:KG M ob e dfs):KG M ob' e dfs:=
 ⟨h.1,λi d x b c=>⟨(h.2 i d x b c).1,(h.2 i d x b c).2.1,λj v a m l=>((h.2 i d x b c).2.2 j v a m l).monoA f⟩⟩
def Mks(w0 w:World):List Deferred->Prop
 | []=>True
 | d::ds=>(∃b,d.target= .collected b/\w0.heap.size<=b/\w.heap[b]? =X (.deferred (X []))/\∀a∈ds,a.target≠ .collected b)/\Mks w0 w ds
def Mks.same{w0 w w':World}:∀{a:List Deferred},(∀d∈a,∀b,d.target= .collected b->w.heap[b]? =X (.deferred (X []))->w'.heap[b]? =X (.deferred (X [])))->Mks w0 w a->Mks w0 w' a
 | [],_,_=>trivial
 | d::a,hb,⟨⟨b,h1,h2,h3,h4⟩,h5⟩=>⟨⟨b,h1,h2,hb d s_ b h1 h3,h4⟩,Mks.same (λd c=>hb d (by simp[c])) h5⟩
def dN(w0 w:World)(M:Imm)(ob:Hs)(c:List Deferred)(dfs:List (Nat×az)):Prop:=∃a b,c=a++b/\KG M ob a dfs/\Mks w0 w b
def Mem.alive_heap{M:Imm}{ob:Hs}{ac:aw}{w:World}(hm:Mem M ob ac w){k b:Nat}(p:aM ob ac k b):∃o,w.heap[b]? =X o/\IK o=false:=by
 obtain⟨c,hs,r,h,s,f⟩:=p;obtain⟨hs',j,a⟩:=hm.obj k c r;rw[s]at j;cases j;have row:∀{v:Value} {n sz:Nat} {e:TypeId} {cv:bb},w.ownsRow 0 e sz v n cv->blk hs=v.ownBlock.toList->∃o,w.heap[b]? =X o/\IK o=false:=λ{v n sz e cv} ho hb=>by
  have i:=BB hb f;rcases ho.2 with⟨rfl,_⟩|⟨g,cap,t,q,_,l,_⟩
  .cases i
  .rw [q]at i;cases i;exact⟨_,l,rfl⟩
 cases c with
 | dead=>cases h
 | fcells cs=>cases h
 | frow g sz xs=>cases h
 | cells T cs=>
  obtain⟨m,rfl,_,cv,d,_⟩:=a;have:=fF.1 f;subst this;exact⟨_,d,rfl⟩
 | row g sz e xs=>
  obtain⟨h1,v,d,cv,h3,_⟩:=a;exact row h3 ((fH h1 d).trans (fW h3))
 | tail g sz e=>
  obtain⟨h1,v,d,n,cv,h3,_⟩:=a;exact row h3 ((fH h1 d).trans (fW h3))
 | mp u es=>
  obtain⟨m,rfl,_,x,cl,d,_⟩:=a;have:=fF.1 f;subst this;exact⟨_,d,rfl⟩
 | bun g I=>
  obtain⟨h1,bs,d,h3,_⟩:=a
  grind[FW,fH]
def dN.nil{w0 w:World}{M:Imm}{ob:Hs}:dN w0 w M ob [] []:=⟨[],[],rfl,.nil,trivial⟩
def dN.marks{w0 w:World}{M:Imm}{ob:Hs}{a:List Deferred}(h:dN w0 w M ob a []):Mks w0 w a:=by obtain⟨d,c,rfl,h1,b⟩:=h;rw[h1.nil_inv];exact b
def dN.bare{w0 w:World}{M M':Imm}{ob ob':Hs}{a:List Deferred}(h:dN w0 w M ob a []):dN w0 w M' ob' a []:=⟨[],a,rfl,.nil,h.marks⟩
def dN.mono{w0 w:World}{M M':Imm}{ob ob':Hs}{a:List Deferred}{dfs:List (Nat×az)}(d:∀b o x,M b o x->M' b o x)(c:dR ob ob')(h:dN w0 w M ob a dfs):dN w0 w M' ob' a dfs:=
 let⟨d1,d2,e,h1,h2⟩:=h;⟨d1,d2,e,h1.mono d c,h2⟩
def dN.monoA{w0 w:World}{M:Imm}{ob ob':Hs}{a:List Deferred}{dfs:List (Nat×az)}(b:∀(k g:Nat) v,at' ob k g=X v->at' ob' k g=X v)(h:dN w0 w M ob a dfs):dN w0 w M ob' a dfs:=
 let⟨d1,d2,e,h1,h2⟩:=h;⟨d1,d2,e,h1.monoA b,h2⟩
def dN.put{w0 w:World}{M:Imm}{ob:Hs}{a:Act}{d:Option Nat}{u:Value}{dfs:List (Nat×az)}(h:dN w0 w M ob a.defers dfs):dN w0 w M ob (a.put d u).defers dfs:=by rw[(dJ a d u).2];exact h
def dN.same{w0 w w':World}{M:Imm}{ob:Hs}{a:List Deferred}{dfs:List (Nat×az)}(c:w'.heap=w.heap)(h:dN w0 w M ob a dfs):dN w0 w' M ob a dfs:=
 let⟨d1,d2,e,h1,h2⟩:=h;⟨d1,d2,e,h1,h2.same λd _ b _ h=>by grind⟩
def dN.ext{w0 w w':World}{M M':Imm}{ob ob':Hs}{ac ap:aw}{f:List Deferred}{dfs:List (Nat×az)}(h:dN w0 w M ob f dfs)(hm:Mem M ob ac w)(a:Ext M ob ac w M' ob' ap w'):dN w0 w' M' ob' f dfs:=
 let⟨d1,d2,e,h1,h2⟩:=h
 ⟨d1,d2,e,h1.mono a.imm a.hs,h2.same λd _ b _ h=>by
  rw[a.keep b (gO h) λk g=>by
   obtain⟨o,c,i⟩:=hm.alive_heap g;rw[h]at c;cases c
   cases i]
  exact h⟩
def SS(M0:Imm)(ob0:Hs)(aq:aw)(w0:World)(sz:Nat)(dfs:List (Nat×az))(fr:au)(ac:aw)(a:Act)(w:World):Prop:=
 ∃M ob,Ext M0 ob0 aq w0 M ob ac w/\Mem M ob ac w/\(∀t,Rep M ob (a.tmps.getD t undef) (bA fr t))/\a.tmps.size=sz/\dN w0 w M ob a.defers dfs/\Z ob0<=Z ac
def PP(M0:Imm)(ob0:Hs)(aq:aw)(w0:World)(sz:Nat)(dfs:List (Nat×az))(c:Nat->aa)(v:aa)(ac:aw)(b:List PanicEntry)(a:Act)(w:World):Prop:=
 ∃M ob,Ext M0 ob0 aq w0 M ob ac w/\Mem M ob ac w/\wJ M ob (.panicked b) (.pan v)/\(∀t,Rep M ob (a.tmps.getD t undef) (c t))/\a.tmps.size=sz/\dN w0 w M ob a.defers dfs/\Z ob0<=Z ac
def Ext.lens{M M':Imm}{ob ob':Hs}{L L':aw}{w w':World}(a:Ext M ob L w M' ob' L' w'):Z ob<=Z ob':=by
 rcases Hj (Z ob)with h|h
 .omega
 .obtain ⟨hs',e,_⟩:=a.hs (Z ob-1) _ (Ab o_)
  grind
def jJ{P:Program}{hint base:Nat}{ac:aw}{ρ:Operand->aa}{op:Op}{ty:TypeId}{K Kp:aa->aw->Prop}(h:orF P ac K Kp (eop E hint base (aE ac) ρ op ty)):∀c,op≠ .defer c:=by intro c e;subst e;exact h.elim
def SA(hE:ae E){fr:au}{ac:aw}{a:Act}{w:World}(hs:SS M0 ob0 aq w0 sz dfs fr ac a w){p:Oper}(z:∀d,p.dst=X d->d<sz){hint:Nat}
  (h:match cM ops.toList (ev fr) p.guard with
   | none=>False
   | some false=>K (kU fr p.dst (.tup [])) ac
   | some true=>orF E.P ac (λv ac=>K (kU fr p.dst v) ac) (Kp (bA fr)) (eop E hint (aV ac) (aE ac) (ev fr) p.op p.type))
  (hp:∀v ac l w,Kp (bA fr) v ac->PP M0 ob0 aq w0 sz dfs (bA fr) v ac l a w->Q (.panic l) a w):
  G rd E.P ops p a w (λa w=>∃fr ac,K fr ac/\SS M0 ob0 aq w0 sz dfs fr ac a w) Q:=by
 obtain⟨M,ob,x,hm,m,f,i,B⟩:=hs;have k:=I9 m;have hl:=hm.len;unfold G;cases y:cM ops.toList (ev fr) p.guard with
 | none=>simp_all
 | some b=>
  rw[y]at h;rw[eG k y];cases b with
  | false=>
   rw[bt s_];refine⟨_,ac,h,M,ob,x,hm,?_,(dJ _ _ _).1.trans f,i.put,B⟩;rw[fC];exact oJ m qW λs e=>f▸z s e
  | true=>
   rw[bu rfl];have o:∀c,p.op≠ .defer c:=jJ h;refine(wQ hE hm k h).wpIn o (λu w' ⟨M',ob',L',g,j,r⟩=>?_) (λl w' ⟨M',ob',L',g,j,r⟩=>?_)
   .rcases r with⟨C,v,e,q,n⟩|⟨l,v,e,_⟩
    .cases e;have:=g.lens;have:=j.len;refine⟨_,L',n,M',ob',x.trans g,j,?_,(dJ _ _ _).1.trans f,(i.ext hm g).put,by omega⟩;rw[fC];exact oJ (λt=>(m t).mono g.imm g.hs) q λs e=>f▸z s e
    .cases e
   .rcases r with⟨C,v,e,_⟩|⟨A,v,e,q,n⟩
    .cases e
    .cases e;have:=g.lens;have:=j.len;exact hp v L' l w' n ⟨M',ob',x.trans g,j,q,λt=>(m t).mono g.imm g.hs,f,i.ext hm g,by omega⟩
def wk{l:bc}{p:Oper}{a:Act}{w:World}{next:Act->World->Prop}(b:G rd E.P ops p a w next Q)(d:∀a w,next a w->wpListIn (fen rd) 0 E.P ops Q l a w):wpListIn (fen rd) 0 E.P ops Q (p::l) a w:=by
 unfold wpListIn;unfold G at b;split
 .rename_i c;rw[bu c]at b;exact Oper.wpIn_mono d b
 .rename_i c;rw[bt c]at b;exact⟨λ_ _=>trivial,d _ _ b⟩
def pW(hE:ae E)(hp:∀g v ac b a w,Kp g v ac->PP M0 ob0 aq w0 sz dfs g v ac b a w->Q (.panic b) a w)(i:∀fr ac a w,K fr ac->SS M0 ob0 aq w0 sz dfs fr ac a w->Q .normal a w):
  ∀(l:bc) (n:Nat) (fr:au) (ac:aw) (a:Act) (w:World),(∀p∈l,∀d,p.dst=X d->d<sz)->fV E ops.toList K Kp n l fr ac->SS M0 ob0 aq w0 sz dfs fr ac a w->wpListIn (fen rd) 0 E.P ops Q l a w
 | [],n,fr,ac,a,w,_,h,hs=>i fr ac a w h hs
 | p::l,n,fr,ac,a,w,hd,h,hs=>by
  refine wk (SA (K:=λfr ac=>fV E ops.toList K Kp (n+1) l fr ac) (Kp:=Kp) (hint:=fA E p.dst) hE hs (hd p s_) ?_ λv ac b w c e=>hp (bA fr) v ac b a w c e) λj w' ⟨f,ap,c,hs'⟩=>pW hE hp i l (n+1) f ap j w' (λp hp=>hd p (by simp[hp])) c hs';simp only[fV]at h
  grind[mE,AB]
end
section
variable {rd:Option Nat} {M0:Imm} {ob0:Hs} {aq:aw} {w0:World} {sz:Nat} {dfs:List (Nat×az)} {E:Env} {ops:Array Oper} {Q:Exit->Act->World->Prop} {K:AS->Prop} {Kp:(Nat->aa)->aa->aw->Prop} {L0:Nat} {tab:a6}
def KM{P:Program}{og b:Nat->ab}{hint base a:Nat}{ρ:Operand->aa}{op:Op}{ty:TypeId}{z:aa}{bs:aw}(h:iK P b a z bs (eop E hint base og ρ op ty)):∀c,op≠ .defer c:=by intro c e;subst e;exact h.elim
def O7{og:Nat->ab}{hint base k:Nat}{ρ:Operand->aa}{op:Op}{ty:TypeId}{z:aa}{x:ab}(h:O8 z k x (eop E hint base og ρ op ty)):∀c,op≠ .defer c:=by intro c e;subst e;exact h.elim
def DS(M0:Imm)(ob0:Hs)(aq:aw)(w0:World)(sz:Nat)(dfs:List (Nat×az))(L0:Nat)(s:AS)(a:Act)(w:World):Prop:=
 ∃M ob L,Ext M0 ob0 aq w0 M ob L w/\Mem M ob L w/\aE L=s.o/\(∀t,Rep M ob (a.tmps.getD t undef) (s.g t))/\a.tmps.size=sz/\dN w0 w M ob a.defers dfs/\Z ob0<=L0/\
  ∀(k:Nat),L0<=k->(∀i,¬ s.br i k)->∀hs,ob[k]? =X hs->hs=[]
def aNB(hE:ae E)(hd:∀(i:Nat) p,ops[i]? =X p->∀d,p.dst=X d->d<sz)(hp:∀g v ac B a w,Kp g v ac->PP M0 ob0 aq w0 sz dfs g v ac B a w->Q (.panic B) a w)
  {s:AS} {a:Act} {w:World} (hs:DS M0 ob0 aq w0 sz dfs L0 s a w) {i:Nat} (h:aOp E ops tab L0 Kp i K s):wpOpIn (fen rd) 0 E.P ops Q i (λa w=>∃s',K s'/\DS M0 ob0 aq w0 sz dfs L0 s' a w) a w:=by
 obtain⟨p,hi,h⟩:=h;have r:=hd i p hi
 suffices hg:G rd E.P ops p a w (λa w=>∃s',K s'/\DS M0 ob0 aq w0 sz dfs L0 s' a w) Q by
  unfold wpOpIn;rw[hi];dsimp only;unfold G at hg;split
  .rename_i n;rw[bu n]at hg;exact hg
  .rename_i n;rw[bt n]at hg;exact⟨λ_ _=>trivial,hg⟩
 obtain⟨M,ob,L,W,hm,F,H,j,q,At,b⟩:=hs;have l:∀x,Rep M ob (a.eval x) (evG tab ops.toList i s.g x):=aNe H;have skip:∀{base:Nat},K (s.upd i p.dst (.tup []) base [])->Fq p (yielded ops a.tmps)=U->G rd E.P ops p a w (λa w=>∃s',K s'/\DS M0 ob0 aq w0 sz dfs L0 s' a w) Q:=λ{base} m n=>by unfold G;rw[bt (by rw[n];simp)];refine⟨_,m,?_⟩;rw[FC];exact⟨M,ob,L,W,hm,F,oJ H qW λC e=>j▸r C e,(dJ _ _ _).1.trans j,q.put,At,b⟩
 rcases h with⟨_,z,base,bs,⟨A,_,hy⟩,hfr,m⟩|⟨_,z,base,k,x,⟨⟨A,hbr⟩,n,I,c⟩,m⟩|⟨_,ac,hoo,hl0,hall,Am,hy⟩
 .rcases hy with⟨n,rfl,rfl⟩|⟨n,c⟩
  .exact skip m (eG l n)
  .unfold G;rw[eG l n,bu rfl];obtain⟨hid,o⟩:∃hid,aE (cZ hid L)=nT E tab i p.dst s:=by
    cases An:blD E p.dst with
    | true=>exact⟨λ_=>True,by rw[gT];unfold nT;rw[bu An];simp⟩
    | false=>exact⟨ZD tab i s.br,by rw[gT,F];unfold nT;rw[bt q_];rfl⟩
   rw[<-o]at c;refine(aRi hE hm l (λk m=>b k (Nat.le_trans A m.1) (hfr k m)) c).wpIn (KM c) (λu w' ⟨M',ob',L',T,e,f,y,Be,x4,x5,Y⟩=>?_) (λB w' ⟨M',ob',L',T,e,_⟩=>by cases e);cases e;refine⟨_,m,M',ob',L',W.trans f,y,?_,oJ (λt=>(H t).mono f.imm f.hs) x5 λC e=>j▸r C e,(dJ _ _ _).1.trans j,(q.ext hm f).put,At,λk h1 J hs V=>?_⟩
   .rw [Be,F];rfl
   .have N:¬ inB base (Z bs) k:=λh=>J i (.inr ⟨rfl,h⟩);exact Y k N (b k h1 λi' A=>J i' (.inl A)) hs V
 .unfold G;rw[eG l n,bu rfl];have o:aE (cZ (ZD tab i s.br) L)=qT tab i s:=by rw[gT,F];rfl
  rw[<-o]at c I;refine(aNC hE hm l (b base A hbr) I c).wpIn (O7 c) (λu w' ⟨M',ob',L',T,e,f,y,Be,x4,x5,Y⟩=>?_) (λB w' ⟨M',ob',L',T,e,_⟩=>by cases e);cases e;refine⟨_,m,M',ob',L',W.trans f,y,?_,oJ (λt=>(H t).mono f.imm f.hs) x5 λC e=>j▸r C e,(dJ _ _ _).1.trans j,(q.ext hm f).put,At,λk' h1 J hs V=>Y k' (b k' h1 J) hs V⟩;rw[Be,F];rfl
 .rcases hy with⟨n,m⟩|⟨n,As⟩
  .exact skip m (eG l n)
  .unfold G;rw[eG l n,bu rfl];have hof:=cC ac;obtain⟨ob1,n1,n2,n3⟩:=hm.norm (ac:=ac) (F.trans hoo.symm) λk m=>b k o_ λi A=>by have:=Am i k A;omega
   have R:∀x,Rep M ob1 (a.eval x) (evG tab ops.toList i s.g x):=λx=>(l x).monoA n2;have S:=n3 W o_;refine(wQ hE n1 R (wZ rfl rfl As)).wpIn (jJ (wZ rfl rfl As)) (λu w' ⟨M',ob',L',f,y,Be⟩=>?_) (λB w' ⟨M',ob',L',f,y,Be⟩=>?_)
   .rcases Be with⟨T,v,e,hr,m⟩|⟨B,v,e,_⟩
    .cases e;have l1:=f.lens;have l2:=y.len;have l3:=n1.len;have hle:aV ac<=aV L':=by rw[cC,cC];omega
     refine⟨_,m hle,M',ob',L',S.trans f,y,rfl,oJ (λt=>((H t).monoA n2).mono f.imm f.hs) hr λC e=>j▸r C e,(dJ _ _ _).1.trans j,((q.monoA n2).ext n1 f).put,At,λk h1 J hs V=>?_⟩
     grind[cC,Ad]
    .cases e
   .rcases Be with⟨T,v,e,_⟩|⟨ch',v,e,hr,m⟩
    .cases e
    .cases e;have l1:=f.lens;have l2:=y.len;have l3:=n1.len;exact hp _ v L' B a w' m ⟨M',ob',S.trans f,y,hr,λt=>((H t).monoA n2).mono f.imm f.hs,j,(q.monoA n2).ext n1 f,by omega⟩
def sC(hE:ae E)(k:∀(i:Nat) p,ops[i]? =X p->∀d,p.dst=X d->d<sz)(hp:∀g v ac n a w,Kp g v ac->PP M0 ob0 aq w0 sz dfs g v ac n a w->Q (.panic n) a w){m:AS->Prop}
  (e:∀s a w,m s->DS M0 ob0 aq w0 sz dfs L0 s a w->Q .normal a w):
  ∀(b:Nat) (c:Array Bool) (s:AS) (a:Act) (w:World),wpA E ops tab L0 Kp m b c s->DS M0 ob0 aq w0 sz dfs L0 s a w->wpAnyIn (fen rd) 0 E.P .any ops Q b c a w
 | 0,_,_,_,_,h,hs=>⟨h.1,e _ _ _ h.2 hs⟩
 | b+1,_,_,_,_,h,hs=>⟨λr=>e _ _ _ (h.1 r) hs,λi t=>by
   have:=aNB (rd:=rd) (K:=wpA E ops tab L0 Kp m b _) hE k hp hs (h.2 i t);unfold wpOpIn at this⊢;cases q:ops[i]? with
   | none=>rw[q]at this;obtain⟨s',f,j⟩:=this;exact sC hE k hp e b _ s' _ _ f j
   | some o=>
    rw[q]at this;dsimp only at this⊢;split
    .rename_i l;rw[bu l]at this;exact Oper.wpIn_mono (λa w ⟨s',f,j⟩=>sC hE k hp e b _ s' a w f j) this
    .rename_i l;rw[bt l]at this;obtain⟨_,s',f,j⟩:=this
     exact⟨λ_ _=>trivial,sC hE k hp e b _ s' _ _ f j⟩⟩
def DS.of{fr:au}{ac:aw}{a:Act}{w:World}(h:SS M0 ob0 aq w0 sz dfs fr ac a w):DS M0 ob0 aq w0 sz dfs (Z ac) (lJ fr ac []) a w:=by
 obtain⟨M,ob,f,hm,e,c,b,g⟩:=h
 exact⟨M,ob,ac,f,hm,rfl,e,c,b,g,λk i _ hs d=>by
  have:=(Ad.1 d).1;rw[hm.len]at this
  omega⟩
def DS.back{fr:au}{ac:aw}{br:List (Nat×Nat)}{n:Nat}{a:Act}{w:World}(g:LI L0 n ac br)(h:DS M0 ob0 aq w0 sz dfs L0 (lJ fr ac br) a w):SS M0 ob0 aq w0 sz dfs fr ac a w:=by
 obtain⟨M,ob,L,p,hm,j,m,c,e,s,b⟩:=h;have q:=cC ac;have f:=g.low;obtain⟨d,n1,n2,o⟩:=hm.norm (ac:=ac) j λk r=>b k o_ λi l=>by have:=(g.lt i k l).1;omega
 exact⟨M,d,o p o_,n1,λt=>(m t).monoA n2,c,e.monoA n2,by omega⟩
def SS.draw{fr:au}{ac:aw}{a:Act}{w:World}(h:SS M0 ob0 aq w0 sz dfs fr ac a w):SS M0 ob0 aq w0 sz dfs fr ac a {w with drawn:=w.drawn+1}:=by obtain⟨M,ob,b,hm,e,d,c,f⟩:=h;exact⟨M,ob,⟨b.imm,b.new,b.hs,b.os,b.tape,b.output,b.size,b.keep,b.fresh⟩,hm.same (Bc _) λ_ _=>rfl,e,d,dN.same (w:=w) rfl c,f⟩
def YD(hE:ae E){id:Nat}(u:TabSp ops tab)(t:∀(i:Nat) p,ops[i]? =X p->∀d,p.dst=X d->d<sz){Kq:au->aw->Prop}
  (hp:∀g v ac q a w,Kp g v ac->PP M0 ob0 aq w0 sz dfs g v ac q a w->Q (.panic q) a w) (x:∀fr ac a w,Kq fr ac->SS M0 ob0 aq w0 sz dfs fr ac a w->Q .normal a w)
  {fr:au} {ac:aw} {a:Act} {w:World} (hs:SS M0 ob0 aq w0 sz dfs fr ac a w) (h:kH E ops.toList tab Kq Kp 0 ops.toList [] fr ac):(Code.region id ops O).wpIn (fen rd) 0 E.P Q a w:=by
 refine wpIn_region_any hE.mix ?_;have b:∀j,j<ops.size->(Gg ops.size U)[j]? =X (decide (j<0)):=by intro j z;simp[z]
 have m:(Gg ops.size U).size=ops.size:=by simp
 have c:Z ops.toList=ops.size:=by simp
 have r:LI (Z ac) 0 ac []:=⟨by rw[cC];omega,λk h1 y=>by rw[cC]at y;omega,λi k l=>by simp at l⟩
 have:=aMn u ops.toList 0 _ [] fr ac rfl b m r h;rw[c]at this;exact sC hE t hp (λs a w ⟨n,ap,A,B,e,o,l⟩ f=>x n ap a w l (DS.back o (e▸f))) _ _ _ _ _ this (DS.of hs.draw)
end
def KI.item:KI->Item
 | .code c=>.code c
 | .inB id=>.inBlock id
 | .inL c=>.inLoop c
 | .beginR=>.beginRound
def iT(ks:bg):List Item:=ks.map KI.item
def aIM(rd:Option Nat)(n:Nat):(fen rd).room n:=λd h=>by cases h
def kX(P:Program)(rd:Option Nat)(m:Machine):m.fenced P (fen rd):=fenced_wide P m
def KW(rd:Option Nat)(P:Program)(Q:Exit->Act->World->Prop)(ks:bg)(a:Act)(w:World):Prop:=
 ∀(b:Frame) (cs:List Frame),b.roundOf=rd->∃e c w',Q e c w'/\ArrivesIn (Machine.fenced P (fen rd)) P (lone (b.atR a (iT ks)) cs w) b [] cs e c w'
section
variable {rd:Option Nat} {P:Program} {Q:Exit->Act->World->Prop} {ks ks':bg} {a:Act} {w:World}
def KW.nil(h:Q .normal a w):KW rd P Q [] a w:=λ_ _ _=>⟨.normal,a,w,h,.refl _⟩
def KW.step(hs:∀(b:Frame) cs,Go.step P (lone (b.atR a (iT ks)) cs w)= .next (lone (b.atR a (iT ks')) cs w))(h:KW rd P Q ks' a w):KW rd P Q ks a w:=
 λb cs c=>let⟨e,a',w',q,r⟩:=h b cs c;⟨e,a',w',q,.of_steps (.one (kX _ _ _) (hs b cs)) r⟩
def KW.ret(h:Q .ret a w):KW rd P Q (.code .ret::ks) a w:=λb _ _=>⟨.ret,a,w,h,λc=>⟨_,.one (kX _ _ _) (stepR_ret c)⟩,λ_=>⟨iT ks,.refl _⟩⟩
def KW.code{c:Code}{Q':Exit->Act->World->Prop}(h:c.wpIn (fen rd) 0 P Q' a w)(h1:∀a w,Q' .normal a w->KW rd P Q ks a w)(j:∀d a w,Q' (.panic d) a w->Q (.panic d) a w)
  (h3:∀e a w,Q' e a w->e= .normal\/∃d,e= .panic d):KW rd P Q (.code c::ks) a w:=by
 intro b cs g;obtain⟨e,f,w',q,r⟩:=h b (iT ks) cs g trivial (aIM _ _);rcases h3 e f w' q with rfl|⟨d,rfl⟩
 .obtain ⟨l,i,k,n,m⟩:=h1 f w' q b cs g;exact⟨l,i,k,n,.of_steps r m⟩
 .exact ⟨.panic d,f,w',j d f w' q,r⟩
def KW.arrives(h:KW D P Q ks a w)(b:Frame)(cs:List Frame)(d:b.roundOf=D):∃e c w',Q e c w'/\Arrives P (lone (b.at a (iT ks)) cs w) b [] cs e c w':=by obtain⟨e,c,w',q,r⟩:=h b cs d;rw[Frame.atR_of_none d]at r;exact⟨e,c,w',q,(arrivesIn_iff (I:=Machine.fenced P Fence.wide) (λ_ _=>stepsIn_wide) d).1 r⟩
def oN{id:Nat}:∀(ks ks':bg),I8 id ks=X ks'->exitTo id (iT ks)=X (iT ks')
 | [],ks',h=>by cases h
 | .inB i::r,ks',h=>by
  simp only[I8]at h;simp only[iT,Bf,KI.item,exitTo];cases b:Av i id with
  | true=>
   simp_all
  | false=>
   rw[b]at h;have a:¬ (i==id)=true:=λe=>by simp_all
   rw[bt a];exact oN r ks' h
 | .code c::r,ks',h=>oN r ks' h
 | .inL c::r,ks',h=>oN r ks' h
 | .beginR::r,ks',h=>oN r ks' h
end
def QQ:Nat->bc->Bool
 | _,[]=>O
 | n,p::r=>(jD p).all (λi=>Fi i n)&&QQ (n+1) r
def VT(tab:a6)(i:Nat)(d:Nat):Nat->bc->Bool
 | _,[]=>O
 | j,q::r=>(match q.dst with|some e=>!Av e d|| !loose tab i j|none=>O)&&VT tab i d (j+1) r
def aNA(tab:a6)(all:bc):Nat->bc->Bool
 | _,[]=>O
 | i,p::r=>(match p.dst with|some d=>VT tab i d 0 all|none=>O)&&aNA tab all (i+1) r
def SV(ops:Array Oper):Bool:=QQ 0 ops.toList&&aNA (iX [] ops.toList) ops.toList 0 ops.toList
def aOS(sz:Nat)(l:bc):Bool:=l.all λp=>match p.dst with|some d=>Fi d sz|none=>O
def dW(sz:Nat):Code->Bool
 | .region _ ops dr=>aOS sz ops.toList&&(!dr||SV ops)
 | .seq a b=>dW sz a&&dW sz b
 | .cond _ a b=>dW sz a&&dW sz b
 | .block _ b=>dW sz b
 | .loop b=>dW sz b
 | _=>O
def KI.ok(sz:Nat):KI->Bool
 | .code c=>dW sz c
 | .inL c=>dW sz c
 | .inB _=>O
 | .beginR=>O
def bN(sz:Nat):bg->Bool
 | []=>O
 | k::r=>k.ok sz&&bN sz r
def vX{sz id:Nat}:∀(ks ks':bg),I8 id ks=X ks'->bN sz ks=O->bN sz ks'=O
 | [],ks',h,_=>by cases h
 | .inB i::r,ks',h,ho=>by
  simp only[I8]at h;simp only[bN,Af]at ho;cases a:Av i id with
  | true=>grind
  | false=>rw[a]at h;exact vX r ks' h ho.2
 | .code c::r,ks',h,ho=>vX r ks' h (by simp only[bN,Af]at ho;exact ho.2)
 | .inL c::r,ks',h,ho=>vX r ks' h (by simp only[bN,Af]at ho;exact ho.2)
 | .beginR::r,ks',h,ho=>vX r ks' h (by simp only[bN,Af]at ho;exact ho.2)
def Goal.res:Goal->Res
 | .pure r=>r
 | .full _ r _=>r
 | .keep _ r _=>r
def Goal.obs:Goal->aw
 | .pure _=>[]
 | .full _ _ o=>o
 | .keep _ _ o=>o
def Goal.strict:Goal->Bool
 | .keep _ _ _=>U
 | _=>O
def RR(M0:Imm)(ob0:Hs)(aq:aw)(w0:World)(g:Goal)(e:Ending)(w':World):Prop:=∃M' ob',Ext M0 ob0 aq w0 M' ob' g.obs w'/\Mem M' ob' g.obs w'/\wJ M' ob' e g.res
def gB(P:Program)(fn:Func)(tmps:Array Value)(R:Ending->World->Prop):List Deferred->FrameMode->World->Prop
 | [],u,w=>Leaves P fn tmps R [] u w
 | d::ds,u,w=>u≠ .run/\((∃r w',d.target= .collected r/\(Instr.takeDeferred r).run P w= .ok [] w'/\gB P fn tmps R ds u w')\/
   ∃fv cap f args,d.target= .fn fv cap/\(invoke d.target d.args).run P w= .ok (.enter f args) w/\
   CallsD P f args u w fun
    | .returned _,u',w'=>gB P fn tmps R ds (settle u') w'
    | .panicked fV,u',w'=>gB P fn tmps R ds (raised u' fV) w'
    | .outgrown,_,w'=>R .outgrown w')
def gH{P:Program}{fn:Func}{tmps:Array Value}{R:Ending->World->Prop}:∀(m:List Deferred) (u:FrameMode) (w:World) (fr:Frame)
  (cs:List Frame),fr.mode=u->fr.defers=m->fr.tmps=tmps->P.funcs[fr.fn]? =X fn->gB P fn tmps R m u w->
  ∃e w' a,R e w'/\Comes P (lone fr cs w) (lone a cs w') e/\a.fn=fr.fn/\a.kind=fr.kind/\a.going P w' e:=by
 intro m;induction m with
 | nil=>
  intro u w fr cs x A C y h;cases u with
  | run=>exact h.elim
  | returning=>
   obtain⟨v,K,B⟩:=h;exact⟨.returned v,w,fr,B,Steps.refl P _,rfl,rfl,x,A,fn,y,C▸K⟩
  | panicking fV=>exact⟨.panicked fV,w,fr,h,Steps.refl P _,rfl,rfl,x,A,fn,y⟩
 | cons d m G=>
  intro u w fr cs x A C y h;obtain⟨p,⟨r,w',n,q,t⟩|⟨fv,cap,f,args,n,F,s⟩⟩:=h
  .have h1:=step_collected (cs:=cs) (x▸p) A n q;obtain⟨z,i,a,k,hs',g,j,l⟩:=G u w' {fr with defers:=[]++m} cs x rfl C y t;exact⟨z,i,a,k,Comes.of_steps (.one h1) hs',g,j,l⟩
  have h1:=step_defer (cs:=cs) (x▸p) A n F;obtain⟨e,o,w',J,B,b,H,Be⟩:=s {fr with defers:=m} cs x;cases e with
  | returned v=>
   have I:=step_going_returned (c:={{fr with defers:=m} with mode:=o}) (cs:=cs) H Be;obtain⟨z,i,a,k,hs',g,j,l⟩:=G (settle o) w' {{{fr with defers:=m} with mode:=o} with mode:=settle o} cs rfl rfl C y B;exact⟨z,i,a,k,Comes.of_steps (.head h1 (Steps.trans b (.one I))) hs',g,j,l⟩
  | panicked fV=>
   have I:=step_going_panicked (c:={{fr with defers:=m} with mode:=o}) (cs:=cs) Be;obtain⟨z,i,a,k,hs',g,j,l⟩:=G (raised o fV) w' {{{fr with defers:=m} with mode:=o} with mode:=raised o fV} cs rfl rfl C y B;exact⟨z,i,a,k,Comes.of_steps (.head h1 (Steps.trans b (.one I))) hs',g,j,l⟩
  | outgrown=>exact⟨.outgrown,w',fr,B,Outgrown.of_steps (.one h1) b,rfl,rfl,trivial⟩
def qJ{P:Program}{fr:Frame}{w:World}{e:Ending}(h:fr.going P w e)(a:fr.kind= .normal):fr.leaving P w e:=by
 cases e with
 | returned v=>exact⟨h.1,h.2.1,a,h.2.2⟩
 | panicked b=>exact h
 | outgrown=>exact h
structure Shut(w0 w w':World):Prop where
 os:w'.os=w.os
 tape:w'.tape=w.tape
 output:w'.output=w.output
 size:w'.heap.size=w.heap.size
 heap:∀b,w'.heap[b]? =w.heap[b]?\/(w0.heap.size<=b/\w.heap[b]? =X (.deferred (X [])))
def qI{P:Program}{fn:Func}{tmps:Array Value}{R:Ending->World->Prop}{w0:World}{u:FrameMode}(f:u≠ .run):∀(a:List Deferred) (w:World),Mks w0 w a->(∀w',Shut w0 w w'->Leaves P fn tmps R [] u w')->gB P fn tmps R a u w
 | [],w,_,h=>h w ⟨rfl,rfl,rfl,rfl,λb=>.inl rfl⟩
 | d::a,w,⟨⟨b,h1,h2,h3,h4⟩,h5⟩,h=>by
  refine⟨f,.inl ⟨b,_,h1,run_takeDeferred h3,?_⟩⟩;refine qI f a _ (h5.same λj g c e i=>?_) λw' hs=>h w' ⟨hs.os,hs.tape,hs.output,hs.size.trans World.putObj_size,λc=>?_⟩
  .grind [Gt]
  .by_cases e:c=b
   .grind
   .have:=hs.heap c;rwa [Gt e]at this
def Mem.shut{w0 w w':World}{M:Imm}{ob:Hs}{ac:aw}(hm:Mem M ob ac w)(h:Shut w0 w w'):Mem M ob ac w':=by
 have f:∀{b:Nat} {o:Obj},w.heap[b]? =X o->IK o=U->w'.heap[b]? =X o:=λ{b o} h1 h2=>by
  rcases h.heap b with q|⟨_,q⟩
  .grind
  .rw [h1]at q;cases q;cases h2
 refine⟨λb o x r=>?_,hm.len,λk c i=>?_,λk b l=>by rw[h.size];exact hm.lt k b l,hm.inj⟩
 .obtain ⟨v,d,m⟩:=hm.imm b o x r;refine⟨v,?_,m⟩;unfold Kz at d⊢;dsimp only at d⊢;cases g:w.heap[b]? with
  | none=>simp_all
  | some ob=>
   rw[g]at d;cases ob with
   | cells c _ _=>rw[f g rfl];exact d
   | _=>cases d
 .obtain ⟨hs',a,e⟩:=hm.obj k c i;refine⟨hs',a,e.mono (λ_ _ _ h=>h) (dR.refl _) (λ_ _ _ _ h=>h) (λb t n p j=>?_)⟩;obtain⟨o,s,u⟩:=hm.alive_heap ((dE i a).2 ⟨n,p⟩)
  grind
def Ext.shut{w0 w w':World}{M0 M:Imm}{ob0 ob:Hs}{aq ac:aw}(a:Ext M0 ob0 aq w0 M ob ac w)(h:Shut w0 w w'):Ext M0 ob0 aq w0 M ob ac w':=
 ⟨a.imm,a.new,a.hs,h.os.trans a.os,h.tape.trans a.tape,h.output.trans a.output,by rw[h.size];exact a.size,λb c d=>by
  rcases h.heap b with q|⟨q,_⟩
  .rw [q];exact a.keep b c d
  .omega,a.fresh⟩
def KF(E:Env)(fn:Func)(M0:Imm)(ob0:Hs)(aq:aw)(w0:World)(g:Goal)(b:Bool)(a:Act)(w:World):Prop:=match E.rd with
 | none=>gB E.P fn a.tmps (RR M0 ob0 aq w0 g) a.defers .returning w
 | some _=>RR M0 ob0 aq w0 g (.returned (.bool b)) w
def qM(E:Env)(fn:Func)(M0:Imm)(ob0:Hs)(aq:aw)(w0:World)(g:Goal):Exit->Act->World->Prop
 | .normal,a,w=>KF E fn M0 ob0 aq w0 g O a w
 | .ret,a,w=>KF E fn M0 ob0 aq w0 g U a w
 | .panic ch,a,w=>(match E.rd with|none=>gB E.P fn a.tmps (RR M0 ob0 aq w0 g) a.defers (.panicking ch) w|some _=>False)
 | _,_,_=>False
def tW(g:Goal)(ob0:Hs):Prop:=Z ob0=g.n0/\(g.strict=O->∀hs∈ob0,Z hs=1)
def eB(E:Env)(fn:Func)(g:Goal)(ks:bg)(fr:au)(ac:aw):Prop:=
 bN fn.ntmps ks=O->∀M0 ob0 aq w0 a w,tW g ob0->SS M0 ob0 aq w0 fn.ntmps E.df fr ac a w->KW E.rd E.P (qM E fn M0 ob0 aq w0 g) ks a w
def aKc(E:Env)(fn:Func)(g:Goal)(fr:au)(ac:aw):Prop:=
 ∀M0 ob0 aq w0 a w,tW g ob0->SS M0 ob0 aq w0 fn.ntmps E.df fr ac a w->gB E.P fn a.tmps (RR M0 ob0 aq w0 g) a.defers .returning w
def aKb(E:Env)(fn:Func)(g:Goal)(c:Nat->aa)(v:aa)(ac:aw):Prop:=
 ∀M0 ob0 aq w0 b a w,tW g ob0->PP M0 ob0 aq w0 fn.ntmps E.df c v ac b a w->gB E.P fn a.tmps (RR M0 ob0 aq w0 g) a.defers (.panicking b) w
def kB(E:Env)(fn:Func)(g:Goal)(a:Nat->aa)(v:aa)(ac:aw):Prop:=match E.rd with
 | some _=>False
 | none=>match E.df with
  | []=>VN g .pan v ac
  | _::_=>aKb E fn g a v ac
def aQo(E:Env)(fn:Func)(g:Goal)(R:RI)(n:Nat)(rest:bc)(br:List (Nat×Nat))(fr:au)(ac:aw):Prop:=
 match R.dr with
 | false=>fV E R.all (eB E fn g R.ks) (kB E fn g) n rest fr ac
 | true=>kH E R.all R.tab (eB E fn g R.ks) (kB E fn g) n rest br fr ac
def aIq(E:Env)(fn:Func)(g:Goal)(R:RI)(n:Nat)(d:Option Nat)(rest:bc)(br:List (Nat×Nat))(fr:au)(len:Nat)(ac:aw)(v:aa):Prop:=
 wrP rest n d fr v λfr=>aQo E fn g R (n+1) rest (bif R.dr then born n len (jH len ac) br else br) fr ac
def DW(E:Env)(fn:Func)(g:Goal):St->Prop
 | .code ks fr ac=>eB E fn g ks fr ac
 | .head ks fr ac=>eB E fn g ks fr ac
 | .mid R n rest br fr ac=>aQo E fn g R n rest br fr ac
 | .pend R n d rest br fr ac r=>(match R.dr with
  | false=>orF E.P ac (λv ap=>aIq E fn g R n d rest br fr (aV ac) ap v) (kB E fn g (bA fr)) r
  | true=>orD E.P (soN E R.tab R.all n d) (uoN E R.tab R.all n d) (blD E d) (tN E R.tab n br ac d) ac (aV ac) (λv ap=>aIq E fn g R n d rest br fr (aV ac) ap v) (kB E fn g (bA fr)) r)
 | .got R n d rest br fr len ac v=>aIq E fn g R n d rest br fr len ac v
 | .leave none fr ac=>aKc E fn g fr ac
 | .leave (some v) fr ac=>aKb E fn g (bA fr) v ac
section
variable {E:Env} {M:Imm} {ob:Hs} {ac:aw} {w:World}
def X8(hE:ae E)(hm:Mem M ob ac w){fr:au}{x:aa}{tmps:Array Value}{r:ResultVar}(h:aPT E ac fr r=X x)(s:∀t,Rep M ob (tmps.getD t undef) (bA fr t)):
  ∃v,(match r with | .tmp t=>(Pure.pure (tmps.getD t undef):Sem Value) | .cell a t=>(asAddr (tmps.getD a undef)) >>= loadVar t).run E.P w= .ok v w/\Rep M ob v x:=by
 cases r with
 | tmp t=>cases h;exact⟨_,rfl,s t⟩
 | cell a t=>
  simp only[aPT]at h;show ∃v,((asAddr (tmps.getD a undef)) >>= loadVar t).run E.P w= .ok v w/\Rep M ob v x;have p:=s a;split at h
  .rename_i y k off F B;rw[B]at p;split at h
   .rename_i cs n;split at h
    .rename_i l hl;obtain⟨b,hav,q⟩:=p.ref_inv;obtain⟨hs,h1,j,rfl,_,cv,Be,g,_,f⟩:=hm.obj k _ (cS n s_);have m:j=b:=by rw[cN h1]at q;simpa using q
     subst m;obtain⟨G,A⟩:=lE hl;obtain⟨u,H,z⟩:=UJ (P:=E.P) (w:=w) (M:=M) (ob:=ob) (hE.tab t y F) (b:=j) (o:=off) h G λi c C=>by
      have d:=A i c C;rw[oX,List.getElem?_drop]at d;have e:off+i<Z cv:=by rw[g];exact(Ad.1 d).1
      exact⟨cv[off+i],by rw[cell_of_row w j _ _ _ (0,0) Be];simp[e],f _ _ c (Ab e) d⟩
     refine⟨u,?_,z⟩;rw[hav];simp only[asAddr,Bd,Cb,Ar];exact H
    .cases h
   .cases h
  .cases h
def HF(hE:ae E)(hm:Mem M ob ac w){fr:au}{tmps:Array Value}(e:∀t,Rep M ob (tmps.getD t undef) (bA fr t)):
  ∀(b:List ResultVar) {xs:az},aGL E ac fr b=X xs->∃vs,(b.mapM λ(r:ResultVar)=>(match r with | .tmp t=>(Pure.pure (tmps.getD t undef):Sem Value) | .cell a t=>(asAddr (tmps.getD a undef)) >>= loadVar t)).run E.P w= .ok vs w/\cV M ob vs xs
 | [],xs,h=>by
  cases h;exact⟨[],by simp,rfl,λi v a h=>by simp at h⟩
 | r::b,xs,h=>by
  simp only[aGL]at h;split at h
  .rename_i x l j hl;cases h;obtain⟨v,g,f⟩:=X8 hE hm j e;obtain⟨vs,d,c⟩:=HF hE hm e b hl;refine⟨v::vs,?_,cV.cons f c⟩;rw[List.mapM_cons];simp only[Bd];rw[g];simp only[Ar];rw[d];simp
  .cases h
def X9(hE:ae E)(hm:Mem M ob ac w){fn:Func}{fr:au}{x:aa}{tmps:Array Value}(h:aGM E ac fn.results.toList fr=X x)
  (i:∀t,Rep M ob (tmps.getD t undef) (bA fr t)):∃v,(results fn tmps).run E.P w= .ok v w/\Rep M ob v x:=by
 have hl:∃xs,aGL E ac fr fn.results.toList=X xs/\((∃y,xs=[y]/\x=y)\/(Z xs≠1/\x= .tup xs)):=by
  unfold aGM at h;split at h
  .simp_all
  .rename_i l c hl;cases h;refine⟨_,hl,.inr ⟨λh1=>?_,rfl⟩⟩
   match l,h1 with
   | [y],_=>grind
  .cases h
 obtain⟨xs,f,e⟩:=hl;obtain⟨vs,d,b⟩:=HF hE hm i _ f;have g:fn.results=fn.results.toList.toArray:=by simp
 have key:(results fn tmps).run E.P w= .ok (if h:vs.toArray.size=1 then vs.toArray[0]else .tuple vs.toArray) w:=by unfold results;rw[g,List.mapM_toArray];simp only[Bd,map_eq_pure_bind];have:(fn.results.toList.mapM λ(r:ResultVar)=>(match r with | .tmp t=>(Pure.pure (tmps.getD t undef):Sem Value) | .cell a t=>(asAddr (tmps.getD a undef)) >>= loadVar t)).run E.P w= .ok vs w:=d;refine(congrArg (λz=>Ez (Ez z _) _) this).trans ?_;simp
 rw[key];rcases e with⟨y,rfl,rfl⟩|⟨h1,rfl⟩
 .match vs,b with
  | [v],b=>exact⟨v,by simp,b.2 0 v _ rfl rfl⟩
  | [],b=>have:=b.1;simp at this
  | _::_::_,b=>have:=b.1;simp at this
 .have c:¬ vs.toArray.size=1:=by rw[Gr,b.1];exact h1
  exact⟨.tuple vs.toArray,by rw[dif_neg c],.tup vs xs b.1 b.2⟩
def nF:∀{n j:Nat} {ks:a6},kK n j ks=O->∀i,i<n->ks[i]? =X (j+i)
 | 0,_,_,_,i,hi=>by omega
 | n+1,j,[],h,_,_=>by cases h
 | n+1,j,k::r,h,i,hi=>by
  simp only[kK,Af]at h;have:=aG h.1;subst this;cases i with
  | zero=>rfl
  | succ i=>
   have:=nF h.2 i o_
   grind
def zL{M0:Imm}{ob0:Hs}{aq:aw}{w0:World}{g:Goal}{p:aa->Res}{v:aa}{u:Value}(hst:tW g ob0)(d:Ext M0 ob0 aq w0 M ob ac w)(hm:Mem M ob ac w)(B:Rep M ob u v)(h:VN g p v ac):
  ∃M' ob' y,Ext M0 ob0 aq w0 M' ob' g.obs w/\Mem M' ob' g.obs w/\Rep M' ob' u y/\p y=g.res:=by
 cases g with
 | pure r=>
  obtain⟨s,f,i,_,K⟩:=hm.frzL [v];have L:ob0=[]:=Ay hst.1;subst L;have a:=d.trans i;have no:∀k b,¬ aM ([]:Hs) [] k b:=λk b ⟨c,hs,e,_⟩=>by simp at e
  exact⟨s,[],_,⟨a.imm,a.new,dR.refl _,a.os,a.tape,a.output,a.size,a.keep,λk b l=>(no k b l).elim⟩,f.bare,f.cvtV (n0:=0) (ks:=[]) rfl 5 u v (B.monoM i.imm),h⟩
 | full n0 r ap=>
  obtain⟨G,ks,⟨q,o⟩,h1,x⟩:=h;obtain⟨s,f,i,_,K⟩:=Mem.frzs G M ac hm;obtain⟨Q,N,_⟩:=f.cvt (n0:=n0) q;have a:=d.trans i;have I:Z ob0=n0:=hst.1;refine⟨s,_,_,⟨a.imm,a.new,λj hs Be=>?_,a.os,a.tape,a.output,a.size,a.keep,λj b l=>?_⟩,?_,f.cvtV (n0:=n0) q 5 u v (B.monoM i.imm),h1⟩
  .have A:j<n0:=by rw[<-I];exact(Ad.1 Be).1
   have m:=nF o j A;rw[Bv]at m;obtain⟨hs',J,t,As⟩:=a.hs j hs Be;have P:=hst.2 rfl hs (Ax Be);refine⟨kF n0 j (aE (AW.ak G ac) j) hs',?_,?_⟩
   .rw [iV,m];simp[J]
   .unfold kF
    grind[Bl]
  .obtain ⟨k,_,z⟩:=N j b (by rw[x];exact l);exact a.fresh k b z
  .show Mem s _ ap w
   grind
 | keep n0 r ap=>
  obtain⟨⟨C,n⟩,h1,x⟩:=h;rw[HS]at n x;obtain⟨F,H⟩:=hm.cutO n;have I:Z ob0=n0:=hst.1;rw[x]at F H;refine⟨M,ob.take n0,v,⟨d.imm,d.new,λk hs q=>?_,d.os,d.tape,d.output,d.size,d.keep,λk b l=>d.fresh k b (H l)⟩,F,FX 5 B C,h1⟩;obtain⟨hs',J,As⟩:=d.hs k hs q
  grind
end
section
variable {E:Env} {fn:Func} {g:Goal}
theorem go_ret(hE:ae E)(c:E.df=[])(i:E.rd=D){fr:au}{ac:aw}{v:aa}(o:aGM E ac fn.results.toList fr=X v)(h:VN g .ret v ac){M0:Imm}{ob0:Hs}{aq:aw}{w0:World}{a:Act}{w:World}
  (hst:tW g ob0) (hs:SS M0 ob0 aq w0 fn.ntmps E.df fr ac a w):gB E.P fn a.tmps (RR M0 ob0 aq w0 g) a.defers .returning w:=by
 obtain⟨M,ob,d,hm,m,j,e,r⟩:=hs;rw[c]at e;refine qI (w0:=w0) s_ _ _ e.marks λw' b=>?_;have d:=d.shut b;have hm:=hm.shut b;obtain⟨u,p,k⟩:=X9 hE hm o m;obtain⟨M',ob',y,n,f,l,q⟩:=zL hst d hm k h;refine⟨u,p,M',ob',n,f,?_⟩;rw[<-q];exact l
def aB0(hE:ae E){b:Bool}{fr:au}{ac:aw}(h:aLr E fn g (DW E fn g) b fr ac){M0:Imm}{ob0:Hs}{aq:aw}{w0:World}{a:Act}{w:World}
  (hst:tW g ob0) (hs:SS M0 ob0 aq w0 fn.ntmps E.df fr ac a w):KF E fn M0 ob0 aq w0 g b a w:=by
 unfold aLr at h;unfold KF;cases c:E.rd with
 | some l=>
  rw[c]at h;dsimp only at h⊢;rw[QJ]at h;obtain⟨M,ob,m,hm,q,i,o,p⟩:=hs;obtain⟨M',ob',y,k,f,j,n⟩:=zL hst m hm (.bool b) h;exact⟨M',ob',k,f,by rw[<-n];exact j⟩
 | none=>
 rw[c]at h;dsimp only at h⊢;cases e:E.df with
 | nil=>
  grind[qB,QJ,go_ret]
 | cons d r=>
  rw[e]at h;exact h M0 ob0 aq w0 a w hst hs
def aQI(c:E.df=[]){v:aa}{ac:aw}(h:VN g .pan v ac){M0:Imm}{ob0:Hs}{aq:aw}{w0:World}{sz:Nat}{j:Nat->aa}{f:List PanicEntry}{a:Act}{w:World}
  (hst:tW g ob0) (hs:PP M0 ob0 aq w0 sz E.df j v ac f a w):gB E.P fn a.tmps (RR M0 ob0 aq w0 g) a.defers (.panicking f) w:=by
 obtain⟨M,ob,n,hm,⟨u,e,k⟩,_,_,d,_⟩:=hs;rw[c]at d;refine qI (w0:=w0) s_ _ _ d.marks λw' b=>?_;obtain⟨M',ob',y,m,i,l,o⟩:=zL hst (n.shut b) (hm.shut b) k h;refine⟨M',ob',m,i,?_⟩;rw[<-o];exact⟨u,e,l⟩
def BP{f:Nat->aa}{v:aa}{ac:aw}(h:kB E fn g f v ac){M0:Imm}{ob0:Hs}{aq:aw}{w0:World}{c:List PanicEntry}{a:Act}{w:World}
  (hst:tW g ob0) (hs:PP M0 ob0 aq w0 fn.ntmps E.df f v ac c a w):qM E fn M0 ob0 aq w0 g (.panic c) a w:=by
 unfold kB at h;unfold qM;cases e:E.rd with
 | some l=>grind
 | none=>
 rw[e]at h;dsimp only at h⊢;cases b:E.df with
 | nil=>
  rw[b]at h;exact aQI b h hst hs
 | cons d i=>
  rw[b]at h;exact h M0 ob0 aq w0 c a w hst hs
def nK{sz:Nat}{l:bc}(h:aOS sz l=O):∀p∈l,∀d,p.dst=X d->d<sz:=λp hp d a=>by have:=List.all_eq_true.1 h p hp;simp_all
def QR(E:Env)(fn:Func)(g:Goal)(M0:Imm)(ob0:Hs)(aq:aw)(w0:World)(ks:bg):Exit->Act->World->Prop
 | .normal,a,w=>KW E.rd E.P (qM E fn M0 ob0 aq w0 g) ks a w
 | .panic ch,a,w=>qM E fn M0 ob0 aq w0 g (.panic ch) a w
 | _,_,_=>False
def aEe(hE:ae E)(j:∀ops:Array Oper,SV ops=O->TabSp ops (iX [] ops.toList)){id:Nat}{ops:Array Oper}{dr:Bool}{ks:bg}{fr:au}{ac:aw}
  (h:aQo E fn g ⟨ops.toList,dr,iX [] ops.toList,ks⟩ 0 ops.toList [] fr ac):eB E fn g (.code (.region id ops dr)::ks) fr ac:=by
 intro q M0 ob0 aq w0 a w hst hs;simp only[bN,KI.ok,dW,Af]at q;obtain⟨⟨l,m⟩,k⟩:=q;have r:=nK l
 refine KW.code (Q':=QR E fn g M0 ob0 aq w0 ks) ?_ (λa w h=>h) (λb a w h=>h) (λe a w x=>by cases e<;>first|exact .inl rfl|exact .inr ⟨_,rfl⟩|exact x.elim)
 have hp:∀c v ac b a w,kB E fn g c v ac->PP M0 ob0 aq w0 fn.ntmps E.df c v ac b a w->qM E fn M0 ob0 aq w0 g (.panic b) a w:=λc v ac b a w t n=>BP t hst n;have s:∀fr ac a w,eB E fn g ks fr ac->SS M0 ob0 aq w0 fn.ntmps E.df fr ac a w->KW E.rd E.P (qM E fn M0 ob0 aq w0 g) ks a w:=λfr ac a w u hs=>u k M0 ob0 aq w0 a w hst hs;cases dr with
 | false=>
  refine wpIn_region_list ?_;exact pW (rd:=E.rd) (Q:=QR E fn g M0 ob0 aq w0 ks) (K:=eB E fn g ks) (Kp:=kB E fn g) hE (λc v ac b a w h1 f=>hp c v ac b a w h1 f) (λfr ac a w h1 f=>s fr ac a w h1 f) ops.toList 0 fr ac a w r h hs
 | true=>
  exact YD (rd:=E.rd) (Q:=QR E fn g M0 ob0 aq w0 ks) (Kq:=eB E fn g ks) (Kp:=kB E fn g) hE (j ops (by simpa using m)) (λi p y d o=>r p (Ax (i:=i) q_) d o) (λc v ac b a w h1 f=>hp c v ac b a w h1 f) (λfr ac a w h1 f=>s fr ac a w h1 f) hs h
def eB.step{ks ks':bg}{fr:au}{ac:aw}(hs:∀a w (b:Frame) cs,Go.step E.P (lone (b.atR a (iT ks)) cs w)= .next (lone (b.atR a (iT ks')) cs w))(e:bN fn.ntmps ks=O->bN fn.ntmps ks'=O)(h:eB E fn g ks' fr ac):eB E fn g ks fr ac:=
 λd M0 ob0 aq w0 a w hst c=>KW.step (hs a w) (h (e d) M0 ob0 aq w0 a w hst c)
def go(hE:ae E)(C:∀ops:Array Oper,SV ops=O->TabSp ops (iX [] ops.toList)):∀(t:Nat) (st:St),cF E fn g (DW E fn g) t st->DW E fn g st:=by
 intro t;induction t with
 | zero=>intro st h;exact h
 | succ n j=>
  intro st h;cases st with
  | head ks fr ac=>exact j (.code ks fr ac) h
  | leave p fr ac=>exact h
  | code ks fr ac=>
   cases ks with
   | nil=>
    simp only[cF]at h;exact λ_ M0 ob0 aq w0 a w hst hs=>KW.nil (aB0 (b:=O) hE h hst hs)
   | cons k ks=>
    cases k with
    | inB id=>exact eB.step (λa w b cs=>stepR_inBlock) (λe=>by simp only[bN,Af]at e;exact e.2) (j (.code ks fr ac) h)
    | inL b=>
     exact eB.step (ks':=.code b:: .inL b::ks) (λa w b cs=>stepR_inLoop) (λe=>by simp only[bN,KI.ok,Af]at e⊢;grind) h
    | beginR=>exact h
    | code q=>
     cases q with
     | rangeFunc x V as An=>exact h
     | skip=>exact eB.step (λa w b cs=>stepR_skip) (λe=>by simp only[bN,Af]at e;exact e.2) (j (.code ks fr ac) h)
     | seq x y=>exact eB.step (λa w b cs=>stepR_seq) (λe=>by simp only[bN,KI.ok,dW,Af]at e⊢;grind) (j (.code (.code x:: .code y::ks) fr ac) h)
     | block id b=>exact eB.step (λa w b cs=>stepR_block) (λe=>by simp only[bN,KI.ok,dW,Af]at e⊢;grind) (j (.code (.code b:: .inB id::ks) fr ac) h)
     | loop b=>exact eB.step (ks':=.code b:: .inL b::ks) (λa w b cs=>stepR_loop) (λe=>by simp only[bN,KI.ok,dW,Af]at e⊢;grind) h
     | exit id=>
            simp only[cF]at h;split at h
            .rename_i ks' I;exact eB.step (λa w b cs=>stepR_exit (oN _ _ I)) (λe=>vX _ _ I (by simp only[bN,Af]at e;exact e.2)) (j (.code ks' fr ac) h)
            grind
     | ret=>
            simp only[cF]at h;exact λ_ M0 ob0 aq w0 a w hst hs=>KW.ret (aB0 (b:=U) hE h hst hs)
     | cond x c d=>
            simp only[cF]at h;split at h
            .rename_i p hp;intro e M0 ob0 aq w0 a w hst hs;simp only[bN,KI.ok,dW,Af]at e;obtain⟨M,ob,I,hm,N,As,W,Q⟩:=id hs;have z:=I9 (a:=a) N x;rw[hp]at z;cases p with
             | true=>
              refine KW.step (ks':=.code c::ks) (λb cs=>?_) (h.1 rfl (by simp only[bN,KI.ok,Af];exact⟨e.1.1,e.2⟩) M0 ob0 aq w0 a w hst hs);exact stepR_cond (P:=E.P) (b:=b) (k:=iT ks) (cs:=cs) (w:=w) (x:=c) (y:=d) z.bool_inv
             | false=>
              refine KW.step (ks':=.code d::ks) (λb cs=>?_) (h.2 rfl (by simp only[bN,KI.ok,Af];exact⟨e.1.2,e.2⟩) M0 ob0 aq w0 a w hst hs);exact stepR_cond (P:=E.P) (b:=b) (k:=iT ks) (cs:=cs) (w:=w) (x:=c) (y:=d) z.bool_inv
            grind
     | region id ops dr=>
            simp only[cF]at h;cases A:aSy ops.toList with
            | true=>grind
            | false=>
             rw[A]at h;dsimp only at h;refine aEe hE C ?_;cases dr with
             | false=>
              have:=j (.mid ⟨ops.toList,U,[],ks⟩ 0 ops.toList [] fr ac) h;exact this
             | true=>
              simp only[aJS]at h;exact j (.mid ⟨ops.toList,O,iX [] ops.toList,ks⟩ 0 ops.toList [] fr ac) h
     | _=>exact h.elim
  | mid R i rest br fr ac=>
   cases rest with
   | nil=>
    have J:=j (.code R.ks fr ac) h;obtain⟨all,dr,tab,ks⟩:=R;cases dr with
    | false=>exact J
    | true=>exact J
   | cons p rest=>
    obtain⟨all,dr,tab,ks⟩:=R;cases dr with
    | false=>
     simp only[cF]at h;show fV E all (eB E fn g ks) (kB E fn g) i (p::rest) fr ac;simp only[fV];cases H:cM all (ev fr) p.guard with
     | none=>grind
     | some b=>
            rw[H]at h;cases b with
            | false=>
             cases o:p.dst with
             | none=>rw[o]at h;exact j _ h
             | some d=>
              rw[o]at h;dsimp only at h;rw[lQ]at h;exact j (.mid ⟨all,U,tab,ks⟩ (i+1) rest br (iS fr d (.tup [])) ac) h
            | true=>exact j (.pend ⟨all,U,tab,ks⟩ i p.dst rest br fr ac _) h
    | true=>
     simp only[cF]at h;show kH E all tab (eB E fn g ks) (kB E fn g) i (p::rest) br fr ac;simp only[kH];cases H:cM all (evH tab all i fr) p.guard with
     | none=>grind
     | some b=>
            rw[H]at h;cases b with
            | false=>
             cases o:p.dst with
             | none=>rw[o]at h;exact j _ h
             | some d=>
              rw[o]at h;dsimp only at h;rw[lQ]at h;exact j (.mid ⟨all,O,tab,ks⟩ (i+1) rest br (iS fr d (.tup [])) ac) h
            | true=>
             dsimp only at h;rw[wI]at h;exact j (.pend ⟨all,O,tab,ks⟩ i p.dst rest br fr ac _) h
  | got R i d rest br fr len ac v=>
   simp only[cF,qB,wI]at h;show aIq E fn g R i d rest br fr len ac v;unfold aIq wrP;cases d with
   | none=>exact j _ h
   | some d=>
    dsimp only at h⊢;cases K:sY i rest with
    | false=>
     rw[K]at h;simp only[cond_false,lQ]at h;exact j _ h
    | true=>
     rw[K]at h;simp only[cond_true]at h⊢;split at h
     .rw [lQ,lQ]at h;exact h
     omega
  | pend R i d rest br fr ac r=>
   obtain⟨all,dr,tab,ks⟩:=R;have G:∀{q:Prop} {b:Bool},(match (!dr||b)with|true=>q|false=>False)->q/\(dr=O->b=O):=λ{q b} hq=>by grind
   cases r with
   | no=>exact h.elim
   | val v=>
    simp only[cF,qB]at h;have:=j _ h;cases dr<;>exact this
   | mkf f S cs=>
    simp only[cF,RE (qB 3)]at h;have:=j _ h;cases dr<;>exact this
   | need p r=>
    simp only[cF]at h;cases dr<;>exact h
   | alt p v At=>
    simp only[cF]at h;cases dr<;>exact h
   | idx m f=>
    simp only[cF]at h;cases dr<;>exact h
   | elem xs m f=>
    simp only[cF]at h;cases dr<;>exact h
   | byte l m=>
    simp only[cF]at h;cases dr<;>exact h
   | text xs=>
    simp only[cF]at h;cases dr<;>exact h
   | find es key f=>
    simp only[cF]at h;cases dr<;>exact h
   | born x v=>
    simp only[cF,aJ9,wI,qB]at h;cases dr with
    | false=>
     have:=j (.got _ _ _ _ _ _ _ _ _) h;exact this
    | true=>
     cases s:blD E d with
     | true=>rw[s]at h;exact h.elim
     | false=>
            rw[s]at h;have:=j (.got _ _ _ _ _ _ _ _ _) h;simp only[DW];rw[s];exact this
   | upd k x v=>
    simp only[cF,aJ9,wI,qB]at h;obtain⟨h,u⟩:=G h;have:=j _ h;cases dr with
    | false=>exact this
    | true=>
     simp only[DW,orD];rw[u rfl];exact this
   | nilq xs L=>
    simp only[cF]at h;obtain⟨h,u⟩:=G h;cases dr with
    | false=>exact h
    | true=>
     simp only[DW];rw[u rfl];exact h
   | call f args=>
    have F:aQa E g (DW E fn g) fr=kB E fn g (bA fr):=by rfl
    simp only[cF,RE (qB 5),F]at h;cases dr with
    | false=>exact h
    | true=>
     dsimp only at h;cases s:blD E d with
     | true=>rw[s]at h;exact h.elim
     | false=>
            rw[s]at h;dsimp only at h;rw[wI]at h;simp only[DW];rw[s];exact h
   | pan v=>
    simp only[cF,qB]at h;obtain⟨Be,u⟩:=G h;have h3:kB E fn g (bA fr) v ac:=by
     unfold kB;cases B:E.rd with
     | some l=>rw[B]at Be;omega
     | none=>
     rw[B]at Be;dsimp only at Be⊢;cases A:E.df with
     | nil=>grind[QJ]
     | cons d T=>rw[A]at Be;exact Be
    cases dr with
    | false=>exact h3
    | true=>
     simp only[DW];rw[u rfl];exact h3
end
def qO(P:Program)(f:FuncId):Prop:=∀(args:Array Value) (w:World),(callFunc f args).run P w= .ok (.enter f args) w
def IV:∀(l:az) (n t:Nat),bA (frA n l) t=if n<=t then(l[t-n]?).getD .undef else .undef
 | [],n,t=>by simp[frA,bA]
 | a::l,n,t=>by
  simp only[frA,bA];cases h:Av n t with
  | true=>simp_all
  | false=>
   have b:n≠t:=λe=>by simp_all
   simp only[cond_false];rw[IV l (n+1) t]
   grind
def WM{P:Program}{f:FuncId}{fn:Func}{c:Code}{args:Array Value}{w:World}{R:Ending->World->Prop}(t:P.funcs[f]? =X fn)(v:fn.body=X c)
  {Q:Exit->Act->World->Prop} (u:∀e a w,Q e a w->(match e with | .normal | .ret=>gB P fn a.tmps R a.defers .returning w | .panic ch=>gB P fn a.tmps R a.defers (.panicking ch) w|_=>False)) (h:KW D P Q [.code c] {tmps:=args++Gg (fn.ntmps-args.size) undef,defers:=[]} w):Calls P f args w R:=by
 intro cs
 let b:Frame:={(default:Frame)with fn:=f,kind:=.normal}
 have m:Frame.enter P f args .normal=b.at {tmps:=args++Gg (fn.ntmps-args.size) undef,defers:=[]} [.code c]:=by simp[Frame.enter,Frame.at,t,v,b]
 obtain⟨e,o,w',s,d⟩:=h.arrives b cs rfl;have s:=u _ _ _ s;rw[show iT [.code c]=[.code c]from rfl,<-m]at d;cases e with
 | normal=>
  obtain⟨q,i,j,r,hs,k,p,hl⟩:=gH o.defers .returning w' {b.at o []with mode:=.returning} cs rfl rfl rfl t s;exact⟨q,i,j,r,Comes.of_steps (Steps.trans d (.one step_end)) hs,k,qJ hl p⟩
 | ret=>
  obtain⟨g,n⟩:=d;obtain⟨q,i,j,r,hs,k,p,hl⟩:=gH o.defers .returning w' {b.at o g with mode:=.returning} cs rfl rfl rfl t s;exact⟨q,i,j,r,Comes.of_steps n hs,k,qJ hl p⟩
 | panic fV=>
  obtain⟨g,n⟩:=d;obtain⟨q,i,j,r,hs,k,p,hl⟩:=gH o.defers (.panicking fV) w' {b.at o g with mode:=.panicking fV} cs rfl rfl rfl t s;exact⟨q,i,j,r,Comes.of_steps n hs,k,qJ hl p⟩
 | exit id=>simp_all
 | goto l=>simp_all
 | outgrown=>simp_all
def okA:aa->Prop
 | .int k n=>inR k n
 | .str l=>(Z l:Int)<=9223372036854775807
 | .slice _ xs _=>(Z xs:Int)<=9223372036854775807
 | _=>True
def Rep.okA{M:Imm}{ob:Hs}{v:Value}{a:aa}(h:Rep M ob v a):okA a:=by
 cases a with
 | int k n=>exact h.int_inv.2
 | str l=>exact h.str_inv.2
 | slice sz xs t=>obtain⟨_,_,_,_,_,h⟩:=h.slice_inv;exact h
 | _=>exact trivial
def okL:az->Prop
 | []=>True
 | a::r=>okA a/\okL r
def cV.okL{M:Imm}{ob:Hs}:∀{vs:bb} {as:az},cV M ob vs as->okL as
 | _,[],_=>trivial
 | [],a::r,h=>by have:=h.1;simp at this
 | v::vs,a::r,h=>⟨(h.2 0 v a rfl rfl).okA,cV.okL (vs:=vs) ⟨by simpa using h.1,λi u b d c=>h.2 (i+1) u b (by simp_all) (by simp_all)⟩⟩
def yT:aw->Bool
 | []=>O
 | o::r=>o.owns&&Av (iO o) 0&&yT r
def yS:∀{l:aw},yT l=O->∀(k:Nat) o,l[k]? =X o->o.owns=O/\iO o=0
 | [],_,k,o,h=>by simp at h
 | x::r,hb,k,o,h=>by
  simp only[yT,Af]at hb;cases k with
  | zero=>simp_all
  | succ k=>exact yS hb.2 k o (by simp_all)
def aA.of{E:Env}{f:FuncId}{fn:Func}{args:az}{ac:aw}{g:Goal}(m:E.df=[])(y:E.P.funcs[f]? =X fn)(v:fn.body=X (eF fn))(o:qO E.P f)
  (n:dW fn.ntmps (eF fn)=O) (u:Gc (Z args) fn.ntmps=O) (j:yT ac=O) (x:Z ac=g.n0) (h:okL args->DW E fn g (.code [.code (eF fn)] (frA 0 args) ac)) (d:E.rd=none:=by rfl):aA E.P f args ac g.res g.obs:=by
 intro M ob w b hm l;refine .inl ⟨o _ _,WM (Q:=qM E fn M ob ac w g) y v (λe a w h=>?_) ?_⟩
 .cases e<;>(try unfold qM KF at h)<;>(try rw[d]at h)<;>exact h
 have p:Z b=Z args:=l.1;have z:=Co u;have hst:tW g ob:=by
  refine⟨by rw[hm.len,x],λ_ hs c=>?_⟩;obtain⟨k,s⟩:=Ck c;have i:k<Z ac:=by rw[<-hm.len];grind
  obtain⟨h1,A⟩:=yS j k _ (Ab i);have e:=iE (Ab i);have:=hm.histLen (by grind) s
  grind
 rw[<-d];refine h l.okL (by simp[bN,KI.ok,n]) M ob ac w {tmps:=b.toArray++Gg (fn.ntmps-b.toArray.size) undef,defers:=[]} w hst ⟨M,ob,Ext.refl _ _ _ _,hm,λt=>?_,?_,by rw[m];exact dN.nil,by rw[hm.len];omega⟩
 .rw [IV];simp only[Bq,if_true,Jz];by_cases q:t<Z args
  .rw [Ab q];have r:t<Z b:=o_;have:(b.toArray++Gg (fn.ntmps-b.toArray.size) undef).getD t undef=b[t]:=by rw[Bh,Hk o_];simp[r]
   rw[this];exact l.2 t _ _ (Ab r) (Ab q)
  .rw [Bp o_];exact .undef _
 simp_all
theorem AR(m i:Nat):dG m i=m.testBit i:=by
 unfold dG Nat.testBit;have h1:Nat.land (Nat.shiftRight m i) 1=(m >>> i) % 2:=Nat.and_one_is_mod _;have a:(1 &&& (m >>> i))=(m >>> i) % 2:=by simp
 rw[h1,a];rcases Nat.mod_two_eq_zero_or_one (m >>> i)with h|h<;>rw[h]<;>rfl
theorem N2{tab:a6}{i:Nat}:∀{l:a6},dG (kT tab l) i=O↔ ∃e∈l,e=i\/dG (dP tab e) i=O
 | []=>by rw[AR];simp[kT]
 | x::r=>by
  have a:=N2 (tab:=tab) (i:=i) (l:=r);rw[AR]at a⊢;have e:kT tab (x::r)=(1 <<< x ||| dP tab x) ||| kT tab r:=rfl
  rw[e,Nat.testBit_or,Nat.testBit_or,Nat.one_shiftLeft,Nat.testBit_two_pow,Fo,Fo,a,bo]
  grind[AR]
theorem U5{a b:a6}{j:Nat}(h:j<Z a):dP (a++b) j=dP a j:=by
 induction a generalizing j with
 | nil=>simp at h
 | cons x r c=>
  cases j with
  | zero=>rfl
  | succ j=>exact c (by grind)
def aIv{a:a6}{m:Nat}:dP (a++[m]) (Z a)=m:=by
 induction a with
 | nil=>rfl
 | cons x r b=>exact b
theorem aIu{a:a6}{j:Nat}(h:Z a<=j):dP a j=0:=by
 induction a generalizing j with
 | nil=>rfl
 | cons x r b=>
  cases j with
  | zero=>simp at h
  | succ j=>exact b (by grind)
def DT:∀(l:bc) (tab:a6),∃t,iX tab l=tab++t/\Z t=Z l
 | [],tab=>⟨[],by simp[iX],rfl⟩
 | p::r,tab=>by obtain⟨t,h1,a⟩:=DT r (tab++[kT tab (jD p)]);exact⟨kT tab (jD p)::t,by simp[iX,h1],by simp[a]⟩
theorem EN{a b:a6}:∀{l:a6},(∀e∈l,dP a e=dP b e)->kT a l=kT b l
 | [],_=>rfl
 | x::r,h=>by
  have:=EN (l:=r) λe c=>h e (by simp[c]);show Nr (Nr _ (dP a x)) (kT a r)=Nr (Nr _ (dP b x)) (kT b r)
  grind
def WU:∀(l:bc) (tab:a6),QQ (Z tab) l=O->∀(i:Nat) p,l[i]? =X p->dP (iX tab l) (Z tab+i)=kT (iX tab l) (jD p)/\∀e∈jD p,e<Z tab+i
 | [],_,_,i,p,h=>by simp at h
 | q::r,tab,hb,i,p,h=>by
  simp only[QQ,Af]at hb;have a:∀e∈jD q,e<Z tab:=λe b=>by simp_all
  cases i with
  | zero=>
   simp at h;subst h;refine⟨?_,λe b=>by grind⟩;obtain⟨t,h1,_⟩:=DT r (tab++[kT tab (jD q)]);have c:iX tab (q::r)=(tab++[kT tab (jD q)])++t:=h1;rw[Nat.add_zero,c,U5 s_,aIv]
   grind[EN,U5]
  | succ i=>
   have:=WU r (tab++[kT tab (jD q)]) (by simp_all) i p (by simp_all);simp only[List.length_append,List.length_singleton]at this;rw[show Z tab+(i+1)=Z tab+1+i from by omega];exact this
theorem TX{p:Oper}{i:Nat}:i∈jD p↔ ∃e∈p.after,Ka .any e=O/\e.on=i:=by
 unfold jD
 grind
def JI{tab:a6}{i d:Nat}:∀{l:bc} {n:Nat},VT tab i d n l=O->∀(j:Nat) q,l[j]? =X q->loose tab i (n+j)=O->q.dst≠X d
 | [],_,_,j,q,h,_=>by simp at h
 | x::r,n,hb,j,q,h,hl=>by
  simp only[VT,Af]at hb;cases j with
  | zero=>
   simp at h;subst h;intro e;simp_all
  | succ j=>exact JI hb.2 j q (by simp_all) (by grind)
def NS{tab:a6}{all:bc}:∀{l:bc} {n:Nat},aNA tab all n l=O->∀(i:Nat) p d,l[i]? =X p->p.dst=X d->VT tab (n+i) d 0 all=O
 | [],_,_,i,p,d,h,_=>by simp at h
 | x::r,n,hb,i,p,d,h,hd=>by
  simp only[aNA,Af]at hb;cases i with
  | zero=>
   grind
  | succ i=>
   have:=NS hb.2 i p d (by simp_all) hd
   grind
def yY(ops:Array Oper)(h:SV ops=O):TabSp ops (iX [] ops.toList):=by
 simp only[SV,Af]at h;obtain⟨h1,s⟩:=h;have get:∀(j:Nat) p,ops[j]? =X p->dP (iX [] ops.toList) j=kT (iX [] ops.toList) (jD p)/\∀e∈jD p,e<j:=λj p hp=>by have:=WU ops.toList [] h1 j p (by grind);simp_all
 have g:Z (iX [] ops.toList)=ops.size:=by obtain⟨t,o,x⟩:=DT ops.toList [];rw[o];simp;omega
 have a:∀j i,dG (dP (iX [] ops.toList) j) i=O->j<ops.size:=λj i k=>by grind[Nat.lt_of_not_le,aIu,AR]
 have d:∀(j:Nat) p,ops[j]? =X p->∀e∈p.after,Ka .any e=O->e.on<j:=λj p hp e l m=>(get j p hp).2 _ (TX.2 ⟨e,l,m,rfl⟩);have c:∀(j:Nat) p,ops[j]? =X p->∀i,dG (dP (iX [] ops.toList) j) i=O->∃e∈p.after,Ka .any e=O/\(e.on=i\/dG (dP (iX [] ops.toList) e.on) i=O):=λj p hp i v=>by grind[N2,TX]
 have b:∀i j,dG (dP (iX [] ops.toList) i) j=O->j<i:=by
  intro i;induction i using Nat.strongRecOn with
  | ind i u=>
   intro j k;have f:=a i j k;have hp:ops[i]? =X ops[i]:=Array.getElem?_eq_getElem f
   grind
 exact⟨d,b,c,a,λi j p q hp w hl t r=>by
  have:=NS (n:=0) s i p t q_ r;rw[Bv]at this
  exact JI this j q q_ q_⟩
inductive To(E:Env)(fn:Func)(g:Goal)(st:St):Prop
 | mk (h:DW E fn g st)
def aTy(E:Env)(fn:Func)(g:Goal):To E fn g=DW E fn g:=funext λst=>propext ⟨λ⟨h⟩=>h,.mk⟩
def bR{E:Env}{fn:Func}{g:Goal}(hE:ae E)(a:Nat){st:St}(h:cF E fn g (To E fn g) a st):To E fn g st:=by rw[aTy]at h⊢;exact go hE yY a st h
def aA.to{E:Env}{f:FuncId}{fn:Func}{args:az}{ac:aw}{g:Goal}(b:E.df=[])(j:E.P.funcs[f]? =X fn)(k:fn.body=X (eF fn))(c:qO E.P f)
  (e:dW fn.ntmps (eF fn)=O) (m:Gc (Z args) fn.ntmps=O) (a:yT ac=O) (l:Z ac=g.n0) (h:okL args->To E fn g (.code [.code (eF fn)] (frA 0 args) ac)) (d:E.rd=none:=by rfl):aA E.P f args ac g.res g.obs:=
 aA.of b j k c e m a l (λi=>(h i).rec λh=>h) d
def zvL(f:Value->aa):bb->az
 | []=>[]
 | v::r=>f v::zvL f r
def zv:Nat->Value->aa
 | n+1,.agg vs=>.agg (zvL (zv n) vs.toList)
 | _,v=>aNQ v
def aAw{M:Imm}{ob:Hs}{f:Value->aa}(d:∀v,Rep M ob v (f v)):∀(l:bb),Z l=Z (zvL f l)/\∀(i:Nat) v a,l[i]? =X v->(zvL f l)[i]? =X a->Rep M ob v a
 | []=>⟨rfl,λi v a h=>by simp at h⟩
 | x::l=>by
  obtain⟨h1,e⟩:=aAw d l;refine⟨by simp[zvL,h1],λi v a c b=>?_⟩;cases i with
  | zero=>simp[zvL]at c b;grind
  | succ i=>exact e i v a (by simpa using c) (by simpa[zvL]using b)
def aO0{M:Imm}{ob:Hs}:∀(n:Nat) (v:Value),Rep M ob v (zv n v):=by
 intro n;induction n with
 | zero=>intro v;exact rV v
 | succ n a=>
  intro v;cases v with
  | agg vs=>
   obtain⟨h1,b⟩:=aAw (M:=M) (ob:=ob) a vs.toList;have:=Rep.agg vs.toList _ h1 b;simpa[zv]using this
  | _=>exact rV _
def WL(P:Program):Nat->Nat->List (Option Nat)
 | 0,_=>[]
 | n+1,t=>match P.underlying t with
  | some (.struct fs)=>fs.toList.flatMap λf=>WL P n f.type
  | some (.array len e)=>(Ak len (WL P n e)).flatten
  | some (.slice e)=>[X (((P.info? e).map (·.size)).getD 0)]
  | _=>[D]
def aKs:Option Nat->aa->aa
 | some sz,.nilslice=>.slice sz [] .nil
 | _,v=>v
def tyZ:List (Option Nat)->az->az
 | k::ks,c::cs=>aKs k c::tyZ ks cs
 | _,cs=>cs
def zT(P:Program)(t:Nat)(z:Value):aa:=match zv 4 z with
 | .agg cs=>.agg (tyZ (WL P 6 t) cs)
 | v=>aKs (match WL P 6 t with|k::_=>k | []=>D) v
def RS{M:Imm}{ob:Hs}{k:Option Nat}{v:Value}{a:aa}(h:Rep M ob v a):Rep M ob v (aKs k a):=by
 unfold aKs;split
 .cases h;exact .slnil _ _ rfl
 .exact h
def aAM{M:Imm}{ob:Hs}:∀{ks:List (Option Nat)} {cs:az} {vs:bb},cV M ob vs cs->cV M ob vs (tyZ ks cs)
 | [],cs,vs,h=>by cases cs<;>exact h
 | k::ks,[],vs,h=>h
 | k::ks,c::cs,[],h=>by have:=h.1;simp at this
 | k::ks,c::cs,v::vs,h=>cV.cons (RS (h.2 0 v c rfl rfl)) (aAM ⟨by simpa using h.1,λi u b d a=>h.2 (i+1) u b (by simp_all) (by simp_all)⟩)
def aO1{M:Imm}{ob:Hs}{P:Program}{t:Nat}{z:Value}:Rep M ob z (zT P t z):=by
 have h:=aO0 (M:=M) (ob:=ob) 4 z;unfold zT;split
 .rename_i cs a;rw[a]at h;obtain⟨vs,rfl,h1,d⟩:=h.agg_inv;obtain⟨b,c⟩:=aAM (ks:=WL P 6 t) ⟨h1,d⟩;exact .agg vs _ b c
 .exact RS h
def uX(P:Program)(t:Nat):Nat:=((P.info? t).map (·.size)).getD 0
def mkF(P:Program)(f:Field):Nat×Nat×Bool:=(f.offset,uX P f.type,aP P f.type)
def aQn(P:Program):List Field->List (Nat×Nat×Bool)
 | []=>[]
 | f::r=>mkF P f::aQn P r
def P5(P:Program)(t:Nat):Bool:=(P.info? t).isSome&&(P.underlying t).isSome
def fsB(P:Program):List Field->Bool
 | []=>O
 | f::r=>P5 P f.type&&fsB P r
def PX(P:Program)(t:Nat):TK:=match P.underlying t with
 | some (.int k)=>.int k
 | some .bool=>.bool
 | some .string=>.str
 | some (.struct fs)=>.strct (aQn P fs.toList)
 | some (.array n e)=>.arr n (uX P e) (aP P e)
 | some (.slice e)=>.slc e (uX P e) (((P.info? e).map (·.bytes)).getD 0)
 | some (.pointer e)=>.ptr e
 | some (.interface _)=>.iface
 | some (.map k e)=>.mp k e
 | _=>.other
def aMj(P:Program)(t:Nat):TI:=match P.info? t with
 | some i=>⟨PX P t,i.size,aP P t,match i.zero with|some z=>zT P t z|none=>.undef⟩
 | none=>⟨.other,0,U,.undef⟩
def aAy(P:Program)(t:Nat):Bool:=match P.info? t with
 | some i=>(match i.zero with
  | some z=>Av z.cells.size i.size&&(z.cells.toList.all (·.oneCell')&&H3 (zT P t z))
  | none=>U)
 | none=>U
def aTb(P:Program)(e:Nat):Bool:=aAy P e
def okB(P:Program)(t:Nat):Bool:=aAy P t&&match P.underlying t with
 | X (.int _)|X .bool|X .string|X (.pointer _)|X (.interface _)|some (.map _ _)=>Av (uX P t) 1
 | some (.struct fs)=>fsB P fs.toList
 | some (.array _ e)=>P5 P e
 | some (.slice e)=>Av (uX P t) 1&&aTb P e
 | some _=>O
 | none=>U
def aBE(P:Program):∀(l:List Field),fsB P l=O->sB P l (aQn P l)
 | [],_=>trivial
 | f::r,h=>by simp only[fsB,Af,P5]at h;obtain⟨⟨h1,b⟩,h3⟩:=h;obtain⟨i,a⟩:=Df.1 h1;exact⟨rfl,by simp[uX,a],b,rfl,aBE P r h3⟩
def F6{P:Program}{t:Nat}(h:aAy P t=O):∃i z,P.info? t=X i/\i.zero=X z/\z.cells.size=i.size/\z.cells.toList.all (·.oneCell')=O/\zT P t z≠ .undef:=by
 unfold aAy at h;split at h
 .rename_i i a;split at h
  .rename_i z hz;simp only[Af]at h
   grind[aG,FN]
  .cases h
 .cases h
def aMi{P:Program}{t:Nat}(h:okB P t=O):TIOK P t (aMj P t):=by
 simp only[okB,Af]at h;obtain⟨s,h1⟩:=h;obtain⟨i,z,o,hz,hs,f,l⟩:=F6 s;have hm:aMj P t=⟨PX P t,i.size,aP P t,zT P t z⟩:=by simp[aMj,o,hz]
 have hst:uX P t=i.size:=by simp[uX,o]
 rw[hm];refine⟨⟨i,z,o,rfl,hz,hs,aO1,f,l⟩,?_⟩;show zZ P t (aP P t) i.size (PX P t);unfold PX;have b:∀d,P.underlying t=X d->aP P t=match d with | .struct _ | .array _ _=>O|_=>false:=λd p=>by unfold aP;rw[p];cases d<;>rfl
 split at h1
 .rename_i k a;rw[a];exact⟨a,b _ a,by rw[<-hst];exact aG h1⟩
 .rename_i a;rw[a];exact⟨a,b _ a,by rw[<-hst];exact aG h1⟩
 .rename_i a;rw[a];exact⟨a,b _ a,by rw[<-hst];exact aG h1⟩
 .rename_i e a;rw[a];exact⟨a,b _ a,by rw[<-hst];exact aG h1⟩
 .rename_i q a;rw[a];exact⟨⟨q,a⟩,b _ a,by rw[<-hst];exact aG h1⟩
 .rename_i mk v a;rw[a];exact⟨a,b _ a,by rw[<-hst];exact aG h1⟩
 .rename_i u a;rw[a];exact⟨⟨u,a,aBE P _ h1⟩,b _ a⟩
 .rename_i n e a;rw[a];simp only[P5,Af]at h1;obtain⟨j,c⟩:=Df.1 h1.1;exact⟨⟨e,a,by simp[uX,c],h1.2,rfl⟩,b _ a⟩
 .rename_i e a;rw[a];simp only[Af]at h1;obtain⟨j,y,c,r,g,m,_⟩:=F6 h1.2;exact⟨⟨a,j,y,c,by simp[uX,c],by simp[c],r,by simp[uX,c,g],m⟩,b _ a,by rw[<-hst];exact aG h1.1⟩
 .rename_i d C B w G I A Be H F a;rw[a];have p:∀(α:Type) (x y:α),True:=λ_ _ _=>trivial
  cases d<;>first
   | exact⟨⟨_,a,λq e=>by cases e⟩,rfl⟩
   | grind
 .cases h1
def aBD(P:Program):a6->Tab
 | []=>[]
 | t::r=>(t,aMj P t)::aBD P r
def aKD(P:Program):a6->Bool
 | []=>O
 | t::r=>okB P t&&aKD P r
def aIa:Tab->a6
 | []=>[]
 | (t,_)::r=>t::aIa r
def UC{P:Program}:∀{l:a6},aKD P l=O->∀t a,dO (aBD P l) t=X a->TIOK P t a
 | [],_,t,a,h=>by cases h
 | x::r,hb,t,a,h=>by
  simp only[aKD,Af]at hb;simp only[aBD,dO]at h;cases b:Av x t with
  | true=>
   rw[b]at h;cases h;rw[<-aG b];exact aMi hb.1
  | false=>rw[b]at h;exact UC hb.2 t a h
def XG{P:Program}{T:Tab}(h1:aBD P (aIa T)=T)(b:aKD P (aIa T)=O):∀t a,dO T t=X a->TIOK P t a:=by intro t a h;rw[<-h1]at h;exact UC b t a h
def tD(fr:au)(t:Nat):∀(keep:a6),bA (nY keep fr) t=bA fr t\/bA (nY keep fr) t= .undef
 | []=>.inr rfl
 | k::r=>by
  simp only[nY,bA];cases h:Av k t with
  | true=>simp_all
  | false=>exact tD fr t r
def SS.weak{M0:Imm}{ob0:Hs}{aq:aw}{w0:World}{sz:Nat}{dfs:List (Nat×az)}{fr b:au}{ac:aw}{a:Act}{w:World}(c:∀t,bA b t=bA fr t\/bA b t= .undef)(h:SS M0 ob0 aq w0 sz dfs fr ac a w):
  SS M0 ob0 aq w0 sz dfs b ac a w:=by
 obtain⟨M,ob,d,hm,f,r⟩:=h;refine⟨M,ob,d,hm,λt=>?_,r⟩;rcases c t with e|e
 .simp_all
 .rw [e];exact .undef _
def eB.weak{E:Env}{fn:Func}{g:Goal}{ks:bg}{fr b:au}{ac:aw}(d:∀t,bA b t=bA fr t\/bA b t= .undef)(h:eB E fn g ks b ac):eB E fn g ks fr ac:=
 λc M0 ob0 aq w0 a w hst hs=>h c M0 ob0 aq w0 a w hst (hs.weak d)
def eB.keep{E:Env}{fn:Func}{g:Goal}{ks:bg}{fr:au}{ac:aw}(l:a6)(h:eB E fn g ks (nY l fr) ac):eB E fn g ks fr ac:=h.weak λt=>tD fr t l
def To.head{E:Env}{fn:Func}{g:Goal}{ks:bg}{fr:au}{ac:aw}(l:a6)(h:To E fn g (.head ks (nY l fr) ac)):To E fn g (.head ks fr ac):=h.rec λh=>.mk (eB.keep l h)
abbrev C3:=IntKind×Int×Int
def vA(cs:List C3):bb:=cs.map λc=>.int c.1 c.2.1
def vB(cs:List C3):bb:=cs.map λc=>.int c.1 c.2.2
def tK:List C3->Bool
 | []=>O
 | c::r=>(c.2.1==c.2.2)&&tK r
def EO(a b:List C3):tK (a++b)=(tK a&&tK b):=by
 induction a with
 | nil=>simp[tK]
 | cons c r d=>simp[tK,d,Bool.and_assoc]
def pP(P:Program)(t:TypeId)(l:bb):Value:=if aP P t then .agg l.toArray else l.headD undef
def CE(P:Program)(a:TypeId->Bool):Nat->List Field->Nat->Bool
 | off,[],total=>Av off total
 | off,f::fs,total=>((f.name != "_")&&Av f.offset off)&&((a f.type&&(P.info? f.type).isSome)&&CE P a (off+P.cellsOf f.type) fs total)
def gJ(P:Program):Nat->TypeId->Bool
 | 0,_=>U
 | m+1,t=>match P.underlying t with
  | some (.int _)=>Av (P.cellsOf t) 1
  | some (.array n e)=>(gJ P m e&&(P.info? e).isSome)&&Av (P.cellsOf t) (n*P.cellsOf e)
  | some (.struct fs)=>!P.stoodInHeld t&&CE P (gJ P m) 0 fs.toList (P.cellsOf t)
  | _=>U
def EqI(P:Program)(d:Nat)(t:TypeId):Prop:=∀(w:World) (cs:List C3),Z cs=P.cellsOf t->(Op.equalIn d t (pP P t (vA cs)) (pP P t (vB cs))).run P w= .ok (tK cs) w
section
variable {P:Program} (w:World)
def tE{m:Nat}{t:TypeId}(h:gJ P m t=O):(P.underlying t).isSome=O/\(aP P t=U->P.cellsOf t=1):=by
 cases m with
 | zero=>cases h
 | succ m=>
  unfold gJ at h;unfold aP;split at h
  .simp_all
  .grind
  .grind
  .cases h
def lP{e:TypeId}(h:(P.underlying e).isSome=O)(g:(P.info? e).isSome=O)(h1:aP P e=U->P.cellsOf e=1)(l:bb)(off:Nat)(c:off+P.cellsOf e<=Z l):
  (part e l.toArray off).run P w= .ok (pP P e ((l.drop off).take (P.cellsOf e))) w:=by
 unfold part;simp only[Bd,CL h,Ar];unfold pP;obtain⟨i,b⟩:=Df.1 g;have a:(P.info? e).map (·.size)=X (P.cellsOf e):=by simp[Program.cellsOf,b]
 cases f:aP P e with
 | true=>
  simp only[if_true,Bd,AW.af a,Ar,Cb];simp
 | false=>
  have j:=h1 f;have d:off<Z l:=o_;simp only[Dc,if_false]
  grind[Ab,Cb,List.drop_eq_getElem_cons]
def OF(cs:List C3):Z (vA cs)=Z cs:=by simp[vA]
def aO5(cs:List C3):Z (vB cs)=Z cs:=by simp[vB]
def W6(cs:List C3)(o n:Nat):((vA cs).drop o).take n=vA ((cs.drop o).take n):=by simp[vA,Ij,Fm]
def aO6(cs:List C3)(o n:Nat):((vB cs).drop o).take n=vB ((cs.drop o).take n):=by simp[vB,Ij,Fm]
def SF{d m:Nat}{e:TypeId}(i:gJ P m e=O)(f:(P.info? e).isSome=O)(h:EqI P d e)(cs:List C3)(off:Nat)(c:off+P.cellsOf e<=Z cs):
  ∃a b,(part e (vA cs).toArray off).run P w= .ok a w/\(part e (vB cs).toArray off).run P w= .ok b w/\(Op.equalIn d e a b).run P w= .ok (tK ((cs.drop off).take (P.cellsOf e))) w:=by
 obtain⟨g,h1⟩:=tE i;refine⟨_,_,lP w g f h1 _ _ (by rw[OF];exact c),lP w g f h1 _ _ (by rw[aO5];exact c),?_⟩;rw[W6,aO6];exact h w _ q_
def take_add(cs:List C3)(o a b:Nat):(cs.drop o).take (a+b)=(cs.drop o).take a++(cs.drop (o+a)).take b:=by rw[List.take_add,Hh]
def aDk{d m:Nat}{e:TypeId}(o:gJ P m e=O)(l:(P.info? e).isSome=O)(q:EqI P d e)(cs:List C3):∀(n k:Nat),(k+n)*P.cellsOf e<=Z cs->
  (Op.eqItems d e (P.cellsOf e) (vA cs).toArray (vB cs).toArray (Ig k n)).run P w= .ok (tK ((cs.drop (k*P.cellsOf e)).take (n*P.cellsOf e))) w:=by
 intro n;induction n with
 | zero=>intro k _;simp[Op.eqItems,tK]
 | succ n f=>
  intro k h;have p:(k+1)*P.cellsOf e<=(k+(n+1))*P.cellsOf e:=Bu _ o_;have c:(k+1)*P.cellsOf e=k*P.cellsOf e+P.cellsOf e:=by grind
  obtain⟨a,b,r,s,j⟩:=SF w o l q cs (k*P.cellsOf e) o_;have g:=f (k+1) (by rw[show k+1+n=k+(n+1)from by omega];exact h);have i:(n+1)*P.cellsOf e=P.cellsOf e+n*P.cellsOf e:=by rw[Ch,Hu,Mm]
  rw[i,take_add,EO,<-c];simp only[List.range'_succ,Op.eqItems,Bd,r,s,j,Ar];cases tK ((cs.drop (k*P.cellsOf e)).take (P.cellsOf e))with
  | true=>simp;omega
  | false=>simp
def XT{d m:Nat}(q:∀t,gJ P m t=O->EqI P d t)(cs:List C3):∀(e:List Field) (off:Nat),CE P (gJ P m) off e (Z cs)=O->
  (Op.eqFields d (vA cs).toArray (vB cs).toArray e).run P w= .ok (tK (cs.drop off)) w/\off<=Z cs:=by
 intro e;induction e with
 | nil=>
  intro off h;have:=aG h;subst this;exact⟨by simp[Op.eqFields,tK],Bc _⟩
 | cons f e i=>
  intro off h;simp only[CE,Af]at h;obtain⟨⟨h1,o⟩,⟨h3,n⟩,p⟩:=h;obtain⟨j,r⟩:=i _ p;have c:=aG o;obtain⟨a,b,s,u,k⟩:=SF w h3 n (q _ h3) cs f.offset o_;refine⟨?_,by omega⟩;have l:cs.drop off=(cs.drop off).take (P.cellsOf f.type)++cs.drop (off+P.cellsOf f.type):=by rw[<-Hh,List.take_append_drop]
  rw [l,EO];have g:f.name≠ "_" :=by simpa using h1
  simp only[Op.eqFields,g,ne_eq,not_false_eq_true,if_true,Bd,s,u,k,Ar];rw[c]at *
  cases tK ((cs.drop off).take (P.cellsOf f.type))with
  | true=>simp;omega
  | false=>simp
end
def ZO{P:Program}(d:Nat):∀(m:Nat) (t:TypeId),gJ P m t=O->EqI P (d+m) t
 | 0,_,h=>by cases h
 | m+1,t,h=>by
  intro w cs f;have p:∀t,gJ P m t=O->EqI P (d+m) t:=λt h=>ZO d m t h;unfold gJ at h;split at h
  .rename_i k g;have c:aP P t=false:=by unfold aP;rw[g]
   have h1:=aG h;rw[h1]at f
   match cs,f with
   | [(k',a,b)],_=>
    simp only[pP,c,vA,vB,Bf,List.map_nil,List.headD_cons,Dc,if_false,tK,Bool.and_true];exact run_equalIn_int w (d+m) t k' k a b g
  .rename_i n e g;simp only[Af]at h;obtain⟨⟨h1,j⟩,h3⟩:=h;have c:aP P t=true:=by unfold aP;rw[g]
   obtain⟨i,q⟩:=Df.1 j;have r:=aG h3;simp only[pP,c,if_true];rw[show d+(m+1)=(d+m)+1 from rfl,run_equalIn_array w (d+m) _ _ g q,List.range_eq_range',aDk w h1 j (p e h1) cs n 0 (by grind)]
   grind
  .rename_i o g;simp only[Af,Dj]at h;obtain⟨h1,j⟩:=h;have c:aP P t=true:=by unfold aP;rw[g]
   have l:P.fieldsOf t=o:=by simp[Program.fieldsOf,g]
   simp only[pP,c,if_true];rw[<-f]at j;rw[show d+(m+1)=(d+m)+1 from rfl,run_equalIn_struct w (d+m) t _ _ (by grind) h1,l];simpa using(XT w p cs o.toList 0 j).1
  .cases h
def aJL:∀{xs ys:az} {c:Bool} {vs us:bb},ceq xs ys=X c->cV (λ_ _ _=>False) [] vs xs->cV (λ_ _ _=>False) [] us ys->∃cs:List C3,vs=vA cs/\us=vB cs/\c=tK cs
 | [],[],c,vs,us,h,h1,h2=>by
  cases h;have d:vs=[]:=by simpa using h1.1
  have f:us=[]:=by simpa using h2.1
  exact⟨[],by simp[vA,d],by simp[vB,f],rfl⟩
 | x::xs,y::ys,c,vs,us,h,h1,h2=>by
  cases x<;>first|(simp[ceq]at h;done)|skip
  cases y<;>first|(simp[ceq]at h;done)|skip
  rename_i k a o b;simp only[ceq]at h;obtain⟨j,h3⟩:=fU h;have:=BK j;subst this;cases g:ceq xs ys with
  | none=>grind
  | some p=>
   rw[g]at h3;cases h3
   match vs,us,h1,h2 with
   | v::vs,u::us,h1,h2=>
    have e:=(h1.2 0 v _ rfl rfl).int_inv.1;have n:=(h2.2 0 u _ rfl rfl).int_inv.1;subst e n;obtain⟨cs,d,f,m⟩:=aJL (vs:=vs) (us:=us) g ⟨by simpa using h1.1,λi v a e l=>h1.2 (i+1) v a (by grind) (by grind)⟩ ⟨by simpa using h2.1,λi v a e l=>h2.2 (i+1) v a (by grind) (by grind)⟩;exact⟨(k,a,b)::cs,by simp[vA,d],by simp[vB,f],by simp[tK,m]⟩
 | [],_::_,c,vs,us,h,_,_=>by cases h
 | x::_,[],c,vs,us,h,_,_=>by cases x<;>cases h
def XU{P:Program}(w:World){k:Bool}{d m:Nat}(p:∀(e:TypeId),gJ P m e=O->∀(w:World) (cs:List C3),Z cs=P.cellsOf e->(Ic k d e (pP P e (vA cs))).run P w= .ok () w)(cs:List C3){e:TypeId}(g:gJ P m e=O)(b:(P.info? e).isSome=O):
  ∀(a:a6),(∀i∈a,(i+1)*P.cellsOf e<=Z cs)->
  (forIn (m:=Sem) a PUnit.unit λi _=>(do Ic k d e (<-part e (vA cs).toArray (i*(<-sizeOf e)));Pure.pure (ForInStep.yield PUnit.unit))).run P w= .ok PUnit.unit w:=by
 intro a;obtain⟨s,c⟩:=Df.1 b;have f:(P.info? e).map (·.size)=X (P.cellsOf e):=by simp[Program.cellsOf,c]
 obtain⟨r,h1⟩:=tE g;induction a with
 | nil=>simp
 | cons j a o=>
  intro h;have l:=h j s_;rw[Ch,Hu]at l;have n:=lP w r b h1 (vA cs) (j*P.cellsOf e) (by rw[OF];exact l);rw[W6]at n;have q:=p e g w ((cs.drop (j*P.cellsOf e)).take (P.cellsOf e)) q_;simp only[List.forIn_cons,Bd,AW.af f,Ar,n,q,Cb];exact o λi b=>h i (by simp[b])
def aJE{P:Program}(u:Bool)(d:Nat):∀(m:Nat) (t:TypeId),gJ P m t=O->∀(w:World) (cs:List C3),Z cs=P.cellsOf t->(Ic u (d+m) t (pP P t (vA cs))).run P w= .ok () w
 | 0,_,h=>by cases h
 | m+1,t,h=>by
  intro w cs g;have v:=aJE (P:=P) u d m;unfold gJ at h;rw[show d+(m+1)=(d+m)+1 from rfl,Ic];split at h
  .rename_i k j;have c:aP P t=false:=by unfold aP;rw[j]
   have h1:=aG h;rw[h1]at g
   match cs,g with
   | [(k',a,b)],_=>
    simp[pP,c,vA,run_underlying j]
  .rename_i n e j;simp only[Af]at h;obtain⟨⟨h1,l⟩,h3⟩:=h;have c:aP P t=true:=by unfold aP;rw[j]
   have G:=aG h3;simp only[pP,c,if_true,Bd,run_underlying j,Ar];simp only[Std.Legacy.Range.forIn_eq_forIn_range',Std.Legacy.Range.size,Jz,Nat.add_one_sub_one,Ir]
   have:=XU w v cs h1 l (Ig 0 n) (λi F=>by
    have:i<n:=by grind
    have:(i+1)*P.cellsOf e<=n*P.cellsOf e:=Bu _ this
    omega)
   simp at this⊢;simp_all
  .rename_i s j;simp only[Af,Dj]at h;obtain⟨h1,l⟩:=h;have c:aP P t=true:=by unfold aP;rw[j]
   simp only [pP,c,if_true,Bd,run_underlying j,Ar];rw [<-Array.forIn_toList];rw [<-g] at l;have key:∀ (L:List Field) (off:Nat),CE P (gJ P m) off L (Z cs)=true→off≤Z cs∧∀ f∈L,f.name≠ "_" ∧gJ P m f.type=true∧(P.info? f.type).isSome=true∧f.offset+P.cellsOf f.type≤Z cs:=by
    intro L;induction L with
    | nil=>
     intro off h;have:=aG h;simp_all
    | cons f L q=>
     intro off h;simp only[CE,Af]at h
     grind[aG]
   have each:=(key s.toList 0 l).2;clear key l;generalize s.toList=L at each;induction L with
   | nil=>simp
   | cons f L q=>
    obtain⟨z,r,C,A⟩:=each f s_;obtain⟨p,o⟩:=tE r;have x:=lP w p C o (vA cs) f.offset (by rw[OF];exact A);rw[W6]at x;have Be:=v f.type r w ((cs.drop f.offset).take (P.cellsOf f.type)) q_;simp only[List.forIn_cons,Bd,z,ne_eq,not_false_eq_true,if_true,Ar,x,Be,Cb];exact q λy B=>each y (by simp[B])
  .cases h
def aQw(a b:ax)(h:Z a=Z b):∃cs:List C3,Z cs=Z a/\iH O a= .agg (vA cs).toArray/\iH O b= .agg (vB cs).toArray/\tK cs=decide (a=b):=by
 refine⟨(a.zip b).map λp=>(.i64,p.1,p.2),by simp;omega,?_,?_,?_⟩
 .simp only[iH,vA,if_true,Dz];congr 2;have:(a.zip b).map Prod.fst=a:=List.map_fst_zip o_
  conv=>lhs;rw[<-this]
  simp
 .simp only[iH,vB,if_true,Dz];congr 2;have:(a.zip b).map Prod.snd=b:=List.map_snd_zip o_
  conv=>lhs;rw[<-this]
  simp
 .induction a generalizing b with
  | nil=>
   cases b with
   | nil=>rfl
   | cons y b=>cases h
  | cons x a c=>
   cases b with
   | nil=>cases h
   | cons y b=>
    simp only[List.zip_cons_cons,Bf,tK]
    grind
def aIG(P:Program)(t n:Nat):Bool:=(aP P t&&gJ P 8 t)&&(!P.eqGuardType P.depth t&&Av (P.cellsOf t) n)
def aIF{P:Program}{t n:Nat}(h:aIG P t n=O):aAu P t n:=by
 simp only[aIG,Af,Dj]at h;obtain⟨⟨h1,d⟩,h3,l⟩:=h;have r:=aG l;refine And.symm ⟨λw a b s u=>?_,?_⟩
 .obtain ⟨cs,v,j,p,k⟩:=aQw a b o_;have e:=ZO 9992 8 t d w cs o_;have f:=λo=>aJE o 9992 8 t d w cs o_;simp only[pP,h1,if_true]at e f;rw[j,p,<-k];exact⟨e,f⟩
 intro w x y xs ys vs us c m g i q;obtain⟨cs,rfl,rfl,rfl⟩:=aJL m i q;refine⟨λop=>run_eqGuard_agg w op t x y _ _ h3,?_⟩;have hl:Z cs=P.cellsOf t:=by have:=i.1;rw[OF]at this;omega
 have:=ZO 9992 8 t d w cs hl;simp only[pP,h1,if_true]at this;exact this
def ZI(P:Program):List (Nat×Nat)->Bool
 | []=>O
 | (t,n)::r=>aIG P t n&&ZI P r
def VE{P:Program}:∀{l:List (Nat×Nat)},ZI P l=O->∀t,0<E3 l t->aAu P t (E3 l t)
 | [],_,t,h=>by cases h
 | (i,n)::r,hb,t,h=>by
  simp only[ZI,Af]at hb;simp only[E3]at h⊢;cases a:Av i t with
  | true=>
   rw[a]at h;rw[<-aG a];exact aIF hb.1
  | false=>rw[a]at h;exact VE hb.2 t h
def EP(P:Program)(mt:aKa):Prop:=∀t a g,aHT mt t a=X g->∀v w,(method (P.types.size+Made.depth) t v a).run P w= .ok (g,v) w
def EP.nil{P:Program}:EP P []:=λt a g h=>by cases h
def EP.cons{P:Program}{i f:Nat}{s:String}{mt:aKa}(h:∀v w,(method (P.types.size+Made.depth) i v s).run P w= .ok (f,v) w)(k:EP P mt):EP P ((i,s,f)::mt):=by
 intro t a g b;simp only[aHT]at b;cases c:(Av i t&&s==a)with
 | false=>rw[c]at b;exact k t a g b
 | true=>
  simp_all
section
variable {E:Env} {fn:Func} {g:Goal} {M0:Imm} {ob0:Hs} {aq:aw} {w0:World} {sz:Nat} {dfs:List (Nat×az)} {fr:au} {ac:aw} {a:Act} {w:World}
def SS.cap{t k i es:Nat}{e:TypeId}{xs:az}(h1:bA fr t= .row k i)(u:aE ac k= .row i es e xs)(h:SS M0 ob0 aq w0 sz dfs fr ac a w):
  ∃c,Z xs<=c/\c<=maxLen/\SS M0 ob0 aq w0 sz dfs (iS fr t (.rowc k i c)) ac a w:=by
 obtain⟨M,ob,y,hm,j,r⟩:=h;have f:=j t;rw[h1]at f;obtain⟨p,n,c,s,d⟩:=f.row_inv;obtain⟨hs',v,B,Be,C,g,o,_⟩:=hm.rowOf (bO u s_);rw[d]at g;cases g;have l:Z xs<=c/\c<=maxLen:=by
  rcases o.len with⟨q,rfl⟩|⟨b,F,m,_,A,z⟩
  .cases q;simp
  .cases m;omega
 refine⟨c,l.1,l.2,M,ob,y,hm,λx=>?_,r⟩;rw[rK];split
 .rename_i e;subst e;rw[s];have:=fR;exact .rowc k i c p n d o_
 .exact j x
def To.cap{ks:bg}{t k i es:Nat}{e:TypeId}{xs:az}(h1:bA fr t= .row k i)(j:aE ac k= .row i es e xs)
  (h:∀c,Z xs<=c->c<=maxLen->To E fn g (.code ks (iS fr t (.rowc k i c)) ac)):To E fn g (.code ks fr ac):=
 .mk λd M0 ob0 aq w0 a w hst hs=>by obtain⟨c,b,f,hs'⟩:=hs.cap h1 j;exact(h c b f).rec λh=>h d M0 ob0 aq w0 a w hst hs'
def Mem.become{M:Imm}{ob:Hs}(hm:Mem M ob ac w){j k i es es':Nat}{e p:TypeId}{xs ys:az}(hjk:j≠k)(h1:ac[j]? =X (.row i es e xs))(G:ac[k]? =X (.row 0 es' p ys)){v:Value}(An:at' ob k 0=X v):
  ∃ob',Mem M ob' ((ac.set j (.row (i+1) es' p ys)).set k .dead) w/\Ext M ob ac w M ob' ((ac.set j (.row (i+1) es' p ys)).set k .dead) w/\at' ob' j (i+1)=X v:=by
 obtain⟨g,v0,V,Q,e3,e4,J,As⟩:=hm.rowOf h1;obtain⟨u,v1,L,f2,W,S,s,H⟩:=hm.rowOf G;rw[An]at S;cases S;have F:j<Z ob:=(Ad.1 V).1;have Y:j<Z ac:=(Ad.1 h1).1;have Am:k<Z ac:=(Ad.1 G).1;have m:(ob.set j (g++[v]))[j]? =X (g++[v]):=Ba F;have n:∀{i:Nat},i≠j->(ob.set j (g++[v]))[i]? =ob[i]?:=λ{i} h=>Bg (Ne.symm h);have A:dR ob (ob.set j (g++[v])):=λd hs hi=>by grind[Ct]
 have z:Z (g++[v])=i+1+1:=by simp[Q]
 have t:(g++[v])[i+1]? =X v:=by rw[<-Q];simp
 have R:((ac.set j (.row (i+1) es' p ys)).set k .dead)[k]? =X .dead:=Ba q_;have T:((ac.set j (.row (i+1) es' p ys)).set k .dead)[j]? =X (.row (i+1) es' p ys):=by grind
 have N:∀{d},d≠j->d≠k->((ac.set j (.row (i+1) es' p ys)).set k .dead)[d]? =ac[d]?:=λ{d} a b=>by grind
 have alive:∀{d b:Nat},aM (ob.set j (g++[v])) ((ac.set j (.row (i+1) es' p ys)).set k .dead) d b->(d=j/\aM ob ac k b)\/(d≠j/\d≠k/\aM ob ac d b):=by
  rintro d b ⟨c,hs,o,y,B,Be⟩;by_cases f:d=j
  .subst f;rw[m]at B;cases B;have I:b∈blk u:=by rw[fH z t]at Be;rw[fH f2 W];exact Be
   exact .inl ⟨rfl,_,u,G,rfl,L,I⟩
  .by_cases l:d=k
   .subst l;rw[R]at o;cases o;cases y
   .rw [N f l]at o;rw[n f]at B;exact .inr ⟨f,l,c,hs,o,y,B,Be⟩
 refine⟨ob.set j (g++[v]),⟨hm.imm,by simp[hm.len],λd c x=>?_,λd b C=>?_,λd K b C At=>?_⟩,⟨λ_ _ _ h=>h,λ_ _ _ h=>.inl h,A,rfl,rfl,rfl,Bc _,λ_ _ _=>rfl,λd b C=>?_⟩,(cN m).trans t⟩
 .by_cases f:d=j
  .subst f;rw[T]at x;cases x;exact⟨_,m,z,v,t,s⟩
  .by_cases l:d=k
   .subst l;rw[R]at x;cases x;exact⟨u,(n f).trans L,trivial⟩
   .rw [N f l]at x;obtain⟨hs,o,y⟩:=hm.obj d c x;exact⟨hs,(n f).trans o,y.mono (λ_ _ _ h=>h) A (λ_ _ _ _ h=>h) (λ_ _ _ _ h=>h)⟩
 .rcases alive C with⟨_,q⟩|⟨_,_,q⟩<;>exact hm.lt _ b q
 .rcases alive C with⟨o,q⟩|⟨o,y,q⟩<;>rcases alive At with⟨P,r⟩|⟨P,r2,r⟩
  .rw [o,P]
  .exact bv (hm.inj k K b q r).symm r2
  .exact bv (hm.inj d k b q r) y
  .exact hm.inj d K b q r
 grind
def PJ:a6->aa->au->au
 | [],_,fr=>fr
 | t::r,v,fr=>PJ r v (iS fr t v)
def Q9(k:Nat)(fr:au):a6->Bool
 | []=>O
 | t::r=>(match bA fr t with | .row j 0=>Av j k|_=>U)&&Q9 k fr r
def EG{v:aa}{t:Nat}:∀{l:a6} {fr:au},bA (PJ l v fr) t=bA fr t\/(t∈l/\bA (PJ l v fr) t=v)
 | [],fr=>.inl rfl
 | x::r,fr=>by
  rcases EG (v:=v) (t:=t) (l:=r) (fr:=iS fr x v)with h|⟨h1,a⟩
  .rw [rK]at h;by_cases e:t=x
   .subst e;rw[bu rfl]at h;exact .inr ⟨by simp,h⟩
   .rw [bt e]at h;exact .inl h
  .exact .inr ⟨by simp[h1],a⟩
def J7{k:Nat}{fr:au}:∀{l:a6},Q9 k fr l=O->∀t∈l,bA fr t= .row k 0
 | [],_,t,h=>by simp at h
 | x::r,h,t,a=>by
  simp only[Q9,Af]at h;rcases Az.1 a with rfl|a
  .have:=h.1;split at this
   .simp_all
   grind
  .exact J7 h.2 t a
def To.become{ks:bg}{j k i es es':Nat}{e d:TypeId}{xs ys:az}(l:a6)(J:Av j k=U)(h1:aE ac j= .row i es e xs)(F:aE ac k= .row 0 es' d ys)(hl:Q9 k fr l=O)
  (h:To E fn g (.code ks (PJ l (.row j (i+1)) fr) (bU (bU ac j (.row (i+1) es' d ys)) k .dead))):To E fn g (.code ks fr ac):=
 .mk λx M0 ob0 aq w0 a w hst hs=>by
  refine h.rec λh=>h x M0 ob0 aq w0 a w hst ?_;obtain⟨M,ob,I,hm,A,Be,G,K⟩:=hs;have f:j≠k:=λe=>by simp_all
  have s:=bO h1 s_;have p:=bO F s_;obtain⟨B,v,L,P,N,r,_⟩:=hm.rowOf p;obtain⟨ob',u,m,H⟩:=hm.become f s p r;have z:bU (bU ac j (.row (i+1) es' d ys)) k .dead=(ac.set j (.row (i+1) es' d ys)).set k .dead:=by grind[aW,gY,Ad]
  rw[z];refine⟨M,ob',I.trans m,u,λt=>?_,Be,G.mono (λ_ _ _ h=>h) m.hs,by simp;omega⟩;have o:=A t;rcases EG (v:=.row j (i+1)) (t:=t) (l:=l) (fr:=fr)with q|⟨y,q⟩
  .rw [q];exact o.mono (λ_ _ _ h=>h) m.hs
  .rw [q];rw[J7 hl t y]at o;obtain⟨As,n,c,C,b⟩:=o.row_inv;rw[r]at b;cases b;rw[C];exact .row _ _ _ _ _ H
end
def aSf{M:Imm}{ob:Hs}{vs:bb}{a b:aa}(h:cV M ob vs [a,b]):∃u v,vs=[u,v]/\Rep M ob u a/\Rep M ob v b:=by
 obtain⟨hl,c⟩:=h
 match vs,hl with
 | [u,v],_=>exact⟨u,v,rfl,c 0 _ _ rfl rfl,c 1 _ _ rfl rfl⟩
def TS{P:Program}{f:FuncId}{fn:Func}{tS tR e:TypeId}(hf:P.funcs[f]? =some fn)(o:(fn.name== "runtime.NumGoroutine")=false)(hb:fn.body.isNone=true)(hn:Extern.findNext fn=none)
  (Am:Extern.find fn=X (Extern.SlicesOverlaps.overlaps #[tS,tS] #[tR])) (F:P.underlying tS=X (.slice e)) {sz:Nat} (hz:(P.info? e).map (·.size)=X sz) (A:0<sz) {p q:TypeId} (xs ys:az) (lo len:Nat):
  aA P f [.row 0 0,.sub 1 0 lo len sz] [.row 0 sz p xs,.row 0 sz q ys] (.ret (.bool U)) [.row 0 sz p xs,.row 0 sz q ys]:=by
 intro M ob w K hm hr;obtain⟨u,v,rfl,An,hv⟩:=aSf hr;have i:=λw:World=>af (P:=P) hz w;refine .inr ⟨.bool U,w,?_,M,ob,Ext.refl _ _ _ _,hm,.bool U⟩;rw[run_callFunc_extern hf o hb hn Am];have key:(Extern.SlicesOverlaps.overlaps #[tS,tS] #[tR] #[u,v]).run P w= .ok (.bool U) w:=by
  obtain⟨a,n,c,rfl,L⟩:=An.row_inv;obtain⟨I,v1,p1,p2,p3,As,z,B⟩:=hm.rowOf (k:=0) rfl;obtain⟨J,v2,At,q2,q3,N,s,C⟩:=hm.rowOf (k:=1) rfl;rw[L]at As;cases As;have g:∀(a:Option Addr) (n c:Nat) (b:Option Addr) (m d:Nat),(a=D\/b=D\/n=0\/m=0)->(Extern.SlicesOverlaps.overlaps #[tS,tS] #[tR] #[.slice a n c,.slice b m d]).run P w= .ok (.bool U) w:=by
   intro a n c b m d h
   change Sem.run P (α:=Value) (do
    let some t:=(#[tS,tS]:Array TypeId)[0]? | stuck "slices.overlaps: no parameter types"
    let .slice elem ←underlying t | stuck "slices.overlaps: slice type expected"
    let size <-sizeOf elem
    match a,b with
    | some a,some b=>
     if n=0\/m=0\/size=0 then pure (Nm U)
     else if a.block !=b.block&&(<-frozen a)&&(<-frozen b)then unsupported .addressObserved
     else do
      if a.block !=b.block then do
           noView a;noView b
           if ←mayBeOne a b then return Nm ((←choose (.extern "sameAddr.stringBytes" 2))==1)
      pure (Nm (a.block==b.block&&a.off<b.off+m*size&&b.off<a.off+n*size))
    | _,_=>pure (Nm U)) w=_
   cases a with
   | none=>simp[run_underlying F,i]
   | some a=>
    cases b with
    | none=>simp[run_underlying F,i]
    | some b=>
     have V:n=0\/m=0\/sz=0:=by grind
     simp[run_underlying F,i,V]
  cases hv with
  | sub0 _ _ _ _ Q a' n2 T l hl hc=>exact g _ _ _ _ _ _ (.inr (.inr (.inr rfl)))
  | sub _ _ _ _ _ b n2 T l hl hn2 hc2 hmm=>
   rw[l]at N;cases N;obtain⟨cv,⟨r1,r⟩,_⟩:=z;obtain⟨Y,⟨s1,x⟩,_⟩:=s;rcases r with⟨r,_⟩|⟨Be,R,y,r,_,H,r4,r5,r6,_⟩
   .cases r;exact g _ _ _ _ _ _ (.inl rfl)
   .rcases x with⟨x,_⟩|⟨b2,S,j,x,_,W,s4,s5,s6,_⟩
    .cases x
    .cases r;cases x;have G:Be≠b:=by
      intro h;subst h
      have a1:aM ob [.row 0 sz p xs,.row 0 sz q ys] 0 Be:=⟨_,I,rfl,rfl,p1,qA B rfl⟩
      have Q:aM ob [.row 0 sz p xs,.row 0 sz q ys] 1 Be:=⟨_,J,rfl,rfl,At,qA C rfl⟩
      have:=hm.inj 0 1 Be a1 Q;cases this
     have hk:j.size≠0:=by rw[s6];have:=Nat.mul_pos (show 0<T by omega) A;omega
     exact Lib.run_overlaps_apart w tS tR e F sz i ⟨Be,0,D⟩ ⟨b,lo*sz,D⟩ _ _ _ _ G p q y.size j.size (by simp[Ju,H]) (by simp[Ju,W]) hk (by simp[Md,H]) (by simp[Md,H])
 have e0:(([u,v]:bb)).toArray= #[u,v]:=rfl;rw[e0,key];rfl
def strip:Nat->aa->aa
 | 0,v=>v
 | n+1,v=>match v with
  | .slice sz xs _=>.slice sz xs .no
  | .agg cs=>.agg (eZ (strip n) cs)
  | .tup cs=>.tup (eZ (strip n) cs)
  | .iface t v=>.iface t (strip n v)
  | v=>v
def nI{M:Imm}{ob:Hs}:∀(n:Nat) {v:Value} {a:aa},Rep M ob v a->Rep M ob v (strip n a):=by
 intro n;induction n with
 | zero=>intro v a h;exact h
 | succ n m=>
  intro v a h;cases h with
  | agg vs as hl d=>
   obtain⟨h1,j⟩:=cQ (λv a=>m) hl d;exact .agg vs _ h1 j
  | tup vs as hl d=>
   obtain⟨h1,j⟩:=cQ (λv a=>m) hl d;exact .tup vs _ h1 j
  | iface t v a d=>exact .iface t v _ (m d)
  | slnil sz t p=>exact .slnil sz .no trivial
  | slemp sz t a cap p=>exact .slemp sz .no a cap trivial
  | sl sz b o n cap xs t f e hm hz d p=>exact .sl sz b o n cap xs .no f e hm hz d trivial
  | undef v=>exact .undef v
  | bool b=>exact .bool b
  | int k n d=>exact .int k n d
  | str l hl=>exact .str l hl
  | ptr b o cs h=>exact .ptr b o cs h
  | ref k off b h=>exact .ref k off b h
  | eref k g i sz off b n c h=>exact .eref k g i sz off b n c h
  | csl k off len sz b h hm=>exact .csl k off len sz b h hm
  | row k g a n c h=>exact .row k g a n c h
  | sub k g lo len sz b n c h hl f e hm=>exact .sub k g lo len sz b n c h hl f e hm
  | sub0 k g lo sz a w n c h hl e=>exact .sub0 k g lo sz a w n c h hl e
  | rowc k g c a n h hm=>exact .rowc k g c a n h hm
  | pre k g n c sz b len h e f hl hm=>exact .pre k g n c sz b len h e f hl hm
  | mref k b h=>exact .mref k b h
  | nilptr=>exact .nilptr
  | nilslice=>exact .nilslice
  | nilmap=>exact .nilmap
  | nilfunc=>exact .nilfunc
  | nilif=>exact .nilif
  | hsl a n c=>exact .hsl a n c
  | func fn s cs r q u e h1 j=>exact .func fn s cs r q u e h1 j
def aA.strip{P:Program}{f:FuncId}{args:az}{ac ap:aw}{r:Res}(h:aA P f (eZ (strip 5) args) ac r ap):aA P f args ac r ap:=
 λM ob w b hm c=>h M ob w b hm (by
  obtain⟨h1,d⟩:=cQ (M':=M) (ob':=ob) (λv a=>nI (M:=M) (ob:=ob) 5) c.1 c.2
  exact⟨h1,d⟩)
def aEV(n:Nat):List (Nat×az)->Bool
 | []=>O
 | (_,l)::r=>JZ (bel n 5) l&&aEV n r
def WT{n:Nat}:∀{l:List (Nat×az)},aEV n l=O->∀(i:Nat) x,l[i]? =X x->JZ (bel n 5) x.2=O
 | [],_,i,x,h=>by simp at h
 | (f,y)::r,hb,i,x,h=>by
  simp only[aEV,Af]at hb;cases i with
  | zero=>grind
  | succ i=>exact WT hb.2 i x (by simp_all)
def aJR{w0 w:World}{M:Imm}{ob:Hs}{n:Nat}{g:List Deferred}{dfs:List (Nat×az)}(h:dN w0 w M ob g dfs)(k:aEV n dfs=O):dN w0 w M (ob.take n) g dfs:=
 let⟨d1,d2,e,h,h2⟩:=h
 ⟨d1,d2,e,⟨h.1,λi d x c b=>⟨(h.2 i d x c b).1,(h.2 i d x c b).2.1,λj v a l f=>FX 5 ((h.2 i d x c b).2.2 j v a l f) (oZ (WT k i x b) j a f)⟩⟩,h2⟩
def To.cut{E:Env}{fn:Func}{g:Goal}{ks:bg}{fr:au}{ac:aw}(l:a6)(n:Nat)(z:Gc g.n0 n=O)(s:aJQ n (nY l fr)=O)(i:K7 n (rD n ac)=O)(r:aEV n E.df=O)
  (h:To E fn g (.head ks (nY l fr) (rD n ac))):To E fn g (.head ks fr ac):=
 .mk λf M0 ob0 aq w0 a w hst hs=>by
  refine h.rec λh=>h f M0 ob0 aq w0 a w hst ?_;obtain⟨M,ob,c,hm,d,u,v,x⟩:=hs;rw[HS]at i⊢;obtain⟨j,o⟩:=hm.cutO i;have A:Z ob0<=n:=by rw[hst.1];simp_all
  refine⟨M,ob.take n,⟨c.imm,c.new,λk hs m=>?_,c.os,c.tape,c.output,c.size,c.keep,λk b p=>c.fresh k b (o p)⟩,j,λt=>?_,u,aJR v r,by simp;omega⟩
  .obtain ⟨hs',y,B⟩:=c.hs k hs m
   grind[Ad,List.getElem?_take_of_lt]
  .rcases WS s t with q|q
   .rcases tD fr t l with e|e
    .rw [e]at q⊢;exact FX 5 (d t) q
    .rw [e];exact .undef _
   .rw [q];exact .undef _
open Go.RowKit Go.ChangeShapes Go.WideShapes Go.ChangeAt
section
variable {P:Program} {w:World} {r:Reach} {base:Nat} {t:TypeId} {v:Value}
def HG{M:Imm}{ob:Hs}{v:Value}{a:aa}(h:Rep M ob v a){vs:bb}{as:az}(hs:cV M ob vs as):cV M ob (v::vs) (a::as):=cV.cons h hs
def aBh{M:Imm}{ob:Hs}:cV M ob [] []:=⟨rfl,λi v a h=>by simp at h⟩
end
section
variable {H:Type} {enc:TypeId×Value->H} {P:Program}
def aBk(P:Program):List TypeId->Bool
 | []=>O
 | t::ts=>(P.readableRec t&&decide (t<P.types.size))&&aBk P ts
theorem KJ(hl:laidOutB P=O){W e:World}(j:Below W.heap.size W e):∀{a:List TypeId} {vs:bb} {d:List (DataW H)} {c:List MemPlace},aBk P a=O->(∀x∈c,x.block<W.heap.size)->
  DataW.TrodAll enc P W 0 (λ_=>O) O a vs d c->DataW.TrodAll enc P e 0 (λb=>decide (b<W.heap.size)) O a vs d c:=by
 intro a;induction a with
 | nil=>
  intro vs d c _ _ h;obtain⟨rfl,rfl,rfl⟩:=trodAll_nil h;rfl
 | cons t a i=>
  intro vs d c g f h;simp only[aBk,Af,bo]at g
  grind[trodAll_cons,trodAll_cons_mk,Below.trod]
def lZ{W:World}:∀{a:List TypeId} {vs:bb} {b:List (DataW H)} {c:List MemPlace},DataW.TrodAll enc P W 0 (λ_=>O) O a vs b c->Z vs=Z a/\Z b=Z a:=by
 intro a;induction a with
 | nil=>
  intro vs b c h;obtain⟨rfl,rfl,rfl⟩:=trodAll_nil h;omega
 | cons t a d=>
  grind[trodAll_cons]
def wW{fn:Func}{s:ChangeSpec}{W g:World}{args:Array Value}{a l:List (DataW H)}{jF:List MemPlace}{j:TypeId}(hl:laidOutB P=O)(w:aBk P fn.params.toList=O)(i:s.vars=[])
  (c:fn.resultTypes= #[j]) (r:P.underlying j=X .bool) (d:DataW.Whole enc P fn.params.toList s.vars U W args.toList a l jF) (b:Below W.heap.size W g)
  (e:Z a=Z fn.params.toList->(s.fn H a).results=[.lit (.bool O)]/\(s.fn H a).args=a/\(s.fn H a).vars=[]):s.post enc P fn U O U U W args (.bool O) g:=by
 have n:=d.lt;have f:=d;obtain⟨p,q,v,k,rfl,t,m⟩:=d;rw[i]at k;obtain⟨rfl,rfl⟩:=trodVars_none k;obtain⟨o,x,u⟩:=e (lZ v).2;refine⟨a,[],_,[],p,[],f,?_,?_,?_,b.frame _,λh=>by cases h⟩
 .rw [Ao,o,c];exact trodAll_cons_mk (shut_bool r _) trodAll_mk0
 .grind [KJ]
 .rw [Ao,u,i];exact rfl
end
inductive RepW(w:World):Value->aa->Prop
 | bool (b):RepW w (.bool b) (.bool b)
 | int (k n) (h:inR k n):RepW w (.int k n) (.int k n)
 | str (l:ay) (h:(Z l:Int)<=9223372036854775807):RepW w (.string ⟨l.toArray⟩) (.str l)
 | nilslice (sz:Nat):RepW w (.slice D 0 0) (.slice sz [] .no)
 | emptys (sz:Nat) (a:Addr) (cap:Nat):RepW w (.slice (X a) 0 cap) (.slice sz [] .no)
 | slice (sz b o n cap:Nat) (xs:az) (us:Nat->Nat->Value) (hn:Z xs=n) (hc:n<=cap) (hm:(n:Int)<=9223372036854775807) (hz:∀x∈xs,Z x.cells=sz)
   (h1:∀(i j:Nat) x c,xs[i]? =X x->x.cells[j]? =X c->w.cell? ⟨b,o+i*sz+j,D⟩=X (us i j)) (h2:∀(i j:Nat) x c,xs[i]? =X x->x.cells[j]? =X c->(us i j).oneCell'=O)
   (h3:∀(i j:Nat) x c,xs[i]? =X x->x.cells[j]? =X c->RepW w (us i j) c):RepW w (.slice (X ⟨b,o,D⟩) n cap) (.slice sz xs .no)
def Mw(w:World):Imm:=λb o x=>∃v,w.cell? ⟨b,o,D⟩=X v/\v.oneCell'=O/\RepW w v x
def RepW.rep{w:World}{v:Value}{a:aa}(h:RepW w v a):Rep (Mw w) [] v a:=by
 cases h with
 | bool b=>exact .bool b
 | int k n h=>exact .int k n h
 | str l h=>exact .str l h
 | nilslice sz=>exact .slnil sz .no trivial
 | emptys _ a cap=>exact .slemp _ _ _ _ trivial
 | slice sz b o n cap xs us f m hm hz h1 g h3=>exact .sl sz b o n cap xs .no f m hm hz (λi j x c e d=>⟨us i j,h1 i j x c e d,g i j x c e d,h3 i j x c e d⟩) trivial
def TyF(T:TypeId->az->Prop):List Field->az->Prop
 | [],cs=>cs=[]
 | f::fs,cs=>∃a b,cs=a++b/\T f.type a/\TyF T fs b
def RepW.one{w:World}{v:Value}{a:aa}(h:RepW w v a):v.oneCell'=true:=by cases h<;>rfl
def dD(w:World)(cs:bb)(as:az):Prop:=Z cs=Z as/\∀(i:Nat) v a,cs[i]? =X v->as[i]? =X a->RepW w v a
def dD.append{w:World}{vs us:bb}{as bs:az}(h:dD w vs as)(k:dD w us bs):dD w (vs++us) (as++bs):=by
 refine⟨by simp[h.1,k.1],λi v a c b=>?_⟩;by_cases d:i<Z vs
 .rw [Ai d]at c;rw[Ai (by rw[<-h.1];exact d)]at b;exact h.2 i v a c b
 .rw [Au o_]at c;rw[Au (by rw[<-h.1];omega),<-h.1]at b;exact k.2 _ v a c b
def dD.single{w:World}{v:Value}{a:aa}(h:RepW w v a):dD w [v] [a]:=
 ⟨rfl,λi u b c d=>by cases i with|zero=>grind|succ i=>simp at c⟩
def dD.nil{w:World}:dD w [] []:=⟨rfl,λi v a h=>by simp at h⟩
section
variable {H:Type} {enc:TypeId×Value->H} {P:Program} {w:World} {base:Nat} {spare:Nat->Bool} {held:Bool}
end
def F3(M:Imm)(ob:Hs)(u:FrameMode):Option aa->Prop
 | none=>u= .returning
 | some v=>∃x,u= .panicking [{v:=x,recovered:=U}]/\Rep M ob x v
def ER(P:Program)(f:FuncId)(args:az)(ac:aw)(p:Option aa)(ap:aw):Prop:=
 ∀M ob w a u,Mem M ob ac w->cV M ob a args->F3 M ob u p->
  (callFunc f a.toArray).run P w= .ok (.enter f a.toArray) w/\
   CallsD P f a.toArray u w λe b w'=>∃v M' ob',e= .returned v/\settle b= .returning/\Ext M ob ac w M' ob' ap w'/\Mem M' ob' ap w'
section
variable {P:Program}
def SG{o:Oper}{a:Array TypeId}{ρ:Operand->Value}{w:World}(c:o.op= .call {callee:=.builtin .recover,args:= #[],argTypes:=a}):(execOp ρ o).run P w= .ok .recover w:=by obtain⟨dst,op,ty,pos,b,d⟩:=o;subst c;rfl
def PA{M:Imm}{ob:Hs}{u:FrameMode}{p:Option aa}(h:F3 M ob u p)(c:Frame)(cs:List Frame)(b:c.mode=u):
  ∃v d,Rep M ob v (match p with|none=>.nilif|some a=>a)/\settle d= .returning/\
   ((recoverD (c::cs)=X (v,{c with mode:=d}::cs))\/(recoverD (c::cs)=D/\v= .nilIface/\({c with mode:=d}:Frame)=c)):=by
 cases p with
 | none=>
  have h:u= .returning:=h;subst h;refine⟨.nilIface,.returning,.nilif,rfl,.inr ⟨by simp[recoverD,b],rfl,?_⟩⟩;rw[<-b]
 | some a=>
  obtain⟨x,rfl,e⟩:=h;refine⟨x,.panicking [{v:=x,recovered:=O}],e,rfl,.inl ?_⟩;simp[recoverD,b]
end
def J8:Code->Code
 | .seq _ b=>b
 | c=>c
def aPW:Code->Bool
 | .seq (.region _ ops false) _=>(match ops.toList with
  | [o]=>(match o.op with
   | .call c=>(match c.callee with | .builtin .recover=>c.args.toList.isEmpty&&o.guard.isNone&&o.dst.isSome|_=>U)
   | _=>U)
  | _=>U)
 | _=>U
def aDC:Code->Nat
 | .seq (.region _ ops _) _=>(match ops.toList with | [o]=>o.dst.getD 0|_=>0)
 | _=>0
def aDE{c:Code}(h:aPW c=O):∃id o b rest,c= .seq (.region id #[o] U) rest/\o.op= .call {callee:=.builtin .recover,args:= #[],argTypes:=b}/\o.guard=D/\o.dst=X (aDC c)/\J8 c=rest:=by
 unfold aPW at h;split at h
 .rename_i id ops rest;split at h
  .rename_i o k;split at h
   .rename_i cl f;split at h
    .rename_i a;simp only[Af]at h;obtain⟨⟨h1,l⟩,h3⟩:=h;obtain⟨g,as,b⟩:=cl;have a:g= .builtin .recover:=a;subst a;have e:ops= #[o]:=by cases ops;grind
     subst e;have i:as= #[]:=by simp_all
     subst i;obtain⟨d,j⟩:=Df.1 h3;refine⟨id,o,b,rest,rfl,f,by simp_all,?_,rfl⟩;simp[aDC,j]
    .cases h
   .cases h
  .cases h
 .cases h
def ER.of{E:Env}{f:FuncId}{fn:Func}{args:az}{ac:aw}{n0:Nat}{r:aa}{ap:aw}{p:Option aa}(hdf:E.df=[])(W:E.P.funcs[f]? =X fn)(hb:fn.body=X (eF fn))(hbo:qO E.P f)
  (N:aPW (eF fn)=O) (R:dW fn.ntmps (J8 (eF fn))=O) (hn:Gc (Z args) fn.ntmps=O) (An:Fi (aDC (eF fn)) fn.ntmps=O) (Am:yT ac=O) (hg:Z ac=n0)
  (h:okL args->To E fn (.full n0 (.ret r) ap) (.code [.code (J8 (eF fn))] (iS (frA 0 args) (aDC (eF fn)) (match p with|none=>.nilif|some a=>a)) ac)) (z:E.rd=none:=by rfl):ER E.P f args ac p ap:=by
 intro M ob w g u hm hr Be;refine⟨hbo _ _,?_⟩;obtain⟨id,o,ats,rest,hc,hop,hgd,I,V⟩:=aDE N;rw[V]at h R;have hlen:Z g=Z args:=hr.1;have hle:=Co hn;have htl:aDC (eF fn)<fn.ntmps:=by simpa[Nat.blt_eq]using An
 generalize htt:aDC (eF fn)=t at *
 have hst:tW (.full n0 (.ret r) ap) ob:=by
  refine⟨by rw[hm.len,hg];rfl,λ_ hs T=>?_⟩;obtain⟨k,C⟩:=Ck T;have As:k<Z ac:=by rw[<-hm.len];exact(Ad.1 C).1
  obtain⟨h1,h2⟩:=yS Am k _ (Ab As);have e:=iE (Ab As);have:=hm.histLen (by rw[e];exact h1) C;rw[e,h2]at this;exact this
 intro c cs hu;obtain⟨v,y,Y,At,hrecD⟩:=PA Be c cs hu
 let b:Frame:={(default:Frame)with fn:=f,kind:=.deferred}
 let a:Act:={tmps:=g.toArray++Gg (fn.ntmps-g.toArray.size) undef,defers:=[]}
 have S:a.tmps.size=fn.ntmps:=by simp[a];omega
 have A:Frame.enter E.P f g.toArray .deferred=b.at a [.code (.seq (.region id #[o] U) rest)]:=by simp[Frame.enter,Frame.at,W,hb,hc,b,a]
 have ha:∀t,Rep M ob (a.tmps.getD t undef) (bA (frA 0 args) t):=λt=>by
  rw[IV];simp only[Bq,if_true,Jz];by_cases An:t<Z args
  .rw [Ab An];have Y:t<Z g:=o_;have:a.tmps.getD t undef=g[t]:=by show(g.toArray++Gg (fn.ntmps-g.toArray.size) undef).getD t undef=_;rw[Bh,Hk o_];simp[Y]
   rw[this];exact hr.2 t _ _ (Ab Y) (Ab An)
  .rw [Bp o_];exact .undef _
 have L:=wp_opsS (P:=E.P) (ops:= #[o]) (Q:=λe a' cs' w'=>e= .normal/\a'=a.put o.dst v/\cs'={c with mode:=y}::cs/\w'=w) [0] a (c::cs) w (by
  have e0:(#[o]:Array Oper)[0]? =X o:=rfl;have hw:Fq o (yielded #[o] a.tmps)=true:=by unfold Fq;rw[hgd]
  simp only[wpOpsS,e0,hw,if_true,SG hop]
  grind) b [.code rest] rfl rfl
 obtain⟨e1,a1,cs1,B,⟨rfl,rfl,rfl,rfl⟩,F⟩:=L
 have hkw:KW D E.P (qM E fn M ob ac B (.full n0 (.ret r) ap)) [.code rest] (a.put o.dst v) B:=by rw[<-z];obtain⟨hh⟩:=h hr.okL;refine hh (by simp[bN,KI.ok,R]) M ob ac B _ B hst ⟨M,ob,Ext.refl _ _ _ _,hm,?_,(dJ _ _ _).1.trans S,by rw[hdf];exact dN.put (a:=a) .nil,by rw[hm.len];omega⟩;intro s;have:=oJ (d:=X t) ha Y (λd' e=>by cases e;omega) s;rw[I];rwa [show kM (bA (frA 0 args)) (X t) _ s=bA (iS (frA 0 args) t _) s from(congrFun (fC (frA 0 args) (X t) _) s).symm]at this
 obtain⟨e2,H,w2,m,j⟩:=hkw.arrives b ({c with mode:=y}::cs) rfl
 have i:Steps E.P (lone (b.at a [.code (.seq (.region id #[o] U) rest)]) (c::cs) B) (lone (b.at (a.put o.dst v) [.code rest]) ({c with mode:=y}::cs) B):=
  .head step_seq (.head step_region F)
 have fin:∀{e:Ending} {w':World},RR M ob ac B (.full n0 (.ret r) ap) e w'->∃v M' ob',e= .returned v/\settle y= .returning/\Ext M ob ac B M' ob' ap w'/\Mem M' ob' ap w':=λ{e w'} ⟨M',ob',x1,x2,x3⟩=>by
  cases e with
  | returned v=>exact⟨v,M',ob',rfl,At,x1,x2⟩
  | panicked ch=>exact x3.elim
  | outgrown=>exact x3.elim
 rw[A];cases e2 with
 | normal=>
  unfold qM KF at m;rw[z]at m;obtain⟨J,x,q,K,hs,_,C,hl⟩:=gH H.defers .returning w2 {b.at H []with mode:=.returning} ({c with mode:=y}::cs) rfl rfl rfl W m;exact⟨J,y,x,q,fin K,Comes.of_steps (i.trans (Steps.trans j (.one step_end))) hs,C,hl⟩
 | ret=>
  obtain⟨n,G⟩:=j;unfold qM KF at m;rw[z]at m;obtain⟨J,x,q,K,hs,_,C,hl⟩:=gH H.defers .returning w2 {b.at H n with mode:=.returning} ({c with mode:=y}::cs) rfl rfl rfl W m;exact⟨J,y,x,q,fin K,Comes.of_steps (i.trans G) hs,C,hl⟩
 | panic fV=>
  obtain⟨n,G⟩:=j;unfold qM at m;rw[z]at m;obtain⟨J,x,q,K,hs,_,C,hl⟩:=gH H.defers (.panicking fV) w2 {b.at H n with mode:=.panicking fV} ({c with mode:=y}::cs) rfl rfl rfl W m;exact⟨J,y,x,q,fin K,Comes.of_steps (i.trans G) hs,C,hl⟩
 | exit id=>exact m.elim
 | goto l=>exact m.elim
 | outgrown=>exact m.elim
def aRm(fr:au):bc->Option (Nat×az)
 | [p]=>(match p.guard,p.op with
  | none,.defer c=>(match c.callee with
   | .value (.func f)=>X (f,evO (ev fr) c.args.toList)
   | _=>D)
  | _,_=>D)
 | _=>D
theorem ZL(ρ:Operand->aa):∀(l:List Operand),evO ρ l=l.map ρ
 | []=>rfl
 | x::r=>by simp[evO,ZL ρ r]
def aHR(ks:a6)(og:Nat->ab):Option aa->Option aa
 | none=>D
 | some v=>X (cvtV 0 ks og 5 v)
section
variable {E:Env} {fn:Func} {g:Goal}
def U0{df:List (Nat×az)}{id:Nat}{ops:Array Oper}{ks:bg}{fr:au}{ac:aw}{f:Nat}{args:az}(k:aRm fr ops.toList=X (f,args))
  (z:df=(f,args)::E.df)
  (t:E.rd=D) (h:eB {E with df:=df} fn g ks (match ops.toList with | [o]=>kU fr o.dst (.tup [])|_=>fr) ac):eB E fn g (.code (.region id ops U)::ks) fr ac:=by
 intro C M0 ob0 aq w0 a w hst hs;simp only[bN,KI.ok,dW,Af]at C;obtain⟨⟨y,_⟩,u⟩:=C;have m:=nK y;unfold aRm at k;split at k
 .rename_i o n;split at k
  .rename_i c H p;split at k
   .rename_i An l;cases k;rw[n]at h m;dsimp only at h
    refine KW.code (Q':=QR {E with df:=df} fn g M0 ob0 aq w0 ks) ?_ (λa w h=>h) (λV a w h=>h) (λe a w L=>by cases e<;>first|exact .inl rfl|exact .inr ⟨_,rfl⟩|exact L.elim)
    refine wpIn_region_list ?_;rw[n];unfold wpListIn;have G:Fq o (yielded ops a.tmps)=true:=by unfold Fq;rw[H]
    rw[bu G];obtain⟨dst,op,ty,pos,q,T⟩:=o;have p:op= .defer c:=p;subst p;obtain⟨B,as,A⟩:=c;have l:B= .value (.func f):=l;subst l;have r:(execOp a.eval ⟨dst,.defer ⟨.value (.func f),as,A⟩,ty,pos,q,T⟩).run E.P w= .ok (.defer {target:=.fn (.func f) #[],args:= #[]++as.map a.eval}) w:=rfl;refine⟨λ_ _=>trivial,?_⟩;rw[show(fen E.rd).round=D from t,Oper.semAt_none,r,Oper.uponIn_defer];obtain⟨M,ob,J,F,I,Be,s,N⟩:=hs;refine h u M0 ob0 aq w0 _ w hst ⟨M,ob,J,F,?_,(dJ _ _ _).1.trans Be,?_,N⟩
    .rw [fC];exact oJ (a:={a with defers:={target:=Target.fn (Fn.func f) #[],args:= #[]++Array.map a.eval as}::a.defers}) I qW λAs e=>Be▸m _ (List.mem_singleton.2 rfl) As e
    .rw [z];obtain⟨R,Q,S,s,K⟩:=s;refine dN.put (a:={a with defers:=_}) ⟨_::R,Q,by rw[S];rfl,⟨by simp[s.1],λi d x k r=>?_⟩,K⟩;cases i with
     | zero=>
      simp at k r;subst k r;refine⟨rfl,?_,λj v b W At=>?_⟩
      .simp [ZL]
      grind[ZL,Array.toList_map,I9]
     | succ i=>exact s.2 i d x (by simpa using k) (by simpa using r)
   .cases k
  .cases k
 .cases k
def To.defer(df:List (Nat×az)){id:Nat}{ops:Array Oper}{ks:bg}{fr:au}{ac:aw}{f:Nat}{args:az}(c:aRm fr ops.toList=X (f,args))(a:df=(f,args)::E.df)
  (h:To {E with df:=df} fn g (.code ks (match ops.toList with | [o]=>kU fr o.dst (.tup [])|_=>fr) ac)) (b:E.rd=none:=by rfl):To E fn g (.code (.code (.region id ops U)::ks) fr ac):=
 .mk (h.rec λh=>U0 c a b h)
def IB{M0:Imm}{ob0:Hs}{aq:aw}{w0:World}{sz:Nat}{f:Nat}{args:az}{rest:List (Nat×az)}{M:Imm}{ob:Hs}{ac ap:aw}{w:World}{a:Act}{u:FrameMode}{p:Option aa}(c ks:a6)
  {fr:au} (At:Ext M0 ob0 aq w0 M ob ac w) (A:Mem M ob ac w) (T:∀t,Rep M ob (a.tmps.getD t undef) (bA fr t)) (Am:a.tmps.size=sz) {o:List Deferred} (n:dN w0 w M ob o ((f,args)::rest)) (x6:Z ob0<=Z ac)
  (y:kO ks (ak c ac)=O) (z:F3 M ob u p)
  (h:ER E.P f (eZ (cvtV 0 ks (aE (ak c ac)) 5) args) (iC 0 ks (ak c ac)) (aHR ks (aE (ak c ac)) p) ap) {R:Ending->World->Prop}
  (hl:∀(q:List Deferred) w',SS M0 ob0 aq w0 sz rest fr (iN ks (aV (ak c ac)) (ak c ac) 0 ap (ak c ac)) {a with defers:=q} w'->gB E.P fn a.tmps R q .returning w'):gB E.P fn a.tmps R o u w:=by
 obtain⟨F,m,rfl,n,V⟩:=n;cases F with
 | nil=>have:=n.1;simp at this
 | cons d o=>
  obtain⟨b,g⟩:=n.2 0 d _ rfl rfl;obtain⟨I,s,C,_,_⟩:=Mem.frzs c M ac A;obtain⟨K,_,_⟩:=s.cvt (n0:=0) y;have k:cV I _ d.args.toList (eZ (cvtV 0 ks (aE (ak c ac)) 5) args):=xF (λv a=>s.cvtV (n0:=0) y 5 v a) ⟨g.1,λi v a H Be=>(g.2 i v a H Be).monoM C.imm⟩;have l:F3 I (fT 0 ob (ak c ac) 0 ks) u (aHR ks (aE (ak c ac)) p):=by
   cases p with
   | none=>exact z
   | some v=>
    obtain⟨x,e,N⟩:=z;exact⟨x,e,s.cvtV y 5 _ _ (N.monoM C.imm)⟩
  obtain⟨h1,An⟩:=h I _ w d.args.toList u K k l;have B:u≠ .run:=by
   cases p with
   | none=>have:u= .returning:=z;rw[this];simp
   | some v=>obtain⟨x,e,_⟩:=z;rw[e];simp
  obtain⟨G,r⟩:=d;have b:G= .fn (.func f) #[]:=b;subst b;refine⟨B,.inr ⟨.func f,#[],f,r,rfl,?_,?_⟩⟩
  .show (callFunc f (r++ #[])).run E.P w=_;simp;omega
  .refine An.mono λe u' w' ⟨v,M',Y,Q,W,S,As⟩=>?_;subst Q;dsimp only;rw[W];obtain⟨J,L,_⟩:=s.emb y S As;have ext:=C.trans L;refine hl (o++m) w' ?_;rw[cC];refine⟨M',_,At.trans ext,J,λt=>(T t).mono ext.imm ext.hs,Am,?_,?_⟩
   .refine ⟨o,m,rfl,⟨by have:=n.1;simpa using this,λi d x hd hx=>?_⟩,(dN.ext (M:=M) (ob:=ob) ⟨[],m,rfl,.nil,V⟩ A ext).marks⟩;have:=n.2 (i+1) d x q_ q_;exact⟨this.1,this.2.1,λj v a H Be=>(this.2.2 j v a H Be).mono ext.imm ext.hs⟩
   .have:=ext.lens;have:=J.len;have:=A.len;omega
def To.leave(df:List (Nat×az)){f:Nat}{args:az}(i:E.df=(f,args)::df)(b ks:a6){p:Option aa}{fr:au}{ac ap:aw}(q:kO ks (ak b ac)=O)
  (h:ER E.P f (eZ (cvtV 0 ks (aE (ak b ac)) 5) args) (iC 0 ks (ak b ac)) (aHR ks (aE (ak b ac)) p) ap)
  (d:To {E with df:=df} fn g (.leave D fr (iN ks (aV (ak b ac)) (ak b ac) 0 ap (ak b ac)))):To E fn g (.leave p fr ac):=by
 obtain⟨d⟩:=d;have d:aKc {E with df:=df} fn g fr (iN ks (aV (ak b ac)) (ak b ac) 0 ap (ak b ac)):=d;refine .mk ?_;cases p with
 | none=>
  intro M0 ob0 aq w0 a w hst ⟨M,ob,m,k,l,o,j,n⟩;rw[i]at j;exact IB (p:=D) b ks m k l o j n q rfl h λc w' hs=>d M0 ob0 aq w0 {a with defers:=c} w' hst hs
 | some v=>
  intro M0 ob0 aq w0 s a w hst ⟨M,ob,m,k,⟨x,e,r⟩,l,o,j,n⟩;rw[i]at j;exact IB (p:=X v) b ks m k l o j n q ⟨x,by rw[e],r⟩ h λc w' hs=>d M0 ob0 aq w0 {a with defers:=c} w' hst hs
def To.left(hE:ae E)(b:E.df=[]){fr:au}{ac:aw}{v:aa}(d:aGM E ac fn.results.toList fr=X v)(h:VN g .ret v ac)(c:E.rd=none:=by rfl):To E fn g (.leave D fr ac):=
 .mk λM0 ob0 aq w0 a w hst hs=>go_ret hE b c d h hst hs
end
def pC(r:Nat):Code->bg->Option bg
 | .region id _ _,ks=>bif Av id r then X ks else D
 | .seq a b,ks=>(match pC r a (.code b::ks)with|some x=>X x|none=>pC r b ks)
 | .cond _ a b,ks=>(match pC r a ks with|some x=>X x|none=>pC r b ks)
 | .block id b,ks=>pC r b (.inB id::ks)
 | .loop b,ks=>pC r b (.inL b::ks)
 | _,_=>D
def eO(fn:Func)(r:Nat):bg:=match pC r (eF fn) []with|some ks=>ks|none=>[]
def To.cutC{E:Env}{fn:Func}{g:Goal}{ks:bg}{fr:au}{ac:aw}(l:a6)(n:Nat)(d:Gc g.n0 n=O)(b:aJQ n (nY l fr)=O)(a:K7 n (rD n ac)=O)(c:aEV n E.df=O)
  (h:To E fn g (.code ks (nY l fr) (rD n ac))):To E fn g (.code ks fr ac):=by
 have:=To.cut (E:=E) (fn:=fn) (g:=g) (ks:=ks) (fr:=fr) (ac:=ac) l n d b a c (h.rec λh=>.mk h);exact this.rec λh=>.mk h
def aBy:St->Bool
 | .head _ _ _=>U
 | _=>O
def goN{E:Env}{fn:Func}{g:Goal}(hE:ae E)(a:Nat){st:St}(_hs:aBy st=O)(h:cF E fn g (To E fn g) a st):To E fn g st:=bR hE a h
def R8{w:World}{b:Nat}{u s q:Value}{T:TypeId}(h:w.heap[b]? =X (.cells #[u,s] T (0,0))):w.setCell ⟨b,0,D⟩ q=w.setRow b #[q,s]:=by
 unfold World.setCell World.setRow;congr 1
 grind
def qL{P:Program}{f:FuncId}{T:TypeId}(q:qO P f)
  (B:∀(b:Nat) (w:World),w.cell? ⟨b,0,D⟩=X (.pointer D)->w.shape? b=X (T,2)->w.frozen? ⟨b,0,D⟩=U->Calls P f #[.pointer (X ⟨b,0,D⟩)] w λe w'=>e= .returned (.tuple #[])/\w'=w.setCell ⟨b,0,D⟩ (.pointer (X ⟨b,0,D⟩)))
  (s:aa):aA P f [.ref 0 0] [.cells T [.nilptr,s]] (.ret (.tup [])) [.cells T [.ref 0 0,s]]:=by
 intro M ob w g hm o;obtain⟨hl,o⟩:=o
 match g,hl with
 | [v],_=>
 obtain⟨b,rfl,c⟩:=(o 0 _ _ rfl rfl).ref_inv;obtain⟨hs,z,l,rfl,A,cv,j,p,h1,d⟩:=hm.obj 0 _ rfl;have n:l=b:=by rw[cN z]at c;simpa using c
 subst n
 match cv,p with
 | [u,t],_=>
 have C:u= .pointer none:=by have:=d 0 u _ rfl rfl;cases this;rfl
 subst C;have j:w.heap[l]? =X (.cells #[.pointer D,t] T (0,0)):=j;have r:=h1 t s_;refine .inl ⟨q _ _,(B l w (by simp[Kz,j]) (by simp[Ju,j]) (by simp[Md,j])).mono ?_⟩;rintro e w' ⟨rfl,rfl⟩;rw[R8 j]
 have:=hm.cellsTurn (k:=0) (cs':=[.ref 0 0,s]) (cv':=[.pointer (X ⟨l,0,D⟩),t]) rfl c rfl (λx y=>by
  rcases Az.1 y with rfl|y
  .rfl
  grind) (λi v a h m=>by
  match i with
  | 0=>
   simp at h m;subst h m;exact .ref 0 0 l c
  | 1=>
   simp at h m;subst h m;exact d 1 _ _ rfl rfl
  | i+2=>simp at h)
 exact⟨M,ob,this.2.1,this.1,.tup [] [] rfl (λi v a h=>by simp at h)⟩
def N6(g n:Nat)(w w':World):Prop:=w'.os=w.os/\w'.tape=w.tape/\w'.output=w.output/\w'.heap=(w.freeze ⟨g,0,D⟩ n).heap
def ZG{w:World}{g n:Nat}(h:n≠0):N6 g n w (w.drew.freeze ⟨g,0,D⟩ n):=by unfold N6 Mt;rw[bt h,bt h];exact⟨rfl,rfl,rfl,rfl⟩
theorem M7{w:World}{g n k:Nat}(h:g≠k):(w.freeze ⟨g,0,D⟩ n).heap[k]? =w.heap[k]?:=by
 unfold Mt
 grind
def aIB{w:World}{g n:Nat}:(w.freeze ⟨g,0,D⟩ n).heap.size=w.heap.size:=by
 unfold Mt;split
 .rfl
 .simp
def aIC{w:World}{g n b o:Nat}:(w.freeze ⟨g,0,D⟩ n).cell? ⟨b,o,D⟩=w.cell? ⟨b,o,D⟩:=by
 by_cases h:g=b
 .subst h;unfold Mt;split
  .rfl
  .unfold Kz
   grind
 grind[Cw,M7]
def oY{P:Program}{f:FuncId}{T e:TypeId}(hbo:qO P f)
  (hc:∀(b g cap:Nat) (p:Value) (m:Array Value) (l:ay) (w:World),w.heap[b]? =X (.cells #[p,.slice (X ⟨g,0,D⟩) (Z l) cap] T (0,0))->w.heap[g]? =X (.cells m e (0,0))->l≠[]->
   Z l<=cap->cap<=maxLen->m.size=cap->(∀(j:Nat) x,l[j]? =X x->w.cell? ⟨g,j,D⟩=X (.int .u8 x.toNat))->
   Calls P f #[.pointer (X ⟨b,0,D⟩)] w λe w'=>e= .returned (.string ⟨l.toArray⟩)/\N6 g (Z l) w w')
  (l:ay) (L:l≠[]) (p:aa):aA P f [.ref 0 0] [.cells T [p,.slice 1 (l.map ub) (.own 1 0)],.tail 0 1 e] (.ret (.str l)) [.dead,.dead]:=by
 intro M ob w s hm Am;obtain⟨hl,Am⟩:=Am
 match s,hl with
 | [v],_=>
 obtain⟨b,rfl,F⟩:=(Am 0 _ _ rfl rfl).ref_inv;obtain⟨hs,e1,At,rfl,hno,cv,R,An,h1,A⟩:=hm.obj 0 _ rfl;have N:At=b:=by rw[cN e1]at F;simpa using F
 subst N
 match cv,An with
 | [u,t],_=>
 have R:w.heap[At]? =X (.cells #[u,t] T (0,0)):=R;have Be:=A 1 t _ rfl rfl;obtain⟨Be,i⟩:=Be.untok;have i:at' ob 1 0=X t:=i;obtain⟨S,W,k2,v1,k3,n,cw,k4,k5⟩:=hm.obj 1 _ rfl;have hv1:v1=t:=by rw[cN W,k3]at i;simpa using i
 subst hv1;have hn:n=Z (l.map ub):=D7 Be k4;have B:Z (l.map ub)=Z l:=by simp
 have K:=Be.slice_inv;obtain⟨_,_,_,_,_,q⟩:=K;rw[B]at q hn;have hpos:0<Z l:=Dd.2 L;subst hn;have k4':=k4;obtain⟨hcwl,Q⟩:=k4;rcases Q with⟨rfl,hz⟩|⟨g,cap,m,rfl,_,hg,I,hcm,hcs,J⟩
 .omega
 have d:∀(j:Nat) x,l[j]? =X x->w.cell? ⟨g,j,D⟩=X (.int .u8 x.toNat):=λj x Y=>by
  rcases Be.sl_inv with⟨h1,_⟩|⟨_,_,_,h1⟩|⟨b2,o2,cap2,h1,_,_,_,h⟩
  .cases h1
  .exact bv (List.map_eq_nil_iff.1 h1) L
  .simp only[Value.slice.injEq,Option.some.injEq,Addr.mk.injEq]at h1;obtain⟨⟨rfl,rfl,_⟩,_,_⟩:=h1;have hM:=h j 0 (ub x) (ub x) (by simp[Y]) rfl;obtain⟨u',G,_,hr'⟩:=hm.imm _ _ _ hM;rw[show 0+j*1+0=j from by omega]at G;rw[G];have:=hr'.int_inv;rw[this.1]
 refine .inl ⟨hbo _ _,(hc At g cap u m l w R hg L I hcm o_ d).mono ?_⟩;rintro e w' ⟨rfl,As,y,C,a⟩;have r:∀b o,w'.cell? ⟨b,o,D⟩=w.cell? ⟨b,o,D⟩:=λb o=>by
  have:w'.cell? ⟨b,o,D⟩=(w.freeze ⟨g,0,D⟩ (Z l)).cell? ⟨b,o,D⟩:=by unfold Kz;rw[a]
  rw[this,aIC]
 have dead:∀(k b:Nat),¬ aM ob [.dead,.dead] k b:=λk b ⟨c,hs,h1,H,_⟩=>by
  match k with
  | 0=>simp at h1;subst h1;cases H
  | 1=>simp at h1;subst h1;cases H
  | k+2=>simp at h1
 refine⟨M,ob,?_,?_,.str l q⟩
 .refine ⟨λ_ _ _ h=>h,λ_ _ _ h=>.inl h,dR.refl _,As,y,C,by rw[a,aIB];omega,λk z V=>?_,λk b h=>bv h (dead k b)⟩;rw[a,M7];intro e;subst e;refine V 1 ⟨_,S,rfl,rfl,W,?_⟩;rw[fH k2 k3];exact fF.2 rfl
 .refine ⟨λb o x Y=>?_,hm.len,λk c z=>?_,λk b h=>bv h (dead k b),λk _ b h=>bv h (dead k b)⟩
  .obtain ⟨v,h1,H,h3⟩:=hm.imm b o x Y;exact⟨v,by rw[r];exact h1,H,h3⟩
  .match k with
   | 0=>simp at z;subst z;exact⟨_,e1,trivial⟩
   | 1=>simp at z;subst z;exact⟨_,W,trivial⟩
   | k+2=>simp at z
def UQ(k:IntKind):∃p,aX k+1=2 ^ p/\p<=k.bits:=by
 cases k
 .exact ⟨7,by decide,by decide⟩
 .exact ⟨15,by decide,by decide⟩
 .exact ⟨31,by decide,by decide⟩
 .exact ⟨63,by decide,by decide⟩
 .exact ⟨8,by decide,by decide⟩
 .exact ⟨16,by decide,by decide⟩
 .exact ⟨32,by decide,by decide⟩
 .exact ⟨64,by decide,by decide⟩
def aMt(k:IntKind):bS k<=0:=by cases k<;>decide
theorem lS{k:IntKind}{a:Nat}(h:(a:Int)<=aX k):inR k a:=⟨Int.le_trans (aMt k) (Int.natCast_nonneg a),h⟩
def xC(n a:Nat)(h:a<2 ^ n):(BitVec.ofInt n (a:Int)).toNat=a:=by grind
def P2{k:IntKind}{a p:Nat}(hp:aX k+1=2 ^ p)(h:(a:Int)<=aX k):a<2 ^ p:=by grind
theorem aH3{k:IntKind}{a p:Nat}(hp:aX k+1=2 ^ p)(h:a<2 ^ p):(a:Int)<=aX k:=by grind
def oP(k:IntKind)(a b:Nat)(d:(a:Int)<=aX k)(e:(b:Int)<=aX k):dL .or k a b=((a ||| b:Nat):Int):=by
 obtain⟨p,hp,c⟩:=UQ k;have h1:=P2 hp d;have g:=P2 hp e;have f:2 ^ p<=2 ^ k.bits:=Ep d_ c;simp only[dL,BitVec.toNat_or,xC k.bits a o_,xC k.bits b o_]
 grind[lW,lS,aH3,Nat.or_lt_two_pow]
def xO(k:IntKind)(a b:Nat)(d:(a:Int)<=aX k)(e:(b:Int)<=aX k):dL .and k a b=((a &&& b:Nat):Int):=by
 obtain⟨p,hp,c⟩:=UQ k;have h1:=P2 hp d;have g:=P2 hp e;have f:2 ^ p<=2 ^ k.bits:=Ep d_ c;simp only[dL,BitVec.toNat_and,xC k.bits a o_,xC k.bits b o_]
 grind[lW,lS,aH3,Nat.and_lt_two_pow]
def YV{a b i:Nat}(h:a<2 ^ i):a ||| (b*2 ^ i)=a+b*2 ^ i:=by grind[Nat.two_pow_add_eq_or_of_lt,Nat.mul_comm,Mm]
def aOi(a p:Nat):a &&& (2 ^ p-1)=a % 2 ^ p:=Nat.and_two_pow_sub_one_eq_mod a p
def N8(n:Nat):IntKind.u8.wrap (n:Int)=((n % 256:Nat):Int):=by rfl
set_option maxRecDepth 8000 in
def aQe:∀m:Fin 256,m.val ||| 128=128+m.val % 128:=by decide
def AP{m:Nat}(h:m<256):ub (UInt8.ofNat m)= .int .u8 m:=by simp only[ub];simp;omega
def VY(n0:Nat)(ks:a6)(og:Nat->ab):au->au
 | []=>[]
 | (i,v)::r=>(i,cvtV n0 ks og 5 v)::VY n0 ks og r
def C7(n0:Nat)(ks:a6)(og:Nat->ab)(t:Nat):∀(fr:au),bA (VY n0 ks og fr) t=cvtV n0 ks og 5 (bA fr t)
 | []=>rfl
 | (i,v)::r=>by
  simp only[VY,bA];cases Av i t with
  | true=>rfl
  | false=>exact C7 n0 ks og t r
def To.part{E:Env}{fn:Func}{g:Goal}{st:bg}{fr:au}{ac:aw}(l:a6)(ks:a6)(n:E.df=[])(r:kO ks ac=O)(u:kK g.n0 0 ks=O)
  (h:To E fn g (.head st (VY g.n0 ks (aE ac) (nY l fr)) (iC g.n0 ks ac))) (f:g.strict=true:=by rfl):To E fn g (.head st fr ac):=
 .mk λp M0 ob0 aq w0 a w hst hs=>by
  refine h.rec λh=>h p M0 ob0 aq w0 a w hst ?_;obtain⟨M,ob,c,hm,o,Be,x,H⟩:=hs;obtain⟨y,F,_⟩:=hm.cvt (n0:=g.n0) r;have s:Z ob0=g.n0:=hst.1;have v:Z (iC g.n0 ks ac)=Z ks:=by unfold iC;rw[qP]
  have C:Z ob0<=Z ks:=by
   rw[s];rcases Hj g.n0 with B|B
   .omega
   .have:=nF u (g.n0-1) o_;have:=(Ad.1 this).1;omega
  refine⟨M,_,⟨c.imm,c.new,λj hs q=>?_,c.os,c.tape,c.output,c.size,c.keep,λj b z=>?_⟩,y,λt=>?_,Be,?_,by omega⟩
  .have m:j<g.n0:=by rw[<-s];exact(Ad.1 q).1
   have d:=nF u j m;rw[Bv]at d;obtain⟨hs',A,t,I⟩:=c.hs j hs q;have G:=hst.2 f hs (Ax q);refine⟨kF g.n0 j (aE ac j) hs',?_,?_⟩
   .rw [iV,d];simp[A]
   .unfold kF
    grind[Bl]
  .obtain ⟨k,_,i⟩:=F j b z;exact c.fresh k b i
  .rw [C7];have:Rep M ob (a.tmps.getD t undef) (bA (nY l fr) t):=by
    rcases tD fr t l with e|e
    .rw [e];exact o t
    .rw [e];exact .undef _
   exact hm.cvtV (n0:=g.n0) r 5 _ _ this
  .rw [n]at x⊢;exact x.bare
def R9:az->Nat->aa->az
 | [],_,_=>[]
 | _::r,0,x=>x::r
 | c::r,n+1,x=>c::R9 r n x
def OW:∀(l:az) (n:Nat) (x:aa),R9 l n x=l.set n x
 | [],_,_=>rfl
 | _::_,0,_=>rfl
 | c::r,n+1,x=>by simp[R9,OW r n x]
def mN:aw->ab->aw
 | [],x=>[x]
 | c::r,x=>c::mN r x
def qS:∀(l:aw) (x:ab),mN l x=l++[x]
 | [],_=>rfl
 | c::r,x=>by simp[mN,qS r x]
def Mem.beginC{M:Imm}{ob:Hs}{ac:aw}{w:World}(hm:Mem M ob ac w){k i sz:Nat}{T e:TypeId}{cs:az}(t:ac[k]? =X (.cells T cs))(J:cs[i]? =X (.slice sz [] .nil)):
  Mem M (ob++[[.slice D 0 0]]) (ac.set k (.cells T (cs.set i (.slice sz [] (.own (Z ac) 0))))++[.tail 0 sz e]) w/\
   Ext M ob ac w M (ob++[[.slice D 0 0]]) (ac.set k (.cells T (cs.set i (.slice sz [] (.own (Z ac) 0))))++[.tail 0 sz e]) w/\dR ob (ob++[[.slice D 0 0]]):=by
 have g:dR ob (ob++[[.slice D 0 0]]):=λj hs Be=>⟨hs,by grind[Ai,Ad],Ct _⟩
 have z:k<Z ac:=(Ad.1 t).1;have d:(ob++[[.slice D 0 0]])[Z ac]? =X [.slice D 0 0]:=by rw[<-hm.len];simp
 have C:at' (ob++[[.slice D 0 0]]) (Z ac) 0=X (.slice D 0 0):=by rw[cN d];rfl
 have l:∀{j:Nat} {c:ab},(ac.set k (.cells T (cs.set i (.slice sz [] (.own (Z ac) 0))))++[.tail 0 sz e])[j]? =X c->
   (j=Z ac/\c= .tail 0 sz e)\/(j=k/\c= .cells T (cs.set i (.slice sz [] (.own (Z ac) 0))))\/(j≠k/\j<Z ac/\ac[j]? =X c):=λ{j c} Be=>by
  grind
 have r:∀{j b:Nat},aM (ob++[[.slice D 0 0]]) (ac.set k (.cells T (cs.set i (.slice sz [] (.own (Z ac) 0))))++[.tail 0 sz e]) j b->aM ob ac j b:=λ{j b} ⟨c,hs,y,q,e3,e4⟩=>by
  rcases l y with⟨rfl,rfl⟩|⟨rfl,rfl⟩|⟨h1,p,h3⟩
  .rw [d]at e3;cases e3;cases e4
  .rw [Ai (by rw[hm.len];exact z)]at e3;exact⟨_,hs,t,rfl,e3,e4⟩
  .rw [Ai (by rw[hm.len];exact p)]at e3;exact⟨c,hs,h3,q,e3,e4⟩
 have F:∀(j:Nat) c,(ac.set k (.cells T (cs.set i (.slice sz [] (.own (Z ac) 0))))++[.tail 0 sz e])[j]? =X c->∃hs,(ob++[[.slice D 0 0]])[j]? =X hs/\iY M (ob++[[.slice D 0 0]]) w hs c:=λj c Be=>by
  rcases l Be with⟨rfl,rfl⟩|⟨rfl,rfl⟩|⟨h1,p,h3⟩
  .exact ⟨_,d,rfl,_,rfl,0,[],Hv w 0 _ _,λb L=>by cases L⟩
  .obtain ⟨hs,y,b,x,G,cv,s,H,A,m⟩:=hm.obj _ _ t;refine⟨hs,by grind[Ai],b,x,G,cv,s,by simp;omega,A,λn v a o f=>?_⟩;by_cases I:n=i
   .subst I;have u:n<Z cs:=(Ad.1 J).1;rw[Ba u]at f;cases f;have:=m n v _ o J;obtain⟨_,B⟩:=this.untok;have B:v= .slice D 0 0:=B;subst B;exact .slnil _ _ C
   .rw [Bg (Ne.symm I)]at f;exact(m n v a o f).mono (λ_ _ _ h=>h) g
  .obtain ⟨hs,y,q⟩:=hm.obj j c h3;refine⟨hs,by grind[Ai],?_⟩;cases c with
   | cells N cs'=>
    obtain⟨b,x,G,cv,s,H,A,m⟩:=q;exact⟨b,x,G,cv,s,H,A,λn v a o f=>(m n v a o f).mono (λ_ _ _ h=>h) g⟩
   | _=>exact q
 refine⟨⟨hm.imm,by simp[hm.len],F,λj b f=>hm.lt j b (r f),λj K b h1 p=>hm.inj j K b (r h1) (r p)⟩,⟨λ_ _ _ h=>h,λ_ _ _ h=>.inl h,g,rfl,rfl,rfl,Bc _,λ_ _ _=>rfl,λj b f=>.inl ⟨j,r f⟩⟩,g⟩
def To.begin{E:Env}{fn:Func}{g:Goal}{st:bg}{fr:au}{ac:aw}(k i:Nat)(e:TypeId){T:TypeId}{cs:az}{sz:Nat}(l:aE ac k= .cells T cs)(n:nth cs i=X (.slice sz [] .nil))
  (h:To E fn g (.head st fr (mN (bU ac k (.cells T (R9 cs i (.slice sz [] (.own (aV ac) 0))))) (.tail 0 sz e)))):To E fn g (.head st fr ac):=
 .mk λd M0 ob0 aq w0 a w hst hs=>by refine h.rec λh=>h d M0 ob0 aq w0 a w hst ?_;obtain⟨M,ob,q,hm,c,o,p,r⟩:=hs;have b:=bO l s_;obtain⟨j,m,f⟩:=hm.beginC (e:=e) b (gZ n);rw[qS,OW,cC,aW b];exact⟨M,_,q.trans m,j,λt=>(c t).mono (λ_ _ _ h=>h) f,o,p.mono (λ_ _ _ h=>h) f,by simp;omega⟩
def mapO(f:aa->aa):ab->ab
 | .cells T cs=>.cells T (eZ f cs)
 | x=>x
def yI(f:aa->aa):aw->aw
 | []=>[]
 | x::r=>mapO f x::yI f r
def H6(f:aa->aa):∀(l:aw),yI f l=l.map (mapO f)
 | []=>rfl
 | x::r=>by simp[yI,H6 f r]
def aA.mapO{P:Program}{f:FuncId}{args:az}{ac ap:aw}{r:Res}(g:aa->aa)(F:∀(M:Imm) (ob:Hs) v a,Rep M ob v a->Rep M ob v (g a))(h:aA P f args ac r ap):aA P f args ac r (yI g ap):=by
 rw[H6];intro M ob w l hm y;have key:∀{e:Ending} {w':World},(∃M' ob',Ext M ob ac w M' ob' ap w'/\Mem M' ob' ap w'/\wJ M' ob' e r)->∃M' ob',Ext M ob ac w M' ob' (ap.map (AW.mapO g)) w'/\Mem M' ob' (ap.map (AW.mapO g)) w'/\wJ M' ob' e r:=by
  rintro e w' ⟨M',ob',h1,d,h3⟩;have own:∀x:ab,(AW.mapO g x).owns=x.owns:=λx=>by cases x<;>rfl
  have p:∀{k b:Nat},aM ob' (ap.map (AW.mapO g)) k b->aM ob' ap k b:=λ{k b} ⟨c,hs,n,s,e3,e4⟩=>by
   rw[Cd]at n;cases o:ap[k]? with
   | none=>simp_all
   | some x=>
    rw[o]at n;cases n;exact⟨x,hs,o,by grind,e3,e4⟩
  refine⟨M',ob',⟨h1.imm,h1.new,h1.hs,h1.os,h1.tape,h1.output,h1.size,h1.keep,λk b m=>h1.fresh k b (p m)⟩,⟨d.imm,by simpa using d.len,λk c q=>?_,λk b m=>d.lt k b (p m),λi j b m A=>d.inj i j b (p m) (p A)⟩,h3⟩;rw[Cd]at q;cases o:ap[k]? with
  | none=>grind
  | some x=>
   rw[o]at q;cases q;obtain⟨hs,n,s⟩:=d.obj k x o;refine⟨hs,n,?_⟩;cases x with
   | cells T cs=>
    obtain⟨b,z,C,cv,t,Be,B,G⟩:=s;refine⟨b,z,C,cv,t,by rw[BF];simp;omega,B,λi v a H m=>?_⟩
    grind[BF]
   | _=>exact s
 rcases h M ob w l hm y with⟨h1,d⟩|⟨u,w',h1,d⟩
 .exact .inl ⟨h1,d.mono λe w' h=>key h⟩
 .exact .inr ⟨u,w',h1,key d⟩
def aA.blur{P:Program}{f:FuncId}{args:az}{ac ap:aw}{r:Res}(h:aA P f args ac r ap):aA P f args ac r (yI (λ_=>.undef) ap):=
 h.mapO _ λ_ _ _ _ _=>.undef _
def aA.loose{P:Program}{f:FuncId}{args:az}{ac ap:aw}{r:Res}(h:aA P f args ac r ap):aA P f args ac r (yI (AW.strip 5) ap):=
 h.mapO _ λ_ _ _ _=>nI 5
def zJ(l:a6)(og:Nat->ab):au->au
 | []=>[]
 | (i,v)::r=>(i,bif xX i l then ai og 5 v else v)::zJ l og r
def M3(l:a6)(og:Nat->ab)(t:Nat):∀(fr:au),bA (zJ l og fr) t=bA fr t\/bA (zJ l og fr) t=ai og 5 (bA fr t)
 | []=>.inl rfl
 | (i,v)::r=>by
  simp only[zJ,bA];cases Av i t with
  | true=>
   grind
  | false=>exact M3 l og t r
def To.frz{E:Env}{fn:Func}{g:Goal}{st:bg}{fr:au}{ac:aw}(l c:a6)
  (h:To E fn g (.code st (zJ l (aE (AW.ak c ac)) fr) (AW.ak c ac))):To E fn g (.code st fr ac):=
 .mk λf M0 ob0 aq w0 a w hst hs=>by
  refine h.rec λh=>h f M0 ob0 aq w0 a w hst ?_;obtain⟨M,ob,m,hm,b,j,k,n⟩:=hs;obtain⟨M',i,d,_,o⟩:=Mem.frzs c M ac hm;refine⟨M',ob,m.trans d,i,λt=>?_,j,k.mono d.imm (dR.refl _),by omega⟩;rcases M3 l (aE (AW.ak c ac)) t fr with e|e
  .rw [e];exact(b t).monoM d.imm
  .rw [e];exact(i.pureV 5 _ _ ((b t).monoM d.imm)).pure
structure Bulk(H:Type)(N:Nat)(G:DataW H->Prop):Prop where
 str:∀(l:ay),G (.lit (.string l))->Z l<=N
 sl:∀(e r:List (DataW H)),G (.slice e r)->Z e<=N/\∀d∈e,G d
 agg:∀(l:List (DataW H)),G (.agg l)->∀d∈l,G d
def TyN(P:Program)(N:Nat):Nat->TypeId->az->Prop
 | 0,_,_=>False
 | n+1,t,cs=>match P.underlying t with
  | some .bool=>∃b,cs=[.bool b]
  | some (.int k)=>∃m,cs=[.int k m]/\inR k m
  | some .string=>∃l,cs=[.str l]/\Z l<=N
  | some (.struct fs)=>TyF (TyN P N n) fs.toList cs
  | some (.array m e)=>∃xs:List az,Z xs=m/\(∀x∈xs,TyN P N n e x)/\cs=xs.flatten
  | some (.slice e)=>∃xs,cs=[.slice (P.cellsOf e) xs .no]/\Z xs<=N/\∀x∈xs,TyN P N n e x.cells/\(aP P e=O->∃l,x= .agg l)/\(aP P e=U->x.cells=[x])
  | _=>False
section
variable {H:Type} {N:Nat} {G:DataW H->Prop} {enc:TypeId×Value->H} {P:Program} {w:World} {base:Nat} {spare:Nat->Bool} {held:Bool}
def TyN.pack{n:Nat}{t:TypeId}{as:az}(h:TyN P N n t as):∃x:aa,x.cells=as/\(aP P t=O->∃l,x= .agg l)/\(aP P t=U->x.cells=[x]):=by
 cases n with
 | zero=>exact h.elim
 | succ n=>
  unfold TyN at h;cases a:aP P t with
  | true=>exact⟨.agg as,rfl,(λ_=>⟨_,rfl⟩),λh=>by cases h⟩
  | false=>
   unfold aP at a;split at h
   .obtain ⟨b,rfl⟩:=h;exact⟨.bool b,rfl,(λh=>by cases h),λ_=>rfl⟩
   .rename_i k _;obtain⟨m,rfl,_⟩:=h;exact⟨.int k m,rfl,(λh=>by cases h),λ_=>rfl⟩
   .obtain ⟨l,rfl,_⟩:=h;exact⟨.str l,rfl,(λh=>by cases h),λ_=>rfl⟩
   .grind
   .grind
   .rename_i e _;obtain⟨xs,rfl,_⟩:=h;exact⟨.slice (P.cellsOf e) xs .no,rfl,(λh=>by cases h),λ_=>rfl⟩
   grind
end
open Go.RowKit Go.Sort
def TH(d:ax)(a:Array Value)(h:Z d<=a.size):
  putCells (Eu .i64) 0 d.toArray a=((a.toList.take 0++d.map (Eu .i64))++a.toList.drop (0+Z (d.map (Eu .i64)))).toArray:=by
 apply Array.ext_getElem?;intro k;simp only[putCells,Array.getElem?_mapIdx,List.take_zero,List.nil_append,List.getElem?_toArray,Bv,Bw,Gr,Bq,true_and,Jz]
 grind[Au,Bw]
def TF{w:World}{b k:Nat}{d:ax}{a:Array Value}{e:TypeId}{g:Nat×Nat}{n:Nat}{os:Array Obj}(f:w.heap[b]? =X (.cells a e g))(h:Z d<=a.size)(i:k<w.heap.size):
  (grow (putRow (Eu .i64) (Sort.ahead w n) b 0 d.toArray) os).heap[k]? =(w.setRow b ((a.toList.take 0++d.map (Eu .i64))++a.toList.drop (0+Z (d.map (Eu .i64)))).toArray).heap[k]?:=by
 unfold grow putRow mapBlock World.setRow Sort.ahead;dsimp only;rw[Hk (by grind)];simp only[Array.getElem?_modify];by_cases c:b=k
 .subst c;rw[bu rfl,bu rfl,f];simp only[Option.map_some,onCells,TH d a h]
 grind
def KL{P:Program}{f:FuncId}(R:qO P f)
  (B:∀(p:Option Addr) (cap:Nat) (w:World),Calls P f #[.slice p 0 cap] w λe w'=>e= .returned (.tuple #[])/\w'=w)
  (hs:∀(blk off cap:Nat) (T:ax) (w:World),Holds (Eu .i64) w blk off T.toArray->blk<w.heap.size->Z T<4611686018427387904->Calls P f #[.slice (X ⟨blk,off,D⟩) (Z T) cap] w λe w'=>
   e= .returned (.tuple #[])/\∃n os,w'=grow (putRow (Eu .i64) (Sort.ahead w n) blk off (T.mergeSort λx y=>decide (x<=y)).toArray) os)
  (e:TypeId) (l:ax) (hl:Z l<=1000000000):aA P f [.row 0 0] [.row 0 1 e (l.map (aa.int .i64))] (.ret (.tup [])) [.row 0 1 e ((l.mergeSort λx y=>decide (x<=y)).map (aa.int .i64))]:=by
 intro M ob w C hm Be;obtain⟨Am,Be⟩:=Be
 match C,Am with
 | [v],_=>
 obtain⟨a,n,c,rfl,hat⟩:=(Be 0 _ _ rfl rfl).row_inv;obtain⟨hs0,v0,e1,e2,e3,e4,A,hblk⟩:=hm.rowOf (k:=0) rfl;rw[hat]at e4;cases e4;have F:=A;obtain⟨cv,g,h1,hz,hc,hno,hone⟩:=A;have K:Z (l.map (aa.int .i64))=Z l:=by simp
 have H:∀{M':Imm} {ob':Hs},Rep M' ob' (.tuple #[]) (.tup []):=.tup [] [] rfl (λi v a hv=>by simp at hv);by_cases h0:l=[]
 .subst h0;have An:n=0:=by grind[eM]
  subst An;refine .inl ⟨R _ _,(B a c w).mono ?_⟩;rintro e' w' ⟨rfl,rfl⟩;have e0:(([]:ax).mergeSort λx y=>decide (x<=y))=[]:=by simp
  rw[e0];exact⟨M,ob,Ext.refl _ _ _ _,hm,H⟩
 .have hpos:0<Z l:=Dd.2 h0;have hcw:∀q,q<Z l->∃u,cv[q]? =X u/\u= .int .i64 (l[q]!):=λq V=>by obtain⟨u,z,Be⟩:=hc q (.int .i64 l[q]) (by unfold aQ;simp[V,aa.cells,Ir,Lt]);refine⟨u,z,?_⟩;rw[Be.int_inv.1];simp[V]
  obtain⟨hcl,Y⟩:=g;rcases Y with⟨q1,q2⟩|⟨b,cap,d,q1,_,As,q4,q5,q6,q7⟩
  .omega
  cases q1
  have g:w.ownsRow 0 e 1 (.slice (X ⟨b,0,D⟩) (Z (l.map (aa.int .i64))) c) (Z (l.map (aa.int .i64))) cv:=⟨hcl,.inr ⟨b,c,d,rfl,Bq _,As,q4,q5,q6,q7⟩⟩
  have N:b<w.heap.size:=gO As;have hH:Holds (Eu .i64) w b 0 l.toArray:=λj G=>by have G:j<Z l:=o_;obtain⟨u,z,rfl⟩:=hcw j G;refine⟨?_,by simp[Md,As]⟩;rw[Bv,gG g rfl z];simp[G]
  have hsl:Z (l.mergeSort λx y=>decide (x<=y))=Z l:=List.length_mergeSort l;rw[K];refine .inl ⟨R _ _,(hs b 0 c l w hH N o_).mono ?_⟩;rintro e' w' ⟨rfl,k,os,rfl⟩;generalize hS:(l.mergeSort λx y=>decide (x<=y))=S at hsl⊢;have L:∀x∈S,inR .i64 x:=λx s=>by
   have:x∈l:=by grind[List.mergeSort_perm]
   obtain⟨i,hi⟩:=Ck this;have J:=(Ad.1 hi).1;obtain⟨u,z,Be⟩:=hc i (.int .i64 x) (by unfold aQ;simp[hi,aa.cells,Ir,Lt]);exact Be.int_inv.2
  have hw:=F.write (p:=0) (news:=S.map (Eu .i64)) (xs':=S.map (aa.int .i64)) rfl o_ (by simp[hsl]) (λu z=>by
    obtain⟨x,_,rfl⟩:=Cq.1 z
    rfl) (by simp[hsl]) (λx s=>by
    obtain⟨y,_,rfl⟩:=Cq.1 s
    rfl) (λq c' V=>.inl (by
    obtain⟨x,s,I⟩:=hD V;rw[Ir]at s;rw[Lt]at I;rw[Cd]at s;cases r:S[q]? with
    | none=>rw[r]at s;cases s
    | some y=>
     rw[r]at s;cases s;cases I;have J:=(Ad.1 r).1
     exact⟨Bq _,by simp;omega,.int .i64 y,by simp[r],.int _ _ (L y (Ax r))⟩))
  obtain⟨cur',c1,c2,c3⟩:=hw;rw[As]at c1;cases c1;have Q:Z S<=d.size:=o_;have t:=hm.rowTurn (k:=0) (hs':=hs0) rfl e1 e3 (Ct _) e2 e3 c3 (λAt _ An=>setRow_other w b At _ (λe=>An (by simp[Gn,e]))) rfl rfl rfl s_ (λAt W=>.inl W);rw[gR e1]at t;obtain⟨t1,t2,_⟩:=t;have hsz:(w.setRow b ((d.toList.take 0++S.map (Eu .i64))++d.toList.drop (0+Z (S.map (Eu .i64)))).toArray).heap.size=w.heap.size:=by simp
  have heq:∀j,j<w.heap.size->(grow (putRow (Eu .i64) (Sort.ahead w k) b 0 S.toArray) os).heap[j]? =(w.setRow b ((d.toList.take 0++S.map (Eu .i64))++d.toList.drop (0+Z (S.map (Eu .i64)))).toArray).heap[j]?:=
   λj G=>TF As Q G
  have m:=t1.more (M':=M) (w':=grow (putRow (Eu .i64) (Sort.ahead w k) b 0 S.toArray) os) (λ_ _ _ h=>h) (λ_ _ _ h=>.inl h) (λAt o y hy=>by
    obtain⟨u,z,r1,r2⟩:=t1.imm At o y hy;have J:=Cx _ _ z
    grind[Cw]) (λj G=>heq j o_) rfl rfl rfl s_
  exact⟨M,ob,t2.trans m.2,m.1,H⟩
def aD1(g:aa->aa)(x:ab):(mapO g x).owns=x.owns:=by cases x<;>rfl
def xU{g:aa->aa}{ob:Hs}{ac:aw}{k b:Nat}(h:aM ob (ac.map (mapO g)) k b):aM ob ac k b:=by
 obtain⟨c,hs,a,i,f,e⟩:=h;rw[Cd]at a;cases d:ac[k]? with
 | none=>simp_all
 | some x=>
  rw[d]at a;cases a;exact⟨x,hs,d,by rw[<-aD1 g];exact i,f,e⟩
def Mem.mapO{M:Imm}{ob:Hs}{ac:aw}{w:World}{g:aa->aa}(t:∀(M:Imm) (ob:Hs) v a,Rep M ob v a->Rep M ob v (g a))(d:Mem M ob ac w):Mem M ob (ac.map (AW.mapO g)) w:=by
 refine⟨d.imm,by simpa using d.len,λk c f=>?_,λk b e=>d.lt k b (xU e),λi j b e o=>d.inj i j b (xU e) (xU o)⟩;rw[Cd]at f;cases l:ac[k]? with
 | none=>grind
 | some x=>
  rw[l]at f;cases f;obtain⟨hs,p,h⟩:=d.obj k x l;refine⟨hs,p,?_⟩;cases x with
  | cells T cs=>
   obtain⟨b,n,r,cv,m,s,q,u⟩:=h;refine⟨b,n,r,cv,m,by rw[BF];simp;omega,q,λi v a y e=>?_⟩
   grind[BF]
  | _=>exact h
def Ext.mapO{M M':Imm}{ob ob':Hs}{aq ac:aw}{w w':World}{g:aa->aa}(h1:Ext M ob aq w M' ob' ac w'):Ext M ob aq w M' ob' (ac.map (AW.mapO g)) w':=
 ⟨h1.imm,h1.new,h1.hs,h1.os,h1.tape,h1.output,h1.size,h1.keep,λk b a=>h1.fresh k b (xU a)⟩
def To.mapO{E:Env}{fn:Func}{g:Goal}{st:bg}{fr:au}{ac:aw}(f:aa->aa)(d:∀(M:Imm) (ob:Hs) v a,Rep M ob v a->Rep M ob v (f a))
  (h:To E fn g (.code st fr (yI f ac))):To E fn g (.code st fr ac):=
 .mk λc M0 ob0 aq w0 a w hst hs=>by rw[H6]at h;refine h.rec λh=>h c M0 ob0 aq w0 a w hst ?_;obtain⟨M,ob,j,hm,b,e,i,k⟩:=hs;exact⟨M,ob,j.mapO,hm.mapO d,b,e,i,by simp_all⟩
def To.loose{E:Env}{fn:Func}{g:Goal}{st:bg}{fr:au}{ac:aw}(h:To E fn g (.code st fr (yI (strip 5) ac))):To E fn g (.code st fr ac):=
 h.mapO _ λ_ _ _ _=>nI 5
end Go.AW
