/- Part 3 of what the statement rests on. -/
import Derived.Defers
import Derived.RangeFuncRecord
import Derived.ChangeKeysEq
import Derived.Lib.Overlaps
import Derived.WalkKit
import Derived.ProofKit
import Derived.OpenShut
import Derived.Recover
import Derived.Sort.Grow
import Derived.Test.YtidhfoefaomodaaGreatDoorMWB
set_option linter.all false
open Array renaming getD_eq_getD_getElem?->Bo,getElem?_append_left->Hi,getElem?_eq_getElem->Hk,getElem?_eq_some_iff->Fi,getElem?_modify->Fw,getElem?_setIfInBounds_ne->Ff,getElem?_setIfInBounds_self_of_lt->Fb,replicate->Gh,toList_map->Kc
open Bool renaming and_assoc->Dd,and_eq_true->Af,and_true->Em,false_eq_true->Cr,not_eq_true'->Df,or_eq_true->Fl
open Go.Instr renaming checkKey->Ia
open Go.Region renaming binds->Jv,wanted->Fo
open Go.Result renaming andThen->Ep,andThen_ok->Au
open Go.Sem renaming run_bind->Bk,run_pure->Ci
open Go.Value renaming bool->Ni,int->Ej,ownBlock->Gt
open Go.World renaming block_lt_of_cell?->Cz,cell?->Kt,cell?_of_block->Cy,freeze->Mn,frozen?->Lx,ownsRow_nil->Hp,putObj_heap_other->Gx,shape?->Jo
open Int renaming le_trans->Ds
open List renaming all_eq_true->Cb,append_nil->Ar,drop_drop->Hv,drop_eq_getElem_cons->Aa,eq_nil_of_length_eq_zero->Bc,ext_getElem?->Ek,getD_eq_getElem?_getD->Fk,getElem?_append_left->Ah,getElem?_append_right->Al,getElem?_drop->Ca,getElem?_eq_getElem->Ac,getElem?_eq_none->Bm,getElem?_eq_some_iff->Ad,getElem?_map->Bi,getElem?_of_mem->Da,getElem?_replicate->Fe,getElem?_set_ne->Bf,getElem?_set_self->Ay,getElem?_take_of_lt->Bn,getElem?_toArray->Jz,getElem_mem->Ax,length_append->Ai,length_map->Cm,length_mergeSort->Mx,length_pos_iff->Eg,length_singleton->Mz,map_cons->Bj,map_drop->Jd,map_map->Ef,map_take->Gq,mem_append->Bd,mem_cons->Aw,mem_map->Ce,mem_map_of_mem->Cq,mem_of_getElem?->Az,mem_singleton->Dp,mergeSort_perm->Lg,nil_append->Bp,prefix_refl->Cw,range'->Iu,range'_succ->Mb,range_eq_range'->Iv,replicate->Aj,size_toArray->Gv,take_append_drop->Bv,take_append_of_le_length->Dm,take_of_length_le->Cn,take_zero->Ix
open Nat renaming add_comm->Mh,add_mul->Cg,add_zero->Fx,and_two_pow_sub_one_eq_mod->Ka,beq->Ba,ble->Gd,blt->Fp,blt_eq->Kb,div_one->Iw,eq_zero_or_pos->Fz,le_of_ble_eq_true->Cu,le_refl->Bh,le_trans->Dh,lor->Nl,mod_one->Ji,mul_comm->Dn,mul_le_mul_right->Cc,one_mul->Hb,pow_le_pow_right->Fg,strongRecOn->Ih,sub_self->Mo,sub_zero->Iz,testBit_two_pow->Lf,two_pow_add_eq_or_of_lt->Iq,zero_add->Bx,zero_le->Ch
open Ne renaming symm->Fa
open Option renaming getD_some->Kd,isSome_iff_exists->Dl,map_some->Ms
open Option.some renaming injEq->Dy
open Prod renaming fst->Mc
open UInt8 renaming ofNat->Dj
namespace Go.AW
open Go.RowKit
open Classical
section
variable {P:Program} {M:Imm} {ob:Hs} {L ac:au} {w:World} {a:Act}
def oN{g:Nat->aa}(e:∀ t,Rep M ob (a.tmps.getD t undef) (g t)){u:Value}{v:aa}(f:Rep M ob u v){d:Option Nat}(hd:∀ c,d=some c->c<a.tmps.size):
  ∀ t,Rep M ob ((a.put d u).tmps.getD t undef) (lW g d v t):=by
 intro t;unfold lW;cases d with
 | none=>rw [if_neg s_];exact e t
 | some d=>
  have b:=hd d rfl;by_cases h:d=t
  .subst h;simp only [if_true,Act.put];rw [Bo,Fb b];exact f
  .rw [if_neg (by grind)];simp only [Act.put];rw [Bo,Ff h,<-Bo];exact e t
def fQ(a:Act)(d:Option Nat)(u:Value):(a.put d u).tmps.size=a.tmps.size/\(a.put d u).defers=a.defers:=by cases d<;>simp [Act.put]
def IT{fr:ar}(h:∀ t,Rep M ob (a.tmps.getD t undef) (bG fr t))(x:Operand):Rep M ob (a.eval x) (ev fr x):=by
 cases x with
 | tmp t=>exact h t
 | const v=>exact wI v
 | global g=>exact .undef _
 | func f=>exact .func (.func f) [] [] [] [] rfl rfl (λ i v a h=>by simp at h) (λ i v a h=>by simp at h)
def aKC{tab:az}{all:bg}{j:Nat}{g:Nat->aa}(h:∀ t,Rep M ob (a.tmps.getD t undef) (g t))(x:Operand):Rep M ob (a.eval x) (evG tab all j g x):=by
 cases x with
 | tmp t=>
  simp only [evG];cases TG tab j t 0 all with
  | true=>exact .undef _
  | false=>exact h t
 | const v=>exact wI v
 | global g=>exact .undef _
 | func f=>exact .func (.func f) [] [] [] [] rfl rfl (λ i v a h=>by simp at h) (λ i v a h=>by simp at h)
def G(rd:Option Nat)(P:Program)(ops:Array Oper)(p:Oper)(a:Act)(w:World)(next:Act->World->Prop)(Q:Exit->Act->World->Prop):Prop:=
 if Fo p (yielded ops a.tmps) then p.wpIn (fen rd) 0 P a w next Q else next (a.put p.dst undef) w
def kH{ops:Array Oper}{p:Oper}{ρ:Operand->aa}(t:∀ x,Rep M ob (a.eval x) (ρ x)){b:Bool}
  (h:cY ops.toList ρ p.guard=some b):Fo p (yielded ops a.tmps)=b:=by
 unfold cY at h;unfold Fo;cases n:p.guard with
 | none=>simp_all
 | some r=>
  obtain ⟨j,m⟩:=r;rw [n] at h;dsimp only at h⊢;split at h
  .rename_i q s;have i:ops[j]? =some q:=by simpa using oH s
   split at h
   .rename_i d hd;have c:=t (.tmp d);have l:∀ u,a.tmps.getD d undef=u->yielded ops a.tmps j=match u with | .bool b=>some b | _=>none:=by
     intro u e;unfold yielded;rw [i];simp only [Option.bind_some,hd];rw [Bo] at e;cases k:a.tmps[d]? with
     | none=>rw [k] at e;simp at e;subst e;rfl
     | some x=>rw [k] at e;simp at e;subst e;cases x<;>rfl
    split at h
    .rename_i o g;rw [g] at c;have f:a.tmps.getD d undef= .bool o:=c.bool_inv;rw [l _ f];cases h;simp
    .rename_i g;rw [g] at c;obtain ⟨us,e,hl,_⟩:=c.tup_inv;have f:a.tmps.getD d undef= .tuple us.toArray:=e;rw [l _ f];cases h;simp
    .cases h
   .cases h
  .cases h
def CR:Rep M ob undef (.tup []):=.tup [] [] rfl λ i v a h=>by simp at h
def D6:∀ {L ac:au},aB L=aB ac->L.length<=ac.length->ac=L++Aj (ac.length-L.length) .dead:=λ{L ac} hg hl=>by
 refine Ek λ k=>?_;by_cases b:k<L.length
 .rw [Ah b,rS b,rS (show k<ac.length by omega),hg]
 .rw [Al o_,Fe];by_cases a:k<ac.length
  .rw [if_pos o_,rS a,<-hg];rcases gJ L k with ⟨h1,_⟩ | ⟨_,_,e⟩
   .omega
   .rw [e]
  simp_all
def Mem.norm(h:Mem M ob L w)(c:aB L=aB ac)(o:∀ (k:Nat),ac.length<=k->∀ hs,ob[k]? =some hs->hs=[]):
  ∃ ob',Mem M ob' ac w/\(∀ (k g:Nat) v,at' ob k g=some v->at' ob' k g=some v)/\∀ {M0:Imm} {ob0:Hs} {ap:au} {w0:World},Ext M0 ob0 ap w0 M ob L w->ob0.length<=ac.length->Ext M0 ob0 ap w0 M ob' ac w:=by
 by_cases hl:L.length<=ac.length
 .have e:=D6 c hl;obtain ⟨d,b,_⟩:=h.extend (ac.length-L.length);rw [<-e] at d b;exact ⟨_,d,λ k g v n=>b.hs.at n,λ a _=>a.trans b⟩
 .have e:=D6 c.symm o_;rw [e] at h;obtain ⟨p,j,m⟩:=h.shrink λ i hs l=>o i l hs;exact ⟨_,p,j,λ a f=>m (e▸a) f⟩
def nB{K d Kp:aa->au->Prop}(a:∀ v o,K v o->d v o):∀ {r:OR},orF P ac K Kp r->orF P ac d Kp r
 | .no,k=>k.elim
 | .val v,k=>a _ _ k
 | .mkf fn fs cs,k=>a _ _ k
 | .need p r,k=>⟨k.1,nB a k.2⟩
 | .alt p v w,k=>k.imp (λ h=>⟨h.1,a _ _ h.2⟩) (a _ _)
 | .idx n f,⟨i,hi,k⟩=>⟨i,hi,nB a k⟩
 | .elem xs i f,⟨x,hx,k⟩=>⟨x,hx,nB a k⟩
 | .byte l i,⟨c,hc,k⟩=>⟨c,hc,a _ _ k⟩
 | .text xs,⟨l,hl,hm,k⟩=>⟨l,hl,hm,a _ _ k⟩
 | .find es key f,⟨o,ho,k⟩=>⟨o,ho,nB a k⟩
 | .born x v,k=>a _ _ k
 | .upd i x v,k=>a _ _ k
 | .nilq xs neg,k=>λ b e=>a _ _ (k b e)
 | .call f args,k=>CallG.mono a k
 | .pan v,k=>k
def xA{e:au}{base:Nat}{K Kp:aa->au->Prop}(g:base=aR ac)(hs:e=ac):∀ {r:OR},orD P true true false e ac base K Kp r->orF P ac K Kp r
 | .no,k=>k.elim
 | .val v,k=>k
 | .mkf fn fs cs,k=>k
 | .need p r,k=>⟨k.1,xA g hs k.2⟩
 | .alt p v w,k=>k
 | .idx n f,⟨i,hi,k⟩=>⟨i,hi,xA g hs k⟩
 | .elem xs i f,⟨x,hx,k⟩=>⟨x,hx,xA g hs k⟩
 | .byte l i,k=>k
 | .text xs,k=>k
 | .find es key f,⟨o,ho,k⟩=>⟨o,ho,xA g hs k⟩
 | .born x v,k=>by rw [g] at k;exact k
 | .upd i x v,k=>k
 | .nilq xs neg,k=>k
 | .call f args,k=>by
  have k:CallD P f args true e base ac K Kp:=k;cases k with
  | pure r new h k=>subst g hs;exact .eff [] [] r new rfl h k
  | sole _ h=>exact h
  | look ks r o a l b c d q=>subst g hs;exact .eff [] ks r o a b (by show K (embV ks _ e 5 r) (jH ks _ e 0 o e);rw [c,d];exact q)
 | .pan v,k=>k
end
section
variable {rd:Option Nat} {M0:Imm} {ob0:Hs} {ap:au} {w0:World} {sz:Nat} {dfs:List (Nat×ay)} {E:Env} {ops:Array Oper} {Q:Exit->Act->World->Prop} {K:ar->au->Prop} {Kp:(Nat->aa)->aa->au->Prop}
def J2(M:Imm)(ob:Hs)(a:List Deferred)(dfs:List (Nat×ay)):Prop:=
 a.length=dfs.length/\∀ (i:Nat) d x,a[i]? =some d->dfs[i]? =some x->d.target= .fn (.func x.1) #[]/\cM M ob d.args.toList x.2
def J2.nil{M:Imm}{ob:Hs}:J2 M ob [] []:=⟨rfl,λ i d x h=>by simp at h⟩
def J2.nil_inv{M:Imm}{ob:Hs}{a:List Deferred}(h:J2 M ob a []):a=[]:=Bc h.1
def J2.mono{M M':Imm}{ob ob':Hs}{e:List Deferred}{dfs:List (Nat×ay)}(l:∀ b o x,M b o x->M' b o x)(f:dY ob ob')(h:J2 M ob e dfs):J2 M' ob' e dfs:=
 ⟨h.1,λ i d x hd c=>⟨(h.2 i d x hd c).1,(h.2 i d x hd c).2.1,λ j v a g k=>((h.2 i d x hd c).2.2 j v a g k).mono l f⟩⟩
def J2.monoA{M:Imm}{ob ob':Hs}{c:List Deferred}{dfs:List (Nat×ay)}(f:∀ (k g:Nat) v,at' ob k g=some v->at' ob' k g=some v)(h:J2 M ob c dfs):J2 M ob' c dfs:=
 ⟨h.1,λ i d x hd b=>⟨(h.2 i d x hd b).1,(h.2 i d x hd b).2.1,λ j v a e l=>((h.2 i d x hd b).2.2 j v a e l).monoA f⟩⟩
def Mks(w0 w:World):List Deferred->Prop
 | []=>True
 | d::ds=>(∃ b,d.target= .collected b/\w0.heap.size<=b/\w.heap[b]? =some (.deferred (some []))/\∀ a∈ds,a.target≠ .collected b)/\Mks w0 w ds
def Mks.same{w0 w w':World}:∀ {a:List Deferred},(∀ d∈a,∀ b,d.target= .collected b->w.heap[b]? =some (.deferred (some []))->w'.heap[b]? =some (.deferred (some [])))->Mks w0 w a->Mks w0 w' a
 | [],_,_=>trivial
 | d::a,hb,⟨⟨b,h1,h2,h3,h4⟩,h5⟩=>⟨⟨b,h1,h2,hb d s_ b h1 h3,h4⟩,Mks.same (λ d hd=>hb d (by simp [hd])) h5⟩
def dK(w0 w:World)(M:Imm)(ob:Hs)(c:List Deferred)(dfs:List (Nat×ay)):Prop:=∃ a b,c=a++b/\J2 M ob a dfs/\Mks w0 w b
def Mem.alive_heap{M:Imm}{ob:Hs}{ac:au}{w:World}(hm:Mem M ob ac w){k b:Nat}(r:aM ob ac k b):∃ o,w.heap[b]? =some o/\H8 o=false:=by
 obtain ⟨c,hs,l,i,q,f⟩:=r;obtain ⟨hs',j,a⟩:=hm.obj k c l;rw [q] at j;cases j;have row:∀ {v:Value} {n sz:Nat} {e:TypeId} {cv:ba},w.ownsRow 0 e sz v n cv->blk hs=v.ownBlock.toList->∃ o,w.heap[b]? =some o/\H8 o=false:=λ{v n sz e cv} ho hb=>by
  have h:=A0 hb f;rcases ho.2 with ⟨rfl,_⟩ | ⟨g,cap,s,p,_,t,_⟩
  .cases h
  .rw [p] at h;cases h;exact ⟨_,t,rfl⟩
 cases c with
 | dead=>cases i
 | fcells cs=>cases i
 | frow g sz xs=>cases i
 | cells T cs=>
  obtain ⟨m,rfl,_,cv,d,_⟩:=a;have:=eX.1 f;subst this;exact ⟨_,d,rfl⟩
 | row g sz e xs=>
  obtain ⟨h1,v,d,cv,h3,_⟩:=a;exact row h3 ((fF h1 d).trans (gE h3))
 | tail g sz e=>
  obtain ⟨h1,v,d,n,cv,h3,_⟩:=a;exact row h3 ((fF h1 d).trans (gE h3))
 | mp u es=>
  obtain ⟨m,rfl,_,x,cl,d,_⟩:=a;have:=eX.1 f;subst this;exact ⟨_,d,rfl⟩
 | bun g I=>
  obtain ⟨h1,bs,d,h3,_⟩:=a;have e:blk hs=bs:=by rw [<-FX (hs:=[fC bs]) rfl];exact fF h1 d
  rw [e] at f;exact h3 b f
def dK.nil{w0 w:World}{M:Imm}{ob:Hs}:dK w0 w M ob [] []:=⟨[],[],rfl,.nil,trivial⟩
def dK.marks{w0 w:World}{M:Imm}{ob:Hs}{a:List Deferred}(h:dK w0 w M ob a []):Mks w0 w a:=by obtain ⟨c,d,rfl,h1,b⟩:=h;rw [h1.nil_inv];exact b
def dK.bare{w0 w:World}{M M':Imm}{ob ob':Hs}{a:List Deferred}(h:dK w0 w M ob a []):dK w0 w M' ob' a []:=⟨[],a,rfl,.nil,h.marks⟩
def dK.mono{w0 w:World}{M M':Imm}{ob ob':Hs}{a:List Deferred}{dfs:List (Nat×ay)}(c:∀ b o x,M b o x->M' b o x)(d:dY ob ob')(h:dK w0 w M ob a dfs):dK w0 w M' ob' a dfs:=
 let ⟨d1,d2,e,h1,h2⟩:=h;⟨d1,d2,e,h1.mono c d,h2⟩
def dK.monoA{w0 w:World}{M:Imm}{ob ob':Hs}{a:List Deferred}{dfs:List (Nat×ay)}(b:∀ (k g:Nat) v,at' ob k g=some v->at' ob' k g=some v)(h:dK w0 w M ob a dfs):dK w0 w M ob' a dfs:=
 let ⟨d1,d2,e,h1,h2⟩:=h;⟨d1,d2,e,h1.monoA b,h2⟩
def dK.put{w0 w:World}{M:Imm}{ob:Hs}{a:Act}{d:Option Nat}{u:Value}{dfs:List (Nat×ay)}(h:dK w0 w M ob a.defers dfs):dK w0 w M ob (a.put d u).defers dfs:=by rw [(fQ a d u).2];exact h
def dK.same{w0 w w':World}{M:Imm}{ob:Hs}{a:List Deferred}{dfs:List (Nat×ay)}(c:w'.heap=w.heap)(h:dK w0 w M ob a dfs):dK w0 w' M ob a dfs:=
 let ⟨d1,d2,e,h1,h2⟩:=h;⟨d1,d2,e,h1,h2.same λ d _ b _ h=>by grind⟩
def dK.ext{w0 w w':World}{M M':Imm}{ob ob':Hs}{ac ao:au}{c:List Deferred}{dfs:List (Nat×ay)}(h:dK w0 w M ob c dfs)(hm:Mem M ob ac w)(a:Ext M ob ac w M' ob' ao w'):dK w0 w' M' ob' c dfs:=
 let ⟨d1,d2,e,h1,h2⟩:=h
 ⟨d1,d2,e,h1.mono a.imm a.hs,h2.same λ d _ b _ h=>by
  rw [a.keep b (gL h) λ k i=>by
   obtain ⟨o,f,g⟩:=hm.alive_heap i;rw [h] at f;cases f
   cases g]
  exact h⟩
def SS(M0:Imm)(ob0:Hs)(ap:au)(w0:World)(sz:Nat)(dfs:List (Nat×ay))(fr:ar)(ac:au)(a:Act)(w:World):Prop:=
 ∃ M ob,Ext M0 ob0 ap w0 M ob ac w/\Mem M ob ac w/\(∀ t,Rep M ob (a.tmps.getD t undef) (bG fr t))/\a.tmps.size=sz/\dK w0 w M ob a.defers dfs/\ob0.length<=ac.length
def PP(M0:Imm)(ob0:Hs)(ap:au)(w0:World)(sz:Nat)(dfs:List (Nat×ay))(c:Nat->aa)(v:aa)(ac:au)(b:List PanicEntry)(a:Act)(w:World):Prop:=
 ∃ M ob,Ext M0 ob0 ap w0 M ob ac w/\Mem M ob ac w/\wP M ob (.panicked b) (.pan v)/\(∀ t,Rep M ob (a.tmps.getD t undef) (c t))/\a.tmps.size=sz/\dK w0 w M ob a.defers dfs/\ob0.length<=ac.length
def Ext.lens{M M':Imm}{ob ob':Hs}{L L':au}{w w':World}(a:Ext M ob L w M' ob' L' w'):ob.length<=ob'.length:=by
 rcases Fz ob.length with h | h
 .omega
 .obtain ⟨hs',e,_⟩:=a.hs (ob.length-1) _ (Ac o_)
  grind
def pT{P:Program}{hint base:Nat}{ac:au}{ρ:Operand->aa}{op:Op}{ty:TypeId}{K Kp:aa->au->Prop}(h:orF P ac K Kp (eop E hint base (aB ac) ρ op ty)):∀ c,op≠ .defer c:=by intro c e;subst e;exact h.elim
def Q6(hE:ae E){fr:ar}{ac:au}{a:Act}{w:World}(hs:SS M0 ob0 ap w0 sz dfs fr ac a w){p:Oper}(hd:∀ d,p.dst=some d->d<sz){hint:Nat}
  (h:match cY ops.toList (ev fr) p.guard with
   | none=>False
   | some false=>K (oE fr p.dst (.tup [])) ac
   | some true=>orF E.P ac (λ v ac=>K (oE fr p.dst v) ac) (Kp (bG fr)) (eop E hint (aR ac) (aB ac) (ev fr) p.op p.type))
  (hp:∀ v ac j w,Kp (bG fr) v ac->PP M0 ob0 ap w0 sz dfs (bG fr) v ac j a w->Q (.panic j) a w):
  G rd E.P ops p a w (λ a w=>∃ fr ac,K fr ac/\SS M0 ob0 ap w0 sz dfs fr ac a w) Q:=by
 obtain ⟨M,ob,o,hm,m,f,i,z⟩:=hs;have l:=IT m;have hl:=hm.len;unfold G;cases y:cY ops.toList (ev fr) p.guard with
 | none=>simp_all
 | some b=>
  rw [y] at h;rw [kH l y];cases b with
  | false=>
   rw [if_neg s_];refine ⟨_,ac,h,M,ob,o,hm,?_,(fQ _ _ _).1.trans f,i.put,z⟩;rw [fT];exact oN m CR λ n e=>f▸hd n e
  | true=>
   rw [if_pos rfl];have s:∀ c,p.op≠ .defer c:=pT h;refine (FF hE hm l h).wpIn s (λ u w' ⟨M',ob',L',g,k,x⟩=>?_) (λ j w' ⟨M',ob',L',g,k,x⟩=>?_)
   .rcases x with ⟨A,v,e,r,q⟩ | ⟨j,v,e,_⟩
    .cases e;have:=g.lens;have:=k.len;refine ⟨_,L',q,M',ob',o.trans g,k,?_,(fQ _ _ _).1.trans f,(i.ext hm g).put,by omega⟩;rw [fT];exact oN (λ t=>(m t).mono g.imm g.hs) r λ n e=>f▸hd n e
    .cases e
   .rcases x with ⟨A,v,e,_⟩ | ⟨B,v,e,r,q⟩
    .cases e
    .cases e;have:=g.lens;have:=k.len;exact hp v L' j w' q ⟨M',ob',o.trans g,k,r,λ t=>(m t).mono g.imm g.hs,f,i.ext hm g,by omega⟩
def wk{l:bg}{p:Oper}{a:Act}{w:World}{next:Act->World->Prop}(b:G rd E.P ops p a w next Q)(d:∀ a w,next a w->wpListIn (fen rd) 0 E.P ops Q l a w):wpListIn (fen rd) 0 E.P ops Q (p::l) a w:=by
 unfold wpListIn;unfold G at b;split
 .rename_i c;rw [if_pos c] at b;exact Oper.wpIn_mono d b
 .rename_i c;rw [if_neg c] at b;exact ⟨λ_ _=>trivial,d _ _ b⟩
def pY(hE:ae E)(hp:∀ g v ac c a w,Kp g v ac->PP M0 ob0 ap w0 sz dfs g v ac c a w->Q (.panic c) a w)(j:∀ fr ac a w,K fr ac->SS M0 ob0 ap w0 sz dfs fr ac a w->Q .normal a w):
  ∀ (l:bg) (n:Nat) (fr:ar) (ac:au) (a:Act) (w:World),(∀ p∈l,∀ d,p.dst=some d->d<sz)->fX E ops.toList K Kp n l fr ac->SS M0 ob0 ap w0 sz dfs fr ac a w->wpListIn (fen rd) 0 E.P ops Q l a w
 | [],n,fr,ac,a,w,_,h,hs=>j fr ac a w h hs
 | p::l,n,fr,ac,a,w,hd,h,hs=>by
  refine wk (Q6 (K:=λ fr ac=>fX E ops.toList K Kp (n+1) l fr ac) (Kp:=Kp) (hint:=gK E p.dst) hE hs (hd p s_) ?_ λ v ac c w f e=>hp (bG fr) v ac c a w f e) λ k w' ⟨i,ao,f,hs'⟩=>pY hE hp j l (n+1) i ao k w' (λ p hp=>hd p (by simp [hp])) f hs';simp only [fX] at h;cases m:cY ops.toList (ev fr) p.guard with
  | none=>grind
  | some b=>
   rw [m] at h;cases b with
   | false=>exact h
   | true=>
    exact nB (λ v o h=>zU h) h
end
section
variable {rd:Option Nat} {M0:Imm} {ob0:Hs} {ap:au} {w0:World} {sz:Nat} {dfs:List (Nat×ay)} {E:Env} {ops:Array Oper} {Q:Exit->Act->World->Prop} {K:AS->Prop} {Kp:(Nat->aa)->aa->au->Prop} {L0:Nat} {tab:az}
def KE{P:Program}{og b:Nat->ab}{hint base a:Nat}{ρ:Operand->aa}{op:Op}{ty:TypeId}{z:aa}{bs:au}(h:jJ P b a z bs (eop E hint base og ρ op ty)):∀ c,op≠ .defer c:=by intro c e;subst e;exact h.elim
def OA{og:Nat->ab}{hint base k:Nat}{ρ:Operand->aa}{op:Op}{ty:TypeId}{z:aa}{x:ab}(h:OB z k x (eop E hint base og ρ op ty)):∀ c,op≠ .defer c:=by intro c e;subst e;exact h.elim
def DS(M0:Imm)(ob0:Hs)(ap:au)(w0:World)(sz:Nat)(dfs:List (Nat×ay))(L0:Nat)(s:AS)(a:Act)(w:World):Prop:=
 ∃ M ob L,Ext M0 ob0 ap w0 M ob L w/\Mem M ob L w/\aB L=s.o/\(∀ t,Rep M ob (a.tmps.getD t undef) (s.g t))/\a.tmps.size=sz/\dK w0 w M ob a.defers dfs/\ob0.length<=L0/\
  ∀ (k:Nat),L0<=k->(∀ i,¬ s.br i k)->∀ hs,ob[k]? =some hs->hs=[]
def aKV(hE:ae E)(hd:∀ (i:Nat) p,ops[i]? =some p->∀ d,p.dst=some d->d<sz)(hp:∀ g v ac F a w,Kp g v ac->PP M0 ob0 ap w0 sz dfs g v ac F a w->Q (.panic F) a w)
  {s:AS} {a:Act} {w:World} (hs:DS M0 ob0 ap w0 sz dfs L0 s a w) {i:Nat} (h:aOp E ops tab L0 Kp i K s):wpOpIn (fen rd) 0 E.P ops Q i (λ a w=>∃ s',K s'/\DS M0 ob0 ap w0 sz dfs L0 s' a w) a w:=by
 obtain ⟨p,hi,h⟩:=h;have r:=hd i p hi
 suffices hg:G rd E.P ops p a w (λ a w=>∃ s',K s'/\DS M0 ob0 ap w0 sz dfs L0 s' a w) Q by
  unfold wpOpIn;rw [hi];dsimp only;unfold G at hg;split
  .rename_i o;rw [if_pos o] at hg;exact hg
  .rename_i o;rw [if_neg o] at hg;exact ⟨λ_ _=>trivial,hg⟩
 obtain ⟨M,ob,L,X,hm,I,H,j,q,W,b⟩:=hs;have l:∀ x,Rep M ob (a.eval x) (evG tab ops.toList i s.g x):=aKC H;have skip:∀ {base:Nat},K (s.upd i p.dst (.tup []) base [])->Fo p (yielded ops a.tmps)=false->G rd E.P ops p a w (λ a w=>∃ s',K s'/\DS M0 ob0 ap w0 sz dfs L0 s' a w) Q:=λ{base} m o=>by unfold G;rw [if_neg (by rw [o];simp)];refine ⟨_,m,?_⟩;rw [FA];exact ⟨M,ob,L,X,hm,I,oN H CR λ C e=>j▸r C e,(fQ _ _ _).1.trans j,q.put,W,b⟩
 rcases h with ⟨_,z,base,bs,⟨A,_,hy⟩,hfr,m⟩ | ⟨_,z,base,k,x,⟨⟨A,hbr⟩,o,O,c⟩,m⟩ | ⟨_,ac,hoo,hl0,R,hlt,hy⟩
 .rcases hy with ⟨o,rfl,rfl⟩ | ⟨o,c⟩
  .exact skip m (kH l o)
  .unfold G;rw [kH l o,if_pos rfl];obtain ⟨hid,n⟩:∃ hid,aB (cU hid L)=oC E tab i p.dst s:=by
    cases hbl:blD E p.dst with
    | true=>exact ⟨λ_=>True,by rw [iO];unfold oC;rw [if_pos hbl];simp⟩
    | false=>exact ⟨W6 tab i s.br,by rw [iO,I];unfold oC;rw [if_neg q_];rfl⟩
   rw [<-n] at c;refine (aOe hE hm l (λ k m=>b k (Dh A m.1) (hfr k m)) c).wpIn (KE c) (λ u w' ⟨M',ob',L',U,e,f,y,D,x4,x5,x6⟩=>?_) (λ F w' ⟨M',ob',L',U,e,_⟩=>by cases e);cases e;refine ⟨_,m,M',ob',L',X.trans f,y,?_,oN (λ t=>(H t).mono f.imm f.hs) x5 λ C e=>j▸r C e,(fQ _ _ _).1.trans j,(q.ext hm f).put,W,λ k h1 B hs N=>?_⟩
   .rw [D,I];rfl
   .have S:¬ inB base bs.length k:=λ h=>B i (.inr ⟨rfl,h⟩);exact x6 k S (b k h1 λ i' A=>B i' (.inl A)) hs N
 .unfold G;rw [kH l o,if_pos rfl];have n:aB (cU (W6 tab i s.br) L)=rI tab i s:=by rw [iO,I];rfl
  rw [<-n] at c O;refine (aKW hE hm l (b base A hbr) O c).wpIn (OA c) (λ u w' ⟨M',ob',L',U,e,f,y,D,x4,x5,x6⟩=>?_) (λ F w' ⟨M',ob',L',U,e,_⟩=>by cases e);cases e;refine ⟨_,m,M',ob',L',X.trans f,y,?_,oN (λ t=>(H t).mono f.imm f.hs) x5 λ C e=>j▸r C e,(fQ _ _ _).1.trans j,(q.ext hm f).put,W,λ k' h1 B hs N=>x6 k' (b k' h1 B) hs N⟩;rw [D,I];rfl
 .rcases hy with ⟨o,m⟩ | ⟨o,J⟩
  .exact skip m (kH l o)
  .unfold G;rw [kH l o,if_pos rfl];have hof:=bW ac;obtain ⟨ob1,n1,n2,n3⟩:=hm.norm (ac:=ac) (I.trans hoo.symm) λ k m=>b k o_ λ i A=>by have:=hlt i k A;omega
   have T:∀ x,Rep M ob1 (a.eval x) (evG tab ops.toList i s.g x):=λ x=>(l x).monoA n2;have V:=n3 X o_;refine (FF hE n1 T (xA rfl rfl J)).wpIn (pT (xA rfl rfl J)) (λ u w' ⟨M',ob',L',f,y,D⟩=>?_) (λ F w' ⟨M',ob',L',f,y,D⟩=>?_)
   .rcases D with ⟨U,v,e,hr,m⟩ | ⟨F,v,e,_⟩
    .cases e;have l1:=f.lens;have l2:=y.len;have l3:=n1.len;have Z:aR ac<=aR L':=by rw [bW,bW];omega
     refine ⟨_,m Z,M',ob',L',V.trans f,y,rfl,oN (λ t=>((H t).monoA n2).mono f.imm f.hs) hr λ C e=>j▸r C e,(fQ _ _ _).1.trans j,((q.monoA n2).ext n1 f).put,W,λ k h1 B hs N=>?_⟩;have Y:k<aR L':=by rw [bW,<-l2];exact (Ad.1 N).1
     by_cases hk2:k<aR ac
     .obtain ⟨i',A⟩:=R k h1 hk2;exact absurd (.inl A) (B i')
     .exact absurd (.inr ⟨rfl,by omega,Y⟩) (B i)
    .cases e
   .rcases D with ⟨U,v,e,_⟩ | ⟨ch',v,e,hr,m⟩
    .cases e
    .cases e;have l1:=f.lens;have l2:=y.len;have l3:=n1.len;exact hp _ v L' F a w' m ⟨M',ob',V.trans f,y,hr,λ t=>((H t).monoA n2).mono f.imm f.hs,j,(q.monoA n2).ext n1 f,by omega⟩
def sO(hE:ae E)(hd:∀ (i:Nat) p,ops[i]? =some p->∀ d,p.dst=some d->d<sz)(hp:∀ g v ac m a w,Kp g v ac->PP M0 ob0 ap w0 sz dfs g v ac m a w->Q (.panic m) a w){k:AS->Prop}
  (e:∀ s a w,k s->DS M0 ob0 ap w0 sz dfs L0 s a w->Q .normal a w):
  ∀ (b:Nat) (c:Array Bool) (s:AS) (a:Act) (w:World),wpA E ops tab L0 Kp k b c s->DS M0 ob0 ap w0 sz dfs L0 s a w->wpAnyIn (fen rd) 0 E.P .any ops Q b c a w
 | 0,_,_,_,_,h,hs=>⟨h.1,e _ _ _ h.2 hs⟩
 | b+1,_,_,_,_,h,hs=>⟨λ q=>e _ _ _ (h.1 q) hs,λ i r=>by
   have:=aKV (rd:=rd) (K:=wpA E ops tab L0 Kp k b _) hE hd hp hs (h.2 i r);unfold wpOpIn at this⊢;cases n:ops[i]? with
   | none=>rw [n] at this;obtain ⟨s',f,j⟩:=this;exact sO hE hd hp e b _ s' _ _ f j
   | some o=>
    rw [n] at this;dsimp only at this⊢;split
    .rename_i l;rw [if_pos l] at this;exact Oper.wpIn_mono (λ a w ⟨s',f,j⟩=>sO hE hd hp e b _ s' a w f j) this
    .rename_i l;rw [if_neg l] at this;obtain ⟨_,s',f,j⟩:=this
     exact ⟨λ_ _=>trivial,sO hE hd hp e b _ s' _ _ f j⟩⟩
def DS.of{fr:ar}{ac:au}{a:Act}{w:World}(h:SS M0 ob0 ap w0 sz dfs fr ac a w):DS M0 ob0 ap w0 sz dfs ac.length (mM fr ac []) a w:=by
 obtain ⟨M,ob,e,hm,f,b,c,d⟩:=h
 exact ⟨M,ob,ac,e,hm,rfl,f,b,c,d,λ k i _ hs g=>by
  have:=(Ad.1 g).1;rw [hm.len] at this
  omega⟩
def DS.back{fr:ar}{ac:au}{br:List (Nat×Nat)}{n:Nat}{a:Act}{w:World}(g:LI L0 n ac br)(h:DS M0 ob0 ap w0 sz dfs L0 (mM fr ac br) a w):SS M0 ob0 ap w0 sz dfs fr ac a w:=by
 obtain ⟨M,ob,L,l,hm,m,q,c,e,r,b⟩:=h;have j:=bW ac;have f:=g.low;obtain ⟨d,n1,n2,o⟩:=hm.norm (ac:=ac) m λ k s=>b k o_ λ i p=>by have:=(g.lt i k p).1;omega
 exact ⟨M,d,o l o_,n1,λ t=>(q t).monoA n2,c,e.monoA n2,by omega⟩
def SS.draw{fr:ar}{ac:au}{a:Act}{w:World}(h:SS M0 ob0 ap w0 sz dfs fr ac a w):SS M0 ob0 ap w0 sz dfs fr ac a {w with drawn:=w.drawn+1}:=by obtain ⟨M,ob,b,hm,f,c,d,e⟩:=h;exact ⟨M,ob,⟨b.imm,b.new,b.hs,b.os,b.tape,b.output,b.size,b.keep,b.fresh⟩,hm.same (Bh _) λ_ _=>rfl,f,c,dK.same (w:=w) rfl d,e⟩
def V6(hE:ae E){id:Nat}(u:TabSp ops tab)(hd:∀ (i:Nat) p,ops[i]? =some p->∀ d,p.dst=some d->d<sz){Kq:ar->au->Prop}
  (hp:∀ g v ac q a w,Kp g v ac->PP M0 ob0 ap w0 sz dfs g v ac q a w->Q (.panic q) a w) (x:∀ fr ac a w,Kq fr ac->SS M0 ob0 ap w0 sz dfs fr ac a w->Q .normal a w)
  {fr:ar} {ac:au} {a:Act} {w:World} (hs:SS M0 ob0 ap w0 sz dfs fr ac a w) (h:lK E ops.toList tab Kq Kp 0 ops.toList [] fr ac):(Code.region id ops true).wpIn (fen rd) 0 E.P Q a w:=by
 refine wpIn_region_any hE.mix ?_;have b:∀ j,j<ops.size->(Gh ops.size false)[j]? =some (decide (j<0)):=by intro j t;simp [t]
 have l:(Gh ops.size false).size=ops.size:=by simp
 have c:ops.toList.length=ops.size:=by simp
 have z:LI ac.length 0 ac []:=⟨by rw [bW];omega,λ k h1 y=>by rw [bW] at y;omega,λ i k m=>by simp at m⟩
 have:=aJH u ops.toList 0 _ [] fr ac rfl b l z h;rw [c] at this;exact sO hE hd hp (λ s a w ⟨n,ao,r,A,e,f,m⟩ o=>x n ao a w m (DS.back f (e▸o))) _ _ _ _ _ this (DS.of hs.draw)
end
def KI.item:KI->Item
 | .code c=>.code c
 | .inB id=>.inBlock id
 | .inL c=>.inLoop c
 | .beginR=>.beginRound
def jR(ks:bh):List Item:=ks.map KI.item
def aGn(rd:Option Nat)(n:Nat):(fen rd).room n:=λ d h=>by cases h
def mD(P:Program)(rd:Option Nat)(m:Machine):m.fenced P (fen rd):=fenced_wide P m
def KW(rd:Option Nat)(P:Program)(Q:Exit->Act->World->Prop)(ks:bh)(a:Act)(w:World):Prop:=
 ∀ (b:Frame) (cs:List Frame),b.roundOf=rd->∃ e c w',Q e c w'/\ArrivesIn (Machine.fenced P (fen rd)) P (lone (b.atR a (jR ks)) cs w) b [] cs e c w'
section
variable {rd:Option Nat} {P:Program} {Q:Exit->Act->World->Prop} {ks ks':bh} {a:Act} {w:World}
def KW.nil(h:Q .normal a w):KW rd P Q [] a w:=λ_ _ _=>⟨.normal,a,w,h,.refl _⟩
def KW.step(hs:∀ (b:Frame) cs,Go.step P (lone (b.atR a (jR ks)) cs w)= .next (lone (b.atR a (jR ks')) cs w))(h:KW rd P Q ks' a w):KW rd P Q ks a w:=
 λ b cs c=>let ⟨e,a',w',q,r⟩:=h b cs c;⟨e,a',w',q,.of_steps (.one (mD _ _ _) (hs b cs)) r⟩
def KW.ret(h:Q .ret a w):KW rd P Q (.code .ret::ks) a w:=λ b _ _=>⟨.ret,a,w,h,λ c=>⟨_,.one (mD _ _ _) (stepR_ret c)⟩,λ_=>⟨jR ks,.refl _⟩⟩
def KW.code{c:Code}{Q':Exit->Act->World->Prop}(h:c.wpIn (fen rd) 0 P Q' a w)(h1:∀ a w,Q' .normal a w->KW rd P Q ks a w)(l:∀ d a w,Q' (.panic d) a w->Q (.panic d) a w)
  (h3:∀ e a w,Q' e a w->e= .normal\/∃ d,e= .panic d):KW rd P Q (.code c::ks) a w:=by
 intro b cs g;obtain ⟨e,f,w',q,r⟩:=h b (jR ks) cs g trivial (aGn _ _);rcases h3 e f w' q with rfl | ⟨d,rfl⟩
 .obtain ⟨n,j,k,m,i⟩:=h1 f w' q b cs g;exact ⟨n,j,k,m,.of_steps r i⟩
 .exact ⟨.panic d,f,w',l d f w' q,r⟩
def KW.arrives(h:KW none P Q ks a w)(b:Frame)(cs:List Frame)(d:b.roundOf=none):∃ e c w',Q e c w'/\Arrives P (lone (b.at a (jR ks)) cs w) b [] cs e c w':=by obtain ⟨e,c,w',q,r⟩:=h b cs d;rw [Frame.atR_of_none d] at r;exact ⟨e,c,w',q,(arrivesIn_iff (I:=Machine.fenced P Fence.wide) (λ_ _=>stepsIn_wide) d).1 r⟩
def oQ{id:Nat}:∀ (ks ks':bh),IS id ks=some ks'->exitTo id (jR ks)=some (jR ks')
 | [],ks',h=>by cases h
 | .inB i::r,ks',h=>by
  simp only [IS] at h;simp only [jR,Bj,KI.item,exitTo];cases b:Ba i id with
  | true=>
   simp_all
  | false=>
   rw [b] at h;have a:¬ (i==id)=true:=λ e=>by simp_all
   rw [if_neg a];exact oQ r ks' h
 | .code c::r,ks',h=>oQ r ks' h
 | .inL c::r,ks',h=>oQ r ks' h
 | .beginR::r,ks',h=>oQ r ks' h
end
def PU:Nat->bg->Bool
 | _,[]=>true
 | n,p::r=>(kD p).all (λ i=>Fp i n)&&PU (n+1) r
def T9(tab:az)(i:Nat)(d:Nat):Nat->bg->Bool
 | _,[]=>true
 | j,q::r=>(match q.dst with | some e=>!Ba e d|| !loose tab i j | none=>true)&&T9 tab i d (j+1) r
def aKS(tab:az)(all:bg):Nat->bg->Bool
 | _,[]=>true
 | i,p::r=>(match p.dst with | some d=>T9 tab i d 0 all | none=>true)&&aKS tab all (i+1) r
def RJ(ops:Array Oper):Bool:=PU 0 ops.toList&&aKS (lN [] ops.toList) ops.toList 0 ops.toList
def aL4(sz:Nat)(l:bg):Bool:=l.all λ p=>match p.dst with | some d=>Fp d sz | none=>true
def dU(sz:Nat):Code->Bool
 | .region _ ops dr=>aL4 sz ops.toList&&(!dr||RJ ops)
 | .seq a b=>dU sz a&&dU sz b
 | .cond _ a b=>dU sz a&&dU sz b
 | .block _ b=>dU sz b
 | .loop b=>dU sz b
 | _=>true
def KI.ok(sz:Nat):KI->Bool
 | .code c=>dU sz c
 | .inL c=>dU sz c
 | .inB _=>true
 | .beginR=>true
def bO(sz:Nat):bh->Bool
 | []=>true
 | k::r=>k.ok sz&&bO sz r
def wD{sz id:Nat}:∀ (ks ks':bh),IS id ks=some ks'->bO sz ks=true->bO sz ks'=true
 | [],ks',h,_=>by cases h
 | .inB i::r,ks',h,ho=>by
  simp only [IS] at h;simp only [bO,Af] at ho;cases a:Ba i id with
  | true=>grind
  | false=>rw [a] at h;exact wD r ks' h ho.2
 | .code c::r,ks',h,ho=>wD r ks' h (by simp only [bO,Af] at ho;exact ho.2)
 | .inL c::r,ks',h,ho=>wD r ks' h (by simp only [bO,Af] at ho;exact ho.2)
 | .beginR::r,ks',h,ho=>wD r ks' h (by simp only [bO,Af] at ho;exact ho.2)
def Goal.res:Goal->Res
 | .pure r=>r
 | .full _ r _=>r
 | .keep _ r _=>r
def Goal.obs:Goal->au
 | .pure _=>[]
 | .full _ _ o=>o
 | .keep _ _ o=>o
def Goal.strict:Goal->Bool
 | .keep _ _ _=>false
 | _=>true
def RR(M0:Imm)(ob0:Hs)(ap:au)(w0:World)(g:Goal)(e:Ending)(w':World):Prop:=∃ M' ob',Ext M0 ob0 ap w0 M' ob' g.obs w'/\Mem M' ob' g.obs w'/\wP M' ob' e g.res
def gO(P:Program)(fn:Func)(tmps:Array Value)(R:Ending->World->Prop):List Deferred->FrameMode->World->Prop
 | [],u,w=>Leaves P fn tmps R [] u w
 | d::ds,u,w=>u≠ .run/\((∃ r w',d.target= .collected r/\(Instr.takeDeferred r).run P w= .ok [] w'/\gO P fn tmps R ds u w')\/
   ∃ fv cap f args,d.target= .fn fv cap/\(invoke d.target d.args).run P w= .ok (.enter f args) w/\
   CallsD P f args u w fun
    | .returned _,u',w'=>gO P fn tmps R ds (settle u') w'
    | .panicked fX,u',w'=>gO P fn tmps R ds (raised u' fX) w'
    | .outgrown,_,w'=>R .outgrown w')
def gY{P:Program}{fn:Func}{tmps:Array Value}{R:Ending->World->Prop}:∀ (i:List Deferred) (u:FrameMode) (w:World) (fr:Frame)
  (cs:List Frame),fr.mode=u->fr.defers=i->fr.tmps=tmps->P.funcs[fr.fn]? =some fn->gO P fn tmps R i u w->
  ∃ e w' a,R e w'/\Comes P (lone fr cs w) (lone a cs w') e/\a.fn=fr.fn/\a.kind=fr.kind/\a.going P w' e:=by
 intro i;induction i with
 | nil=>
  intro u w fr cs x hd A y h;cases u with
  | run=>exact h.elim
  | returning=>
   obtain ⟨v,I,D⟩:=h;exact ⟨.returned v,w,fr,D,Steps.refl P _,rfl,rfl,x,hd,fn,y,A▸I⟩
  | panicking fX=>exact ⟨.panicked fX,w,fr,h,Steps.refl P _,rfl,rfl,x,hd,fn,y⟩
 | cons d i H=>
  intro u w fr cs x hd A y h;obtain ⟨p,⟨r,w',n,s,q⟩ | ⟨fv,cap,f,args,n,B,t⟩⟩:=h
  .have h1:=step_collected (cs:=cs) (x▸p) hd n s;obtain ⟨C,m,a,k,hs',g,l,j⟩:=H u w' {fr with defers:=[]++i} cs x rfl A y q;exact ⟨C,m,a,k,Comes.of_steps (.one h1) hs',g,l,j⟩
  have h1:=step_defer (cs:=cs) (x▸p) hd n B;obtain ⟨e,o,w',J,D,b,F,z⟩:=t {fr with defers:=i} cs x;cases e with
  | returned v=>
   have G:=step_going_returned (c:={{fr with defers:=i} with mode:=o}) (cs:=cs) F z;obtain ⟨C,m,a,k,hs',g,l,j⟩:=H (settle o) w' {{{fr with defers:=i} with mode:=o} with mode:=settle o} cs rfl rfl A y D;exact ⟨C,m,a,k,Comes.of_steps (.head h1 (Steps.trans b (.one G))) hs',g,l,j⟩
  | panicked fX=>
   have G:=step_going_panicked (c:={{fr with defers:=i} with mode:=o}) (cs:=cs) z;obtain ⟨C,m,a,k,hs',g,l,j⟩:=H (raised o fX) w' {{{fr with defers:=i} with mode:=o} with mode:=raised o fX} cs rfl rfl A y D;exact ⟨C,m,a,k,Comes.of_steps (.head h1 (Steps.trans b (.one G))) hs',g,l,j⟩
  | outgrown=>exact ⟨.outgrown,w',fr,D,Outgrown.of_steps (.one h1) b,rfl,rfl,trivial⟩
def qN{P:Program}{fr:Frame}{w:World}{e:Ending}(h:fr.going P w e)(a:fr.kind= .normal):fr.leaving P w e:=by
 cases e with
 | returned v=>exact ⟨h.1,h.2.1,a,h.2.2⟩
 | panicked b=>exact h
 | outgrown=>exact h
structure Shut(w0 w w':World):Prop where
 os:w'.os=w.os
 tape:w'.tape=w.tape
 output:w'.output=w.output
 size:w'.heap.size=w.heap.size
 heap:∀ b,w'.heap[b]? =w.heap[b]?\/(w0.heap.size<=b/\w.heap[b]? =some (.deferred (some [])))
def qL{P:Program}{fn:Func}{tmps:Array Value}{R:Ending->World->Prop}{w0:World}{u:FrameMode}(i:u≠ .run):∀ (a:List Deferred) (w:World),Mks w0 w a->(∀ w',Shut w0 w w'->Leaves P fn tmps R [] u w')->gO P fn tmps R a u w
 | [],w,_,h=>h w ⟨rfl,rfl,rfl,rfl,λ b=>.inl rfl⟩
 | d::a,w,⟨⟨b,h1,h2,h3,h4⟩,h5⟩,h=>by
  refine ⟨i,.inl ⟨b,_,h1,run_takeDeferred h3,?_⟩⟩;refine qL i a _ (h5.same λ l k c g j=>?_) λ w' hs=>h w' ⟨hs.os,hs.tape,hs.output,hs.size.trans World.putObj_size,λ c=>?_⟩
  .have f:c≠b:=λ e=>by simp_all
   rw [Gx f];exact j
  .by_cases g:c=b
   .grind
   .have:=hs.heap c;rwa [Gx g] at this
def Mem.shut{w0 w w':World}{M:Imm}{ob:Hs}{ac:au}(hm:Mem M ob ac w)(h:Shut w0 w w'):Mem M ob ac w':=by
 have e:∀ {b:Nat} {o:Obj},w.heap[b]? =some o->H8 o=false->w'.heap[b]? =some o:=λ{b o} h1 h2=>by
  rcases h.heap b with q | ⟨_,q⟩
  .grind
  .rw [h1] at q;cases q;cases h2
 refine ⟨λ b o x j=>?_,hm.len,λ k c g=>?_,λ k b m=>by rw [h.size];exact hm.lt k b m,hm.inj⟩
 .obtain ⟨v,a,l⟩:=hm.imm b o x j;refine ⟨v,?_,l⟩;unfold Kt at a⊢;dsimp only at a⊢;cases i:w.heap[b]? with
  | none=>simp_all
  | some ob=>
   rw [i] at a;cases ob with
   | cells c _ _=>rw [e i rfl];exact a
   | _=>cases a
 .obtain ⟨hs',d,f⟩:=hm.obj k c g;refine ⟨hs',d,f.mono (λ_ _ _ h=>h) (dY.refl _) (λ_ _ _ _ h=>h) (λ b s p r n=>?_)⟩;obtain ⟨o,t,u⟩:=hm.alive_heap ((dG g d).2 ⟨p,r⟩)
  grind
def Ext.shut{w0 w w':World}{M0 M:Imm}{ob0 ob:Hs}{ap ac:au}(a:Ext M0 ob0 ap w0 M ob ac w)(h:Shut w0 w w'):Ext M0 ob0 ap w0 M ob ac w':=
 ⟨a.imm,a.new,a.hs,h.os.trans a.os,h.tape.trans a.tape,h.output.trans a.output,by rw [h.size];exact a.size,λ b c d=>by
  rcases h.heap b with q | ⟨q,_⟩
  .rw [q];exact a.keep b c d
  .omega,a.fresh⟩
def JZ(E:Env)(fn:Func)(M0:Imm)(ob0:Hs)(ap:au)(w0:World)(g:Goal)(b:Bool)(a:Act)(w:World):Prop:=match E.rd with
 | none=>gO E.P fn a.tmps (RR M0 ob0 ap w0 g) a.defers .returning w
 | some _=>RR M0 ob0 ap w0 g (.returned (.bool b)) w
def tQ(E:Env)(fn:Func)(M0:Imm)(ob0:Hs)(ap:au)(w0:World)(g:Goal):Exit->Act->World->Prop
 | .normal,a,w=>JZ E fn M0 ob0 ap w0 g true a w
 | .ret,a,w=>JZ E fn M0 ob0 ap w0 g false a w
 | .panic ch,a,w=>(match E.rd with | none=>gO E.P fn a.tmps (RR M0 ob0 ap w0 g) a.defers (.panicking ch) w | some _=>False)
 | _,_,_=>False
def uG(g:Goal)(ob0:Hs):Prop:=ob0.length=g.n0/\(g.strict=true->∀ hs∈ob0,hs.length=1)
def dR(E:Env)(fn:Func)(g:Goal)(ks:bh)(fr:ar)(ac:au):Prop:=
 bO fn.ntmps ks=true->∀ M0 ob0 ap w0 a w,uG g ob0->SS M0 ob0 ap w0 fn.ntmps E.df fr ac a w->KW E.rd E.P (tQ E fn M0 ob0 ap w0 g) ks a w
def aHN(E:Env)(fn:Func)(g:Goal)(fr:ar)(ac:au):Prop:=
 ∀ M0 ob0 ap w0 a w,uG g ob0->SS M0 ob0 ap w0 fn.ntmps E.df fr ac a w->gO E.P fn a.tmps (RR M0 ob0 ap w0 g) a.defers .returning w
def aHM(E:Env)(fn:Func)(g:Goal)(c:Nat->aa)(v:aa)(ac:au):Prop:=
 ∀ M0 ob0 ap w0 b a w,uG g ob0->PP M0 ob0 ap w0 fn.ntmps E.df c v ac b a w->gO E.P fn a.tmps (RR M0 ob0 ap w0 g) a.defers (.panicking b) w
def nH(E:Env)(fn:Func)(g:Goal)(a:Nat->aa)(v:aa)(ac:au):Prop:=match E.rd with
 | some _=>False
 | none=>match E.df with
  | []=>T5 g .pan v ac
  | _::_=>aHM E fn g a v ac
def aNq(E:Env)(fn:Func)(g:Goal)(R:RI)(n:Nat)(rest:bg)(br:List (Nat×Nat))(fr:ar)(ac:au):Prop:=
 match R.dr with
 | false=>fX E R.all (dR E fn g R.ks) (nH E fn g) n rest fr ac
 | true=>lK E R.all R.tab (dR E fn g R.ks) (nH E fn g) n rest br fr ac
def aF0(E:Env)(fn:Func)(g:Goal)(R:RI)(n:Nat)(d:Option Nat)(rest:bg)(br:List (Nat×Nat))(fr:ar)(len:Nat)(ac:au)(v:aa):Prop:=
 wrP rest n d fr v λ fr=>aNq E fn g R (n+1) rest (bif R.dr then born n len (kL len ac) br else br) fr ac
def DW(E:Env)(fn:Func)(g:Goal):St->Prop
 | .code ks fr ac=>dR E fn g ks fr ac
 | .head ks fr ac=>dR E fn g ks fr ac
 | .mid R n rest br fr ac=>aNq E fn g R n rest br fr ac
 | .pend R n d rest br fr ac r=>(match R.dr with
  | false=>orF E.P ac (λ v ao=>aF0 E fn g R n d rest br fr (aR ac) ao v) (nH E fn g (bG fr)) r
  | true=>orD E.P (soN E R.tab R.all n d) (uoN E R.tab R.all n d) (blD E d) (tX E R.tab n br ac d) ac (aR ac) (λ v ao=>aF0 E fn g R n d rest br fr (aR ac) ao v) (nH E fn g (bG fr)) r)
 | .got R n d rest br fr len ac v=>aF0 E fn g R n d rest br fr len ac v
 | .leave none fr ac=>aHN E fn g fr ac
 | .leave (some v) fr ac=>aHM E fn g (bG fr) v ac
section
variable {E:Env} {M:Imm} {ob:Hs} {ac:au} {w:World}
def V0(hE:ae E)(hm:Mem M ob ac w){fr:ar}{x:aa}{tmps:Array Value}{r:ResultVar}(h:aMX E ac fr r=some x)(q:∀ t,Rep M ob (tmps.getD t undef) (bG fr t)):
  ∃ v,(match r with | .tmp t=>(Pure.pure (tmps.getD t undef):Sem Value) | .cell a t=>(asAddr (tmps.getD a undef)) >>= loadVar t).run E.P w= .ok v w/\Rep M ob v x:=by
 cases r with
 | tmp t=>cases h;exact ⟨_,rfl,q t⟩
 | cell a t=>
  simp only [aMX] at h;show ∃ v,((asAddr (tmps.getD a undef)) >>= loadVar t).run E.P w= .ok v w/\Rep M ob v x;have s:=q a;split at h
  .rename_i D k off A y;rw [y] at s;split at h
   .rename_i cs m;split at h
    .rename_i l hl;obtain ⟨b,hav,p⟩:=s.ref_inv;obtain ⟨hs,h1,j,rfl,_,cv,F,g,_,f⟩:=hm.obj k _ (cR m s_);have n:j=b:=by rw [cL h1] at p;simpa using p
     subst n;obtain ⟨z,G⟩:=mJ hl;obtain ⟨u,H,C⟩:=S1 (P:=E.P) (w:=w) (M:=M) (ob:=ob) (hE.tab t D A) (b:=j) (o:=off) h z λ i c B=>by
      have d:=G i c B;rw [oX,Ca] at d;have e:off+i<cv.length:=by rw [g];exact (Ad.1 d).1
      exact ⟨cv[off+i],by rw [cell_of_row w j _ _ _ (0,0) F];simp [e],f _ _ c (Ac e) d⟩
     refine ⟨u,?_,C⟩;rw [hav];simp only [asAddr,Bk,Ci,Au];exact H
    .cases h
   .cases h
  .cases h
def G4(hE:ae E)(hm:Mem M ob ac w){fr:ar}{tmps:Array Value}(e:∀ t,Rep M ob (tmps.getD t undef) (bG fr t)):
  ∀ (b:List ResultVar) {xs:ay},aEp E ac fr b=some xs->∃ vs,(b.mapM λ(r:ResultVar)=>(match r with | .tmp t=>(Pure.pure (tmps.getD t undef):Sem Value) | .cell a t=>(asAddr (tmps.getD a undef)) >>= loadVar t)).run E.P w= .ok vs w/\cM M ob vs xs
 | [],xs,h=>by
  cases h;exact ⟨[],by simp,rfl,λ i v a h=>by simp at h⟩
 | r::b,xs,h=>by
  simp only [aEp] at h;split at h
  .rename_i x l f hl;cases h;obtain ⟨v,g,j⟩:=V0 hE hm f e;obtain ⟨vs,d,c⟩:=G4 hE hm e b hl;refine ⟨v::vs,?_,cM.cons j c⟩;rw [List.mapM_cons];simp only [Bk];rw [g];simp only [Au];rw [d];simp
  .cases h
def V4(hE:ae E)(hm:Mem M ob ac w){fn:Func}{fr:ar}{x:aa}{tmps:Array Value}(h:aEq E ac fn.results.toList fr=some x)
  (i:∀ t,Rep M ob (tmps.getD t undef) (bG fr t)):∃ v,(results fn tmps).run E.P w= .ok v w/\Rep M ob v x:=by
 have hl:∃ xs,aEp E ac fr fn.results.toList=some xs/\((∃ y,xs=[y]/\x=y)\/(xs.length≠1/\x= .tup xs)):=by
  unfold aEq at h;split at h
  .simp_all
  .rename_i l c hl;cases h;refine ⟨_,hl,.inr ⟨λ h1=>?_,rfl⟩⟩
   match l,h1 with
   | [y],_=>grind
  .cases h
 obtain ⟨xs,f,d⟩:=hl;obtain ⟨vs,e,b⟩:=G4 hE hm i _ f;have g:fn.results=fn.results.toList.toArray:=by simp
 have key:(results fn tmps).run E.P w= .ok (if h:vs.toArray.size=1 then vs.toArray[0] else .tuple vs.toArray) w:=by unfold results;rw [g,List.mapM_toArray];simp only [Bk,map_eq_pure_bind];have:(fn.results.toList.mapM λ(r:ResultVar)=>(match r with | .tmp t=>(Pure.pure (tmps.getD t undef):Sem Value) | .cell a t=>(asAddr (tmps.getD a undef)) >>= loadVar t)).run E.P w= .ok vs w:=e;refine (congrArg (λ z=>Ep (Ep z _) _) this).trans ?_;simp
 rw [key];rcases d with ⟨y,rfl,rfl⟩ | ⟨h1,rfl⟩
 .match vs,b with
  | [v],b=>exact ⟨v,by simp,b.2 0 v _ rfl rfl⟩
  | [],b=>have:=b.1;simp at this
  | _::_::_,b=>have:=b.1;simp at this
 .have c:¬ vs.toArray.size=1:=by rw [Gv,b.1];exact h1
  exact ⟨.tuple vs.toArray,by rw [dif_neg c],.tup vs xs b.1 b.2⟩
def nX:∀ {n j:Nat} {ks:az},fY n j ks=true->∀ i,i<n->ks[i]? =some (j+i)
 | 0,_,_,_,i,hi=>by omega
 | n+1,j,[],h,_,_=>by cases h
 | n+1,j,k::r,h,i,hi=>by
  simp only [fY,Af] at h;have:=aE h.1;subst this;cases i with
  | zero=>rfl
  | succ i=>
   have:=nX h.2 i o_;rw [show k+(i+1)=k+1+i from by omega];simp_all
def zD{M0:Imm}{ob0:Hs}{ap:au}{w0:World}{g:Goal}{o:aa->Res}{v:aa}{u:Value}(hst:uG g ob0)(d:Ext M0 ob0 ap w0 M ob ac w)(hm:Mem M ob ac w)(D:Rep M ob u v)(h:T5 g o v ac):
  ∃ M' ob' y,Ext M0 ob0 ap w0 M' ob' g.obs w/\Mem M' ob' g.obs w/\Rep M' ob' u y/\o y=g.res:=by
 cases g with
 | pure r=>
  obtain ⟨x,l,f,_,O⟩:=hm.frzL [v];have L:ob0=[]:=Bc hst.1;subst L;have a:=d.trans f;have no:∀ k b,¬ aM ([]:Hs) [] k b:=λ k b ⟨c,hs,e,_⟩=>by simp at e
  exact ⟨x,[],_,⟨a.imm,a.new,dY.refl _,a.os,a.tape,a.output,a.size,a.keep,λ k b q=>(no k b q).elim⟩,l.bare,l.cvtV (n0:=0) (ks:=[]) rfl 5 u v (D.monoM f.imm),h⟩
 | full n0 r ao=>
  obtain ⟨J,ks,⟨s,m⟩,h1,z⟩:=h;obtain ⟨x,l,f,_,O⟩:=Mem.frzs J M ac hm;obtain ⟨Q,N,_⟩:=l.cvt (n0:=n0) s;have a:=d.trans f;have H:ob0.length=n0:=hst.1;refine ⟨x,_,_,⟨a.imm,a.new,λ j hs B=>?_,a.os,a.tape,a.output,a.size,a.keep,λ j b q=>?_⟩,?_,l.cvtV (n0:=n0) s 5 u v (D.monoM f.imm),h1⟩
  .have n:j<n0:=by rw [<-H];exact (Ad.1 B).1
   have i:=nX m j n;rw [Bx] at i;obtain ⟨hs',G,t,A⟩:=a.hs j hs B;have P:=hst.2 rfl hs (Az B);refine ⟨lI n0 j (aB (AW.aj J ac) j) hs',?_,?_⟩
   .rw [jS,i];simp [G]
   .unfold lI;split
    .rw [<-A];have:(hs++t).take 1=hs:=by rw [Dm o_,Cn o_]
     rw [this];simp
    .exact ⟨t,A⟩
  .obtain ⟨k,_,C⟩:=N j b (by rw [z];exact q);exact a.fresh k b C
  .show Mem x _ ao w
   grind
 | keep n0 r ao=>
  obtain ⟨⟨F,p⟩,h1,z⟩:=h;rw [HL] at p z;obtain ⟨K,I⟩:=hm.cutO p;have H:ob0.length=n0:=hst.1;rw [z] at K I;refine ⟨M,ob.take n0,v,⟨d.imm,d.new,λ k hs s=>?_,d.os,d.tape,d.output,d.size,d.keep,λ k b q=>d.fresh k b (I q)⟩,K,FY 5 D F,h1⟩;obtain ⟨hs',G,A⟩:=d.hs k hs s;have n:k<n0:=by grind
  exact ⟨hs',by grind,A⟩
end
section
variable {E:Env} {fn:Func} {g:Goal}
def go_ret(hE:ae E)(d:E.df=[])(i:E.rd=none){fr:ar}{ac:au}{v:aa}(k:aEq E ac fn.results.toList fr=some v)(h:T5 g .ret v ac){M0:Imm}{ob0:Hs}{ap:au}{w0:World}{a:Act}{w:World}
  (hst:uG g ob0) (hs:SS M0 ob0 ap w0 fn.ntmps E.df fr ac a w):gO E.P fn a.tmps (RR M0 ob0 ap w0 g) a.defers .returning w:=by
 obtain ⟨M,ob,c,hm,m,f,hd,q⟩:=hs;rw [d] at hd;refine qL (w0:=w0) s_ _ _ hd.marks λ w' b=>?_;have c:=c.shut b;have hm:=hm.shut b;obtain ⟨u,n,l⟩:=V4 hE hm k m;obtain ⟨M',ob',y,p,e,o,j⟩:=zD hst c hm l h;refine ⟨u,n,M',ob',p,e,?_⟩;rw [<-j];exact o
def aAC(hE:ae E){b:Bool}{fr:ar}{ac:au}(h:aIW E fn g (DW E fn g) b fr ac){M0:Imm}{ob0:Hs}{ap:au}{w0:World}{a:Act}{w:World}
  (hst:uG g ob0) (hs:SS M0 ob0 ap w0 fn.ntmps E.df fr ac a w):JZ E fn M0 ob0 ap w0 g b a w:=by
 unfold aIW at h;unfold JZ;cases c:E.rd with
 | some l=>
  rw [c] at h;dsimp only at h⊢;rw [PK] at h;obtain ⟨M,ob,j,hm,r,i,hd,q⟩:=hs;obtain ⟨M',ob',y,o,f,n,k⟩:=zD hst j hm (.bool b) h;exact ⟨M',ob',o,f,by rw [<-k];exact n⟩
 | none=>
 rw [c] at h;dsimp only at h⊢;cases e:E.df with
 | nil=>
  rw [e] at h;dsimp only at h;split at h
  .rename_i v m;rw [qD,PK] at h;exact go_ret hE e c m h hst hs
  grind
 | cons d p=>
  rw [e] at h;exact h M0 ob0 ap w0 a w hst hs
def aNJ(c:E.df=[]){v:aa}{ac:au}(h:T5 g .pan v ac){M0:Imm}{ob0:Hs}{ap:au}{w0:World}{sz:Nat}{k:Nat->aa}{d:List PanicEntry}{a:Act}{w:World}
  (hst:uG g ob0) (hs:PP M0 ob0 ap w0 sz E.df k v ac d a w):gO E.P fn a.tmps (RR M0 ob0 ap w0 g) a.defers (.panicking d) w:=by
 obtain ⟨M,ob,i,hm,⟨u,e,l⟩,_,_,hd,_⟩:=hs;rw [c] at hd;refine qL (w0:=w0) s_ _ _ hd.marks λ w' b=>?_;obtain ⟨M',ob',y,n,f,m,j⟩:=zD hst (i.shut b) (hm.shut b) l h;refine ⟨M',ob',n,f,?_⟩;rw [<-j];exact ⟨u,e,m⟩
def FQ{f:Nat->aa}{v:aa}{ac:au}(h:nH E fn g f v ac){M0:Imm}{ob0:Hs}{ap:au}{w0:World}{c:List PanicEntry}{a:Act}{w:World}
  (hst:uG g ob0) (hs:PP M0 ob0 ap w0 fn.ntmps E.df f v ac c a w):tQ E fn M0 ob0 ap w0 g (.panic c) a w:=by
 unfold nH at h;unfold tQ;cases e:E.rd with
 | some l=>grind
 | none=>
 rw [e] at h;dsimp only at h⊢;cases b:E.df with
 | nil=>
  rw [b] at h;exact aNJ b h hst hs
 | cons d i=>
  rw [b] at h;exact h M0 ob0 ap w0 c a w hst hs
def sE{sz:Nat}{l:bg}(h:aL4 sz l=true):∀ p∈l,∀ d,p.dst=some d->d<sz:=λ p hp d hd=>by have:=Cb.1 h p hp;simp_all
def QR(E:Env)(fn:Func)(g:Goal)(M0:Imm)(ob0:Hs)(ap:au)(w0:World)(ks:bh):Exit->Act->World->Prop
 | .normal,a,w=>KW E.rd E.P (tQ E fn M0 ob0 ap w0 g) ks a w
 | .panic ch,a,w=>tQ E fn M0 ob0 ap w0 g (.panic ch) a w
 | _,_,_=>False
def aCi(hE:ae E)(j:∀ ops:Array Oper,RJ ops=true->TabSp ops (lN [] ops.toList)){id:Nat}{ops:Array Oper}{dr:Bool}{ks:bh}{fr:ar}{ac:au}
  (h:aNq E fn g ⟨ops.toList,dr,lN [] ops.toList,ks⟩ 0 ops.toList [] fr ac):dR E fn g (.code (.region id ops dr)::ks) fr ac:=by
 intro q M0 ob0 ap w0 a w hst hs;simp only [bO,KI.ok,dU,Af] at q;obtain ⟨⟨o,n⟩,m⟩:=q;have hd:=sE o
 refine KW.code (Q':=QR E fn g M0 ob0 ap w0 ks) ?_ (λ a w h=>h) (λ b a w h=>h) (λ e a w t=>by cases e<;>first | exact .inl rfl | exact .inr ⟨_,rfl⟩ | exact t.elim)
 have hp:∀ c v ac b a w,nH E fn g c v ac->PP M0 ob0 ap w0 fn.ntmps E.df c v ac b a w->tQ E fn M0 ob0 ap w0 g (.panic b) a w:=λ c v ac b a w u l=>FQ u hst l;have r:∀ fr ac a w,dR E fn g ks fr ac->SS M0 ob0 ap w0 fn.ntmps E.df fr ac a w->KW E.rd E.P (tQ E fn M0 ob0 ap w0 g) ks a w:=λ fr ac a w s hs=>s m M0 ob0 ap w0 a w hst hs;cases dr with
 | false=>
  refine wpIn_region_list ?_;exact pY (rd:=E.rd) (Q:=QR E fn g M0 ob0 ap w0 ks) (K:=dR E fn g ks) (Kp:=nH E fn g) hE (λ c v ac b a w h1 f=>hp c v ac b a w h1 f) (λ fr ac a w h1 f=>r fr ac a w h1 f) ops.toList 0 fr ac a w hd h hs
 | true=>
  exact V6 (rd:=E.rd) (Q:=QR E fn g M0 ob0 ap w0 ks) (Kq:=dR E fn g ks) (Kp:=nH E fn g) hE (j ops (by simpa using n)) (λ i p x d k=>hd p (Az (i:=i) q_) d k) (λ c v ac b a w h1 f=>hp c v ac b a w h1 f) (λ fr ac a w h1 f=>r fr ac a w h1 f) hs h
def dR.step{ks ks':bh}{fr:ar}{ac:au}(hs:∀ a w (b:Frame) cs,Go.step E.P (lone (b.atR a (jR ks)) cs w)= .next (lone (b.atR a (jR ks')) cs w))(d:bO fn.ntmps ks=true->bO fn.ntmps ks'=true)(h:dR E fn g ks' fr ac):dR E fn g ks fr ac:=
 λ e M0 ob0 ap w0 a w hst c=>KW.step (hs a w) (h (d e) M0 ob0 ap w0 a w hst c)
def go(hE:ae E)(F:∀ ops:Array Oper,RJ ops=true->TabSp ops (lN [] ops.toList)):∀ (u:Nat) (st:St),cH E fn g (DW E fn g) u st->DW E fn g st:=by
 intro u;induction u with
 | zero=>intro st h;exact h
 | succ n e=>
  intro st h;cases st with
  | head ks fr ac=>exact e (.code ks fr ac) h
  | leave p fr ac=>exact h
  | code ks fr ac=>
   cases ks with
   | nil=>
    simp only [cH] at h;exact λ_ M0 ob0 ap w0 a w hst hs=>KW.nil (aAC (b:=true) hE h hst hs)
   | cons k ks=>
    cases k with
    | inB id=>exact dR.step (λ a w b cs=>stepR_inBlock) (λ j=>by simp only [bO,Af] at j;exact j.2) (e (.code ks fr ac) h)
    | inL b=>
     exact dR.step (ks':=.code b:: .inL b::ks) (λ a w b cs=>stepR_inLoop) (λ j=>by simp only [bO,KI.ok,Af] at j⊢;grind) h
    | beginR=>exact h
    | code q=>
     cases q with
     | rangeFunc x T as S=>exact h
     | skip=>exact dR.step (λ a w b cs=>stepR_skip) (λ j=>by simp only [bO,Af] at j;exact j.2) (e (.code ks fr ac) h)
     | seq x y=>exact dR.step (λ a w b cs=>stepR_seq) (λ j=>by simp only [bO,KI.ok,dU,Af] at j⊢;grind) (e (.code (.code x:: .code y::ks) fr ac) h)
     | block id b=>exact dR.step (λ a w b cs=>stepR_block) (λ j=>by simp only [bO,KI.ok,dU,Af] at j⊢;grind) (e (.code (.code b:: .inB id::ks) fr ac) h)
     | loop b=>exact dR.step (ks':=.code b:: .inL b::ks) (λ a w b cs=>stepR_loop) (λ j=>by simp only [bO,KI.ok,dU,Af] at j⊢;grind) h
     | exit id=>
            simp only [cH] at h;split at h
            .rename_i ks' H;exact dR.step (λ a w b cs=>stepR_exit (oQ _ _ H)) (λ j=>wD _ _ H (by simp only [bO,Af] at j;exact j.2)) (e (.code ks' fr ac) h)
            grind
     | ret=>
            simp only [cH] at h;exact λ_ M0 ob0 ap w0 a w hst hs=>KW.ret (aAC (b:=false) hE h hst hs)
     | cond x c d=>
            simp only [cH] at h;split at h
            .rename_i p hp;intro j M0 ob0 ap w0 a w hst hs;simp only [bO,KI.ok,dU,Af] at j;obtain ⟨M,ob,H,hm,N,L,hd,V⟩:=id hs;have B:=IT (a:=a) N x;rw [hp] at B;cases p with
             | true=>
              refine KW.step (ks':=.code c::ks) (λ b cs=>?_) (h.1 rfl (by simp only [bO,KI.ok,Af];exact ⟨j.1.1,j.2⟩) M0 ob0 ap w0 a w hst hs);exact stepR_cond (P:=E.P) (b:=b) (k:=jR ks) (cs:=cs) (w:=w) (x:=c) (y:=d) B.bool_inv
             | false=>
              refine KW.step (ks':=.code d::ks) (λ b cs=>?_) (h.2 rfl (by simp only [bO,KI.ok,Af];exact ⟨j.1.2,j.2⟩) M0 ob0 ap w0 a w hst hs);exact stepR_cond (P:=E.P) (b:=b) (k:=jR ks) (cs:=cs) (w:=w) (x:=c) (y:=d) B.bool_inv
            grind
     | region id ops dr=>
            simp only [cH] at h;cases A:aPl ops.toList with
            | true=>grind
            | false=>
             rw [A] at h;dsimp only at h;refine aCi hE F ?_;cases dr with
             | false=>
              have:=e (.mid ⟨ops.toList,false,[],ks⟩ 0 ops.toList [] fr ac) h;exact this
             | true=>
              simp only [aHu] at h;exact e (.mid ⟨ops.toList,true,lN [] ops.toList,ks⟩ 0 ops.toList [] fr ac) h
     | _=>exact h.elim
  | mid R i rest br fr ac=>
   cases rest with
   | nil=>
    have K:=e (.code R.ks fr ac) h;obtain ⟨all,dr,tab,ks⟩:=R;cases dr with
    | false=>exact K
    | true=>exact K
   | cons p rest=>
    obtain ⟨all,dr,tab,ks⟩:=R;cases dr with
    | false=>
     simp only [cH] at h;show fX E all (dR E fn g ks) (nH E fn g) i (p::rest) fr ac;simp only [fX];cases I:cY all (ev fr) p.guard with
     | none=>grind
     | some b=>
            rw [I] at h;cases b with
            | false=>
             cases o:p.dst with
             | none=>rw [o] at h;exact e _ h
             | some d=>
              rw [o] at h;dsimp only at h;rw [pP] at h;exact e (.mid ⟨all,false,tab,ks⟩ (i+1) rest br (kC fr d (.tup [])) ac) h
            | true=>exact e (.pend ⟨all,false,tab,ks⟩ i p.dst rest br fr ac _) h
    | true=>
     simp only [cH] at h;show lK E all tab (dR E fn g ks) (nH E fn g) i (p::rest) br fr ac;simp only [lK];cases I:cY all (evH tab all i fr) p.guard with
     | none=>grind
     | some b=>
            rw [I] at h;cases b with
            | false=>
             cases o:p.dst with
             | none=>rw [o] at h;exact e _ h
             | some d=>
              rw [o] at h;dsimp only at h;rw [pP] at h;exact e (.mid ⟨all,true,tab,ks⟩ (i+1) rest br (kC fr d (.tup [])) ac) h
            | true=>
             dsimp only at h;rw [wO] at h;exact e (.pend ⟨all,true,tab,ks⟩ i p.dst rest br fr ac _) h
  | got R i d rest br fr len ac v=>
   simp only [cH,qD,wO] at h;show aF0 E fn g R i d rest br fr len ac v;unfold aF0 wrP;cases d with
   | none=>exact e _ h
   | some d=>
    dsimp only at h⊢;cases J:BC i rest with
    | false=>
     rw [J] at h;simp only [cond_false,pP] at h;exact e _ h
    | true=>
     rw [J] at h;simp only [cond_true] at h⊢;split at h
     .rw [pP,pP] at h;exact h
     omega
  | pend R i d rest br fr ac r=>
   obtain ⟨all,dr,tab,ks⟩:=R;have G:∀ {q:Prop} {b:Bool},(match (!dr||b) with | true=>q | false=>False)->q/\(dr=true->b=true):=λ{q b} hq=>by grind
   cases r with
   | no=>exact h.elim
   | val v=>
    simp only [cH,qD] at h;have:=e _ h;cases dr<;>exact this
   | mkf f W cs=>
    simp only [cH,QD (qD 3)] at h;have:=e _ h;cases dr<;>exact this
   | need p r=>
    simp only [cH] at h;cases dr<;>exact h
   | alt p v U=>
    simp only [cH] at h;cases dr<;>exact h
   | idx m f=>
    simp only [cH] at h;cases dr<;>exact h
   | elem xs m f=>
    simp only [cH] at h;cases dr<;>exact h
   | byte l m=>
    simp only [cH] at h;cases dr<;>exact h
   | text xs=>
    simp only [cH] at h;cases dr<;>exact h
   | find es key f=>
    simp only [cH] at h;cases dr<;>exact h
   | born x v=>
    simp only [cH,aHK,wO,qD] at h;cases dr with
    | false=>
     have:=e (.got _ _ _ _ _ _ _ _ _) h;exact this
    | true=>
     cases s:blD E d with
     | true=>rw [s] at h;exact h.elim
     | false=>
            rw [s] at h;have:=e (.got _ _ _ _ _ _ _ _ _) h;simp only [DW];rw [s];exact this
   | upd k x v=>
    simp only [cH,aHK,wO,qD] at h;obtain ⟨h,t⟩:=G h;have:=e _ h;cases dr with
    | false=>exact this
    | true=>
     simp only [DW,orD];rw [t rfl];exact this
   | nilq xs O=>
    simp only [cH] at h;obtain ⟨h,t⟩:=G h;cases dr with
    | false=>exact h
    | true=>
     simp only [DW];rw [t rfl];exact h
   | call f args=>
    have D:aNc E g (DW E fn g) fr=nH E fn g (bG fr):=by rfl
    simp only [cH,QD (qD 5),D] at h;cases dr with
    | false=>exact h
    | true=>
     dsimp only at h;cases s:blD E d with
     | true=>rw [s] at h;exact h.elim
     | false=>
            rw [s] at h;dsimp only at h;rw [wO] at h;simp only [DW];rw [s];exact h
   | pan v=>
    simp only [cH,qD] at h;obtain ⟨z,t⟩:=G h;have h3:nH E fn g (bG fr) v ac:=by
     unfold nH;cases C:E.rd with
     | some l=>rw [C] at z;omega
     | none=>
     rw [C] at z;dsimp only at z⊢;cases A:E.df with
     | nil=>rw [A] at z;dsimp only at z⊢;rw [PK] at z;exact z
     | cons d Q=>rw [A] at z;exact z
    cases dr with
    | false=>exact h3
    | true=>
     simp only [DW];rw [t rfl];exact h3
end
def qS(P:Program)(f:FuncId):Prop:=∀ (args:Array Value) (w:World),(callFunc f args).run P w= .ok (.enter f args) w
def IG:∀ (l:ay) (n t:Nat),bG (frA n l) t=if n<=t then (l[t-n]?).getD .undef else .undef
 | [],n,t=>by simp [frA,bG]
 | a::l,n,t=>by
  simp only [frA,bG];cases h:Ba n t with
  | true=>simp_all
  | false=>
   have c:n≠t:=λ e=>by simp_all
   simp only [cond_false];rw [IG l (n+1) t];by_cases b:n+1<=t
   .rw [if_pos b,if_pos o_];have:t-n=(t-(n+1))+1:=o_;simp_all
   grind
def UQ{P:Program}{f:FuncId}{fn:Func}{c:Code}{args:Array Value}{w:World}{R:Ending->World->Prop}(t:P.funcs[f]? =some fn)(v:fn.body=some c)
  {Q:Exit->Act->World->Prop} (u:∀ e a w,Q e a w->(match e with | .normal | .ret=>gO P fn a.tmps R a.defers .returning w | .panic ch=>gO P fn a.tmps R a.defers (.panicking ch) w | _=>False)) (h:KW none P Q [.code c] {tmps:=args++Gh (fn.ntmps-args.size) undef,defers:=[]} w):Calls P f args w R:=by
 intro cs
 let b:Frame:={(default:Frame) with fn:=f,kind:=.normal}
 have m:Frame.enter P f args .normal=b.at {tmps:=args++Gh (fn.ntmps-args.size) undef,defers:=[]} [.code c]:=by simp [Frame.enter,Frame.at,t,v,b]
 obtain ⟨e,o,w',s,d⟩:=h.arrives b cs rfl;have s:=u _ _ _ s;rw [show jR [.code c]=[.code c] from rfl,<-m] at d;cases e with
 | normal=>
  obtain ⟨q,g,j,r,hs,k,p,hl⟩:=gY o.defers .returning w' {b.at o [] with mode:=.returning} cs rfl rfl rfl t s;exact ⟨q,g,j,r,Comes.of_steps (Steps.trans d (.one step_end)) hs,k,qN hl p⟩
 | ret=>
  obtain ⟨i,n⟩:=d;obtain ⟨q,g,j,r,hs,k,p,hl⟩:=gY o.defers .returning w' {b.at o i with mode:=.returning} cs rfl rfl rfl t s;exact ⟨q,g,j,r,Comes.of_steps n hs,k,qN hl p⟩
 | panic fX=>
  obtain ⟨i,n⟩:=d;obtain ⟨q,g,j,r,hs,k,p,hl⟩:=gY o.defers (.panicking fX) w' {b.at o i with mode:=.panicking fX} cs rfl rfl rfl t s;exact ⟨q,g,j,r,Comes.of_steps n hs,k,qN hl p⟩
 | exit id=>simp_all
 | goto l=>simp_all
 | outgrown=>simp_all
def okA:aa->Prop
 | .int k n=>inR k n
 | .str l=>(l.length:Int)<=9223372036854775807
 | .slice _ xs _=>(xs.length:Int)<=9223372036854775807
 | _=>True
def Rep.okA{M:Imm}{ob:Hs}{v:Value}{a:aa}(h:Rep M ob v a):okA a:=by
 cases a with
 | int k n=>exact h.int_inv.2
 | str l=>exact h.str_inv.2
 | slice sz xs t=>obtain ⟨_,_,_,_,_,h⟩:=h.slice_inv;exact h
 | _=>exact trivial
def okL:ay->Prop
 | []=>True
 | a::r=>okA a/\okL r
def cM.okL{M:Imm}{ob:Hs}:∀ {vs:ba} {as:ay},cM M ob vs as->okL as
 | _,[],_=>trivial
 | [],a::r,h=>by have:=h.1;simp at this
 | v::vs,a::r,h=>⟨(h.2 0 v a rfl rfl).okA,cM.okL (vs:=vs) ⟨by simpa using h.1,λ i u b d c=>h.2 (i+1) u b (by simp_all) (by simp_all)⟩⟩
def yO:au->Bool
 | []=>true
 | o::r=>o.owns&&Ba (fZ o) 0&&yO r
def yN:∀ {l:au},yO l=true->∀ (k:Nat) o,l[k]? =some o->o.owns=true/\fZ o=0
 | [],_,k,o,h=>by simp at h
 | x::r,hb,k,o,h=>by
  simp only [yO,Af] at hb;cases k with
  | zero=>simp_all
  | succ k=>exact yN hb.2 k o (by simp_all)
def aA.of{E:Env}{f:FuncId}{fn:Func}{args:ay}{ac:au}{g:Goal}(l:E.df=[])(z:E.P.funcs[f]? =some fn)(y:fn.body=some (eK fn))(j:qS E.P f)
  (n:dU fn.ntmps (eK fn)=true) (x:Gd args.length fn.ntmps=true) (o:yO ac=true) (s:ac.length=g.n0) (h:okL args->DW E fn g (.code [.code (eK fn)] (frA 0 args) ac)) (c:E.rd=none:=by rfl):aA E.P f args ac g.res g.obs:=by
 intro M ob w b hm m;refine .inl ⟨j _ _,UQ (Q:=tQ E fn M ob ac w g) z y (λ e a w h=>?_) ?_⟩
 .cases e<;>(try unfold tQ JZ at h)<;>(try rw [c] at h)<;>exact h
 have r:b.length=args.length:=m.1;have u:=Cu x;have hst:uG g ob:=by
  refine ⟨by rw [hm.len,s],λ_ hs i=>?_⟩;obtain ⟨k,v⟩:=Da i;have d:k<ac.length:=by rw [<-hm.len];grind
  obtain ⟨h1,A⟩:=yN o k _ (Ac d);have e:=jF (Ac d);have:=hm.histLen (by grind) v
  grind
 rw [<-c];refine h m.okL (by simp [bO,KI.ok,n]) M ob ac w {tmps:=b.toArray++Gh (fn.ntmps-b.toArray.size) undef,defers:=[]} w hst ⟨M,ob,Ext.refl _ _ _ _,hm,λ t=>?_,?_,by rw [l];exact dK.nil,by rw [hm.len];omega⟩
 .rw [IG];simp only [Ch,if_true,Iz];by_cases p:t<args.length
  .rw [Ac p];have q:t<b.length:=o_;have:(b.toArray++Gh (fn.ntmps-b.toArray.size) undef).getD t undef=b[t]:=by rw [Bo,Hi o_];simp [q]
   rw [this];exact m.2 t _ _ (Ac q) (Ac p)
  .rw [Bm o_];exact .undef _
 simp_all
def vF(m i:Nat):dH m i=m.testBit i:=by
 unfold dH Nat.testBit;have h1:Nat.land (Nat.shiftRight m i) 1=(m >>> i) % 2:=Nat.and_one_is_mod _;have a:(1 &&& (m >>> i))=(m >>> i) % 2:=by simp
 rw [h1,a];rcases Nat.mod_two_eq_zero_or_one (m >>> i) with h | h<;>rw [h]<;>rfl
def NE{tab:az}{i:Nat}:∀ {l:az},dH (lV tab l) i=true↔ ∃ e∈l,e=i\/dH (dM tab e) i=true
 | []=>by rw [vF];simp [lV]
 | x::r=>by
  have b:=NE (tab:=tab) (i:=i) (l:=r);rw [vF] at b⊢;have e:lV tab (x::r)=(1 <<< x ||| dM tab x) ||| lV tab r:=rfl
  rw [e,Nat.testBit_or,Nat.testBit_or,Nat.one_shiftLeft,Lf,Fl,Fl,b,decide_eq_true_eq];constructor
  .rintro ((h | h) | ⟨e,h1,a⟩)
   .simp_all
   .exact ⟨x,by simp,.inr (by rw [vF];exact h)⟩
   .exact ⟨e,by simp [h1],a⟩
  .rintro ⟨e,h1,a⟩;rcases Aw.1 h1 with rfl | h1
   .rcases a with a | a
    .omega
    .rw [vF] at a;grind
   .exact .inr ⟨e,h1,a⟩
def IJ{a b:az}{j:Nat}(h:j<a.length):dM (a++b) j=dM a j:=by
 induction a generalizing j with
 | nil=>simp at h
 | cons x r c=>
  cases j with
  | zero=>rfl
  | succ j=>exact c (by grind)
def aF5{a:az}{m:Nat}:dM (a++[m]) a.length=m:=by
 induction a with
 | nil=>rfl
 | cons x r b=>exact b
def aF4{a:az}{j:Nat}(h:a.length<=j):dM a j=0:=by
 induction a generalizing j with
 | nil=>rfl
 | cons x r b=>
  cases j with
  | zero=>simp at h
  | succ j=>exact b (by grind)
def DU:∀ (l:bg) (tab:az),∃ t,lN tab l=tab++t/\t.length=l.length
 | [],tab=>⟨[],by simp [lN],rfl⟩
 | p::r,tab=>by obtain ⟨t,h1,a⟩:=DU r (tab++[lV tab (kD p)]);exact ⟨lV tab (kD p)::t,by simp [lN,h1],by simp [a]⟩
def EG{a b:az}:∀ {l:az},(∀ e∈l,dM a e=dM b e)->lV a l=lV b l
 | [],_=>rfl
 | x::r,h=>by
  have:=EG (l:=r) λ e c=>h e (by simp [c]);show Nl (Nl _ (dM a x)) (lV a r)=Nl (Nl _ (dM b x)) (lV b r)
  grind
def UZ:∀ (l:bg) (tab:az),PU tab.length l=true->∀ (i:Nat) p,l[i]? =some p->dM (lN tab l) (tab.length+i)=lV (lN tab l) (kD p)/\∀ e∈kD p,e<tab.length+i
 | [],_,_,i,p,h=>by simp at h
 | q::r,tab,hb,i,p,h=>by
  simp only [PU,Af] at hb;have a:∀ e∈kD q,e<tab.length:=λ e b=>by simp_all
  cases i with
  | zero=>
   simp at h;subst h;refine ⟨?_,λ e b=>by grind⟩;obtain ⟨t,h1,_⟩:=DU r (tab++[lV tab (kD q)]);have c:lN tab (q::r)=(tab++[lV tab (kD q)])++t:=h1;rw [Fx,c,IJ s_,aF5];refine EG λ e b=>?_;have:=a e b;rw [IJ q_,IJ this]
  | succ i=>
   have:=UZ r (tab++[lV tab (kD q)]) (by simp_all) i p (by simp_all);simp only [Ai,Mz] at this;rw [show tab.length+(i+1)=tab.length+1+i from by omega];exact this
def SD{p:Oper}{i:Nat}:i∈kD p↔ ∃ e∈p.after,Jv .any e=true/\e.on=i:=by
 unfold kD
 grind
def JA{tab:az}{i d:Nat}:∀ {l:bg} {n:Nat},T9 tab i d n l=true->∀ (j:Nat) q,l[j]? =some q->loose tab i (n+j)=true->q.dst≠some d
 | [],_,_,j,q,h,_=>by simp at h
 | x::r,n,hb,j,q,h,hl=>by
  simp only [T9,Af] at hb;cases j with
  | zero=>
   simp at h;subst h;intro e;simp_all
  | succ j=>exact JA hb.2 j q (by simp_all) (by grind)
def MY{tab:az}{all:bg}:∀ {l:bg} {n:Nat},aKS tab all n l=true->∀ (i:Nat) p d,l[i]? =some p->p.dst=some d->T9 tab (n+i) d 0 all=true
 | [],_,_,i,p,d,h,_=>by simp at h
 | x::r,n,hb,i,p,d,h,hd=>by
  simp only [aKS,Af] at hb;cases i with
  | zero=>
   grind
  | succ i=>
   have:=MY hb.2 i p d (by simp_all) hd
   grind
def G5(ops:Array Oper)(h:RJ ops=true):TabSp ops (lN [] ops.toList):=by
 simp only [RJ,Af] at h;obtain ⟨h1,z⟩:=h;have get:∀ (j:Nat) p,ops[j]? =some p->dM (lN [] ops.toList) j=lV (lN [] ops.toList) (kD p)/\∀ e∈kD p,e<j:=λ j p hp=>by have:=UZ ops.toList [] h1 j p (by grind);simp_all
 have r:(lN [] ops.toList).length=ops.size:=by obtain ⟨t,s,D⟩:=DU ops.toList [];rw [s];simp;omega
 have c:∀ j i,dH (dM (lN [] ops.toList) j) i=true->j<ops.size:=λ j i g=>by refine Nat.lt_of_not_le λ u=>?_;rw [aF4 o_,vF] at g;simp at g
 have a:∀ (j:Nat) p,ops[j]? =some p->∀ e∈p.after,Jv .any e=true->e.on<j:=λ j p hp e f k=>(get j p hp).2 _ (SD.2 ⟨e,f,k,rfl⟩);have b:∀ (j:Nat) p,ops[j]? =some p->∀ i,dH (dM (lN [] ops.toList) j) i=true->∃ e∈p.after,Jv .any e=true/\(e.on=i\/dH (dM (lN [] ops.toList) e.on) i=true):=λ j p hp i o=>by rw [(get j p hp).1] at o;obtain ⟨e,f,l⟩:=NE.1 o;obtain ⟨y,x,v,B⟩:=SD.1 f;subst B;exact ⟨y,x,v,l⟩
 have d:∀ i j,dH (dM (lN [] ops.toList) i) j=true->j<i:=by
  intro i;induction i using Ih with
  | ind i A=>
   intro j g;have m:=c i j g;have hp:ops[i]? =some ops[i]:=Hk m;obtain ⟨e,f,k,h | h⟩:=b i _ hp j g
   .have:=a i _ hp e f k;omega
   .have h1:=a i _ hp e f k;have:=A e.on h1 j h;omega
 exact ⟨a,d,b,c,λ i j p q hp C hl t w=>by
  have:=MY (n:=0) z i p t q_ w;rw [Bx] at this
  exact JA this j q q_ q_⟩
inductive To(E:Env)(fn:Func)(g:Goal)(st:St):Prop
 | mk (h:DW E fn g st)
def aQb(E:Env)(fn:Func)(g:Goal):To E fn g=DW E fn g:=funext λ st=>propext ⟨λ⟨h⟩=>h,.mk⟩
def dF{E:Env}{fn:Func}{g:Goal}(hE:ae E)(a:Nat){st:St}(h:cH E fn g (To E fn g) a st):To E fn g st:=by rw [aQb] at h⊢;exact go hE G5 a st h
def aA.to{E:Env}{f:FuncId}{fn:Func}{args:ay}{ac:au}{g:Goal}(e:E.df=[])(k:E.P.funcs[f]? =some fn)(i:fn.body=some (eK fn))(a:qS E.P f)
  (b:dU fn.ntmps (eK fn)=true) (m:Gd args.length fn.ntmps=true) (d:yO ac=true) (j:ac.length=g.n0) (h:okL args->To E fn g (.code [.code (eK fn)] (frA 0 args) ac)) (c:E.rd=none:=by rfl):aA E.P f args ac g.res g.obs:=
 aA.of e k i a b m d j (λ l=>(h l).rec λ h=>h) c
def zvL(f:Value->aa):ba->ay
 | []=>[]
 | v::r=>f v::zvL f r
def zv:Nat->Value->aa
 | n+1,.agg vs=>.agg (zvL (zv n) vs.toList)
 | _,v=>aLa v
def YW{M:Imm}{ob:Hs}{f:Value->aa}(e:∀ v,Rep M ob v (f v)):∀ (l:ba),l.length=(zvL f l).length/\∀ (i:Nat) v a,l[i]? =some v->(zvL f l)[i]? =some a->Rep M ob v a
 | []=>⟨rfl,λ i v a h=>by simp at h⟩
 | x::l=>by
  obtain ⟨h1,d⟩:=YW e l;refine ⟨by simp [zvL,h1],λ i v a b c=>?_⟩;cases i with
  | zero=>simp [zvL] at b c;grind
  | succ i=>exact d i v a (by simpa using b) (by simpa [zvL] using c)
def aMb{M:Imm}{ob:Hs}:∀ (n:Nat) (v:Value),Rep M ob v (zv n v):=by
 intro n;induction n with
 | zero=>intro v;exact wI v
 | succ n b=>
  intro v;cases v with
  | agg vs=>
   obtain ⟨h1,a⟩:=YW (M:=M) (ob:=ob) b vs.toList;have:=Rep.agg vs.toList _ h1 a;simpa [zv] using this
  | _=>exact wI _
def UP(P:Program):Nat->Nat->List (Option Nat)
 | 0,_=>[]
 | n+1,t=>match P.underlying t with
  | some (.struct fs)=>fs.toList.flatMap λ f=>UP P n f.type
  | some (.array len e)=>(Aj len (UP P n e)).flatten
  | some (.slice e)=>[some (((P.info? e).map (·.size)).getD 0)]
  | _=>[none]
def aH5:Option Nat->aa->aa
 | some sz,.nilslice=>.slice sz [] .nil
 | _,v=>v
def tyZ:List (Option Nat)->ay->ay
 | k::ks,c::cs=>aH5 k c::tyZ ks cs
 | _,cs=>cs
def zT(P:Program)(t:Nat)(z:Value):aa:=match zv 4 z with
 | .agg cs=>.agg (tyZ (UP P 6 t) cs)
 | v=>aH5 (match UP P 6 t with | k::_=>k | []=>none) v
def QO{M:Imm}{ob:Hs}{k:Option Nat}{v:Value}{a:aa}(h:Rep M ob v a):Rep M ob v (aH5 k a):=by
 unfold aH5;split
 .cases h;exact .slnil _ _ rfl
 .exact h
def Y9{M:Imm}{ob:Hs}:∀ {ks:List (Option Nat)} {cs:ay} {vs:ba},cM M ob vs cs->cM M ob vs (tyZ ks cs)
 | [],cs,vs,h=>by cases cs<;>exact h
 | k::ks,[],vs,h=>h
 | k::ks,c::cs,[],h=>by have:=h.1;simp at this
 | k::ks,c::cs,v::vs,h=>cM.cons (QO (h.2 0 v c rfl rfl)) (Y9 ⟨by simpa using h.1,λ i u b d a=>h.2 (i+1) u b (by simp_all) (by simp_all)⟩)
def aMc{M:Imm}{ob:Hs}{P:Program}{t:Nat}{z:Value}:Rep M ob z (zT P t z):=by
 have h:=aMb (M:=M) (ob:=ob) 4 z;unfold zT;split
 .rename_i cs a;rw [a] at h;obtain ⟨vs,rfl,h1,b⟩:=h.agg_inv;obtain ⟨d,c⟩:=Y9 (ks:=UP P 6 t) ⟨h1,b⟩;exact .agg vs _ d c
 .exact QO h
def vM(P:Program)(t:Nat):Nat:=((P.info? t).map (·.size)).getD 0
def mkF(P:Program)(f:Field):Nat×Nat×Bool:=(f.offset,vM P f.type,aK P f.type)
def aNp(P:Program):List Field->List (Nat×Nat×Bool)
 | []=>[]
 | f::r=>mkF P f::aNp P r
def O5(P:Program)(t:Nat):Bool:=(P.info? t).isSome&&(P.underlying t).isSome
def fsB(P:Program):List Field->Bool
 | []=>true
 | f::r=>O5 P f.type&&fsB P r
def OX(P:Program)(t:Nat):TK:=match P.underlying t with
 | some (.int k)=>.int k
 | some .bool=>.bool
 | some .string=>.str
 | some (.struct fs)=>.strct (aNp P fs.toList)
 | some (.array n e)=>.arr n (vM P e) (aK P e)
 | some (.slice e)=>.slc e (vM P e) (((P.info? e).map (·.bytes)).getD 0)
 | some (.pointer e)=>.ptr e
 | some (.interface _)=>.iface
 | some (.map k e)=>.mp k e
 | _=>.other
def aJC(P:Program)(t:Nat):TI:=match P.info? t with
 | some i=>⟨OX P t,i.size,aK P t,match i.zero with | some z=>zT P t z | none=>.undef⟩
 | none=>⟨.other,0,false,.undef⟩
def YY(P:Program)(t:Nat):Bool:=match P.info? t with
 | some i=>(match i.zero with
  | some z=>Ba z.cells.size i.size&&(z.cells.toList.all (·.oneCell')&&HT (zT P t z))
  | none=>false)
 | none=>false
def aPP(P:Program)(e:Nat):Bool:=YY P e
def okB(P:Program)(t:Nat):Bool:=YY P t&&match P.underlying t with
 | some (.int _) | some .bool | some .string | some (.pointer _) | some (.interface _) | some (.map _ _)=>Ba (vM P t) 1
 | some (.struct fs)=>fsB P fs.toList
 | some (.array _ e)=>O5 P e
 | some (.slice e)=>Ba (vM P t) 1&&aPP P e
 | some _=>true
 | none=>false
def aAj(P:Program):∀ (l:List Field),fsB P l=true->sM P l (aNp P l)
 | [],_=>trivial
 | f::r,h=>by simp only [fsB,Af,O5] at h;obtain ⟨⟨h1,b⟩,h3⟩:=h;obtain ⟨i,a⟩:=Dl.1 h1;exact ⟨rfl,by simp [vM,a],b,rfl,aAj P r h3⟩
def F5{P:Program}{t:Nat}(h:YY P t=true):∃ i z,P.info? t=some i/\i.zero=some z/\z.cells.size=i.size/\z.cells.toList.all (·.oneCell')=true/\zT P t z≠ .undef:=by
 unfold YY at h;split at h
 .rename_i i a;split at h
  .rename_i z hz;simp only [Af] at h;obtain ⟨h1,b,h3⟩:=h;exact ⟨i,z,a,hz,aE h1,b,FM h3⟩
  .cases h
 .cases h
def aJB{P:Program}{t:Nat}(h:okB P t=true):TIOK P t (aJC P t):=by
 simp only [okB,Af] at h;obtain ⟨q,h1⟩:=h;obtain ⟨i,z,m,hz,hs,f,l⟩:=F5 q;have hm:aJC P t=⟨OX P t,i.size,aK P t,zT P t z⟩:=by simp [aJC,m,hz]
 have hst:vM P t=i.size:=by simp [vM,m]
 rw [hm];refine ⟨⟨i,z,m,rfl,hz,hs,aMc,f,l⟩,?_⟩;show zR P t (aK P t) i.size (OX P t);unfold OX;have b:∀ d,P.underlying t=some d->aK P t=match d with | .struct _ | .array _ _=>true | _=>false:=λ d hd=>by unfold aK;rw [hd];cases d<;>rfl
 split at h1
 .rename_i k a;rw [a];exact ⟨a,b _ a,by rw [<-hst];exact aE h1⟩
 .rename_i a;rw [a];exact ⟨a,b _ a,by rw [<-hst];exact aE h1⟩
 .rename_i a;rw [a];exact ⟨a,b _ a,by rw [<-hst];exact aE h1⟩
 .rename_i e a;rw [a];exact ⟨a,b _ a,by rw [<-hst];exact aE h1⟩
 .rename_i p a;rw [a];exact ⟨⟨p,a⟩,b _ a,by rw [<-hst];exact aE h1⟩
 .rename_i mk u a;rw [a];exact ⟨a,b _ a,by rw [<-hst];exact aE h1⟩
 .rename_i r a;rw [a];exact ⟨⟨r,a,aAj P _ h1⟩,b _ a⟩
 .rename_i n e a;rw [a];simp only [O5,Af] at h1;obtain ⟨j,c⟩:=Dl.1 h1.1;exact ⟨⟨e,a,by simp [vM,c],h1.2,rfl⟩,b _ a⟩
 .rename_i e a;rw [a];simp only [Af] at h1;obtain ⟨j,y,c,s,g,o,_⟩:=F5 h1.2;exact ⟨⟨a,j,y,c,by simp [vM,c],by simp [c],s,by simp [vM,c,g],o⟩,b _ a,by rw [<-hst];exact aE h1.1⟩
 .rename_i d w F v H B C G A D a;rw [a];have hd:∀ (α:Type) (x y:α),True:=λ_ _ _=>trivial
  cases d<;>first
   | exact ⟨⟨_,a,λ p e=>by cases e⟩,rfl⟩
   | grind
 .cases h1
def aAi(P:Program):az->Tab
 | []=>[]
 | t::r=>(t,aJC P t)::aAi P r
def aIg(P:Program):az->Bool
 | []=>true
 | t::r=>okB P t&&aIg P r
def aFG:Tab->az
 | []=>[]
 | (t,_)::r=>t::aFG r
def ST{P:Program}:∀ {l:az},aIg P l=true->∀ t a,dL (aAi P l) t=some a->TIOK P t a
 | [],_,t,a,h=>by cases h
 | x::r,hb,t,a,h=>by
  simp only [aIg,Af] at hb;simp only [aAi,dL] at h;cases b:Ba x t with
  | true=>
   rw [b] at h;cases h;rw [<-aE b];exact aJB hb.1
  | false=>rw [b] at h;exact ST hb.2 t a h
def VH{P:Program}{T:Tab}(h1:aAi P (aFG T)=T)(b:aIg P (aFG T)=true):∀ t a,dL T t=some a->TIOK P t a:=by intro t a h;rw [<-h1] at h;exact ST b t a h
def tI(fr:ar)(t:Nat):∀ (keep:az),bG (lC keep fr) t=bG fr t\/bG (lC keep fr) t= .undef
 | []=>.inr rfl
 | k::r=>by
  simp only [lC,bG];cases h:Ba k t with
  | true=>simp_all
  | false=>exact tI fr t r
def SS.weak{M0:Imm}{ob0:Hs}{ap:au}{w0:World}{sz:Nat}{dfs:List (Nat×ay)}{fr b:ar}{ac:au}{a:Act}{w:World}(d:∀ t,bG b t=bG fr t\/bG b t= .undef)(h:SS M0 ob0 ap w0 sz dfs fr ac a w):
  SS M0 ob0 ap w0 sz dfs b ac a w:=by
 obtain ⟨M,ob,c,hm,f,r⟩:=h;refine ⟨M,ob,c,hm,λ t=>?_,r⟩;rcases d t with e | e
 .simp_all
 .rw [e];exact .undef _
def dR.weak{E:Env}{fn:Func}{g:Goal}{ks:bh}{fr b:ar}{ac:au}(d:∀ t,bG b t=bG fr t\/bG b t= .undef)(h:dR E fn g ks b ac):dR E fn g ks fr ac:=
 λ c M0 ob0 ap w0 a w hst hs=>h c M0 ob0 ap w0 a w hst (hs.weak d)
def dR.keep{E:Env}{fn:Func}{g:Goal}{ks:bh}{fr:ar}{ac:au}(l:az)(h:dR E fn g ks (lC l fr) ac):dR E fn g ks fr ac:=h.weak λ t=>tI fr t l
def To.head{E:Env}{fn:Func}{g:Goal}{ks:bh}{fr:ar}{ac:au}(l:az)(h:To E fn g (.head ks (lC l fr) ac)):To E fn g (.head ks fr ac):=h.rec λ h=>.mk (dR.keep l h)
abbrev C3:=IntKind×Int×Int
def vA(cs:List C3):ba:=cs.map λ c=>.int c.1 c.2.1
def vB(cs:List C3):ba:=cs.map λ c=>.int c.1 c.2.2
def tP:List C3->Bool
 | []=>true
 | c::r=>(c.2.1==c.2.2)&&tP r
def EH(a b:List C3):tP (a++b)=(tP a&&tP b):=by
 induction a with
 | nil=>simp [tP]
 | cons c r d=>simp [tP,d,Dd]
def pQ(P:Program)(t:TypeId)(l:ba):Value:=if aK P t then .agg l.toArray else l.headD undef
def CC(P:Program)(a:TypeId->Bool):Nat->List Field->Nat->Bool
 | off,[],total=>Ba off total
 | off,f::fs,total=>((f.name != "_")&&Ba f.offset off)&&((a f.type&&(P.info? f.type).isSome)&&CC P a (off+P.cellsOf f.type) fs total)
def iA(P:Program):Nat->TypeId->Bool
 | 0,_=>false
 | m+1,t=>match P.underlying t with
  | some (.int _)=>Ba (P.cellsOf t) 1
  | some (.array n e)=>(iA P m e&&(P.info? e).isSome)&&Ba (P.cellsOf t) (n*P.cellsOf e)
  | some (.struct fs)=>!P.stoodInHeld t&&CC P (iA P m) 0 fs.toList (P.cellsOf t)
  | _=>false
def EqI(P:Program)(d:Nat)(t:TypeId):Prop:=∀ (w:World) (cs:List C3),cs.length=P.cellsOf t->(Op.equalIn d t (pQ P t (vA cs)) (pQ P t (vB cs))).run P w= .ok (tP cs) w
section
variable {P:Program} (w:World)
def tJ{m:Nat}{t:TypeId}(h:iA P m t=true):(P.underlying t).isSome=true/\(aK P t=false->P.cellsOf t=1):=by
 cases m with
 | zero=>cases h
 | succ m=>
  unfold iA at h;unfold aK;split at h
  .simp_all
  .grind
  .grind
  .cases h
def mP{e:TypeId}(h:(P.underlying e).isSome=true)(f:(P.info? e).isSome=true)(h1:aK P e=false->P.cellsOf e=1)(l:ba)(off:Nat)(d:off+P.cellsOf e<=l.length):
  (part e l.toArray off).run P w= .ok (pQ P e ((l.drop off).take (P.cellsOf e))) w:=by
 unfold part;simp only [Bk,CP h,Au];unfold pQ;obtain ⟨i,c⟩:=Dl.1 f;have b:(P.info? e).map (·.size)=some (P.cellsOf e):=by simp [Program.cellsOf,c]
 cases j:aK P e with
 | true=>
  simp only [if_true,Bk,AW.af b,Au,Ci];simp
 | false=>
  have g:=h1 j;have a:off<l.length:=o_;simp only [Cr,if_false];simp only [Jz,Ac a,Ci];rw [g];congr 1;rw [Aa a];rfl
def NP(cs:List C3):(vA cs).length=cs.length:=by simp [vA]
def aMg(cs:List C3):(vB cs).length=cs.length:=by simp [vB]
def VB(cs:List C3)(o n:Nat):((vA cs).drop o).take n=vA ((cs.drop o).take n):=by simp [vA,Jd,Gq]
def aMh(cs:List C3)(o n:Nat):((vB cs).drop o).take n=vB ((cs.drop o).take n):=by simp [vB,Jd,Gq]
def Q8{d m:Nat}{e:TypeId}(i:iA P m e=true)(f:(P.info? e).isSome=true)(h:EqI P d e)(cs:List C3)(off:Nat)(c:off+P.cellsOf e<=cs.length):
  ∃ a b,(part e (vA cs).toArray off).run P w= .ok a w/\(part e (vB cs).toArray off).run P w= .ok b w/\(Op.equalIn d e a b).run P w= .ok (tP ((cs.drop off).take (P.cellsOf e))) w:=by
 obtain ⟨g,h1⟩:=tJ i;refine ⟨_,_,mP w g f h1 _ _ (by rw [NP];exact c),mP w g f h1 _ _ (by rw [aMg];exact c),?_⟩;rw [VB,aMh];exact h w _ q_
def take_add(cs:List C3)(o a b:Nat):(cs.drop o).take (a+b)=(cs.drop o).take a++(cs.drop (o+a)).take b:=by rw [List.take_add,Hv]
def aBI{d m:Nat}{e:TypeId}(o:iA P m e=true)(h:(P.info? e).isSome=true)(g:EqI P d e)(cs:List C3):∀ (n k:Nat),(k+n)*P.cellsOf e<=cs.length->
  (Op.eqItems d e (P.cellsOf e) (vA cs).toArray (vB cs).toArray (Iu k n)).run P w= .ok (tP ((cs.drop (k*P.cellsOf e)).take (n*P.cellsOf e))) w:=by
 intro n;induction n with
 | zero=>intro k _;simp [Op.eqItems,tP]
 | succ n p=>
  intro k i;have r:(k+1)*P.cellsOf e<=(k+(n+1))*P.cellsOf e:=Cc _ o_;have c:(k+1)*P.cellsOf e=k*P.cellsOf e+P.cellsOf e:=by grind
  obtain ⟨a,b,q,s,f⟩:=Q8 w o h g cs (k*P.cellsOf e) o_;have l:=p (k+1) (by rw [show k+1+n=k+(n+1) from by omega];exact i);have j:(n+1)*P.cellsOf e=P.cellsOf e+n*P.cellsOf e:=by rw [Cg,Hb,Mh]
  rw [j,take_add,EH,<-c];simp only [Mb,Op.eqItems,Bk,q,s,f,Au];cases tP ((cs.drop (k*P.cellsOf e)).take (P.cellsOf e)) with
  | true=>simp;omega
  | false=>simp
def VW{d m:Nat}(l:∀ t,iA P m t=true->EqI P d t)(cs:List C3):∀ (e:List Field) (off:Nat),CC P (iA P m) off e cs.length=true->
  (Op.eqFields d (vA cs).toArray (vB cs).toArray e).run P w= .ok (tP (cs.drop off)) w/\off<=cs.length:=by
 intro e;induction e with
 | nil=>
  intro off h;have:=aE h;subst this;exact ⟨by simp [Op.eqFields,tP],Bh _⟩
 | cons f e p=>
  intro off h;simp only [CC,Af] at h;obtain ⟨⟨h1,o⟩,⟨h3,n⟩,i⟩:=h;obtain ⟨q,k⟩:=p _ i;have c:=aE o;obtain ⟨a,b,r,s,j⟩:=Q8 w h3 n (l _ h3) cs f.offset o_;refine ⟨?_,by omega⟩;have hd:cs.drop off=(cs.drop off).take (P.cellsOf f.type)++cs.drop (off+P.cellsOf f.type):=by rw [<-Hv,Bv]
  rw [hd,EH];have g:f.name≠ "_" :=by simpa using h1
  simp only [Op.eqFields,g,ne_eq,not_false_eq_true,if_true,Bk,r,s,j,Au];rw [c] at *
  cases tP ((cs.drop off).take (P.cellsOf f.type)) with
  | true=>simp;omega
  | false=>simp
end
def XK{P:Program}(d:Nat):∀ (m:Nat) (t:TypeId),iA P m t=true->EqI P (d+m) t
 | 0,_,h=>by cases h
 | m+1,t,h=>by
  intro w cs f;have o:∀ t,iA P m t=true->EqI P (d+m) t:=λ t h=>XK d m t h;unfold iA at h;split at h
  .rename_i k g;have c:aK P t=false:=by unfold aK;rw [g]
   have h1:=aE h;rw [h1] at f
   match cs,f with
   | [(k',a,b)],_=>
    simp only [pQ,c,vA,vB,Bj,List.map_nil,List.headD_cons,Cr,if_false,tP,Em];exact run_equalIn_int w (d+m) t k' k a b g
  .rename_i n e g;simp only [Af] at h;obtain ⟨⟨h1,j⟩,h3⟩:=h;have c:aK P t=true:=by unfold aK;rw [g]
   obtain ⟨i,q⟩:=Dl.1 j;have r:=aE h3;simp only [pQ,c,if_true];rw [show d+(m+1)=(d+m)+1 from rfl,run_equalIn_array w (d+m) _ _ g q,Iv,aBI w h1 j (o e h1) cs n 0 (by grind)]
   grind
  .rename_i p g;simp only [Af,Df] at h;obtain ⟨h1,j⟩:=h;have c:aK P t=true:=by unfold aK;rw [g]
   have l:P.fieldsOf t=p:=by simp [Program.fieldsOf,g]
   simp only [pQ,c,if_true];rw [<-f] at j;rw [show d+(m+1)=(d+m)+1 from rfl,run_equalIn_struct w (d+m) t _ _ (by grind) h1,l];simpa using (VW w o cs p.toList 0 j).1
  .cases h
def aHn:∀ {xs ys:ay} {c:Bool} {vs us:ba},ceq xs ys=some c->cM (λ_ _ _=>False) [] vs xs->cM (λ_ _ _=>False) [] us ys->∃ cs:List C3,vs=vA cs/\us=vB cs/\c=tP cs
 | [],[],c,vs,us,h,h1,h2=>by
  cases h;have d:vs=[]:=by simpa using h1.1
  have f:us=[]:=by simpa using h2.1
  exact ⟨[],by simp [vA,d],by simp [vB,f],rfl⟩
 | x::xs,y::ys,c,vs,us,h,h1,h2=>by
  cases x<;>first | (simp [ceq] at h;done) | skip
  cases y<;>first | (simp [ceq] at h;done) | skip
  rename_i k a p b;simp only [ceq] at h;obtain ⟨j,h3⟩:=fW h;have:=BB j;subst this;cases g:ceq xs ys with
  | none=>grind
  | some o=>
   rw [g] at h3;cases h3
   match vs,us,h1,h2 with
   | v::vs,u::us,h1,h2=>
    have e:=(h1.2 0 v _ rfl rfl).int_inv.1;have n:=(h2.2 0 u _ rfl rfl).int_inv.1;subst e n;obtain ⟨cs,d,f,l⟩:=aHn (vs:=vs) (us:=us) g ⟨by simpa using h1.1,λ i v a e m=>h1.2 (i+1) v a (by grind) (by grind)⟩ ⟨by simpa using h2.1,λ i v a e m=>h2.2 (i+1) v a (by grind) (by grind)⟩;exact ⟨(k,a,b)::cs,by simp [vA,d],by simp [vB,f],by simp [tP,l]⟩
 | [],_::_,c,vs,us,h,_,_=>by cases h
 | x::_,[],c,vs,us,h,_,_=>by cases x<;>cases h
def VX{P:Program}(w:World){n:Bool}{d m:Nat}(o:∀ (e:TypeId),iA P m e=true->∀ (w:World) (cs:List C3),cs.length=P.cellsOf e->(Ia n d e (pQ P e (vA cs))).run P w= .ok () w)(cs:List C3){e:TypeId}(k:iA P m e=true)(b:(P.info? e).isSome=true):
  ∀ (a:az),(∀ i∈a,(i+1)*P.cellsOf e<=cs.length)->
  (forIn (m:=Sem) a PUnit.unit λ i _=>(do Ia n d e (<-part e (vA cs).toArray (i*(<-sizeOf e)));Pure.pure (ForInStep.yield PUnit.unit))).run P w= .ok PUnit.unit w:=by
 intro a;obtain ⟨s,f⟩:=Dl.1 b;have c:(P.info? e).map (·.size)=some (P.cellsOf e):=by simp [Program.cellsOf,f]
 obtain ⟨r,h1⟩:=tJ k;induction a with
 | nil=>simp
 | cons j a p=>
  intro h;have g:=h j s_;rw [Cg,Hb] at g;have l:=mP w r b h1 (vA cs) (j*P.cellsOf e) (by rw [NP];exact g);rw [VB] at l;have q:=o e k w ((cs.drop (j*P.cellsOf e)).take (P.cellsOf e)) q_;simp only [List.forIn_cons,Bk,AW.af c,Au,l,q,Ci];exact p λ i b=>h i (by simp [b])
def aHg{P:Program}(D:Bool)(d:Nat):∀ (m:Nat) (t:TypeId),iA P m t=true->∀ (w:World) (cs:List C3),cs.length=P.cellsOf t->(Ia D (d+m) t (pQ P t (vA cs))).run P w= .ok () w
 | 0,_,h=>by cases h
 | m+1,t,h=>by
  intro w cs g;have A:=aHg (P:=P) D d m;unfold iA at h;rw [show d+(m+1)=(d+m)+1 from rfl,Ia];split at h
  .rename_i k j;have c:aK P t=false:=by unfold aK;rw [j]
   have h1:=aE h;rw [h1] at g
   match cs,g with
   | [(k',a,b)],_=>
    simp [pQ,c,vA,run_underlying j]
  .rename_i n e j;simp only [Af] at h;obtain ⟨⟨h1,o⟩,h3⟩:=h;have c:aK P t=true:=by unfold aK;rw [j]
   have J:=aE h3;simp only [pQ,c,if_true,Bk,run_underlying j,Au];simp only [Std.Legacy.Range.forIn_eq_forIn_range',Std.Legacy.Range.size,Iz,Nat.add_one_sub_one,Iw]
   have:=VX w A cs h1 o (Iu 0 n) (λ i K=>by
    have:i<n:=by grind
    have:(i+1)*P.cellsOf e<=n*P.cellsOf e:=Cc _ this
    omega)
   simp at this⊢;simp_all
  .rename_i B j;simp only [Af,Df] at h;obtain ⟨h1,o⟩:=h;have c:aK P t=true:=by unfold aK;rw [j]
   simp only [pQ,c,if_true,Bk,run_underlying j,Au];rw [<-Array.forIn_toList];rw [<-g] at o;have key:∀ (L:List Field) (off:Nat),CC P (iA P m) off L cs.length=true→off≤cs.length∧∀ f∈L,f.name≠ "_" ∧iA P m f.type=true∧(P.info? f.type).isSome=true∧f.offset+P.cellsOf f.type≤cs.length:=by
    intro L;induction L with
    | nil=>
     intro off h;have:=aE h;simp_all
    | cons f L v=>
     intro off h;simp only [CC,Af] at h;obtain ⟨⟨u,p⟩,⟨x,s⟩,G⟩:=h;obtain ⟨M,F⟩:=v _ G;have z:=aE p;refine ⟨by omega,λ f' l=>?_⟩;rcases Aw.1 l with rfl | l
     .exact ⟨by simpa using u,x,s,by omega⟩
     .exact F f' l
   have each:=(key B.toList 0 o).2;clear key o;generalize B.toList=L at each;induction L with
   | nil=>simp
   | cons f L v=>
    obtain ⟨u,p,x,s⟩:=each f s_;obtain ⟨q,r⟩:=tJ p;have C:=mP w q x r (vA cs) f.offset (by rw [NP];exact s);rw [VB] at C;have I:=A f.type p w ((cs.drop f.offset).take (P.cellsOf f.type)) q_;simp only [List.forIn_cons,Bk,u,ne_eq,not_false_eq_true,if_true,Au,C,I,Ci];exact v λ y H=>each y (by simp [H])
  .cases h
def aNx(a b:ax)(h:a.length=b.length):∃ cs:List C3,cs.length=a.length/\iJ true a= .agg (vA cs).toArray/\iJ true b= .agg (vB cs).toArray/\tP cs=decide (a=b):=by
 refine ⟨(a.zip b).map λ p=>(.i64,p.1,p.2),by simp;omega,?_,?_,?_⟩
 .simp only [iJ,vA,if_true,Ef];congr 2;have:(a.zip b).map Mc=a:=List.map_fst_zip o_
  conv=>lhs;rw [<-this]
  simp
 .simp only [iJ,vB,if_true,Ef];congr 2;have:(a.zip b).map Prod.snd=b:=List.map_snd_zip o_
  conv=>lhs;rw [<-this]
  simp
 .induction a generalizing b with
  | nil=>
   cases b with
   | nil=>rfl
   | cons y b=>cases h
  | cons x a c=>
   cases b with
   | nil=>cases h
   | cons y b=>
    simp only [List.zip_cons_cons,Bj,tP];rw [c b (by grind)];by_cases d:x=y
    .simp_all
    .simp [d]
def aGg(P:Program)(t n:Nat):Bool:=(aK P t&&iA P 8 t)&&(!P.eqGuardType P.depth t&&Ba (P.cellsOf t) n)
def aGf{P:Program}{t n:Nat}(h:aGg P t n=true):YU P t n:=by
 simp only [aGg,Af,Df] at h;obtain ⟨⟨h1,d⟩,h3,k⟩:=h;have r:=aE k;refine And.symm ⟨λ w a b u s=>?_,?_⟩
 .obtain ⟨cs,v,j,m,o⟩:=aNx a b o_;have g:=XK 9992 8 t d w cs o_;have e:=λ p=>aHg p 9992 8 t d w cs o_;simp only [pQ,h1,if_true] at g e;rw [j,m,<-o];exact ⟨g,e⟩
 intro w x y xs ys vs us c l i f q;obtain ⟨cs,rfl,rfl,rfl⟩:=aHn l f q;refine ⟨λ op=>run_eqGuard_agg w op t x y _ _ h3,?_⟩;have hl:cs.length=P.cellsOf t:=by have:=f.1;rw [NP] at this;omega
 have:=XK 9992 8 t d w cs hl;simp only [pQ,h1,if_true] at this;exact this
def XC(P:Program):List (Nat×Nat)->Bool
 | []=>true
 | (t,n)::r=>aGg P t n&&XC P r
def TU{P:Program}:∀ {l:List (Nat×Nat)},XC P l=true->∀ t,0<EZ l t->YU P t (EZ l t)
 | [],_,t,h=>by cases h
 | (i,n)::r,hb,t,h=>by
  simp only [XC,Af] at hb;simp only [EZ] at h⊢;cases a:Ba i t with
  | true=>
   rw [a] at h;rw [<-aE a];exact aGf hb.1
  | false=>rw [a] at h;exact TU hb.2 t h
def EI(P:Program)(mt:aHL):Prop:=∀ t a g,aFo mt t a=some g->∀ v w,(method (P.types.size+Made.depth) t v a).run P w= .ok (g,v) w
def EI.nil{P:Program}:EI P []:=λ t a g h=>by cases h
def EI.cons{P:Program}{i f:Nat}{s:String}{mt:aHL}(h:∀ v w,(method (P.types.size+Made.depth) i v s).run P w= .ok (f,v) w)(k:EI P mt):EI P ((i,s,f)::mt):=by
 intro t a g b;simp only [aFo] at b;cases c:(Ba i t&&s==a) with
 | false=>rw [c] at b;exact k t a g b
 | true=>
  simp_all
section
variable {E:Env} {fn:Func} {g:Goal} {M0:Imm} {ob0:Hs} {ap:au} {w0:World} {sz:Nat} {dfs:List (Nat×ay)} {fr:ar} {ac:au} {a:Act} {w:World}
def SS.cap{t k i es:Nat}{e:TypeId}{xs:ay}(h1:bG fr t= .row k i)(y:aB ac k= .row i es e xs)(h:SS M0 ob0 ap w0 sz dfs fr ac a w):
  ∃ c,xs.length<=c/\c<=maxLen/\SS M0 ob0 ap w0 sz dfs (kC fr t (.rowc k i c)) ac a w:=by
 obtain ⟨M,ob,m,hm,j,r⟩:=h;have g:=j t;rw [h1] at g;obtain ⟨x,n,c,s,d⟩:=g.row_inv;obtain ⟨hs',v,z,C,D,l,u,_⟩:=hm.rowOf (bP y s_);rw [d] at l;cases l;have f:xs.length<=c/\c<=maxLen:=by
  rcases u.len with ⟨q,rfl⟩ | ⟨b,B,p,_,F,A⟩
  .cases q;simp
  .cases p;omega
 refine ⟨c,f.1,f.2,M,ob,m,hm,λ o=>?_,r⟩;rw [xH];split
 .rename_i e;subst e;rw [s];have:=jG;exact .rowc k i c x n d o_
 .exact j o
def To.cap{ks:bh}{t k i es:Nat}{e:TypeId}{xs:ay}(h1:bG fr t= .row k i)(f:aB ac k= .row i es e xs)
  (h:∀ c,xs.length<=c->c<=maxLen->To E fn g (.code ks (kC fr t (.rowc k i c)) ac)):To E fn g (.code ks fr ac):=
 .mk λ d M0 ob0 ap w0 a w hst hs=>by obtain ⟨c,j,b,hs'⟩:=hs.cap h1 f;exact (h c j b).rec λ h=>h d M0 ob0 ap w0 a w hst hs'
def Mem.become{M:Imm}{ob:Hs}(hm:Mem M ob ac w){j k i es es':Nat}{e p:TypeId}{xs ys:ay}(J:j≠k)(h1:ac[j]? =some (.row i es e xs))(K:ac[k]? =some (.row 0 es' p ys)){v:Value}(Z:at' ob k 0=some v):
  ∃ ob',Mem M ob' ((ac.set j (.row (i+1) es' p ys)).set k .dead) w/\Ext M ob ac w M ob' ((ac.set j (.row (i+1) es' p ys)).set k .dead) w/\at' ob' j (i+1)=some v:=by
 obtain ⟨g,v0,N,U,e3,e4,O,Q⟩:=hm.rowOf h1;obtain ⟨s,v1,W,f2,f3,S,t,I⟩:=hm.rowOf K;rw [Z] at S;cases S;have F:j<ob.length:=(Ad.1 N).1;have L:j<ac.length:=(Ad.1 h1).1;have Y:k<ac.length:=(Ad.1 K).1;have l:(ob.set j (g++[v]))[j]? =some (g++[v]):=Ay F;have m:∀ {i:Nat},i≠j->(ob.set j (g++[v]))[i]? =ob[i]?:=λ{i} h=>Bf (Fa h);have A:dY ob (ob.set j (g++[v])):=λ d hs H=>by
  by_cases f:d=j
  .subst f;rw [N] at H;cases H;exact ⟨_,l,_,rfl⟩
  .exact ⟨hs,(m f).trans H,Cw _⟩
 have z:(g++[v]).length=i+1+1:=by simp [U]
 have u:(g++[v])[i+1]? =some v:=by rw [<-U];simp
 have T:((ac.set j (.row (i+1) es' p ys)).set k .dead)[k]? =some .dead:=Ay q_;have gj:((ac.set j (.row (i+1) es' p ys)).set k .dead)[j]? =some (.row (i+1) es' p ys):=by rw [Bf (Fa J),Ay L]
 have R:∀ {d},d≠j->d≠k->((ac.set j (.row (i+1) es' p ys)).set k .dead)[d]? =ac[d]?:=λ{d} a b=>by rw [Bf (Fa b),Bf (Fa a)]
 have alive:∀ {d b:Nat},aM (ob.set j (g++[v])) ((ac.set j (.row (i+1) es' p ys)).set k .dead) d b->(d=j/\aM ob ac k b)\/(d≠j/\d≠k/\aM ob ac d b):=by
  rintro d b ⟨c,hs,o,y,C,D⟩;by_cases f:d=j
  .subst f;rw [l] at C;cases C;have G:b∈blk s:=by rw [fF z u] at D;rw [fF f2 f3];exact D
   exact .inl ⟨rfl,_,s,K,rfl,W,G⟩
  .by_cases n:d=k
   .subst n;rw [T] at o;cases o;cases y
   .rw [R f n] at o;rw [m f] at C;exact .inr ⟨f,n,c,hs,o,y,C,D⟩
 refine ⟨ob.set j (g++[v]),⟨hm.imm,by simp [hm.len],λ d c x=>?_,λ d b B=>?_,λ d P b B hb=>?_⟩,⟨λ_ _ _ h=>h,λ_ _ _ h=>.inl h,A,rfl,rfl,rfl,Bh _,λ_ _ _=>rfl,λ d b B=>?_⟩,(cL l).trans u⟩
 .by_cases f:d=j
  .subst f;rw [gj] at x;cases x;exact ⟨_,l,z,v,u,t⟩
  .by_cases n:d=k
   .subst n;rw [T] at x;cases x;exact ⟨s,(m f).trans W,trivial⟩
   .rw [R f n] at x;obtain ⟨hs,o,y⟩:=hm.obj d c x;exact ⟨hs,(m f).trans o,y.mono (λ_ _ _ h=>h) A (λ_ _ _ _ h=>h) (λ_ _ _ _ h=>h)⟩
 .rcases alive B with ⟨_,q⟩ | ⟨_,_,q⟩<;>exact hm.lt _ b q
 .rcases alive B with ⟨o,q⟩ | ⟨o,y,q⟩<;>rcases alive hb with ⟨V,r⟩ | ⟨V,X,r⟩
  .rw [o,V]
  .exact absurd (hm.inj k P b q r).symm X
  .exact absurd (hm.inj d k b q r) y
  .exact hm.inj d P b q r
 .rcases alive B with ⟨_,q⟩ | ⟨_,_,q⟩
  .exact .inl ⟨k,q⟩
  .exact .inl ⟨d,q⟩
def OJ:az->aa->ar->ar
 | [],_,fr=>fr
 | t::r,v,fr=>OJ r v (kC fr t v)
def P9(k:Nat)(fr:ar):az->Bool
 | []=>true
 | t::r=>(match bG fr t with | .row j 0=>Ba j k | _=>false)&&P9 k fr r
def EA{v:aa}{t:Nat}:∀ {l:az} {fr:ar},bG (OJ l v fr) t=bG fr t\/(t∈l/\bG (OJ l v fr) t=v)
 | [],fr=>.inl rfl
 | x::r,fr=>by
  rcases EA (v:=v) (t:=t) (l:=r) (fr:=kC fr x v) with h | ⟨h1,a⟩
  .rw [xH] at h;by_cases e:t=x
   .subst e;rw [if_pos rfl] at h;exact .inr ⟨by simp,h⟩
   .rw [if_neg e] at h;exact .inl h
  .exact .inr ⟨by simp [h1],a⟩
def JT{k:Nat}{fr:ar}:∀ {l:az},P9 k fr l=true->∀ t∈l,bG fr t= .row k 0
 | [],_,t,h=>by simp at h
 | x::r,h,t,a=>by
  simp only [P9,Af] at h;rcases Aw.1 a with rfl | a
  .have:=h.1;split at this
   .simp_all
   grind
  .exact JT h.2 t a
def To.become{ks:bh}{j k i es es':Nat}{e d:TypeId}{xs ys:ay}(l:az)(A:Ba j k=false)(h1:aB ac j= .row i es e xs)(D:aB ac k= .row 0 es' d ys)(hl:P9 k fr l=true)
  (h:To E fn g (.code ks (OJ l (.row j (i+1)) fr) (bX (bX ac j (.row (i+1) es' d ys)) k .dead))):To E fn g (.code ks fr ac):=
 .mk λ C M0 ob0 ap w0 a w hst hs=>by
  refine h.rec λ h=>h C M0 ob0 ap w0 a w hst ?_;obtain ⟨M,ob,y,hm,F,J,u,K⟩:=hs;have m:j≠k:=λ e=>by simp_all
  have s:=bP h1 s_;have f:=bP D s_;obtain ⟨x,v,P,O,N,r,_⟩:=hm.rowOf f;obtain ⟨ob',G,o,H⟩:=hm.become m s f r;have I:bX (bX ac j (.row (i+1) es' d ys)) k .dead=(ac.set j (.row (i+1) es' d ys)).set k .dead:=by rw [aU s];exact iR _ (by simpa using (Ad.1 f).1)
  rw [I];refine ⟨M,ob',y.trans o,G,λ t=>?_,J,u.mono (λ_ _ _ h=>h) o.hs,by simp;omega⟩;have p:=F t;rcases EA (v:=.row j (i+1)) (t:=t) (l:=l) (fr:=fr) with q | ⟨B,q⟩
  .rw [q];exact p.mono (λ_ _ _ h=>h) o.hs
  .rw [q];rw [JT hl t B] at p;obtain ⟨L,n,c,z,b⟩:=p.row_inv;rw [r] at b;cases b;rw [z];exact .row _ _ _ _ _ H
end
def aO3{M:Imm}{ob:Hs}{vs:ba}{a b:aa}(h:cM M ob vs [a,b]):∃ u v,vs=[u,v]/\Rep M ob u a/\Rep M ob v b:=by
 obtain ⟨hl,c⟩:=h
 match vs,hl with
 | [u,v],_=>exact ⟨u,v,rfl,c 0 _ _ rfl rfl,c 1 _ _ rfl rfl⟩
def R7{P:Program}{f:FuncId}{fn:Func}{tS tR e:TypeId}(hf:P.funcs[f]? =some fn)(o:(fn.name== "runtime.NumGoroutine")=false)(hb:fn.body.isNone=true)(hn:Extern.findNext fn=none)
  (Y:Extern.find fn=some (Extern.SlicesOverlaps.overlaps #[tS,tS] #[tR])) (F:P.underlying tS=some (.slice e)) {sz:Nat} (hz:(P.info? e).map (·.size)=some sz) (D:0<sz) {A q:TypeId} (xs ys:ay) (lo len:Nat):
  aA P f [.row 0 0,.sub 1 0 lo len sz] [.row 0 sz A xs,.row 0 sz q ys] (.ret (.bool false)) [.row 0 sz A xs,.row 0 sz q ys]:=by
 intro M ob w L hm hr;obtain ⟨u,v,rfl,Z,hv⟩:=aO3 hr;have i:=λ w:World=>af (P:=P) hz w;refine .inr ⟨.bool false,w,?_,M,ob,Ext.refl _ _ _ _,hm,.bool false⟩;rw [run_callFunc_extern hf o hb hn Y];have key:(Extern.SlicesOverlaps.overlaps #[tS,tS] #[tR] #[u,v]).run P w= .ok (.bool false) w:=by
  obtain ⟨a,n,c,rfl,G⟩:=Z.row_inv;obtain ⟨H,v1,p1,p2,p3,R,x,y⟩:=hm.rowOf (k:=0) rfl;obtain ⟨K,v2,q1,q2,q3,S,C,B⟩:=hm.rowOf (k:=1) rfl;rw [G] at R;cases R;have g:∀ (a:Option Addr) (n c:Nat) (b:Option Addr) (m d:Nat),(a=none\/b=none\/n=0\/m=0)->(Extern.SlicesOverlaps.overlaps #[tS,tS] #[tR] #[.slice a n c,.slice b m d]).run P w= .ok (.bool false) w:=by
   intro a n c b m d h
   change Sem.run P (α:=Value) (do
    let some t:=(#[tS,tS]:Array TypeId)[0]? | stuck "slices.overlaps: no parameter types"
    let .slice elem ←underlying t | stuck "slices.overlaps: slice type expected"
    let size <-sizeOf elem
    match a,b with
    | some a,some b=>
     if n=0\/m=0\/size=0 then pure (Ni false)
     else if a.block !=b.block&&(<-frozen a)&&(<-frozen b) then unsupported .addressObserved
     else do
      if a.block !=b.block then do
           noView a;noView b
           if ←mayBeOne a b then return Ni ((←choose (.extern "sameAddr.stringBytes" 2))==1)
      pure (Ni (a.block==b.block&&a.off<b.off+m*size&&b.off<a.off+n*size))
    | _,_=>pure (Ni false)) w=_
   cases a with
   | none=>simp [run_underlying F,i]
   | some a=>
    cases b with
    | none=>simp [run_underlying F,i]
    | some b=>
     have h0:n=0\/m=0\/sz=0:=by
      rcases h with h | h | h | h
      .cases h
      .cases h
      .exact .inl h
      omega
     simp [run_underlying F,i,h0]
  cases hv with
  | sub0 _ _ _ _ Q a' n2 O l hl hc=>exact g _ _ _ _ _ _ (.inr (.inr (.inr rfl)))
  | sub _ _ _ _ _ b n2 O l hl V hc2 hmm=>
   rw [l] at S;cases S;obtain ⟨cv,⟨r1,r⟩,_⟩:=x;obtain ⟨cv2,⟨s1,s⟩,_⟩:=C;rcases r with ⟨r,_⟩ | ⟨p,T,z,r,_,J,r4,r5,r6,_⟩
   .cases r;exact g _ _ _ _ _ _ (.inl rfl)
   .rcases s with ⟨s,_⟩ | ⟨b2,N,j,s,_,W,s4,s5,s6,_⟩
    .cases s
    .cases r;cases s;have I:p≠b:=by
      intro h;subst h
      have U:aM ob [.row 0 sz A xs,.row 0 sz q ys] 0 p:=⟨_,H,rfl,rfl,p1,qB y rfl⟩
      have Q:aM ob [.row 0 sz A xs,.row 0 sz q ys] 1 p:=⟨_,K,rfl,rfl,q1,qB B rfl⟩
      have:=hm.inj 0 1 p U Q;cases this
     have hk:j.size≠0:=by rw [s6];have:=Nat.mul_pos (show 0<O by omega) D;omega
     exact Lib.run_overlaps_apart w tS tR e F sz i ⟨p,0,none⟩ ⟨b,lo*sz,none⟩ _ _ _ _ I A q z.size j.size (by simp [Jo,J]) (by simp [Jo,W]) hk (by simp [Lx,J]) (by simp [Lx,J])
 have X:(([u,v]:ba)).toArray= #[u,v]:=rfl;rw [X,key];rfl
def strip:Nat->aa->aa
 | 0,v=>v
 | n+1,v=>match v with
  | .slice sz xs _=>.slice sz xs .no
  | .agg cs=>.agg (eQ (strip n) cs)
  | .tup cs=>.tup (eQ (strip n) cs)
  | .iface t v=>.iface t (strip n v)
  | v=>v
def wU{M:Imm}{ob:Hs}:∀ (n:Nat) {v:Value} {a:aa},Rep M ob v a->Rep M ob v (strip n a):=by
 intro n;induction n with
 | zero=>intro v a h;exact h
 | succ n m=>
  intro v a h;cases h with
  | agg vs as hl e=>
   obtain ⟨h1,j⟩:=cP (λ v a=>m) hl e;exact .agg vs _ h1 j
  | tup vs as hl e=>
   obtain ⟨h1,j⟩:=cP (λ v a=>m) hl e;exact .tup vs _ h1 j
  | iface t v a e=>exact .iface t v _ (m e)
  | slnil sz t p=>exact .slnil sz .no trivial
  | slemp sz t a cap p=>exact .slemp sz .no a cap trivial
  | sl sz b o n cap xs t f d hm hz e p=>exact .sl sz b o n cap xs .no f d hm hz e trivial
  | undef v=>exact .undef v
  | bool b=>exact .bool b
  | int k n e=>exact .int k n e
  | str l hl=>exact .str l hl
  | ptr b o cs h=>exact .ptr b o cs h
  | ref k off b h=>exact .ref k off b h
  | eref k g i sz off b n c h=>exact .eref k g i sz off b n c h
  | csl k off len sz b h hm=>exact .csl k off len sz b h hm
  | row k g a n c h=>exact .row k g a n c h
  | sub k g lo len sz b n c h hl f d hm=>exact .sub k g lo len sz b n c h hl f d hm
  | sub0 k g lo sz a s n c h hl d=>exact .sub0 k g lo sz a s n c h hl d
  | rowc k g c a n h hm=>exact .rowc k g c a n h hm
  | pre k g n c sz b len h d f hl hm=>exact .pre k g n c sz b len h d f hl hm
  | mref k b h=>exact .mref k b h
  | nilptr=>exact .nilptr
  | nilslice=>exact .nilslice
  | nilmap=>exact .nilmap
  | nilfunc=>exact .nilfunc
  | nilif=>exact .nilif
  | hsl a n c=>exact .hsl a n c
  | func fn r cs q w u d h1 j=>exact .func fn r cs q w u d h1 j
def aA.strip{P:Program}{f:FuncId}{args:ay}{ac ao:au}{r:Res}(h:aA P f (eQ (strip 5) args) ac r ao):aA P f args ac r ao:=
 λ M ob w b hm c=>h M ob w b hm (by
  obtain ⟨h1,d⟩:=cP (M':=M) (ob':=ob) (λ v a=>wU (M:=M) (ob:=ob) 5) c.1 c.2
  exact ⟨h1,d⟩)
def aA.less{P:Program}{f:FuncId}{args:ay}{ac ao:au}{v:aa}(h:aA P f args ac (.ret v) ao):aA P f args ac (.ret (AW.strip 5 v)) ao:=
 λ M ob w a hm d=>cX.mono (λ e w' ⟨M',ob',g,c,b⟩=>⟨M',ob',g,c,by
  cases e with
  | returned u=>exact wU 5 b
  | panicked i=>exact b.elim
  | outgrown=>exact b.elim⟩) (h M ob w a hm d)
def aCV(n:Nat):List (Nat×ay)->Bool
 | []=>true
 | (_,l)::r=>JM (bel n 5) l&&aCV n r
def UY{n:Nat}:∀ {l:List (Nat×ay)},aCV n l=true->∀ (i:Nat) x,l[i]? =some x->JM (bel n 5) x.2=true
 | [],_,i,x,h=>by simp at h
 | (f,y)::r,hb,i,x,h=>by
  simp only [aCV,Af] at hb;cases i with
  | zero=>grind
  | succ i=>exact UY hb.2 i x (by simp_all)
def aHt{w0 w:World}{M:Imm}{ob:Hs}{n:Nat}{c:List Deferred}{dfs:List (Nat×ay)}(h:dK w0 w M ob c dfs)(k:aCV n dfs=true):dK w0 w M (ob.take n) c dfs:=
 let ⟨d1,d2,e,h,h2⟩:=h
 ⟨d1,d2,e,⟨h.1,λ i d x hd b=>⟨(h.2 i d x hd b).1,(h.2 i d x hd b).2.1,λ j v a g f=>FY 5 ((h.2 i d x hd b).2.2 j v a g f) (oZ (UY k i x b) j a f)⟩⟩,h2⟩
def To.cut{E:Env}{fn:Func}{g:Goal}{ks:bh}{fr:ar}{ac:au}(l:az)(n:Nat)(z:Gd g.n0 n=true)(s:aHs n (lC l fr)=true)(m:KR n (rO n ac)=true)(hd:aCV n E.df=true)
  (h:To E fn g (.head ks (lC l fr) (rO n ac))):To E fn g (.head ks fr ac):=
 .mk λ i M0 ob0 ap w0 a w hst hs=>by
  refine h.rec λ h=>h i M0 ob0 ap w0 a w hst ?_;obtain ⟨M,ob,c,hm,d,y,p,B⟩:=hs;rw [HL] at m⊢;obtain ⟨u,r⟩:=hm.cutO m;have A:ob0.length<=n:=by rw [hst.1];simp_all
  refine ⟨M,ob.take n,⟨c.imm,c.new,λ k hs j=>?_,c.os,c.tape,c.output,c.size,c.keep,λ k b x=>c.fresh k b (r x)⟩,u,λ t=>?_,y,aHt p hd,by simp;omega⟩
  .obtain ⟨hs',o,v⟩:=c.hs k hs j;have f:k<n:=by have:=(Ad.1 j).1;omega
   exact ⟨hs',by rw [Bn f];exact o,v⟩
  .rcases UX s t with q | q
   .rcases tI fr t l with e | e
    .rw [e] at q⊢;exact FY 5 (d t) q
    .rw [e];exact .undef _
   .rw [q];exact .undef _
open Go.RowKit Go.ChangeShapes Go.WideShapes Go.ChangeAt
section
variable {P:Program} {w:World} {r:Reach} {base:Nat} {t:TypeId} {v:Value}
def xG{k:IntKind}{n:Int}(h:k.has n):inR k n:=by cases k<;>simpa [IntKind.has,IntKind.min,IntKind.max,IntKind.signed,IntKind.bits,inR,dA,bN] using h
def tY{M:Imm}{ob:Hs}{v:Value}{a:aa}(h:Rep M ob v a){vs:ba}{as:ay}(hs:cM M ob vs as):cM M ob (v::vs) (a::as):=cM.cons h hs
def D5{M:Imm}{ob:Hs}:cM M ob [] []:=⟨rfl,λ i v a h=>by simp at h⟩
end
section
variable {H:Type} {enc:TypeId×Value->H} {P:Program}
def Z2(P:Program):List TypeId->Bool
 | []=>true
 | t::ts=>(P.readableRec t&&decide (t<P.types.size))&&Z2 P ts
def J5(hl:laidOutB P=true){W j:World}(m:Below W.heap.size W j):∀ {a:List TypeId} {vs:ba} {f:List (DataW H)} {e:List MemPlace},Z2 P a=true->(∀ x∈e,x.block<W.heap.size)->
  DataW.TrodAll enc P W 0 (λ_=>true) true a vs f e->DataW.TrodAll enc P j 0 (λ b=>decide (b<W.heap.size)) true a vs f e:=by
 intro a;induction a with
 | nil=>
  intro vs f e _ _ h;obtain ⟨rfl,rfl,rfl⟩:=trodAll_nil h;rfl
 | cons t a n=>
  intro vs f e g c h;simp only [Z2,Af,decide_eq_true_eq] at g;obtain ⟨v,o,d,l,p,q,rfl,rfl,rfl,k,h1⟩:=trodAll_cons h;exact trodAll_cons_mk (Below.trod hl g.1.1 g.1.2 k m λ x i=>c x (by simp [i])) (n g.2 (λ x i=>c x (by simp [i])) h1)
def eU{W:World}:∀ {c:List TypeId} {vs:ba} {e:List (DataW H)} {f:List MemPlace},DataW.TrodAll enc P W 0 (λ_=>true) true c vs e f->vs.length=c.length/\e.length=c.length:=by
 intro c;induction c with
 | nil=>
  intro vs e f h;obtain ⟨rfl,rfl,rfl⟩:=trodAll_nil h;omega
 | cons t c i=>
  intro vs e f h;obtain ⟨v,j,d,g,p,q,rfl,rfl,rfl,k,h1⟩:=trodAll_cons h;obtain ⟨a,b⟩:=i h1;simp_all
def kK{fn:Func}{s:ChangeSpec}{W j:World}{args:Array Value}{b r:List (DataW H)}{iC:List MemPlace}{i:TypeId}(hl:laidOutB P=true)(u:Z2 P fn.params.toList=true)(k:s.vars=[])
  (f:fn.resultTypes= #[i]) (t:P.underlying i=some .bool) (c:DataW.Whole enc P fn.params.toList s.vars false W args.toList b r iC) (a:Below W.heap.size W j)
  (e:b.length=fn.params.toList.length->(s.fn H b).results=[.lit (.bool true)]/\(s.fn H b).args=b/\(s.fn H b).vars=[]):s.post enc P fn false true false false W args (.bool true) j:=by
 have d:=c.lt;have g:=c;obtain ⟨p,q,l,m,rfl,n,y⟩:=c;rw [k] at m;obtain ⟨rfl,rfl⟩:=trodVars_none m;obtain ⟨z,w,v⟩:=e (eU l).2;refine ⟨b,[],_,[],p,[],g,?_,?_,?_,a.frame _,λ h=>by cases h⟩
 .rw [Ar,z,f];exact trodAll_cons_mk (shut_bool t _) trodAll_mk0
 .rw [Ar,w];exact J5 hl a u (λ x o=>d x (by simp [o])) l
 .rw [Ar,v,k];exact rfl
end
inductive RepW(w:World):Value->aa->Prop
 | bool (b):RepW w (.bool b) (.bool b)
 | int (k n) (h:inR k n):RepW w (.int k n) (.int k n)
 | str (l:aw) (h:(l.length:Int)<=9223372036854775807):RepW w (.string ⟨l.toArray⟩) (.str l)
 | nilslice (sz:Nat):RepW w (.slice none 0 0) (.slice sz [] .no)
 | emptys (sz:Nat) (a:Addr) (cap:Nat):RepW w (.slice (some a) 0 cap) (.slice sz [] .no)
 | slice (sz b o n cap:Nat) (xs:ay) (us:Nat->Nat->Value) (hn:xs.length=n) (hc:n<=cap) (hm:(n:Int)<=9223372036854775807) (hz:∀ x∈xs,x.cells.length=sz)
   (h1:∀ (i j:Nat) x c,xs[i]? =some x->x.cells[j]? =some c->w.cell? ⟨b,o+i*sz+j,none⟩=some (us i j)) (h2:∀ (i j:Nat) x c,xs[i]? =some x->x.cells[j]? =some c->(us i j).oneCell'=true)
   (h3:∀ (i j:Nat) x c,xs[i]? =some x->x.cells[j]? =some c->RepW w (us i j) c):RepW w (.slice (some ⟨b,o,none⟩) n cap) (.slice sz xs .no)
def Mw(w:World):Imm:=λ b o x=>∃ v,w.cell? ⟨b,o,none⟩=some v/\v.oneCell'=true/\RepW w v x
def RepW.rep{w:World}{v:Value}{a:aa}(h:RepW w v a):Rep (Mw w) [] v a:=by
 cases h with
 | bool b=>exact .bool b
 | int k n h=>exact .int k n h
 | str l h=>exact .str l h
 | nilslice sz=>exact .slnil sz .no trivial
 | emptys _ a cap=>exact .slemp _ _ _ _ trivial
 | slice sz b o n cap xs us g f hm hz h1 m h3=>exact .sl sz b o n cap xs .no g f hm hz (λ i j x c e d=>⟨us i j,h1 i j x c e d,m i j x c e d,h3 i j x c e d⟩) trivial
def TyF(T:TypeId->ay->Prop):List Field->ay->Prop
 | [],cs=>cs=[]
 | f::fs,cs=>∃ a b,cs=a++b/\T f.type a/\TyF T fs b
def TyC(P:Program):Nat->TypeId->ay->Prop
 | 0,_,_=>False
 | n+1,t,cs=>match P.underlying t with
  | some .bool=>∃ b,cs=[.bool b]
  | some (.int k)=>∃ m,cs=[.int k m]/\inR k m
  | some .string=>∃ l,cs=[.str l]/\l.length<=maxLen
  | some (.struct fs)=>TyF (TyC P n) fs.toList cs
  | some (.array m e)=>∃ xs:List ay,xs.length=m/\(∀ x∈xs,TyC P n e x)/\cs=xs.flatten
  | some (.slice e)=>∃ xs,cs=[.slice (P.cellsOf e) xs .no]/\xs.length<=maxLen/\∀ x∈xs,TyC P n e x.cells/\(aK P e=true->∃ l,x= .agg l)
  | _=>False
def RepW.one{w:World}{v:Value}{a:aa}(h:RepW w v a):v.oneCell'=true:=by cases h<;>rfl
def jB(w:World)(cs:ba)(as:ay):Prop:=cs.length=as.length/\∀ (i:Nat) v a,cs[i]? =some v->as[i]? =some a->RepW w v a
def jB.append{w:World}{vs us:ba}{as bs:ay}(h:jB w vs as)(k:jB w us bs):jB w (vs++us) (as++bs):=by
 refine ⟨by simp [h.1,k.1],λ i v a b c=>?_⟩;by_cases d:i<vs.length
 .rw [Ah d] at b;rw [Ah (by rw [<-h.1];exact d)] at c;exact h.2 i v a b c
 .rw [Al o_] at b;rw [Al (by rw [<-h.1];omega),<-h.1] at c;exact k.2 _ v a b c
def jB.single{w:World}{v:Value}{a:aa}(h:RepW w v a):jB w [v] [a]:=
 ⟨rfl,λ i u b c d=>by cases i with | zero=>grind | succ i=>simp at c⟩
def jB.nil{w:World}:jB w [] []:=⟨rfl,λ i v a h=>by simp at h⟩
def NU(P:Program)(a:TypeId->Bool):Nat->List Field->Nat->Bool
 | off,[],total=>Ba off total
 | off,f::fs,total=>(Ba f.offset off&&a f.type)&&NU P a (off+P.cellsOf f.type) fs total
def lD(P:Program):Nat->TypeId->Bool
 | 0,_=>false
 | n+1,t=>match P.underlying t with
  | some .bool=>true
  | some (.int _)=>true
  | some .string=>true
  | some (.struct fs)=>NU P (lD P n) 0 fs.toList (P.cellsOf t)
  | some (.array m e)=>lD P n e&&Ba (P.cellsOf t) (m*P.cellsOf e)
  | some (.slice e)=>lD P n e&&Fp 0 (P.cellsOf e)
  | _=>false
section
variable {H:Type} {enc:TypeId×Value->H} {P:Program} {w:World} {base:Nat} {spare:Nat->Bool} {held:Bool}
def TyC.pack{n:Nat}{t:TypeId}{as:ay}(h:TyC P n t as):∃ x:aa,x.cells=as/\(aK P t=true->∃ l,x= .agg l):=by
 cases n with
 | zero=>exact h.elim
 | succ n=>
  unfold TyC at h;cases a:aK P t with
  | true=>exact ⟨.agg as,rfl,λ_=>⟨_,rfl⟩⟩
  | false=>
   unfold aK at a;split at h
   .obtain ⟨b,rfl⟩:=h;exact ⟨.bool b,rfl,λ h=>by cases h⟩
   .rename_i k _;obtain ⟨m,rfl,_⟩:=h;exact ⟨.int k m,rfl,λ h=>by cases h⟩
   .obtain ⟨l,rfl,_⟩:=h;exact ⟨.str l,rfl,λ h=>by cases h⟩
   .grind
   .grind
   .rename_i e _;obtain ⟨xs,rfl,_⟩:=h;exact ⟨.slice (P.cellsOf e) xs .no,rfl,λ h=>by cases h⟩
   grind
end
def F2(M:Imm)(ob:Hs)(u:FrameMode):Option aa->Prop
 | none=>u= .returning
 | some v=>∃ x,u= .panicking [{v:=x,recovered:=false}]/\Rep M ob x v
def EK(P:Program)(f:FuncId)(args:ay)(ac:au)(p:Option aa)(ao:au):Prop:=
 ∀ M ob w a u,Mem M ob ac w->cM M ob a args->F2 M ob u p->
  (callFunc f a.toArray).run P w= .ok (.enter f a.toArray) w/\
   CallsD P f a.toArray u w λ e b w'=>∃ v M' ob',e= .returned v/\settle b= .returning/\Ext M ob ac w M' ob' ao w'/\Mem M' ob' ao w'
section
variable {P:Program}
def Q9{o:Oper}{a:Array TypeId}{ρ:Operand->Value}{w:World}(c:o.op= .call {callee:=.builtin .recover,args:= #[],argTypes:=a}):(execOp ρ o).run P w= .ok .recover w:=by obtain ⟨dst,op,ty,pos,b,d⟩:=o;subst c;rfl
def OC{M:Imm}{ob:Hs}{u:FrameMode}{p:Option aa}(h:F2 M ob u p)(c:Frame)(cs:List Frame)(d:c.mode=u):
  ∃ v b,Rep M ob v (match p with | none=>.nilif | some a=>a)/\settle b= .returning/\
   ((recoverD (c::cs)=some (v,{c with mode:=b}::cs))\/(recoverD (c::cs)=none/\v= .nilIface/\({c with mode:=b}:Frame)=c)):=by
 cases p with
 | none=>
  have h:u= .returning:=h;subst h;refine ⟨.nilIface,.returning,.nilif,rfl,.inr ⟨by simp [recoverD,d],rfl,?_⟩⟩;rw [<-d]
 | some a=>
  obtain ⟨x,rfl,e⟩:=h;refine ⟨x,.panicking [{v:=x,recovered:=true}],e,rfl,.inl ?_⟩;simp [recoverD,d]
end
def JU:Code->Code
 | .seq _ b=>b
 | c=>c
def aM0:Code->Bool
 | .seq (.region _ ops false) _=>(match ops.toList with
  | [o]=>(match o.op with
   | .call c=>(match c.callee with | .builtin .recover=>c.args.toList.isEmpty&&o.guard.isNone&&o.dst.isSome | _=>false)
   | _=>false)
  | _=>false)
 | _=>false
def aBM:Code->Nat
 | .seq (.region _ ops _) _=>(match ops.toList with | [o]=>o.dst.getD 0 | _=>0)
 | _=>0
def aBO{c:Code}(h:aM0 c=true):∃ id o a rest,c= .seq (.region id #[o] false) rest/\o.op= .call {callee:=.builtin .recover,args:= #[],argTypes:=a}/\o.guard=none/\o.dst=some (aBM c)/\JU c=rest:=by
 unfold aM0 at h;split at h
 .rename_i id ops rest;split at h
  .rename_i o j;split at h
   .rename_i cl g;split at h
    .rename_i b;simp only [Af] at h;obtain ⟨⟨h1,k⟩,h3⟩:=h;obtain ⟨f,as,a⟩:=cl;have b:f= .builtin .recover:=b;subst b;have e:ops= #[o]:=by cases ops;grind
     subst e;have i:as= #[]:=by simp_all
     subst i;obtain ⟨d,hd⟩:=Dl.1 h3;refine ⟨id,o,a,rest,rfl,g,by simp_all,?_,rfl⟩;simp [aBM,hd]
    .cases h
   .cases h
  .cases h
 .cases h
def EK.of{E:Env}{f:FuncId}{fn:Func}{args:ay}{ac:au}{n0:Nat}{r:aa}{ao:au}{p:Option aa}(hdf:E.df=[])(Y:E.P.funcs[f]? =some fn)(hb:fn.body=some (eK fn))(hbo:qS E.P f)
  (S:aM0 (eK fn)=true) (R:dU fn.ntmps (JU (eK fn))=true) (hn:Gd args.length fn.ntmps=true) (X:Fp (aBM (eK fn)) fn.ntmps=true) (hsb:yO ac=true) (hg:ac.length=n0)
  (h:okL args->To E fn (.full n0 (.ret r) ao) (.code [.code (JU (eK fn))] (kC (frA 0 args) (aBM (eK fn)) (match p with | none=>.nilif | some a=>a)) ac)) (z:E.rd=none:=by rfl):EK E.P f args ac p ao:=by
 intro M ob w g u hm hr D;refine ⟨hbo _ _,?_⟩;obtain ⟨id,o,ats,rest,hc,hop,hgd,T,K⟩:=aBO S;rw [K] at h R;have hlen:g.length=args.length:=hr.1;have hle:=Cu hn;have htl:aBM (eK fn)<fn.ntmps:=by simpa [Kb] using X
 generalize htt:aBM (eK fn)=t at *
 have hst:uG (.full n0 (.ret r) ao) ob:=by
  refine ⟨by rw [hm.len,hg];rfl,λ_ hs O=>?_⟩;obtain ⟨k,C⟩:=Da O;have W:k<ac.length:=by rw [<-hm.len];exact (Ad.1 C).1
  obtain ⟨h1,h2⟩:=yN hsb k _ (Ac W);have e:=jF (Ac W);have:=hm.histLen (by rw [e];exact h1) C;rw [e,h2] at this;exact this
 intro c cs hu;obtain ⟨v,y,Z,L,F⟩:=OC D c cs hu
 let b:Frame:={(default:Frame) with fn:=f,kind:=.deferred}
 let a:Act:={tmps:=g.toArray++Gh (fn.ntmps-g.toArray.size) undef,defers:=[]}
 have N:a.tmps.size=fn.ntmps:=by simp [a];omega
 have A:Frame.enter E.P f g.toArray .deferred=b.at a [.code (.seq (.region id #[o] false) rest)]:=by simp [Frame.enter,Frame.at,Y,hb,hc,b,a]
 have ha:∀ t,Rep M ob (a.tmps.getD t undef) (bG (frA 0 args) t):=λ t=>by
  rw [IG];simp only [Ch,if_true,Iz];by_cases X:t<args.length
  .rw [Ac X];have Z:t<g.length:=o_;have:a.tmps.getD t undef=g[t]:=by show (g.toArray++Gh (fn.ntmps-g.toArray.size) undef).getD t undef=_;rw [Bo,Hi o_];simp [Z]
   rw [this];exact hr.2 t _ _ (Ac Z) (Ac X)
  .rw [Bm o_];exact .undef _
 -- the region of recover
 have U:=wp_opsS (P:=E.P) (ops:= #[o]) (Q:=λ e a' cs' w'=>e= .normal/\a'=a.put o.dst v/\cs'={c with mode:=y}::cs/\w'=w) [0] a (c::cs) w (by
  have e0:(#[o]:Array Oper)[0]? =some o:=rfl;have hw:Fo o (yielded #[o] a.tmps)=true:=by unfold Fo;rw [hgd]
  simp only [wpOpsS,e0,hw,if_true,Q9 hop];rcases F with h1 | ⟨h1,rfl,h2⟩
  .rw [h1];simp
  .rw [h1]
   refine ⟨?_,?_,?_,?_⟩<;>first | trivial | rfl | rw [h2]) b [.code rest] rfl rfl
 obtain ⟨e1,a1,cs1,B,⟨rfl,rfl,rfl,rfl⟩,G⟩:=U
 -- the rest
 have hkw:KW none E.P (tQ E fn M ob ac B (.full n0 (.ret r) ao)) [.code rest] (a.put o.dst v) B:=by rw [<-z];obtain ⟨hh⟩:=h hr.okL;refine hh (by simp [bO,KI.ok,R]) M ob ac B _ B hst ⟨M,ob,Ext.refl _ _ _ _,hm,?_,(fQ _ _ _).1.trans N,by rw [hdf];exact dK.put (a:=a) .nil,by rw [hm.len];omega⟩;intro s;have:=oN (d:=some t) ha Z (λ d' e=>by cases e;omega) s;rw [T];rwa [show lW (bG (frA 0 args)) (some t) _ s=bG (kC (frA 0 args) t _) s from (congrFun (fT (frA 0 args) (some t) _) s).symm] at this
 obtain ⟨e2,I,w2,m,j⟩:=hkw.arrives b ({c with mode:=y}::cs) rfl
 have i:Steps E.P (lone (b.at a [.code (.seq (.region id #[o] false) rest)]) (c::cs) B) (lone (b.at (a.put o.dst v) [.code rest]) ({c with mode:=y}::cs) B):=
  .head step_seq (.head step_region G)
 have fin:∀ {e:Ending} {w':World},RR M ob ac B (.full n0 (.ret r) ao) e w'->∃ v M' ob',e= .returned v/\settle y= .returning/\Ext M ob ac B M' ob' ao w'/\Mem M' ob' ao w':=λ{e w'} ⟨M',ob',x1,x2,x3⟩=>by
  cases e with
  | returned v=>exact ⟨v,M',ob',rfl,L,x1,x2⟩
  | panicked ch=>exact x3.elim
  | outgrown=>exact x3.elim
 rw [A];cases e2 with
 | normal=>
  unfold tQ JZ at m;rw [z] at m;obtain ⟨V,q,x,J,hs,_,C,hl⟩:=gY I.defers .returning w2 {b.at I [] with mode:=.returning} ({c with mode:=y}::cs) rfl rfl rfl Y m;exact ⟨V,y,q,x,fin J,Comes.of_steps (i.trans (Steps.trans j (.one step_end))) hs,C,hl⟩
 | ret=>
  obtain ⟨n,H⟩:=j;unfold tQ JZ at m;rw [z] at m;obtain ⟨V,q,x,J,hs,_,C,hl⟩:=gY I.defers .returning w2 {b.at I n with mode:=.returning} ({c with mode:=y}::cs) rfl rfl rfl Y m;exact ⟨V,y,q,x,fin J,Comes.of_steps (i.trans H) hs,C,hl⟩
 | panic fX=>
  obtain ⟨n,H⟩:=j;unfold tQ at m;rw [z] at m;obtain ⟨V,q,x,J,hs,_,C,hl⟩:=gY I.defers (.panicking fX) w2 {b.at I n with mode:=.panicking fX} ({c with mode:=y}::cs) rfl rfl rfl Y m;exact ⟨V,y,q,x,fin J,Comes.of_steps (i.trans H) hs,C,hl⟩
 | exit id=>exact m.elim
 | goto l=>exact m.elim
 | outgrown=>exact m.elim
def aOj(fr:ar):bg->Option (Nat×ay)
 | [p]=>(match p.guard,p.op with
  | none,.defer c=>(match c.callee with
   | .value (.func f)=>some (f,evO (ev fr) c.args.toList)
   | _=>none)
  | _,_=>none)
 | _=>none
def XE(ρ:Operand->aa):∀ (l:List Operand),evO ρ l=l.map ρ
 | []=>rfl
 | x::r=>by simp [evO,XE ρ r]
def aFm(ks:az)(og:Nat->ab):Option aa->Option aa
 | none=>none
 | some v=>some (cvtV 0 ks og 5 v)
section
variable {E:Env} {fn:Func} {g:Goal}
def TL{df:List (Nat×ay)}{id:Nat}{ops:Array Oper}{ks:bh}{fr:ar}{ac:au}{f:Nat}{args:ay}(hd:aOj fr ops.toList=some (f,args))
  (A:df=(f,args)::E.df)
  (t:E.rd=none) (h:dR {E with df:=df} fn g ks (match ops.toList with | [o]=>oE fr o.dst (.tup []) | _=>fr) ac):dR E fn g (.code (.region id ops false)::ks) fr ac:=by
 intro H M0 ob0 ap w0 a w hst hs;simp only [bO,KI.ok,dU,Af] at H;obtain ⟨⟨D,_⟩,B⟩:=H;have l:=sE D;unfold aOj at hd;split at hd
 .rename_i o m;split at hd
  .rename_i c J p;split at hd
   .rename_i f' k;cases hd;rw [m] at h l;dsimp only at h
    refine KW.code (Q':=QR {E with df:=df} fn g M0 ob0 ap w0 ks) ?_ (λ a w h=>h) (λ X a w h=>h) (λ e a w S=>by cases e<;>first | exact .inl rfl | exact .inr ⟨_,rfl⟩ | exact S.elim)
    refine wpIn_region_list ?_;rw [m];unfold wpListIn;have T:Fo o (yielded ops a.tmps)=true:=by unfold Fo;rw [J]
    rw [if_pos T];obtain ⟨dst,op,ty,pos,n,Q⟩:=o;have p:op= .defer c:=p;subst p;obtain ⟨C,as,u⟩:=c;have k:C= .value (.func f):=k;subst k;have q:(execOp a.eval ⟨dst,.defer ⟨.value (.func f),as,u⟩,ty,pos,n,Q⟩).run E.P w= .ok (.defer {target:=.fn (.func f) #[],args:= #[]++as.map a.eval}) w:=rfl;refine ⟨λ_ _=>trivial,?_⟩;rw [show (fen E.rd).round=none from t,Oper.semAt_none,q,Oper.uponIn_defer];obtain ⟨M,ob,K,N,I,G,s,O⟩:=hs;refine h B M0 ob0 ap w0 _ w hst ⟨M,ob,K,N,?_,(fQ _ _ _).1.trans G,?_,O⟩
    .rw [fT];exact oN (a:={a with defers:={target:=Target.fn (Fn.func f) #[],args:= #[]++Array.map a.eval as}::a.defers}) I CR λ L e=>G▸l _ (Dp.2 rfl) L e
    .rw [A];obtain ⟨U,W,R,s,V⟩:=s;refine dK.put (a:={a with defers:=_}) ⟨_::U,W,by rw [R];rfl,⟨by simp [s.1],λ i d x hd q=>?_⟩,V⟩;cases i with
     | zero=>
      simp at hd q;subst hd q;refine ⟨rfl,?_,λ j v b z r=>?_⟩
      .simp [XE]
      .rw [XE,Bi] at r;simp only [Array.empty_append,Kc,Bi] at z;cases F:as.toList[j]? with
       | none=>rw [F] at r;cases r
       | some y=>
        rw [F] at r z;cases r;cases z;exact IT I y
     | succ i=>exact s.2 i d x (by simpa using hd) (by simpa using q)
   .cases hd
  .cases hd
 .cases hd
def To.defer(df:List (Nat×ay)){id:Nat}{ops:Array Oper}{ks:bh}{fr:ar}{ac:au}{f:Nat}{args:ay}(hd:aOj fr ops.toList=some (f,args))(b:df=(f,args)::E.df)
  (h:To {E with df:=df} fn g (.code ks (match ops.toList with | [o]=>oE fr o.dst (.tup []) | _=>fr) ac)) (a:E.rd=none:=by rfl):To E fn g (.code (.code (.region id ops false)::ks) fr ac):=
 .mk (h.rec λ h=>TL hd b a h)
def H1{M0:Imm}{ob0:Hs}{ap:au}{w0:World}{sz:Nat}{f:Nat}{args:ay}{rest:List (Nat×ay)}{M:Imm}{ob:Hs}{ac ao:au}{w:World}{a:Act}{u:FrameMode}{p:Option aa}(c ks:az)
  {fr:ar} (Z:Ext M0 ob0 ap w0 M ob ac w) (A:Mem M ob ac w) (Y:∀ t,Rep M ob (a.tmps.getD t undef) (bG fr t)) (N:a.tmps.size=sz) {o:List Deferred} (n:dK w0 w M ob o ((f,args)::rest)) (x6:ob0.length<=ac.length)
  (s:jQ ks (aj c ac)=true) (z:F2 M ob u p)
  (h:EK E.P f (eQ (cvtV 0 ks (aB (aj c ac)) 5) args) (gQ 0 ks (aj c ac)) (aFm ks (aB (aj c ac)) p) ao) {R:Ending->World->Prop}
  (hl:∀ (q:List Deferred) w',SS M0 ob0 ap w0 sz rest fr (jH ks (aR (aj c ac)) (aj c ac) 0 ao (aj c ac)) {a with defers:=q} w'->gO E.P fn a.tmps R q .returning w'):gO E.P fn a.tmps R o u w:=by
 obtain ⟨H,l,rfl,n,X⟩:=n;cases H with
 | nil=>have:=n.1;simp at this
 | cons d o=>
  obtain ⟨g,b⟩:=n.2 0 d _ rfl rfl;obtain ⟨D,y,B,_,_⟩:=Mem.frzs c M ac A;obtain ⟨W,_,_⟩:=y.cvt (n0:=0) s;have m:cM D _ d.args.toList (eQ (cvtV 0 ks (aB (aj c ac)) 5) args):=xD (λ v a=>y.cvtV (n0:=0) s 5 v a) ⟨b.1,λ i v a F I=>(b.2 i v a F I).monoM B.imm⟩;have k:F2 D (fV 0 ob (aj c ac) 0 ks) u (aFm ks (aB (aj c ac)) p):=by
   cases p with
   | none=>exact z
   | some v=>
    obtain ⟨x,e,Q⟩:=z;exact ⟨x,e,y.cvtV s 5 _ _ (Q.monoM B.imm)⟩
  obtain ⟨h1,S⟩:=h D _ w d.args.toList u W m k;have C:u≠ .run:=by
   cases p with
   | none=>have:u= .returning:=z;rw [this];simp
   | some v=>obtain ⟨x,e,_⟩:=z;rw [e];simp
  obtain ⟨G,r⟩:=d;have g:G= .fn (.func f) #[]:=g;subst g;refine ⟨C,.inr ⟨.func f,#[],f,r,rfl,?_,?_⟩⟩
  .show (callFunc f (r++ #[])).run E.P w=_;simp;omega
  .refine S.mono λ e u' w' ⟨v,M',L,K,U,V,T⟩=>?_;subst K;dsimp only;rw [U];obtain ⟨J,O,_⟩:=y.emb s V T;have ext:=B.trans O;refine hl (o++l) w' ?_;rw [bW];refine ⟨M',_,Z.trans ext,J,λ t=>(Y t).mono ext.imm ext.hs,N,?_,?_⟩
   .refine ⟨o,l,rfl,⟨by have:=n.1;simpa using this,λ i d x hd hx=>?_⟩,(dK.ext (M:=M) (ob:=ob) ⟨[],l,rfl,.nil,X⟩ A ext).marks⟩;have:=n.2 (i+1) d x q_ q_;exact ⟨this.1,this.2.1,λ j v a F I=>(this.2.2 j v a F I).mono ext.imm ext.hs⟩
   .have:=ext.lens;have:=J.len;have:=A.len;omega
def To.leave(df:List (Nat×ay)){f:Nat}{args:ay}(j:E.df=(f,args)::df)(b ks:az){p:Option aa}{fr:ar}{ac ao:au}(q:jQ ks (aj b ac)=true)
  (h:EK E.P f (eQ (cvtV 0 ks (aB (aj b ac)) 5) args) (gQ 0 ks (aj b ac)) (aFm ks (aB (aj b ac)) p) ao)
  (d:To {E with df:=df} fn g (.leave none fr (jH ks (aR (aj b ac)) (aj b ac) 0 ao (aj b ac)))):To E fn g (.leave p fr ac):=by
 obtain ⟨d⟩:=d;have d:aHN {E with df:=df} fn g fr (jH ks (aR (aj b ac)) (aj b ac) 0 ao (aj b ac)):=d;refine .mk ?_;cases p with
 | none=>
  intro M0 ob0 ap w0 a w hst ⟨M,ob,o,k,n,m,i,l⟩;rw [j] at i;exact H1 (p:=none) b ks o k n m i l q rfl h λ c w' hs=>d M0 ob0 ap w0 {a with defers:=c} w' hst hs
 | some v=>
  intro M0 ob0 ap w0 s a w hst ⟨M,ob,o,k,⟨x,e,r⟩,n,m,i,l⟩;rw [j] at i;exact H1 (p:=some v) b ks o k n m i l q ⟨x,by rw [e],r⟩ h λ c w' hs=>d M0 ob0 ap w0 {a with defers:=c} w' hst hs
def To.left(hE:ae E)(c:E.df=[]){fr:ar}{ac:au}{v:aa}(d:aEq E ac fn.results.toList fr=some v)(h:T5 g .ret v ac)(b:E.rd=none:=by rfl):To E fn g (.leave none fr ac):=
 .mk λ M0 ob0 ap w0 a w hst hs=>go_ret hE c b d h hst hs
end
def pC(r:Nat):Code->bh->Option bh
 | .region id _ _,ks=>bif Ba id r then some ks else none
 | .seq a b,ks=>(match pC r a (.code b::ks) with | some x=>some x | none=>pC r b ks)
 | .cond _ a b,ks=>(match pC r a ks with | some x=>some x | none=>pC r b ks)
 | .block id b,ks=>pC r b (.inB id::ks)
 | .loop b,ks=>pC r b (.inL b::ks)
 | _,_=>none
def eM(fn:Func)(r:Nat):bh:=match pC r (eK fn) [] with | some ks=>ks | none=>[]
def To.cutC{E:Env}{fn:Func}{g:Goal}{ks:bh}{fr:ar}{ac:au}(l:az)(n:Nat)(a:Gd g.n0 n=true)(b:aHs n (lC l fr)=true)(c:KR n (rO n ac)=true)(hd:aCV n E.df=true)
  (h:To E fn g (.code ks (lC l fr) (rO n ac))):To E fn g (.code ks fr ac):=by
 have:=To.cut (E:=E) (fn:=fn) (g:=g) (ks:=ks) (fr:=fr) (ac:=ac) l n a b c hd (h.rec λ h=>.mk h);exact this.rec λ h=>.mk h
def aAf:St->Bool
 | .head _ _ _=>false
 | _=>true
def goN{E:Env}{fn:Func}{g:Goal}(hE:ae E)(a:Nat){st:St}(_hs:aAf st=true)(h:cH E fn g (To E fn g) a st):To E fn g st:=dF hE a h
def Q4{w:World}{b:Nat}{u s q:Value}{T:TypeId}(h:w.heap[b]? =some (.cells #[u,s] T (0,0))):w.setCell ⟨b,0,none⟩ q=w.setRow b #[q,s]:=by
 unfold World.setCell World.setRow;congr 1;refine Array.ext_getElem? λ i=>?_;by_cases a:b=i
 .subst a;rw [Fw,Fw,if_pos rfl,if_pos rfl,h];rfl
 .rw [Fw,Fw,if_neg a,if_neg a]
def qP{P:Program}{f:FuncId}{T:TypeId}(p:qS P f)
  (A:∀ (b:Nat) (w:World),w.cell? ⟨b,0,none⟩=some (.pointer none)->w.shape? b=some (T,2)->w.frozen? ⟨b,0,none⟩=false->Calls P f #[.pointer (some ⟨b,0,none⟩)] w λ e w'=>e= .returned (.tuple #[])/\w'=w.setCell ⟨b,0,none⟩ (.pointer (some ⟨b,0,none⟩)))
  (s:aa):aA P f [.ref 0 0] [.cells T [.nilptr,s]] (.ret (.tup [])) [.cells T [.ref 0 0,s]]:=by
 intro M ob w h hm q;obtain ⟨hl,q⟩:=q
 match h,hl with
 | [v],_=>
 obtain ⟨b,rfl,c⟩:=(q 0 _ _ rfl rfl).ref_inv;obtain ⟨hs,z,n,rfl,B,cv,j,r,h1,d⟩:=hm.obj 0 _ rfl;have y:n=b:=by rw [cL z] at c;simpa using c
 subst y
 match cv,r with
 | [u,t],_=>
 have C:u= .pointer none:=by have:=d 0 u _ rfl rfl;cases this;rfl
 subst C;have j:w.heap[n]? =some (.cells #[.pointer none,t] T (0,0)):=j;have l:=h1 t s_;refine .inl ⟨p _ _,(A n w (by simp [Kt,j]) (by simp [Jo,j]) (by simp [Lx,j])).mono ?_⟩;rintro e w' ⟨rfl,rfl⟩;rw [Q4 j]
 have:=hm.cellsTurn (k:=0) (cs':=[.ref 0 0,s]) (cv':=[.pointer (some ⟨n,0,none⟩),t]) rfl c rfl (λ x m=>by
  rcases Aw.1 m with rfl | m
  .rfl
  .rcases Aw.1 m with rfl | m
   .exact l
   .cases m) (λ i v a g o=>by
  match i with
  | 0=>
   simp at g o;subst g o;exact .ref 0 0 n c
  | 1=>
   simp at g o;subst g o;exact d 1 _ _ rfl rfl
  | i+2=>simp at g)
 exact ⟨M,ob,this.2.1,this.1,.tup [] [] rfl (λ i v a g=>by simp at g)⟩
def NI(g n:Nat)(w w':World):Prop:=w'.os=w.os/\w'.tape=w.tape/\w'.output=w.output/\w'.heap=(w.freeze ⟨g,0,none⟩ n).heap
def W8{w:World}{g n:Nat}(h:n≠0):NI g n w (w.drew.freeze ⟨g,0,none⟩ n):=by unfold NI Mn;rw [if_neg h,if_neg h];exact ⟨rfl,rfl,rfl,rfl⟩
def ME{w:World}{g n k:Nat}(h:g≠k):(w.freeze ⟨g,0,none⟩ n).heap[k]? =w.heap[k]?:=by
 unfold Mn;split
 .rfl
 .simp only [Fw,if_neg h]
def aGb{w:World}{g n:Nat}:(w.freeze ⟨g,0,none⟩ n).heap.size=w.heap.size:=by
 unfold Mn;split
 .rfl
 .simp
def aGc{w:World}{g n b o:Nat}:(w.freeze ⟨g,0,none⟩ n).cell? ⟨b,o,none⟩=w.cell? ⟨b,o,none⟩:=by
 by_cases h:g=b
 .subst h;unfold Mn;split
  .rfl
  .unfold Kt;simp only [Fw,if_true];cases h:w.heap[g]? with
   | none=>rfl
   | some x=>cases x<;>rfl
 .exact Cy (w:=w) (a:=⟨b,o,none⟩) (ME h)
def oY{P:Program}{f:FuncId}{T e:TypeId}(X:qS P f)
  (hc:∀ (b g cap:Nat) (p:Value) (m:Array Value) (l:aw) (w:World),w.heap[b]? =some (.cells #[p,.slice (some ⟨g,0,none⟩) l.length cap] T (0,0))->w.heap[g]? =some (.cells m e (0,0))->l≠[]->
   l.length<=cap->cap<=maxLen->m.size=cap->(∀ (j:Nat) x,l[j]? =some x->w.cell? ⟨g,j,none⟩=some (.int .u8 x.toNat))->
   Calls P f #[.pointer (some ⟨b,0,none⟩)] w λ e w'=>e= .returned (.string ⟨l.toArray⟩)/\NI g l.length w w')
  (l:aw) (U:l≠[]) (p:aa):aA P f [.ref 0 0] [.cells T [p,.slice 1 (l.map ub) (.own 1 0)],.tail 0 1 e] (.ret (.str l)) [.dead,.dead]:=by
 intro M ob w y hm hr;obtain ⟨hl,hr⟩:=hr
 match y,hl with
 | [v],_=>
 obtain ⟨b,rfl,A⟩:=(hr 0 _ _ rfl rfl).ref_inv;obtain ⟨hs,e1,b',rfl,hno,cv,R,S,h1,G⟩:=hm.obj 0 _ rfl;have O:b'=b:=by rw [cL e1] at A;simpa using A
 subst O
 match cv,S with
 | [u,t],_=>
 have R:w.heap[b']? =some (.cells #[u,t] T (0,0)):=R;have B:=G 1 t _ rfl rfl;obtain ⟨B,d⟩:=B.untok;have d:at' ob 1 0=some t:=d;obtain ⟨V,Y,k2,v1,k3,n,cw,k4,k5⟩:=hm.obj 1 _ rfl;have K:v1=t:=by rw [cL Y,k3] at d;simpa using d
 subst K;have hn:n=(l.map ub).length:=D4 B k4;have C:(l.map ub).length=l.length:=by simp
 have Q:=B.slice_inv;obtain ⟨_,_,_,_,_,q⟩:=Q;rw [C] at q hn;have hpos:0<l.length:=Eg.2 U;subst hn;have k4':=k4;obtain ⟨hcwl,I⟩:=k4;rcases I with ⟨rfl,hz⟩ | ⟨g,cap,m,rfl,_,hg,hnc,Z,hcs,L⟩
 .omega
 have i:∀ (j:Nat) x,l[j]? =some x->w.cell? ⟨g,j,none⟩=some (.int .u8 x.toNat):=λ j x W=>by
  rcases B.sl_inv with ⟨h1,_⟩ | ⟨_,_,_,h1⟩ | ⟨b2,o2,cap2,h1,_,_,_,h⟩
  .cases h1
  .exact absurd (List.map_eq_nil_iff.1 h1) U
  .simp only [Value.slice.injEq,Dy,Addr.mk.injEq] at h1;obtain ⟨⟨rfl,rfl,_⟩,_,_⟩:=h1;have hM:=h j 0 (ub x) (ub x) (by simp [W]) rfl;obtain ⟨u',F,_,N⟩:=hm.imm _ _ _ hM;rw [show 0+j*1+0=j from by omega] at F;rw [F];have:=N.int_inv;rw [this.1]
 refine .inl ⟨X _ _,(hc b' g cap u m l w R hg U hnc Z o_ i).mono ?_⟩;rintro e w' ⟨rfl,hos,s,D,a⟩;have r:∀ b o,w'.cell? ⟨b,o,none⟩=w.cell? ⟨b,o,none⟩:=λ b o=>by
  have:w'.cell? ⟨b,o,none⟩=(w.freeze ⟨g,0,none⟩ l.length).cell? ⟨b,o,none⟩:=by unfold Kt;rw [a]
  rw [this,aGc]
 have dead:∀ (k b:Nat),¬ aM ob [.dead,.dead] k b:=λ k b ⟨c,hs,h1,H,_⟩=>by
  match k with
  | 0=>simp at h1;subst h1;cases H
  | 1=>simp at h1;subst h1;cases H
  | k+2=>simp at h1
 refine ⟨M,ob,?_,?_,.str l q⟩
 .refine ⟨λ_ _ _ h=>h,λ_ _ _ h=>.inl h,dY.refl _,hos,s,D,by rw [a,aGb];omega,λ k z J=>?_,λ k b h=>absurd h (dead k b)⟩;rw [a,ME];intro e;subst e;refine J 1 ⟨_,V,rfl,rfl,Y,?_⟩;rw [fF k2 k3];exact eX.2 rfl
 .refine ⟨λ b o x W=>?_,hm.len,λ k c z=>?_,λ k b h=>absurd h (dead k b),λ k _ b h=>absurd h (dead k b)⟩
  .obtain ⟨v,h1,H,h3⟩:=hm.imm b o x W;exact ⟨v,by rw [r];exact h1,H,h3⟩
  .match k with
   | 0=>simp at z;subst z;exact ⟨_,e1,trivial⟩
   | 1=>simp at z;subst z;exact ⟨_,Y,trivial⟩
   | k+2=>simp at z
def S8(k:IntKind):∃ p,bN k+1=2 ^ p/\p<=k.bits:=by
 cases k
 .exact ⟨7,by decide,by decide⟩
 .exact ⟨15,by decide,by decide⟩
 .exact ⟨31,by decide,by decide⟩
 .exact ⟨63,by decide,by decide⟩
 .exact ⟨8,by decide,by decide⟩
 .exact ⟨16,by decide,by decide⟩
 .exact ⟨32,by decide,by decide⟩
 .exact ⟨64,by decide,by decide⟩
def aJQ(k:IntKind):dA k<=0:=by cases k<;>decide
def xF{k:IntKind}{a:Nat}(h:(a:Int)<=bN k):inR k a:=⟨Ds (aJQ k) (Int.natCast_nonneg a),h⟩
def xC(n a:Nat)(h:a<2 ^ n):(BitVec.ofInt n (a:Int)).toNat=a:=by grind
def O2{k:IntKind}{a p:Nat}(hp:bN k+1=2 ^ p)(h:(a:Int)<=bN k):a<2 ^ p:=by grind
def aFz{k:IntKind}{a p:Nat}(hp:bN k+1=2 ^ p)(h:a<2 ^ p):(a:Int)<=bN k:=by grind
def sD(k:IntKind)(a b:Nat)(g:(a:Int)<=bN k)(d:(b:Int)<=bN k):eG .or k a b=((a ||| b:Nat):Int):=by obtain ⟨p,hp,c⟩:=S8 k;have h1:=O2 hp g;have e:=O2 hp d;have f:2 ^ p<=2 ^ k.bits:=Fg d_ c;simp only [eG,BitVec.toNat_or,xC k.bits a o_,xC k.bits b o_];exact mV (xF (aFz hp (Nat.or_lt_two_pow h1 e)))
def DE(k:IntKind)(a b:Nat)(g:(a:Int)<=bN k)(d:(b:Int)<=bN k):eG .and k a b=((a &&& b:Nat):Int):=by obtain ⟨p,hp,c⟩:=S8 k;have h1:=O2 hp g;have e:=O2 hp d;have f:2 ^ p<=2 ^ k.bits:=Fg d_ c;simp only [eG,BitVec.toNat_and,xC k.bits a o_,xC k.bits b o_];exact mV (xF (aFz hp (Nat.and_lt_two_pow _ e)))
def WN{a b i:Nat}(h:a<2 ^ i):a ||| (b*2 ^ i)=a+b*2 ^ i:=by have:=Iq h b;rw [Nat.or_comm,Dn b,<-this,Mh]
def aLD(a p:Nat):a &&& (2 ^ p-1)=a % 2 ^ p:=Ka a p
def NJ(n:Nat):IntKind.u8.wrap (n:Int)=((n % 256:Nat):Int):=by rfl
set_option maxRecDepth 8000 in
def aNg:∀ m:Fin 256,m.val ||| 128=128+m.val % 128:=by decide
def QL{m:Nat}(h:m<256):ub (Dj m)= .int .u8 m:=by simp only [ub];simp;omega
def E2(n0:Nat)(ks:az)(og:Nat->ab):ar->ar
 | []=>[]
 | (i,v)::r=>(i,cvtV n0 ks og 5 v)::E2 n0 ks og r
def C6(n0:Nat)(ks:az)(og:Nat->ab)(t:Nat):∀ (fr:ar),bG (E2 n0 ks og fr) t=cvtV n0 ks og 5 (bG fr t)
 | []=>rfl
 | (i,v)::r=>by
  simp only [E2,bG];cases Ba i t with
  | true=>rfl
  | false=>exact C6 n0 ks og t r
def To.part{E:Env}{fn:Func}{g:Goal}{st:bh}{fr:ar}{ac:au}(l:az)(ks:az)(n:E.df=[])(s:jQ ks ac=true)(v:fY g.n0 0 ks=true)
  (h:To E fn g (.head st (E2 g.n0 ks (aB ac) (lC l fr)) (gQ g.n0 ks ac))) (f:g.strict=true:=by rfl):To E fn g (.head st fr ac):=
 .mk λ q M0 ob0 ap w0 a w hst hs=>by
  refine h.rec λ h=>h q M0 ob0 ap w0 a w hst ?_;obtain ⟨M,ob,c,hm,m,G,r,I⟩:=hs;obtain ⟨H,B,_⟩:=hm.cvt (n0:=g.n0) s;have u:ob0.length=g.n0:=hst.1;have y:(gQ g.n0 ks ac).length=ks.length:=by unfold gQ;rw [rA]
  have C:ob0.length<=ks.length:=by
   rw [u];rcases Fz g.n0 with A | A
   .omega
   .have:=nX v (g.n0-1) o_;have:=(Ad.1 this).1;omega
  refine ⟨M,_,⟨c.imm,c.new,λ j hs i=>?_,c.os,c.tape,c.output,c.size,c.keep,λ j b F=>?_⟩,H,λ t=>?_,G,?_,by omega⟩
  .have p:j<g.n0:=by rw [<-u];exact (Ad.1 i).1
   have d:=nX v j p;rw [Bx] at d;obtain ⟨hs',z,t,x⟩:=c.hs j hs i;have D:=hst.2 f hs (Az i);refine ⟨lI g.n0 j (aB ac j) hs',?_,?_⟩
   .rw [jS,d];simp [z]
   .unfold lI;split
    .rw [<-x];have:(hs++t).take 1=hs:=by rw [Dm o_,Cn o_]
     rw [this];simp
    .exact ⟨t,x⟩
  .obtain ⟨k,_,o⟩:=B j b F;exact c.fresh k b o
  .rw [C6];have:Rep M ob (a.tmps.getD t undef) (bG (lC l fr) t):=by
    rcases tI fr t l with e | e
    .rw [e];exact m t
    .rw [e];exact .undef _
   exact hm.cvtV (n0:=g.n0) s 5 _ _ this
  .rw [n] at r⊢;exact r.bare
def Q5:ay->Nat->aa->ay
 | [],_,_=>[]
 | _::r,0,x=>x::r
 | c::r,n+1,x=>c::Q5 r n x
def N0:∀ (l:ay) (n:Nat) (x:aa),Q5 l n x=l.set n x
 | [],_,_=>rfl
 | _::_,0,_=>rfl
 | c::r,n+1,x=>by simp [Q5,N0 r n x]
def nM:au->ab->au
 | [],x=>[x]
 | c::r,x=>c::nM r x
def rG:∀ (l:au) (x:ab),nM l x=l++[x]
 | [],_=>rfl
 | c::r,x=>by simp [nM,rG r x]
def Mem.beginC{M:Imm}{ob:Hs}{ac:au}{w:World}(hm:Mem M ob ac w){k i sz:Nat}{T e:TypeId}{cs:ay}(B:ac[k]? =some (.cells T cs))(K:cs[i]? =some (.slice sz [] .nil)):
  Mem M (ob++[[.slice none 0 0]]) (ac.set k (.cells T (cs.set i (.slice sz [] (.own ac.length 0))))++[.tail 0 sz e]) w/\
   Ext M ob ac w M (ob++[[.slice none 0 0]]) (ac.set k (.cells T (cs.set i (.slice sz [] (.own ac.length 0))))++[.tail 0 sz e]) w/\dY ob (ob++[[.slice none 0 0]]):=by
 have l:dY ob (ob++[[.slice none 0 0]]):=λ j hs d=>⟨hs,by rw [Ah (Ad.1 d).1];exact d,Cw _⟩
 have r:k<ac.length:=(Ad.1 B).1;have f:(ob++[[.slice none 0 0]])[ac.length]? =some [.slice none 0 0]:=by rw [<-hm.len];simp
 have y:at' (ob++[[.slice none 0 0]]) ac.length 0=some (.slice none 0 0):=by rw [cL f];rfl
 have q:∀ {j:Nat} {c:ab},(ac.set k (.cells T (cs.set i (.slice sz [] (.own ac.length 0))))++[.tail 0 sz e])[j]? =some c->
   (j=ac.length/\c= .tail 0 sz e)\/(j=k/\c= .cells T (cs.set i (.slice sz [] (.own ac.length 0))))\/(j≠k/\j<ac.length/\ac[j]? =some c):=λ{j c} d=>by
  by_cases z:j<ac.length
  .rw [Ah q_] at d;by_cases p:j=k
   .subst p;rw [Ay z] at d
    grind
   .rw [Bf (Fa p)] at d
    grind
  .have m:j=ac.length:=by have:=(Ad.1 d).1;simp at this;omega
   subst m;rw [Al s_] at d;simp at d
   grind
 have s:∀ {j b:Nat},aM (ob++[[.slice none 0 0]]) (ac.set k (.cells T (cs.set i (.slice sz [] (.own ac.length 0))))++[.tail 0 sz e]) j b->aM ob ac j b:=λ{j b} ⟨c,hs,o,x,e3,e4⟩=>by
  rcases q o with ⟨rfl,rfl⟩ | ⟨rfl,rfl⟩ | ⟨h1,m,h3⟩
  .rw [f] at e3;cases e3;cases e4
  .rw [Ah (by rw [hm.len];exact r)] at e3;exact ⟨_,hs,B,rfl,e3,e4⟩
  .rw [Ah (by rw [hm.len];exact m)] at e3;exact ⟨c,hs,h3,x,e3,e4⟩
 have H:∀ (j:Nat) c,(ac.set k (.cells T (cs.set i (.slice sz [] (.own ac.length 0))))++[.tail 0 sz e])[j]? =some c->∃ hs,(ob++[[.slice none 0 0]])[j]? =some hs/\jT M (ob++[[.slice none 0 0]]) w hs c:=λ j c d=>by
  rcases q d with ⟨rfl,rfl⟩ | ⟨rfl,rfl⟩ | ⟨h1,m,h3⟩
  .exact ⟨_,f,rfl,_,rfl,0,[],Hp w 0 _ _,λ b N=>by cases N⟩
  .obtain ⟨hs,o,b,C,G,cv,I,J,D,u⟩:=hm.obj _ _ B;refine ⟨hs,by rw [Ah (by rw [hm.len];exact r)];exact o,b,C,G,cv,I,by simp;omega,D,λ n v a t g=>?_⟩;by_cases L:n=i
   .subst L;have F:n<cs.length:=(Ad.1 K).1;rw [Ay F] at g;cases g;have:=u n v _ t K;obtain ⟨_,A⟩:=this.untok;have A:v= .slice none 0 0:=A;subst A;exact .slnil _ _ y
   .rw [Bf (Fa L)] at g;exact (u n v a t g).mono (λ_ _ _ h=>h) l
  .obtain ⟨hs,o,x⟩:=hm.obj j c h3;refine ⟨hs,by rw [Ah (by rw [hm.len];exact m)];exact o,?_⟩;cases c with
   | cells P cs'=>
    obtain ⟨b,C,G,cv,I,J,D,u⟩:=x;exact ⟨b,C,G,cv,I,J,D,λ n v a t g=>(u n v a t g).mono (λ_ _ _ h=>h) l⟩
   | _=>exact x
 refine ⟨⟨hm.imm,by simp [hm.len],H,λ j b g=>hm.lt j b (s g),λ j O b h1 m=>hm.inj j O b (s h1) (s m)⟩,⟨λ_ _ _ h=>h,λ_ _ _ h=>.inl h,l,rfl,rfl,rfl,Bh _,λ_ _ _=>rfl,λ j b g=>.inl ⟨j,s g⟩⟩,l⟩
def To.begin{E:Env}{fn:Func}{g:Goal}{st:bh}{fr:ar}{ac:au}(k i:Nat)(e:TypeId){T:TypeId}{cs:ay}{sz:Nat}(n:aB ac k= .cells T cs)(m:nth cs i=some (.slice sz [] .nil))
  (h:To E fn g (.head st fr (nM (bX ac k (.cells T (Q5 cs i (.slice sz [] (.own (aR ac) 0))))) (.tail 0 sz e)))):To E fn g (.head st fr ac):=
 .mk λ d M0 ob0 ap w0 a w hst hs=>by refine h.rec λ h=>h d M0 ob0 ap w0 a w hst ?_;obtain ⟨M,ob,l,hm,c,q,j,r⟩:=hs;have b:=bP n s_;obtain ⟨p,o,f⟩:=hm.beginC (e:=e) b (oH m);rw [rG,N0,bW,aU b];exact ⟨M,_,l.trans o,p,λ t=>(c t).mono (λ_ _ _ h=>h) f,q,j.mono (λ_ _ _ h=>h) f,by simp;omega⟩
def mapO(f:aa->aa):ab->ab
 | .cells T cs=>.cells T (eQ f cs)
 | x=>x
def yD(f:aa->aa):au->au
 | []=>[]
 | x::r=>mapO f x::yD f r
def HX(f:aa->aa):∀ (l:au),yD f l=l.map (mapO f)
 | []=>rfl
 | x::r=>by simp [yD,HX f r]
def aA.mapO{P:Program}{f:FuncId}{args:ay}{ac ao:au}{r:Res}(g:aa->aa)(z:∀ (M:Imm) (ob:Hs) v a,Rep M ob v a->Rep M ob v (g a))(h:aA P f args ac r ao):aA P f args ac r (yD g ao):=by
 rw [HX];intro M ob w m hm F;have key:∀ {e:Ending} {w':World},(∃ M' ob',Ext M ob ac w M' ob' ao w'/\Mem M' ob' ao w'/\wP M' ob' e r)->∃ M' ob',Ext M ob ac w M' ob' (ao.map (AW.mapO g)) w'/\Mem M' ob' (ao.map (AW.mapO g)) w'/\wP M' ob' e r:=by
  rintro e w' ⟨M',ob',h1,l,h3⟩;have own:∀ x:ab,(AW.mapO g x).owns=x.owns:=λ x=>by cases x<;>rfl
  have p:∀ {k b:Nat},aM ob' (ao.map (AW.mapO g)) k b->aM ob' ao k b:=λ{k b} ⟨c,hs,n,t,e3,e4⟩=>by
   rw [Bi] at n;cases o:ao[k]? with
   | none=>simp_all
   | some x=>
    rw [o] at n;cases n;exact ⟨x,hs,o,by grind,e3,e4⟩
  refine ⟨M',ob',⟨h1.imm,h1.new,h1.hs,h1.os,h1.tape,h1.output,h1.size,h1.keep,λ k b d=>h1.fresh k b (p d)⟩,⟨l.imm,by simpa using l.len,λ k c s=>?_,λ k b d=>l.lt k b (p d),λ i j b d D=>l.inj i j b (p d) (p D)⟩,h3⟩;rw [Bi] at s;cases o:ao[k]? with
  | none=>grind
  | some x=>
   rw [o] at s;cases s;obtain ⟨hs,n,t⟩:=l.obj k x o;refine ⟨hs,n,?_⟩;cases x with
   | cells T cs=>
    obtain ⟨b,A,H,cv,I,J,C,G⟩:=t;refine ⟨b,A,H,cv,I,by rw [A5];simp;omega,C,λ i v a B d=>?_⟩;rw [A5,Bi] at d;cases q:cs[i]? with
    | none=>rw [q] at d;cases d
    | some y=>rw [q] at d;cases d;exact z _ _ _ _ (G i v y B q)
   | _=>exact t
 rcases h M ob w m hm F with ⟨h1,l⟩ | ⟨u,w',h1,l⟩
 .exact .inl ⟨h1,l.mono λ e w' h=>key h⟩
 .exact .inr ⟨u,w',h1,key l⟩
def aA.blur{P:Program}{f:FuncId}{args:ay}{ac ao:au}{r:Res}(h:aA P f args ac r ao):aA P f args ac r (yD (λ_=>.undef) ao):=
 h.mapO _ λ_ _ _ _ _=>.undef _
def aA.loose{P:Program}{f:FuncId}{args:ay}{ac ao:au}{r:Res}(h:aA P f args ac r ao):aA P f args ac r (yD (AW.strip 5) ao):=
 h.mapO _ λ_ _ _ _=>wU 5
def BI(l:az)(og:Nat->ab):ar->ar
 | []=>[]
 | (i,v)::r=>(i,bif xT i l then ah og 5 v else v)::BI l og r
def MD(l:az)(og:Nat->ab)(t:Nat):∀ (fr:ar),bG (BI l og fr) t=bG fr t\/bG (BI l og fr) t=ah og 5 (bG fr t)
 | []=>.inl rfl
 | (i,v)::r=>by
  simp only [BI,bG];cases Ba i t with
  | true=>
   grind
  | false=>exact MD l og t r
def To.frz{E:Env}{fn:Func}{g:Goal}{st:bh}{fr:ar}{ac:au}(l d:az)
  (h:To E fn g (.code st (BI l (aB (AW.aj d ac)) fr) (AW.aj d ac))):To E fn g (.code st fr ac):=
 .mk λ f M0 ob0 ap w0 a w hst hs=>by
  refine h.rec λ h=>h f M0 ob0 ap w0 a w hst ?_;obtain ⟨M,ob,k,hm,b,m,j,o⟩:=hs;obtain ⟨M',i,c,_,n⟩:=Mem.frzs d M ac hm;refine ⟨M',ob,k.trans c,i,λ t=>?_,m,j.mono c.imm (dY.refl _),by omega⟩;rcases MD l (aB (AW.aj d ac)) t fr with e | e
  .rw [e];exact (b t).monoM c.imm
  .rw [e];exact (i.pureV 5 _ _ ((b t).monoM c.imm)).pure
structure Bulk(H:Type)(N:Nat)(G:DataW H->Prop):Prop where
 str:∀ (l:aw),G (.lit (.string l))->l.length<=N
 sl:∀ (e r:List (DataW H)),G (.slice e r)->e.length<=N/\∀ d∈e,G d
 agg:∀ (l:List (DataW H)),G (.agg l)->∀ d∈l,G d
def TyN(P:Program)(N:Nat):Nat->TypeId->ay->Prop
 | 0,_,_=>False
 | n+1,t,cs=>match P.underlying t with
  | some .bool=>∃ b,cs=[.bool b]
  | some (.int k)=>∃ m,cs=[.int k m]/\inR k m
  | some .string=>∃ l,cs=[.str l]/\l.length<=N
  | some (.struct fs)=>TyF (TyN P N n) fs.toList cs
  | some (.array m e)=>∃ xs:List ay,xs.length=m/\(∀ x∈xs,TyN P N n e x)/\cs=xs.flatten
  | some (.slice e)=>∃ xs,cs=[.slice (P.cellsOf e) xs .no]/\xs.length<=N/\∀ x∈xs,TyN P N n e x.cells/\(aK P e=true->∃ l,x= .agg l)/\(aK P e=false->x.cells=[x])
  | _=>False
section
variable {H:Type} {N:Nat} {G:DataW H->Prop} {enc:TypeId×Value->H} {P:Program} {w:World} {base:Nat} {spare:Nat->Bool} {held:Bool}
def OP{n m:Nat}(u:∀ t,lD P n t=true->∀ cs x,DataW.trod enc P w base spare held m t cs=some x->G x.1->∃ as,jB w cs as/\TyN P N n t as)(cs:ba):
  ∀ (c:List Field) (off:Nat),(∀ f∈c,∃ y,DataW.trod enc P w base spare held m f.type ((cs.drop f.offset).take (P.cellsOf f.type))=some y/\G y.1)->NU P (lD P n) off c cs.length=true->
   ∃ as,jB w (cs.drop off) as/\TyF (TyN P N n) c as:=by
 intro c;induction c with
 | nil=>
  intro off _ h;have:=aE h;subst this;exact ⟨[],by simpa using jB.nil,rfl⟩
 | cons f c i=>
  intro off l h;simp only [NU,Af] at h;obtain ⟨⟨h1,s⟩,h3⟩:=h;have d:=aE h1;obtain ⟨y,q,e⟩:=l f s_;obtain ⟨a,o,k⟩:=u f.type s _ y q e;obtain ⟨b,r,j⟩:=i (off+P.cellsOf f.type) (λ g p=>l g (by simp [p])) h3;refine ⟨a++b,?_,a,b,rfl,k,j⟩;have hd:cs.drop off=(cs.drop off).take (P.cellsOf f.type)++cs.drop (off+P.cellsOf f.type):=by rw [<-Hv,Bv]
  rw [hd];rw [d] at o;exact o.append r
def SB{n m:Nat}{e:TypeId}(r:lD P n e=true)(p:∀ t,lD P n t=true->∀ cs x,DataW.trod enc P w base spare held m t cs=some x->G x.1->∃ as,jB w cs as/\TyN P N n t as)(cs:ba):
  ∀ (k:Nat),k*P.cellsOf e<=cs.length->(∀ i,i<k->∃ y,DataW.trod enc P w base spare held m e ((cs.drop (i*P.cellsOf e)).take (P.cellsOf e))=some y/\G y.1)->
   ∃ c:List ay,c.length=k/\(∀ x∈c,TyN P N n e x)/\jB w (cs.take (k*P.cellsOf e)) c.flatten:=by
 intro k;induction k with
 | zero=>intro _ _;exact ⟨[],rfl,λ x b=>by simp at b,by simpa using jB.nil⟩
 | succ k g=>
  intro l h;rw [Cg,Hb] at l;obtain ⟨c,l1,l2,o⟩:=g o_ (λ i s=>h i o_);obtain ⟨y,j,d⟩:=h k o_;obtain ⟨a,q,f⟩:=p e r _ y j d;refine ⟨c++[a],by simp [l1],λ x b=>?_,?_⟩
  .rcases Bd.1 b with b | b
   .exact l2 x b
   .simp at b;subst b;exact f
  .rw [Cg,Hb,List.take_add];simp only [List.flatten_append,List.flatten_cons,List.flatten_nil,Ar];exact o.append q
def TyN.pack{n:Nat}{t:TypeId}{as:ay}(h:TyN P N n t as):∃ x:aa,x.cells=as/\(aK P t=true->∃ l,x= .agg l)/\(aK P t=false->x.cells=[x]):=by
 cases n with
 | zero=>exact h.elim
 | succ n=>
  unfold TyN at h;cases a:aK P t with
  | true=>exact ⟨.agg as,rfl,(λ_=>⟨_,rfl⟩),λ h=>by cases h⟩
  | false=>
   unfold aK at a;split at h
   .obtain ⟨b,rfl⟩:=h;exact ⟨.bool b,rfl,(λ h=>by cases h),λ_=>rfl⟩
   .rename_i k _;obtain ⟨m,rfl,_⟩:=h;exact ⟨.int k m,rfl,(λ h=>by cases h),λ_=>rfl⟩
   .obtain ⟨l,rfl,_⟩:=h;exact ⟨.str l,rfl,(λ h=>by cases h),λ_=>rfl⟩
   .grind
   .grind
   .rename_i e _;obtain ⟨xs,rfl,_⟩:=h;exact ⟨.slice (P.cellsOf e) xs .no,rfl,(λ h=>by cases h),λ_=>rfl⟩
   grind
def SC{n m:Nat}{e:TypeId}(C:lD P n e=true)(B:∀ t,lD P n t=true->∀ cs x,DataW.trod enc P w base spare held m t cs=some x->G x.1->∃ as,jB w cs as/\TyN P N n t as)(a:Addr):
  ∀ (k:Nat),(∀ i,i<k->∃ y,((w.cells? base (a.add (i*P.cellsOf e)) (P.cellsOf e)).bind (DataW.trod enc P w base spare held m e))=some y/\G y.1)->
   ∃ (xs:ay) (us:List ba),xs.length=k/\us.length=k/\∀ (i:Nat) x u,xs[i]? =some x->us[i]? =some u->x.cells.length=P.cellsOf e/\(∀ j,j<P.cellsOf e->w.cell? ((a.add (i*P.cellsOf e)).add j)=u[j]?)/\jB w u x.cells/\
    TyN P N n e x.cells/\(aK P e=true->∃ l,x= .agg l)/\(aK P e=false->x.cells=[x]):=by
 intro k;induction k with
 | zero=>intro _;exact ⟨[],[],rfl,rfl,λ i x u c=>by simp at c⟩
 | succ k q=>
  intro s;obtain ⟨xs,us,l1,l2,A⟩:=q λ i v=>s i o_;obtain ⟨y,p,h⟩:=s k o_;obtain ⟨u,D,p⟩:=Option.bind_eq_some_iff.1 p;obtain ⟨_,g,d⟩:=World.cells?_some D;obtain ⟨as,has,f⟩:=B e C _ y p h;obtain ⟨x,rfl,o⟩:=f.pack;refine ⟨xs++[x],us++[u],by simp [l1],by simp [l2],λ i x' z c b=>?_⟩;by_cases v:i<k
  .rw [Ah o_] at c b;exact A i x' z c b
  .have r:i=k:=by have:=(Ad.1 c).1;simp at this;omega
   subst r;rw [Al o_] at c b;rw [l1,Mo] at c;rw [l2,Mo] at b;simp at c b;subst c b;exact ⟨by rw [<-has.1,g],d,has,f,o⟩
def iS(W:Bulk H N G):∀ (n:Nat) (t:TypeId),lD P n t=true->∀ (D:Nat) (cs:ba) (x:DataW H×List MemPlace),DataW.trod enc P w base spare held D t cs=some x->G x.1->∃ as,jB w cs as/\TyN P N n t as:=by
 intro n;induction n with
 | zero=>intro t h;cases h
 | succ n ih=>
  intro t h D cs x d I;unfold lD at h;unfold TyN;split at h
  .rename_i g
   try rw [g]
   obtain ⟨b,rfl,_⟩:=DataW.trod_bool g d;exact ⟨[.bool b],jB.single (.bool b),b,rfl⟩
  .rename_i k g
   try rw [g]
   obtain ⟨m,rfl,_,K⟩:=DataW.trod_int g d;simp only [Lit.wf,Af,decide_eq_true_eq] at K;exact ⟨[.int k m],jB.single (.int k m (xG K)),m,rfl,xG K⟩
  .rename_i g
   try rw [g]
   obtain ⟨s,rfl,r,hs⟩:=DataW.trod_string g d;obtain ⟨⟨l⟩⟩:=s;have hsN:=W.str _ (by rw [r] at I;exact I);exact ⟨[.str l],jB.single (.str l (by have:=jG;have B:l.length<=maxLen:=hs;omega)),l,rfl,hsN⟩
  .rename_i fs g
   try rw [g]
   obtain ⟨xs,m,rfl,r,C,hxl,U⟩:=DataW.trod_struct g d;have y:=W.agg _ (by rw [r] at I;exact I);rw [<-C] at h
   have:=OP (λ t S cs x d T=>ih t S m cs x d T) cs fs.toList 0 (λ f hf'=>by
    obtain ⟨i,z⟩:=Da hf';have V:fs[i]? =some f:=by simpa using z
    have M:=(Fi.1 V).1
    exact ⟨xs[i]' o_,(U i f V).trans (Ac o_),y _ (Cq (Ax _))⟩) h
   simpa using this
  .rename_i m e g
   try rw [g]
   simp only [Af] at h;obtain ⟨h1,B⟩:=h;obtain ⟨xs,q,rfl,r,C,hxl,U⟩:=DataW.trod_array g d;have y:=W.agg _ (by rw [r] at I;exact I);have hc:=aE B;obtain ⟨Ls,l1,l2,O⟩:=SB h1 (λ t S cs x d T=>ih t S q cs x d T) cs m o_ (λ i z=>⟨xs[i]' o_,(U i z).trans (Ac o_),y _ (Cq (Ax _))⟩);rw [Cn o_] at O;exact ⟨Ls.flatten,O,Ls,l1,l2,rfl⟩
  .rename_i e g
   try rw [g]
   simp only [Af] at h;obtain ⟨h1,B⟩:=h;have J:0<P.cellsOf e:=by simpa [Kb] using B
   rcases DataW.trod_slice g d with ⟨rfl,_⟩ | ⟨a,len,cap,L,rest,q,rfl,rfl,r,hb,Z,hcm,hel,U,_⟩
   .exact ⟨[.slice (P.cellsOf e) [] .no],jB.single (.nilslice _),[],rfl,Ch _,λ x d=>by simp at d⟩
   .have y:=W.sl _ _ (by rw [r] at I;exact I);obtain ⟨xs,us,l1,l2,O⟩:=SC h1 (λ t S cs x d T=>ih t S q cs x d T) a len (λ i z=>⟨L[i]' o_,(U i z).trans (Ac o_),y.2 _ (Cq (Ax _))⟩);have X:∀ x∈xs,TyN P N n e x.cells/\(aK P e=true->∃ l,x= .agg l)/\(aK P e=false->x.cells=[x]):=λ x d=>by obtain ⟨i,z⟩:=Da d;have M:=(Ad.1 z).1;exact (O i x (us[i]' o_) z (Ac o_)).2.2.2
    by_cases h0:len=0
    .subst h0;have:xs=[]:=Bc l1;subst this;exact ⟨[.slice (P.cellsOf e) [] .no],jB.single (.emptys _ a cap),[],rfl,Ch _,λ x d=>by simp at d⟩
    .obtain ⟨b,o,sp⟩:=a;have hx0:xs[0]? =some (xs[0]' o_):=Ac o_;have Y:us[0]? =some (us[0]' o_):=Ac o_;obtain ⟨c1,c2,c3,_⟩:=O 0 _ _ hx0 Y;have u:=c2 0 J;have Q:0<(us[0]' o_).length:=by rw [c3.1,c1];exact J
     rw [Ac Q] at u;have hsp:sp=none:=by have:=World.cell?_spot u;simpa [Addr.add] using this
     subst hsp;have key:∀ (i j:Nat) x c,xs[i]? =some x->x.cells[j]? =some c->∃ v,(us.getD i []).getD j undef=v/\w.cell? ⟨b,o+i*P.cellsOf e+j,none⟩=some v/\RepW w v c:=by
      intro i j x c d F;have M:=(Ad.1 d).1;have R:us[i]? =some (us[i]' o_):=Ac o_;obtain ⟨d1,d2,d3,_⟩:=O i x _ d R;have hjl:=(Ad.1 F).1;have A:j<(us[i]' o_).length:=by rw [d3.1];exact hjl
      have p:=d2 j o_;rw [Ac A] at p;refine ⟨_,rfl,?_,?_⟩
      .rw [Fk,Fk,R];simp only [Kd,Ac A];rw [bK,bK] at p;exact p
      .rw [Fk,Fk,R];simp only [Kd,Ac A];exact d3.2 j _ c (Ac A) F
     refine ⟨[.slice (P.cellsOf e) xs .no],jB.single (.slice (P.cellsOf e) b o len cap xs (λ i j=>(us.getD i []).getD j undef) l1 Z (by have:=jG;omega) (λ x d=>?_) (λ i j x c d F=>?_) (λ i j x c d F=>?_) (λ i j x c d F=>?_)),xs,rfl,by have h9:=y.1;simp only [Cm] at h9;omega,X⟩
     .obtain ⟨i,z⟩:=Da d;have M:=(Ad.1 z).1;exact (O i x (us[i]' o_) z (Ac o_)).1
     .obtain ⟨v,rfl,h1,_⟩:=key i j x c d F;exact h1
     .obtain ⟨v,rfl,_,B⟩:=key i j x c d F;exact B.one
     .obtain ⟨v,rfl,_,B⟩:=key i j x c d F;exact B
  .cases h
end
open Go.RowKit Go.Sort
def RY(d:ax)(a:Array Value)(h:d.length<=a.size):
  putCells (Ej .i64) 0 d.toArray a=((a.toList.take 0++d.map (Ej .i64))++a.toList.drop (0+(d.map (Ej .i64)).length)).toArray:=by
 apply Array.ext_getElem?;intro k;simp only [putCells,Array.getElem?_mapIdx,Ix,Bp,Jz,Bx,Cm,Gv,Ch,true_and,Iz];by_cases c:k<d.length
 .have b:k<a.size:=o_;simp_all
 .rw [Al (by grind),Cm,Ca,show d.length+(k-d.length)=k from by omega];cases b:a[k]? with
  | none=>simp [b]
  | some y=>simp [b,c]
def RU{w:World}{b k:Nat}{d:ax}{a:Array Value}{e:TypeId}{g:Nat×Nat}{n:Nat}{os:Array Obj}(f:w.heap[b]? =some (.cells a e g))(h:d.length<=a.size)(i:k<w.heap.size):
  (grow (putRow (Ej .i64) (Sort.ahead w n) b 0 d.toArray) os).heap[k]? =(w.setRow b ((a.toList.take 0++d.map (Ej .i64))++a.toList.drop (0+(d.map (Ej .i64)).length)).toArray).heap[k]?:=by
 unfold grow putRow mapBlock World.setRow Sort.ahead;dsimp only;rw [Hi (by grind)];simp only [Fw];by_cases c:b=k
 .subst c;rw [if_pos rfl,if_pos rfl,f];simp only [Ms,onCells,RY d a h]
 grind
def KA{P:Program}{f:FuncId}(N:qS P f)
  (C:∀ (p:Option Addr) (cap:Nat) (w:World),Calls P f #[.slice p 0 cap] w λ e w'=>e= .returned (.tuple #[])/\w'=w)
  (hs:∀ (blk off cap:Nat) (W:ax) (w:World),Holds (Ej .i64) w blk off W.toArray->blk<w.heap.size->W.length<4611686018427387904->Calls P f #[.slice (some ⟨blk,off,none⟩) W.length cap] w λ e w'=>
   e= .returned (.tuple #[])/\∃ n os,w'=grow (putRow (Ej .i64) (Sort.ahead w n) blk off (W.mergeSort λ x y=>decide (x<=y)).toArray) os)
  (e:TypeId) (l:ax) (hl:l.length<=1000000000):aA P f [.row 0 0] [.row 0 1 e (l.map (aa.int .i64))] (.ret (.tup [])) [.row 0 1 e ((l.mergeSort λ x y=>decide (x<=y)).map (aa.int .i64))]:=by
 intro M ob w F hm G;obtain ⟨hln,G⟩:=G
 match F,hln with
 | [v],_=>
 obtain ⟨a,n,c,rfl,Y⟩:=(G 0 _ _ rfl rfl).row_inv;obtain ⟨hs0,v0,e1,e2,e3,e4,B,hblk⟩:=hm.rowOf (k:=0) rfl;rw [Y] at e4;cases e4;have D:=B;obtain ⟨cv,d,h1,hz,hc,hno,hone⟩:=B;have J:(l.map (aa.int .i64)).length=l.length:=by simp
 have R:∀ {M':Imm} {ob':Hs},Rep M' ob' (.tuple #[]) (.tup []):=.tup [] [] rfl (λ i v a hv=>by simp at hv);by_cases h0:l=[]
 .subst h0;have hn:n=0:=by
   rcases dX d with ⟨q,_⟩ | ⟨b,cap,q,_⟩
   .cases q;rfl
   .cases q;rfl
  subst hn;refine .inl ⟨N _ _,(C a c w).mono ?_⟩;rintro e' w' ⟨rfl,rfl⟩;have e0:(([]:ax).mergeSort λ x y=>decide (x<=y))=[]:=by simp
  rw [e0];exact ⟨M,ob,Ext.refl _ _ _ _,hm,R⟩
 .have hpos:0<l.length:=Eg.2 h0;have hcw:∀ q,q<l.length->∃ u,cv[q]? =some u/\u= .int .i64 (l[q]!):=λ q V=>by obtain ⟨u,z,G⟩:=hc q (.int .i64 l[q]) (by unfold aP;simp [V,aa.cells,Iw,Ji]);refine ⟨u,z,?_⟩;rw [G.int_inv.1];simp [V]
  obtain ⟨hcl,Z⟩:=d;rcases Z with ⟨q1,q2⟩ | ⟨b,cap,g,q1,_,U,q4,q5,q6,q7⟩
  .omega
  cases q1
  have d:w.ownsRow 0 e 1 (.slice (some ⟨b,0,none⟩) (l.map (aa.int .i64)).length c) (l.map (aa.int .i64)).length cv:=⟨hcl,.inr ⟨b,c,g,rfl,Ch _,U,q4,q5,q6,q7⟩⟩
  have T:b<w.heap.size:=gL U;have hH:Holds (Ej .i64) w b 0 l.toArray:=λ j H=>by have H:j<l.length:=o_;obtain ⟨u,z,rfl⟩:=hcw j H;refine ⟨?_,by simp [Lx,U]⟩;rw [Bx,gX d rfl z];simp [H]
  have hsl:(l.mergeSort λ x y=>decide (x<=y)).length=l.length:=Mx l;rw [J];refine .inl ⟨N _ _,(hs b 0 c l w hH T o_).mono ?_⟩;rintro e' w' ⟨rfl,k,os,rfl⟩;generalize hS:(l.mergeSort λ x y=>decide (x<=y))=S at hsl⊢;have L:∀ x∈S,inR .i64 x:=λ x r=>by
   have:x∈l:=by rw [<-hS] at r;exact (Lg l _).mem_iff.1 r
   obtain ⟨i,hi⟩:=Da this;have A:=(Ad.1 hi).1;obtain ⟨u,z,G⟩:=hc i (.int .i64 x) (by unfold aP;simp [hi,aa.cells,Iw,Ji]);exact G.int_inv.2
  have hw:=D.write (p:=0) (news:=S.map (Ej .i64)) (xs':=S.map (aa.int .i64)) rfl o_ (by simp [hsl]) (λ u z=>by
    obtain ⟨x,_,rfl⟩:=Ce.1 z
    rfl) (by simp [hsl]) (λ x r=>by
    obtain ⟨y,_,rfl⟩:=Ce.1 r
    rfl) (λ q c' V=>.inl (by
    obtain ⟨x,r,O⟩:=iW V;rw [Iw] at r;rw [Ji] at O;rw [Bi] at r;cases s:S[q]? with
    | none=>rw [s] at r;cases r
    | some y=>
     rw [s] at r;cases r;cases O;have A:=(Ad.1 s).1
     exact ⟨Ch _,by simp;omega,.int .i64 y,by simp [s],.int _ _ (L y (Az s))⟩))
  obtain ⟨cur',c1,c2,c3⟩:=hw;rw [U] at c1;cases c1;have Q:S.length<=g.size:=o_;have t:=hm.rowTurn (k:=0) (hs':=hs0) rfl e1 e3 (Cw _) e2 e3 c3 (λ I _ hn=>setRow_other w b I _ (λ e=>hn (by simp [Gt,e]))) rfl rfl rfl s_ (λ I hb'=>.inl hb');rw [iM e1] at t;obtain ⟨t1,t2,_⟩:=t;have X:(w.setRow b ((g.toList.take 0++S.map (Ej .i64))++g.toList.drop (0+(S.map (Ej .i64)).length)).toArray).heap.size=w.heap.size:=by simp
  have K:∀ j,j<w.heap.size->(grow (putRow (Ej .i64) (Sort.ahead w k) b 0 S.toArray) os).heap[j]? =(w.setRow b ((g.toList.take 0++S.map (Ej .i64))++g.toList.drop (0+(S.map (Ej .i64)).length)).toArray).heap[j]?:=
   λ j H=>RU U Q H
  have m:=t1.more (M':=M) (w':=grow (putRow (Ej .i64) (Sort.ahead w k) b 0 S.toArray) os) (λ_ _ _ h=>h) (λ_ _ _ h=>.inl h) (λ I o y hy=>by
    obtain ⟨u,z,r1,r2⟩:=t1.imm I o y hy;have A:=Cz _ _ z;rw [X] at A
    exact ⟨u,(Cy (a:=⟨I,o,none⟩) (K I A)).trans z,r1,r2⟩) (λ j H=>K j o_) rfl rfl rfl s_
  exact ⟨M,ob,t2.trans m.2,m.1,R⟩
def aB3(g:aa->aa)(x:ab):(mapO g x).owns=x.owns:=by cases x<;>rfl
def xO{g:aa->aa}{ob:Hs}{ac:au}{k b:Nat}(h:aM ob (ac.map (mapO g)) k b):aM ob ac k b:=by
 obtain ⟨c,hs,a,i,e,f⟩:=h;rw [Bi] at a;cases d:ac[k]? with
 | none=>simp_all
 | some x=>
  rw [d] at a;cases a;exact ⟨x,hs,d,by rw [<-aB3 g];exact i,e,f⟩
def Mem.mapO{M:Imm}{ob:Hs}{ac:au}{w:World}{g:aa->aa}(o:∀ (M:Imm) (ob:Hs) v a,Rep M ob v a->Rep M ob v (g a))(e:Mem M ob ac w):Mem M ob (ac.map (AW.mapO g)) w:=by
 refine ⟨e.imm,by simpa using e.len,λ k c h=>?_,λ k b d=>e.lt k b (xO d),λ i j b d s=>e.inj i j b (xO d) (xO s)⟩;rw [Bi] at h;cases l:ac[k]? with
 | none=>grind
 | some x=>
  rw [l] at h;cases h;obtain ⟨hs,n,m⟩:=e.obj k x l;refine ⟨hs,n,?_⟩;cases x with
  | cells T cs=>
   obtain ⟨b,p,u,cv,z,A,r,t⟩:=m;refine ⟨b,p,u,cv,z,by rw [A5];simp;omega,r,λ i v a q d=>?_⟩;rw [A5,Bi] at d;cases f:cs[i]? with
   | none=>rw [f] at d;cases d
   | some y=>rw [f] at d;cases d;exact o _ _ _ _ (t i v y q f)
  | _=>exact m
def Ext.mapO{M M':Imm}{ob ob':Hs}{ap ac:au}{w w':World}{g:aa->aa}(h1:Ext M ob ap w M' ob' ac w'):Ext M ob ap w M' ob' (ac.map (AW.mapO g)) w':=
 ⟨h1.imm,h1.new,h1.hs,h1.os,h1.tape,h1.output,h1.size,h1.keep,λ k b a=>h1.fresh k b (xO a)⟩
def To.mapO{E:Env}{fn:Func}{g:Goal}{st:bh}{fr:ar}{ac:au}(f:aa->aa)(i:∀ (M:Imm) (ob:Hs) v a,Rep M ob v a->Rep M ob v (f a))
  (h:To E fn g (.code st fr (yD f ac))):To E fn g (.code st fr ac):=
 .mk λ c M0 ob0 ap w0 a w hst hs=>by rw [HX] at h;refine h.rec λ h=>h c M0 ob0 ap w0 a w hst ?_;obtain ⟨M,ob,e,hm,b,j,d,k⟩:=hs;exact ⟨M,ob,e.mapO,hm.mapO i,b,j,d,by simp_all⟩
def To.loose{E:Env}{fn:Func}{g:Goal}{st:bh}{fr:ar}{ac:au}(h:To E fn g (.code st fr (yD (strip 5) ac))):To E fn g (.code st fr ac):=
 h.mapO _ λ_ _ _ _=>wU 5
end Go.AW
