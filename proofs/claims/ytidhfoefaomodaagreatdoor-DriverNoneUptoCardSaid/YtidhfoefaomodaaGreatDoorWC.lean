/- Part 3 of what the statement rests on. -/
import Derived.Defers
import Derived.RangeFuncRecord
import Derived.ChangeKeysEq
import Derived.Lib.Overlaps
import Derived.WalkKit
import Derived.ProofKit
import Derived.OpenShut
import Derived.Recover
import Derived.Sort.Grow
import Derived.Test.YtidhfoefaomodaaGreatDoorWB
set_option linter.all false
open Array renaming getD_eq_getD_getElem?->Bj,getElem?_append_left->Gx,getElem?_eq_getElem->Ha,getElem?_eq_some_iff->Ez,getElem?_modify->Fi,getElem?_setIfInBounds_ne->Eu,getElem?_setIfInBounds_self_of_lt->Ep,replicate->Fz,toList_map->Jx
open Bool renaming and_assoc->Ij,and_eq_true->Ad,and_true->Hz,false_eq_true->Cp,not_eq_true'->Cx,or_eq_true->Fc
open Go.Instr renaming checkKey->Ht
open Go.Region renaming binds->Jp,wanted->Fe
open Go.Result renaming andThen->Ef,andThen_ok->Aq
open Go.Sem renaming run_bind->Bg,run_pure->Bw
open Go.Value renaming bool->Ng,int->Eb,okWide->Lc,ownBlock->Gk
open Go.World renaming block_lt_of_cell?->Cs,cell?->Km,cell?_of_block->Cr,freeze->Ml,frozen?->Lv,ownsRow_nil->Hf,putObj_heap_other->Gn,shape?->Ji
open Int renaming le_trans->Fk
open List renaming all_eq_true->Cq,append_nil->Av,drop_drop->Hk,drop_eq_getElem_cons->Ae,eq_nil_of_length_eq_zero->Ax,ext_getElem?->Ek,getD_eq_getElem?_getD->Fb,getElem?_append_left->Ag,getElem?_append_right->Ak,getElem?_drop->Bp,getElem?_eq_getElem->Aa,getElem?_eq_none->Bk,getElem?_eq_some_iff->Ab,getElem?_map->Bf,getElem?_of_mem->Ct,getElem?_replicate->Es,getElem?_set_ne->Ay,getElem?_set_self->Ar,getElem?_take_of_lt->Bi,getElem?_toArray->Jt,getElem_mem->Bh,length_append->Ai,length_map->Ch,length_mergeSort->Mu,length_pos_iff->Dy,length_singleton->Mv,map_cons->Bl,map_drop->Ix,map_map->Dx,map_take->Gh,mem_append->Az,mem_cons->Bb,mem_map->Ca,mem_map_of_mem->Cm,mem_of_getElem?->Au,mem_singleton->Dj,nil_append->Bn,prefix_refl->Cn,range'->Il,range'_succ->Lz,range_eq_range'->Im,replicate->Aj,size_toArray->Gl,take_append_drop->Bq,take_append_of_le_length->Dc,take_of_length_le->Cf,take_zero->Iq
open Nat renaming add_comm->Md,add_mul->Bx,add_zero->Fl,and_two_pow_sub_one_eq_mod->Jv,beq->Aw,ble->Fw,blt->Ff,blt_eq->Jw,div_one->Ip,eq_zero_or_pos->Fp,le_of_ble_eq_true->Ck,le_refl->Bc,le_trans->Cz,lor->Nj,mod_one->Jd,mul_comm->De,mul_le_mul_right->Bu,one_mul->Gt,pow_le_pow_right->Ew,strongRecOn->Hy,sub_self->Mm,sub_zero->Jo,testBit_two_pow->La,two_pow_add_eq_or_of_lt->Ii,zero_add->Bo,zero_le->Bv
open Ne renaming symm->Em
open Option renaming getD_some->Jy,isSome_iff_exists->Da,map_some->Mq
open Option.some renaming injEq->Ds
open Prod renaming fst->Ma
open UInt8 renaming ofNat->Dm
namespace Go.AW
open Go.RowKit
open Classical
section
variable {P:Program} {M:Imm} {ob:Hs} {L ac:List ab} {w:World} {a:Act}
def lG {g:Nat->aa} (e:∀ t,Rep M ob (a.tmps.getD t undef) (g t)) {u:Value} {v:aa} (f:Rep M ob u v) {d:Option Nat} (i:∀ c,d=some c->c<a.tmps.size):
  ∀ t,Rep M ob ((a.put d u).tmps.getD t undef) (iS g d v t):=by
 intro t;unfold iS;cases d with
 | none=>rw [if_neg s_];exact e t
 | some d=>
  have b:=i d rfl;by_cases h:d=t
  .subst h;simp only [if_true,Act.put];rw [Bj,Ep b];exact f
  .rw [if_neg (by grind)];simp only [Act.put];rw [Bj,Eu h,<-Bj];exact e t
def eJ (a:Act) (d:Option Nat) (u:Value):(a.put d u).tmps.size=a.tmps.size/\(a.put d u).defers=a.defers:=by cases d<;>simp [Act.put]
def DL {fr:List (Nat×aa)} (h:∀ t,Rep M ob (a.tmps.getD t undef) (aX fr t)) (x:Operand):Rep M ob (a.eval x) (ev fr x):=by
 cases x with
 | tmp t=>exact h t
 | const v=>exact rA v
 | global g=>exact .undef _
 | func f=>exact .func (.func f) [] [] [] [] rfl rfl (λ i v a h=>by simp at h) (λ i v a h=>by simp at h)
def aGR {tab:List Nat} {all:List Oper} {j:Nat} {g:Nat->aa} (h:∀ t,Rep M ob (a.tmps.getD t undef) (g t)) (x:Operand):Rep M ob (a.eval x) (evG tab all j g x):=by
 cases x with
 | tmp t=>
  simp only [evG];cases NA tab j t 0 all with
  | true=>exact .undef _
  | false=>exact h t
 | const v=>exact rA v
 | global g=>exact .undef _
 | func f=>exact .func (.func f) [] [] [] [] rfl rfl (λ i v a h=>by simp at h) (λ i v a h=>by simp at h)
def G (rd:Option Nat) (P:Program) (ops:Array Oper) (p:Oper) (a:Act) (w:World) (ao:Act->World->Prop) (Q:Exit->Act->World->Prop):Prop:=
 if Fe p (yielded ops a.tmps) then p.wpIn (fen rd) 0 P a w ao Q else ao (a.put p.dst undef) w
def gY {ops:Array Oper} {p:Oper} {ρ:Operand->aa} (o:∀ x,Rep M ob (a.eval x) (ρ x)) {b:Bool}
  (h:cF ops.toList ρ p.guard=some b):Fe p (yielded ops a.tmps)=b:=by
 unfold cF at h;unfold Fe;cases r:p.guard with
 | none=>simp_all
 | some n=>
  obtain ⟨j,l⟩:=n;rw [r] at h;dsimp only at h⊢;split at h
  .rename_i q v;have i:ops[j]? =some q:=by simpa using kY v
   split at h
   .rename_i d t;have e:=o (.tmp d);have m:∀ u,a.tmps.getD d undef=u->yielded ops a.tmps j=match u with | .bool b=>some b | _=>none:=by
     intro u c;unfold yielded;rw [i];simp only [Option.bind_some,t];rw [Bj] at c;cases k:a.tmps[d]? with
     | none=>rw [k] at c;simp at c;subst c;rfl
     | some x=>rw [k] at c;simp at c;subst c;cases x<;>rfl
    split at h
    .rename_i s f;rw [f] at e;have g:a.tmps.getD d undef= .bool s:=e.bool_inv;rw [m _ g];cases h;simp
    .rename_i f;rw [f] at e;obtain ⟨us,c,hl,_⟩:=e.tup_inv;have g:a.tmps.getD d undef= .tuple us.toArray:=c;rw [m _ g];cases h;simp
    .cases h
   .cases h
  .cases h
def wZ:Rep M ob undef (.tup []):=.tup [] [] rfl λ i v a h=>by simp at h
def yU:∀ {L ac:List ab},aC L=aC ac->L.length<=ac.length->ac=L++Aj (ac.length-L.length) .dead:=λ{L ac} hg hl=>by
 refine Ek λ k=>?_;by_cases b:k<L.length
 .rw [Ag b,vI b,vI (show k<ac.length by omega),hg]
 .rw [Ak o_,Es];by_cases a:k<ac.length
  .rw [if_pos o_,vI a,<-hg];rcases eV L k with ⟨h1,_⟩ | ⟨_,_,e⟩
   .omega
   .rw [e]
  simp_all
def Mem.norm (h:Mem M ob L w) (d:aC L=aC ac) (l:∀ (k:Nat),ac.length<=k->∀ hs,ob[k]? =some hs->hs=[]):
  ∃ ob',Mem M ob' ac w/\(∀ (k g:Nat) v,at' ob k g=some v->at' ob' k g=some v)/\∀ {M0:Imm} {ob0:Hs} {aq:List ab} {w0:World},Ext M0 ob0 aq w0 M ob L w->ob0.length<=ac.length->Ext M0 ob0 aq w0 M ob' ac w:=by
 by_cases hl:L.length<=ac.length
 .have e:=yU d hl;obtain ⟨c,a,_⟩:=h.extend (ac.length-L.length);rw [<-e] at c a;exact ⟨_,c,λ k g v n=>a.hs.at n,λ b _=>b.trans a⟩
 .have e:=yU d.symm o_;rw [e] at h;obtain ⟨f,j,m⟩:=h.shrink λ i hs p=>l i p hs;exact ⟨_,f,j,λ b o=>m (e▸b) o⟩
def jP {K d Kp:aa->List ab->Prop} (a:∀ v o,K v o->d v o):∀ {r:OR},orF P ac K Kp r->orF P ac d Kp r
 | .no,k=>k.elim
 | .val v,k=>a _ _ k
 | .mkf fn fs cs,k=>a _ _ k
 | .need p r,k=>⟨k.1,jP a k.2⟩
 | .alt p v w,k=>k.imp (λ h=>⟨h.1,a _ _ h.2⟩) (a _ _)
 | .idx n f,⟨i,hi,k⟩=>⟨i,hi,jP a k⟩
 | .elem xs i f,⟨x,hx,k⟩=>⟨x,hx,jP a k⟩
 | .byte l i,⟨c,hc,k⟩=>⟨c,hc,a _ _ k⟩
 | .text xs,⟨l,hl,hm,k⟩=>⟨l,hl,hm,a _ _ k⟩
 | .find es key f,⟨o,ho,k⟩=>⟨o,ho,jP a k⟩
 | .born x v,k=>a _ _ k
 | .upd i x v,k=>a _ _ k
 | .nilq xs neg,k=>λ b e=>a _ _ (k b e)
 | .call f args,k=>CallG.mono a k
 | .pan v,k=>k
def rW {a:List ab} {base:Nat} {K Kp:aa->List ab->Prop} (b:base=aM ac) (hs:a=ac):∀ {r:OR},orD P true true false a ac base K Kp r->orF P ac K Kp r
 | .no,k=>k.elim
 | .val v,k=>k
 | .mkf fn fs cs,k=>k
 | .need p r,k=>⟨k.1,rW b hs k.2⟩
 | .alt p v w,k=>k
 | .idx n f,⟨i,hi,k⟩=>⟨i,hi,rW b hs k⟩
 | .elem xs i f,⟨x,hx,k⟩=>⟨x,hx,rW b hs k⟩
 | .byte l i,k=>k
 | .text xs,k=>k
 | .find es key f,⟨o,ho,k⟩=>⟨o,ho,rW b hs k⟩
 | .born x v,k=>by rw [b] at k;exact k
 | .upd i x v,k=>k
 | .nilq xs neg,k=>k
 | .call f args,k=>by
  have k:CallD P f args true a base ac K Kp:=k;cases k with
  | pure r new h k=>subst b hs;exact .eff [] [] r new rfl h k
  | sole _ h=>exact h
 | .pan v,k=>k
end
section
variable {rd:Option Nat} {M0:Imm} {ob0:Hs} {aq:List ab} {w0:World} {sz:Nat} {dfs:List (Nat×List aa)} {E:Env} {ops:Array Oper} {Q:Exit->Act->World->Prop} {K:List (Nat×aa)->List ab->Prop} {Kp:(Nat->aa)->aa->List ab->Prop}
def EG (M:Imm) (ob:Hs) (a:List Deferred) (dfs:List (Nat×List aa)):Prop:=
 a.length=dfs.length/\∀ (i:Nat) d x,a[i]? =some d->dfs[i]? =some x->d.target= .fn (.func x.1) #[]/\cA M ob d.args.toList x.2
def EG.nil {M:Imm} {ob:Hs}:EG M ob [] []:=⟨rfl,λ i d x h=>by simp at h⟩
def EG.nil_inv {M:Imm} {ob:Hs} {a:List Deferred} (h:EG M ob a []):a=[]:=Ax h.1
def EG.mono {M M':Imm} {ob ob':Hs} {f:List Deferred} {dfs:List (Nat×List aa)} (l:∀ b o x,M b o x->M' b o x) (g:dE ob ob') (h:EG M ob f dfs):EG M' ob' f dfs:=
 ⟨h.1,λ i d x c e=>⟨(h.2 i d x c e).1,(h.2 i d x c e).2.1,λ j v a k m=>((h.2 i d x c e).2.2 j v a k m).mono l g⟩⟩
def EG.monoA {M:Imm} {ob ob':Hs} {e:List Deferred} {dfs:List (Nat×List aa)} (f:∀ (k g:Nat) v,at' ob k g=some v->at' ob' k g=some v) (h:EG M ob e dfs):EG M ob' e dfs:=
 ⟨h.1,λ i d x b c=>⟨(h.2 i d x b c).1,(h.2 i d x b c).2.1,λ j v a l m=>((h.2 i d x b c).2.2 j v a l m).monoA f⟩⟩
def Mks (w0 w:World):List Deferred->Prop
 | []=>True
 | d::ds=>(∃ b,d.target= .collected b/\w0.heap.size<=b/\w.heap[b]? =some (.deferred (some []))/\∀ a∈ds,a.target≠ .collected b)/\Mks w0 w ds
def Mks.same {w0 w w':World}:∀ {a:List Deferred},(∀ d∈a,∀ b,d.target= .collected b->w.heap[b]? =some (.deferred (some []))->w'.heap[b]? =some (.deferred (some [])))->Mks w0 w a->Mks w0 w' a
 | [],_,_=>trivial
 | d::a,hb,⟨⟨b,h1,h2,h3,h4⟩,h5⟩=>⟨⟨b,h1,h2,hb d s_ b h1 h3,h4⟩,Mks.same (λ d c=>hb d (by simp [c])) h5⟩
def cS (w0 w:World) (M:Imm) (ob:Hs) (c:List Deferred) (dfs:List (Nat×List aa)):Prop:=∃ b a,c=b++a/\EG M ob b dfs/\Mks w0 w a
def Mem.alive_heap {M:Imm} {ob:Hs} {ac:List ab} {w:World} (hm:Mem M ob ac w) {k b:Nat} (r:aG ob ac k b):∃ o,w.heap[b]? =some o/\CZ o=false:=by
 obtain ⟨c,hs,t,i,l,f⟩:=r;obtain ⟨hs',j,a⟩:=hm.obj k c t;rw [l] at j;cases j;have row:∀ {v:Value} {n sz:Nat} {e:TypeId} {cv:List Value},w.ownsRow 0 e sz v n cv->blk hs=v.ownBlock.toList->∃ o,w.heap[b]? =some o/\CZ o=false:=λ{v n sz e cv} ho hb=>by
  have h:=vF hb f;rcases ho.2 with ⟨rfl,_⟩ | ⟨g,cap,p,m,_,s,_⟩
  .cases h
  .rw [m] at h;cases h;exact ⟨_,s,rfl⟩
 cases c with
 | dead=>cases i
 | fcells cs=>cases i
 | frow g sz xs=>cases i
 | cells T cs=>
  obtain ⟨q,rfl,_,cv,d,_⟩:=a;have:=dM.1 f;subst this;exact ⟨_,d,rfl⟩
 | row g sz e xs=>
  obtain ⟨h1,v,d,cv,h3,_⟩:=a;exact row h3 ((dT h1 d).trans (eT h3))
 | tail g sz e=>
  obtain ⟨h1,v,d,n,cv,h3,_⟩:=a;exact row h3 ((dT h1 d).trans (eT h3))
 | mp x es=>
  obtain ⟨q,rfl,_,u,cl,d,_⟩:=a;have:=dM.1 f;subst this;exact ⟨_,d,rfl⟩
 | bun g I=>
  obtain ⟨h1,bs,d,h3,_⟩:=a;have e:blk hs=bs:=by rw [<-A0 (hs:=[dR bs]) rfl];exact dT h1 d
  rw [e] at f;exact h3 b f
def cS.nil {w0 w:World} {M:Imm} {ob:Hs}:cS w0 w M ob [] []:=⟨[],[],rfl,.nil,trivial⟩
def cS.marks {w0 w:World} {M:Imm} {ob:Hs} {a:List Deferred} (h:cS w0 w M ob a []):Mks w0 w a:=by obtain ⟨c,d,rfl,h1,b⟩:=h;rw [h1.nil_inv];exact b
def cS.bare {w0 w:World} {M M':Imm} {ob ob':Hs} {a:List Deferred} (h:cS w0 w M ob a []):cS w0 w M' ob' a []:=⟨[],a,rfl,.nil,h.marks⟩
def cS.mono {w0 w:World} {M M':Imm} {ob ob':Hs} {a:List Deferred} {dfs:List (Nat×List aa)} (d:∀ b o x,M b o x->M' b o x) (c:dE ob ob') (h:cS w0 w M ob a dfs):cS w0 w M' ob' a dfs:=
 let ⟨d1,d2,e,h1,h2⟩:=h;⟨d1,d2,e,h1.mono d c,h2⟩
def cS.monoA {w0 w:World} {M:Imm} {ob ob':Hs} {a:List Deferred} {dfs:List (Nat×List aa)} (b:∀ (k g:Nat) v,at' ob k g=some v->at' ob' k g=some v) (h:cS w0 w M ob a dfs):cS w0 w M ob' a dfs:=
 let ⟨d1,d2,e,h1,h2⟩:=h;⟨d1,d2,e,h1.monoA b,h2⟩
def cS.put {w0 w:World} {M:Imm} {ob:Hs} {a:Act} {d:Option Nat} {u:Value} {dfs:List (Nat×List aa)} (h:cS w0 w M ob a.defers dfs):cS w0 w M ob (a.put d u).defers dfs:=by rw [(eJ a d u).2];exact h
def cS.same {w0 w w':World} {M:Imm} {ob:Hs} {a:List Deferred} {dfs:List (Nat×List aa)} (c:w'.heap=w.heap) (h:cS w0 w M ob a dfs):cS w0 w' M ob a dfs:=
 let ⟨d1,d2,e,h1,h2⟩:=h;⟨d1,d2,e,h1,h2.same λ d _ b _ h=>by grind⟩
def cS.ext {w0 w w':World} {M M':Imm} {ob ob':Hs} {ac ap:List ab} {c:List Deferred} {dfs:List (Nat×List aa)} (h:cS w0 w M ob c dfs) (hm:Mem M ob ac w) (a:Ext M ob ac w M' ob' ap w'):cS w0 w' M' ob' c dfs:=
 let ⟨d1,d2,e,h1,h2⟩:=h
 ⟨d1,d2,e,h1.mono a.imm a.hs,h2.same λ d _ b _ h=>by
  rw [a.keep b (eX h) λ k i=>by
   obtain ⟨o,f,g⟩:=hm.alive_heap i;rw [h] at f;cases f
   cases g]
  exact h⟩
def SS (M0:Imm) (ob0:Hs) (aq:List ab) (w0:World) (sz:Nat) (dfs:List (Nat×List aa)) (fr:List (Nat×aa)) (ac:List ab) (a:Act) (w:World):Prop:=
 ∃ M ob,Ext M0 ob0 aq w0 M ob ac w/\Mem M ob ac w/\(∀ t,Rep M ob (a.tmps.getD t undef) (aX fr t))/\a.tmps.size=sz/\cS w0 w M ob a.defers dfs/\ob0.length<=ac.length
def PP (M0:Imm) (ob0:Hs) (aq:List ab) (w0:World) (sz:Nat) (dfs:List (Nat×List aa)) (b:Nat->aa) (v:aa) (ac:List ab) (c:List PanicEntry) (a:Act) (w:World):Prop:=
 ∃ M ob,Ext M0 ob0 aq w0 M ob ac w/\Mem M ob ac w/\rK M ob (.panicked c) (.pan v)/\(∀ t,Rep M ob (a.tmps.getD t undef) (b t))/\a.tmps.size=sz/\cS w0 w M ob a.defers dfs/\ob0.length<=ac.length
def Ext.lens {M M':Imm} {ob ob':Hs} {L L':List ab} {w w':World} (a:Ext M ob L w M' ob' L' w'):ob.length<=ob'.length:=by
 rcases Fp ob.length with h | h
 .omega
 .obtain ⟨hs',e,_⟩:=a.hs (ob.length-1) _ (Aa o_)
  grind
def mK {P:Program} {hint base:Nat} {ac:List ab} {ρ:Operand->aa} {op:Op} {ty:TypeId} {K Kp:aa->List ab->Prop} (h:orF P ac K Kp (eop E hint base (aC ac) ρ op ty)):∀ c,op≠ .defer c:=by intro c e;subst e;exact h.elim
def K7 (hE:ae E) {fr:List (Nat×aa)} {ac:List ab} {a:Act} {w:World} (hs:SS M0 ob0 aq w0 sz dfs fr ac a w) {p:Oper} (y:∀ d,p.dst=some d->d<sz) {hint:Nat}
  (h:match cF ops.toList (ev fr) p.guard with
   | none=>False
   | some false=>K (kW fr p.dst (.tup [])) ac
   | some true=>orF E.P ac (λ v ac=>K (kW fr p.dst v) ac) (Kp (aX fr)) (eop E hint (aM ac) (aC ac) (ev fr) p.op p.type))
  (hp:∀ v ac j w,Kp (aX fr) v ac->PP M0 ob0 aq w0 sz dfs (aX fr) v ac j a w->Q (.panic j) a w):
  G rd E.P ops p a w (λ a w=>∃ fr ac,K fr ac/\SS M0 ob0 aq w0 sz dfs fr ac a w) Q:=by
 obtain ⟨M,ob,x,hm,m,g,i,C⟩:=hs;have l:=DL m;have hl:=hm.len;unfold G;cases z:cF ops.toList (ev fr) p.guard with
 | none=>simp_all
 | some b=>
  rw [z] at h;rw [gY l z];cases b with
  | false=>
   rw [if_neg s_];refine ⟨_,ac,h,M,ob,x,hm,?_,(eJ _ _ _).1.trans g,i.put,C⟩;rw [eK];exact lG m wZ λ n e=>g▸y n e
  | true=>
   rw [if_pos rfl];have o:∀ c,p.op≠ .defer c:=mK h;refine (AJ hE hm l h).wpIn o (λ u w' ⟨M',ob',L',f,k,s⟩=>?_) (λ j w' ⟨M',ob',L',f,k,s⟩=>?_)
   .rcases s with ⟨A,v,e,r,q⟩ | ⟨j,v,e,_⟩
    .cases e;have:=f.lens;have:=k.len;refine ⟨_,L',q,M',ob',x.trans f,k,?_,(eJ _ _ _).1.trans g,(i.ext hm f).put,by omega⟩;rw [eK];exact lG (λ t=>(m t).mono f.imm f.hs) r λ n e=>g▸y n e
    .cases e
   .rcases s with ⟨A,v,e,_⟩ | ⟨B,v,e,r,q⟩
    .cases e
    .cases e;have:=f.lens;have:=k.len;exact hp v L' j w' q ⟨M',ob',x.trans f,k,r,λ t=>(m t).mono f.imm f.hs,g,i.ext hm f,by omega⟩
def wk {l:List Oper} {p:Oper} {a:Act} {w:World} {ao:Act->World->Prop} (b:G rd E.P ops p a w ao Q) (d:∀ a w,ao a w->wpListIn (fen rd) 0 E.P ops Q l a w):wpListIn (fen rd) 0 E.P ops Q (p::l) a w:=by
 unfold wpListIn;unfold G at b;split
 .rename_i c;rw [if_pos c] at b;exact Oper.wpIn_mono d b
 .rename_i c;rw [if_neg c] at b;exact ⟨λ_ _=>trivial,d _ _ b⟩
def mM (hE:ae E) (hp:∀ g v ac c a w,Kp g v ac->PP M0 ob0 aq w0 sz dfs g v ac c a w->Q (.panic c) a w) (j:∀ fr ac a w,K fr ac->SS M0 ob0 aq w0 sz dfs fr ac a w->Q .normal a w):
  ∀ (l:List Oper) (n:Nat) (fr:List (Nat×aa)) (ac:List ab) (a:Act) (w:World),(∀ p∈l,∀ d,p.dst=some d->d<sz)->eQ E ops.toList K Kp n l fr ac->SS M0 ob0 aq w0 sz dfs fr ac a w->wpListIn (fen rd) 0 E.P ops Q l a w
 | [],n,fr,ac,a,w,_,h,hs=>j fr ac a w h hs
 | p::l,n,fr,ac,a,w,hd,h,hs=>by
  refine wk (K7 (K:=λ fr ac=>eQ E ops.toList K Kp (n+1) l fr ac) (Kp:=Kp) (hint:=eW E p.dst) hE hs (hd p s_) ?_ λ v ac c w e f=>hp (aX fr) v ac c a w e f) λ k w' ⟨i,ap,e,hs'⟩=>mM hE hp j l (n+1) i ap k w' (λ p hp=>hd p (by simp [hp])) e hs';simp only [eQ] at h;cases m:cF ops.toList (ev fr) p.guard with
  | none=>grind
  | some b=>
   rw [m] at h;cases b with
   | false=>exact h
   | true=>
    exact jP (λ v o h=>uC h) h
end
section
variable {rd:Option Nat} {M0:Imm} {ob0:Hs} {aq:List ab} {w0:World} {sz:Nat} {dfs:List (Nat×List aa)} {E:Env} {ops:Array Oper} {Q:Exit->Act->World->Prop} {K:AS->Prop} {Kp:(Nat->aa)->aa->List ab->Prop} {L0:Nat} {tab:List Nat}
def EM {P:Program} {og b:Nat->ab} {hint base a:Nat} {ρ:Operand->aa} {op:Op} {ty:TypeId} {z:aa} {bs:List ab} (h:gF P b a z bs (eop E hint base og ρ op ty)):∀ c,op≠ .defer c:=by intro c e;subst e;exact h.elim
def IA {og:Nat->ab} {hint base k:Nat} {ρ:Operand->aa} {op:Op} {ty:TypeId} {z:aa} {x:ab} (h:IB z k x (eop E hint base og ρ op ty)):∀ c,op≠ .defer c:=by intro c e;subst e;exact h.elim
def DS (M0:Imm) (ob0:Hs) (aq:List ab) (w0:World) (sz:Nat) (dfs:List (Nat×List aa)) (L0:Nat) (s:AS) (a:Act) (w:World):Prop:=
 ∃ M ob L,Ext M0 ob0 aq w0 M ob L w/\Mem M ob L w/\aC L=s.o/\(∀ t,Rep M ob (a.tmps.getD t undef) (s.g t))/\a.tmps.size=sz/\cS w0 w M ob a.defers dfs/\ob0.length<=L0/\
  ∀ (k:Nat),L0<=k->(∀ i,¬ s.br i k)->∀ hs,ob[k]? =some hs->hs=[]
def aHb (hE:ae E) (hd:∀ (i:Nat) p,ops[i]? =some p->∀ d,p.dst=some d->d<sz) (hp:∀ g v ac C a w,Kp g v ac->PP M0 ob0 aq w0 sz dfs g v ac C a w->Q (.panic C) a w)
  {s:AS} {a:Act} {w:World} (hs:DS M0 ob0 aq w0 sz dfs L0 s a w) {i:Nat} (h:aOp E ops tab L0 Kp i K s):wpOpIn (fen rd) 0 E.P ops Q i (λ a w=>∃ s',K s'/\DS M0 ob0 aq w0 sz dfs L0 s' a w) a w:=by
 obtain ⟨p,hi,h⟩:=h;have A:=hd i p hi
 suffices hg:G rd E.P ops p a w (λ a w=>∃ s',K s'/\DS M0 ob0 aq w0 sz dfs L0 s' a w) Q by
  unfold wpOpIn;rw [hi];dsimp only;unfold G at hg;split
  .rename_i o;rw [if_pos o] at hg;exact hg
  .rename_i o;rw [if_neg o] at hg;exact ⟨λ_ _=>trivial,hg⟩
 obtain ⟨M,ob,L,X,hm,H,I,j,q,W,b⟩:=hs;have l:∀ x,Rep M ob (a.eval x) (evG tab ops.toList i s.g x):=aGR I;have skip:∀ {base:Nat},K (s.upd i p.dst (.tup []) base [])->Fe p (yielded ops a.tmps)=false->G rd E.P ops p a w (λ a w=>∃ s',K s'/\DS M0 ob0 aq w0 sz dfs L0 s' a w) Q:=λ{base} m o=>by unfold G;rw [if_neg (by rw [o];simp)];refine ⟨_,m,?_⟩;rw [AG];exact ⟨M,ob,L,X,hm,H,lG I wZ λ D e=>j▸A D e,(eJ _ _ _).1.trans j,q.put,W,b⟩
 rcases h with ⟨_,z,base,bs,⟨r,_,hy⟩,hfr,m⟩ | ⟨_,z,base,k,x,⟨⟨r,hbr⟩,o,R,c⟩,m⟩ | ⟨_,ac,hoo,hl0,N,hlt,hy⟩
 .rcases hy with ⟨o,rfl,rfl⟩ | ⟨o,c⟩
  .exact skip m (gY l o)
  .unfold G;rw [gY l o,if_pos rfl];obtain ⟨hid,n⟩:∃ hid,aC (dJ hid L)=kU E tab i p.dst s:=by
    cases hbl:blD E p.dst with
    | true=>exact ⟨λ_=>True,by rw [fS];unfold kU;rw [if_pos hbl];simp⟩
    | false=>exact ⟨QJ tab i s.br,by rw [fS,H];unfold kU;rw [if_neg q_];rfl⟩
   rw [<-n] at c;refine (aKs hE hm l (λ k m=>b k (Cz r m.1) (hfr k m)) c).wpIn (EM c) (λ u w' ⟨M',ob',L',O,e,f,y,F,x4,x5,x6⟩=>?_) (λ C w' ⟨M',ob',L',O,e,_⟩=>by cases e);cases e;refine ⟨_,m,M',ob',L',X.trans f,y,?_,lG (λ t=>(I t).mono f.imm f.hs) x5 λ D e=>j▸A D e,(eJ _ _ _).1.trans j,(q.ext hm f).put,W,λ k h1 B hs T=>?_⟩
   .rw [F,H];rfl
   .have J:¬ inB base bs.length k:=λ h=>B i (.inr ⟨rfl,h⟩);exact x6 k J (b k h1 λ Z r=>B Z (.inl r)) hs T
 .unfold G;rw [gY l o,if_pos rfl];have n:aC (dJ (QJ tab i s.br) L)=nK tab i s:=by rw [fS,H];rfl
  rw [<-n] at c R;refine (aHc hE hm l (b base r hbr) R c).wpIn (IA c) (λ u w' ⟨M',ob',L',O,e,f,y,F,x4,x5,x6⟩=>?_) (λ C w' ⟨M',ob',L',O,e,_⟩=>by cases e);cases e;refine ⟨_,m,M',ob',L',X.trans f,y,?_,lG (λ t=>(I t).mono f.imm f.hs) x5 λ D e=>j▸A D e,(eJ _ _ _).1.trans j,(q.ext hm f).put,W,λ k' h1 B hs T=>x6 k' (b k' h1 B) hs T⟩;rw [F,H];rfl
 .rcases hy with ⟨o,m⟩ | ⟨o,V⟩
  .exact skip m (gY l o)
  .unfold G;rw [gY l o,if_pos rfl];have hof:=bG ac;obtain ⟨ob1,n1,n2,n3⟩:=hm.norm (ac:=ac) (H.trans hoo.symm) λ k m=>b k o_ λ i r=>by have:=hlt i k r;omega
   have S:∀ x,Rep M ob1 (a.eval x) (evG tab ops.toList i s.g x):=λ x=>(l x).monoA n2;have U:=n3 X o_;refine (AJ hE n1 S (rW rfl rfl V)).wpIn (mK (rW rfl rfl V)) (λ u w' ⟨M',ob',L',f,y,F⟩=>?_) (λ C w' ⟨M',ob',L',f,y,F⟩=>?_)
   .rcases F with ⟨O,v,e,Y,m⟩ | ⟨C,v,e,_⟩
    .cases e;have l1:=f.lens;have l2:=y.len;have l3:=n1.len;have hle:aM ac<=aM L':=by rw [bG,bG];omega
     refine ⟨_,m hle,M',ob',L',U.trans f,y,rfl,lG (λ t=>((I t).monoA n2).mono f.imm f.hs) Y λ D e=>j▸A D e,(eJ _ _ _).1.trans j,((q.monoA n2).ext n1 f).put,W,λ k h1 B hs T=>?_⟩;have hk1:k<aM L':=by rw [bG,<-l2];exact (Ab.1 T).1
     by_cases hk2:k<aM ac
     .obtain ⟨Z,r⟩:=N k h1 hk2;exact absurd (.inl r) (B Z)
     .exact absurd (.inr ⟨rfl,by omega,hk1⟩) (B i)
    .cases e
   .rcases F with ⟨O,v,e,_⟩ | ⟨ch',v,e,Y,m⟩
    .cases e
    .cases e;have l1:=f.lens;have l2:=y.len;have l3:=n1.len;exact hp _ v L' C a w' m ⟨M',ob',U.trans f,y,Y,λ t=>((I t).monoA n2).mono f.imm f.hs,j,(q.monoA n2).ext n1 f,by omega⟩
def oI (hE:ae E) (k:∀ (i:Nat) p,ops[i]? =some p->∀ d,p.dst=some d->d<sz) (hp:∀ g v ac n a w,Kp g v ac->PP M0 ob0 aq w0 sz dfs g v ac n a w->Q (.panic n) a w) {m:AS->Prop}
  (f:∀ s a w,m s->DS M0 ob0 aq w0 sz dfs L0 s a w->Q .normal a w):
  ∀ (b:Nat) (c:Array Bool) (s:AS) (a:Act) (w:World),wpA E ops tab L0 Kp m b c s->DS M0 ob0 aq w0 sz dfs L0 s a w->wpAnyIn (fen rd) 0 E.P .any ops Q b c a w
 | 0,_,_,_,_,h,hs=>⟨h.1,f _ _ _ h.2 hs⟩
 | b+1,_,_,_,_,h,hs=>⟨λ r=>f _ _ _ (h.1 r) hs,λ i t=>by
   have:=aHb (rd:=rd) (K:=wpA E ops tab L0 Kp m b _) hE k hp hs (h.2 i t);unfold wpOpIn at this⊢;cases q:ops[i]? with
   | none=>rw [q] at this;obtain ⟨s',e,j⟩:=this;exact oI hE k hp f b _ s' _ _ e j
   | some o=>
    rw [q] at this;dsimp only at this⊢;split
    .rename_i l;rw [if_pos l] at this;exact Oper.wpIn_mono (λ a w ⟨s',e,j⟩=>oI hE k hp f b _ s' a w e j) this
    .rename_i l;rw [if_neg l] at this;obtain ⟨_,s',e,j⟩:=this
     exact ⟨λ_ _=>trivial,oI hE k hp f b _ s' _ _ e j⟩⟩
def DS.of {fr:List (Nat×aa)} {ac:List ab} {a:Act} {w:World} (h:SS M0 ob0 aq w0 sz dfs fr ac a w):DS M0 ob0 aq w0 sz dfs ac.length (jB fr ac []) a w:=by
 obtain ⟨M,ob,g,hm,e,b,c,f⟩:=h
 exact ⟨M,ob,ac,g,hm,rfl,e,b,c,f,λ k i _ hs d=>by
  have:=(Ab.1 d).1;rw [hm.len] at this
  omega⟩
def DS.back {fr:List (Nat×aa)} {ac:List ab} {br:List (Nat×Nat)} {n:Nat} {a:Act} {w:World} (g:LI L0 n ac br) (h:DS M0 ob0 aq w0 sz dfs L0 (jB fr ac br) a w):SS M0 ob0 aq w0 sz dfs fr ac a w:=by
 obtain ⟨M,ob,L,p,hm,l,m,e,c,s,b⟩:=h;have o:=bG ac;have f:=g.low;obtain ⟨d,n1,n2,q⟩:=hm.norm (ac:=ac) l λ k r=>b k o_ λ i j=>by have:=(g.lt i k j).1;omega
 exact ⟨M,d,q p o_,n1,λ t=>(m t).monoA n2,e,c.monoA n2,by omega⟩
def SS.draw {fr:List (Nat×aa)} {ac:List ab} {a:Act} {w:World} (h:SS M0 ob0 aq w0 sz dfs fr ac a w):SS M0 ob0 aq w0 sz dfs fr ac a {w with drawn:=w.drawn+1}:=by obtain ⟨M,ob,b,hm,e,c,d,f⟩:=h;exact ⟨M,ob,⟨b.imm,b.new,b.hs,b.os,b.tape,b.output,b.size,b.keep,b.fresh⟩,hm.same (Bc _) λ_ _=>rfl,e,c,cS.same (w:=w) rfl d,f⟩
def PN (hE:ae E) {id:Nat} (x:TabSp ops tab) (z:∀ (i:Nat) p,ops[i]? =some p->∀ d,p.dst=some d->d<sz) {Kq:List (Nat×aa)->List ab->Prop}
  (hp:∀ g v ac q a w,Kp g v ac->PP M0 ob0 aq w0 sz dfs g v ac q a w->Q (.panic q) a w) (A:∀ fr ac a w,Kq fr ac->SS M0 ob0 aq w0 sz dfs fr ac a w->Q .normal a w)
  {fr:List (Nat×aa)} {ac:List ab} {a:Act} {w:World} (hs:SS M0 ob0 aq w0 sz dfs fr ac a w) (h:iJ E ops.toList tab Kq Kp 0 ops.toList [] fr ac):(Code.region id ops true).wpIn (fen rd) 0 E.P Q a w:=by
 refine wpIn_region_any hE.mix ?_;have b:∀ j,j<ops.size->(Fz ops.size false)[j]? =some (decide (j<0)):=by intro j r;simp [r]
 have o:(Fz ops.size false).size=ops.size:=by simp
 have c:ops.toList.length=ops.size:=by simp
 have u:LI ac.length 0 ac []:=⟨by rw [bG];omega,λ k h1 t=>by rw [bG] at t;omega,λ i k l=>by simp at l⟩
 have:=aF0 x ops.toList 0 _ [] fr ac rfl b o u h;rw [c] at this;exact oI hE z hp (λ s a w ⟨n,ap,y,B,e,m,l⟩ f=>A n ap a w l (DS.back m (e▸f))) _ _ _ _ _ this (DS.of hs.draw)
end
def KI.item:KI->Item
 | .code c=>.code c
 | .inB id=>.inBlock id
 | .inL c=>.inLoop c
 | .beginR=>.beginRound
def gL (ks:List KI):List Item:=ks.map KI.item
def aCK (rd:Option Nat) (n:Nat):(fen rd).room n:=λ d h=>by cases h
def iU (P:Program) (rd:Option Nat) (m:Machine):m.fenced P (fen rd):=fenced_wide P m
def KW (rd:Option Nat) (P:Program) (Q:Exit->Act->World->Prop) (ks:List KI) (a:Act) (w:World):Prop:=
 ∀ (b:Frame) (cs:List Frame),b.roundOf=rd->∃ e c w',Q e c w'/\ArrivesIn (Machine.fenced P (fen rd)) P (lone (b.atR a (gL ks)) cs w) b [] cs e c w'
section
variable {rd:Option Nat} {P:Program} {Q:Exit->Act->World->Prop} {ks ks':List KI} {a:Act} {w:World}
def KW.nil (h:Q .normal a w):KW rd P Q [] a w:=λ_ _ _=>⟨.normal,a,w,h,.refl _⟩
def KW.step (hs:∀ (b:Frame) cs,Go.step P (lone (b.atR a (gL ks)) cs w)= .next (lone (b.atR a (gL ks')) cs w)) (h:KW rd P Q ks' a w):KW rd P Q ks a w:=
 λ b cs c=>let ⟨e,a',w',q,r⟩:=h b cs c;⟨e,a',w',q,.of_steps (.one (iU _ _ _) (hs b cs)) r⟩
def KW.ret (h:Q .ret a w):KW rd P Q (.code .ret::ks) a w:=λ b _ _=>⟨.ret,a,w,h,λ c=>⟨_,.one (iU _ _ _) (stepR_ret c)⟩,λ_=>⟨gL ks,.refl _⟩⟩
def KW.code {c:Code} {Q':Exit->Act->World->Prop} (h:c.wpIn (fen rd) 0 P Q' a w) (h1:∀ a w,Q' .normal a w->KW rd P Q ks a w) (i:∀ d a w,Q' (.panic d) a w->Q (.panic d) a w)
  (h3:∀ e a w,Q' e a w->e= .normal\/∃ d,e= .panic d):KW rd P Q (.code c::ks) a w:=by
 intro b cs g;obtain ⟨e,f,w',q,r⟩:=h b (gL ks) cs g trivial (aCK _ _);rcases h3 e f w' q with rfl | ⟨d,rfl⟩
 .obtain ⟨l,j,k,m,n⟩:=h1 f w' q b cs g;exact ⟨l,j,k,m,.of_steps r n⟩
 .exact ⟨.panic d,f,w',i d f w' q,r⟩
def KW.arrives (h:KW none P Q ks a w) (b:Frame) (cs:List Frame) (d:b.roundOf=none):∃ e c w',Q e c w'/\Arrives P (lone (b.at a (gL ks)) cs w) b [] cs e c w':=by obtain ⟨e,c,w',q,r⟩:=h b cs d;rw [Frame.atR_of_none d] at r;exact ⟨e,c,w',q,(arrivesIn_iff (I:=Machine.fenced P Fence.wide) (λ_ _=>stepsIn_wide) d).1 r⟩
def lJ {id:Nat}:∀ (ks ks':List KI),DK id ks=some ks'->exitTo id (gL ks)=some (gL ks')
 | [],ks',h=>by cases h
 | .inB i::r,ks',h=>by
  simp only [DK] at h;simp only [gL,Bl,KI.item,exitTo];cases b:Aw i id with
  | true=>
   simp_all
  | false=>
   rw [b] at h;have a:¬ (i==id)=true:=λ e=>by simp_all
   rw [if_neg a];exact lJ r ks' h
 | .code c::r,ks',h=>lJ r ks' h
 | .inL c::r,ks',h=>lJ r ks' h
 | .beginR::r,ks',h=>lJ r ks' h
end
def JL:Nat->List Oper->Bool
 | _,[]=>true
 | n,p::r=>(gX p).all (λ i=>Ff i n)&&JL (n+1) r
def NZ (tab:List Nat) (i:Nat) (d:Nat):Nat->List Oper->Bool
 | _,[]=>true
 | j,q::r=>(match q.dst with | some e=>!Aw e d|| !loose tab i j | none=>true)&&NZ tab i d (j+1) r
def aG8 (tab:List Nat) (all:List Oper):Nat->List Oper->Bool
 | _,[]=>true
 | i,p::r=>(match p.dst with | some d=>NZ tab i d 0 all | none=>true)&&aG8 tab all (i+1) r
def LJ (ops:Array Oper):Bool:=JL 0 ops.toList&&aG8 (iN [] ops.toList) ops.toList 0 ops.toList
def aIk (sz:Nat) (l:List Oper):Bool:=l.all λ p=>match p.dst with | some d=>Ff d sz | none=>true
def dC (sz:Nat):Code->Bool
 | .region _ ops dr=>aIk sz ops.toList&&(!dr||LJ ops)
 | .seq a b=>dC sz a&&dC sz b
 | .cond _ a b=>dC sz a&&dC sz b
 | .block _ b=>dC sz b
 | .loop b=>dC sz b
 | _=>true
def KI.ok (sz:Nat):KI->Bool
 | .code c=>dC sz c
 | .inL c=>dC sz c
 | .inB _=>true
 | .beginR=>true
def bC (sz:Nat):List KI->Bool
 | []=>true
 | k::r=>k.ok sz&&bC sz r
def qZ {sz id:Nat}:∀ (ks ks':List KI),DK id ks=some ks'->bC sz ks=true->bC sz ks'=true
 | [],ks',h,_=>by cases h
 | .inB i::r,ks',h,ho=>by
  simp only [DK] at h;simp only [bC,Ad] at ho;cases a:Aw i id with
  | true=>grind
  | false=>rw [a] at h;exact qZ r ks' h ho.2
 | .code c::r,ks',h,ho=>qZ r ks' h (by simp only [bC,Ad] at ho;exact ho.2)
 | .inL c::r,ks',h,ho=>qZ r ks' h (by simp only [bC,Ad] at ho;exact ho.2)
 | .beginR::r,ks',h,ho=>qZ r ks' h (by simp only [bC,Ad] at ho;exact ho.2)
def Goal.res:Goal->Res
 | .pure r=>r
 | .full _ r _=>r
 | .keep _ r _=>r
def Goal.obs:Goal->List ab
 | .pure _=>[]
 | .full _ _ o=>o
 | .keep _ _ o=>o
def Goal.strict:Goal->Bool
 | .keep _ _ _=>false
 | _=>true
def RR (M0:Imm) (ob0:Hs) (aq:List ab) (w0:World) (g:Goal) (e:Ending) (w':World):Prop:=∃ M' ob',Ext M0 ob0 aq w0 M' ob' g.obs w'/\Mem M' ob' g.obs w'/\rK M' ob' e g.res
def eZ (P:Program) (fn:Func) (tmps:Array Value) (R:Ending->World->Prop):List Deferred->FrameMode->World->Prop
 | [],u,w=>Leaves P fn tmps R [] u w
 | d::ds,u,w=>u≠ .run/\((∃ r w',d.target= .collected r/\(Instr.takeDeferred r).run P w= .ok [] w'/\eZ P fn tmps R ds u w')\/
   ∃ fv cap f args,d.target= .fn fv cap/\(invoke d.target d.args).run P w= .ok (.enter f args) w/\
   CallsD P f args u w fun
    | .returned _,u',w'=>eZ P fn tmps R ds (settle u') w'
    | .panicked eQ,u',w'=>eZ P fn tmps R ds (raised u' eQ) w'
    | .outgrown,_,w'=>R .outgrown w')
def fH {P:Program} {fn:Func} {tmps:Array Value} {R:Ending->World->Prop}:∀ (i:List Deferred) (u:FrameMode) (w:World) (fr:Frame)
  (cs:List Frame),fr.mode=u->fr.defers=i->fr.tmps=tmps->P.funcs[fr.fn]? =some fn->eZ P fn tmps R i u w->
  ∃ e w' a,R e w'/\Comes P (lone fr cs w) (lone a cs w') e/\a.fn=fr.fn/\a.kind=fr.kind/\a.going P w' e:=by
 intro i;induction i with
 | nil=>
  intro u w fr cs x D A y h;cases u with
  | run=>exact h.elim
  | returning=>
   obtain ⟨v,J,C⟩:=h;exact ⟨.returned v,w,fr,C,Steps.refl P _,rfl,rfl,x,D,fn,y,A▸J⟩
  | panicking eQ=>exact ⟨.panicked eQ,w,fr,h,Steps.refl P _,rfl,rfl,x,D,fn,y⟩
 | cons d i G=>
  intro u w fr cs x D A y h;obtain ⟨p,⟨r,w',k,s,q⟩ | ⟨fv,cap,f,args,k,B,t⟩⟩:=h
  .have h1:=step_collected (cs:=cs) (x▸p) D k s;obtain ⟨F,m,a,l,hs',g,n,j⟩:=G u w' {fr with defers:=[]++i} cs x rfl A y q;exact ⟨F,m,a,l,Comes.of_steps (.one h1) hs',g,n,j⟩
  have h1:=step_defer (cs:=cs) (x▸p) D k B;obtain ⟨e,o,w',K,C,b,H,z⟩:=t {fr with defers:=i} cs x;cases e with
  | returned v=>
   have I:=step_going_returned (c:={{fr with defers:=i} with mode:=o}) (cs:=cs) H z;obtain ⟨F,m,a,l,hs',g,n,j⟩:=G (settle o) w' {{{fr with defers:=i} with mode:=o} with mode:=settle o} cs rfl rfl A y C;exact ⟨F,m,a,l,Comes.of_steps (.head h1 (Steps.trans b (.one I))) hs',g,n,j⟩
  | panicked eQ=>
   have I:=step_going_panicked (c:={{fr with defers:=i} with mode:=o}) (cs:=cs) z;obtain ⟨F,m,a,l,hs',g,n,j⟩:=G (raised o eQ) w' {{{fr with defers:=i} with mode:=o} with mode:=raised o eQ} cs rfl rfl A y C;exact ⟨F,m,a,l,Comes.of_steps (.head h1 (Steps.trans b (.one I))) hs',g,n,j⟩
  | outgrown=>exact ⟨.outgrown,w',fr,C,Outgrown.of_steps (.one h1) b,rfl,rfl,trivial⟩
def mX {P:Program} {fr:Frame} {w:World} {e:Ending} (h:fr.going P w e) (a:fr.kind= .normal):fr.leaving P w e:=by
 cases e with
 | returned v=>exact ⟨h.1,h.2.1,a,h.2.2⟩
 | panicked b=>exact h
 | outgrown=>exact h
structure Shut (w0 w w':World):Prop where
 os:w'.os=w.os
 tape:w'.tape=w.tape
 output:w'.output=w.output
 size:w'.heap.size=w.heap.size
 heap:∀ b,w'.heap[b]? =w.heap[b]?\/(w0.heap.size<=b/\w.heap[b]? =some (.deferred (some [])))
def mV {P:Program} {fn:Func} {tmps:Array Value} {R:Ending->World->Prop} {w0:World} {u:FrameMode} (i:u≠ .run):∀ (a:List Deferred) (w:World),Mks w0 w a->(∀ w',Shut w0 w w'->Leaves P fn tmps R [] u w')->eZ P fn tmps R a u w
 | [],w,_,h=>h w ⟨rfl,rfl,rfl,rfl,λ b=>.inl rfl⟩
 | d::a,w,⟨⟨b,h1,h2,h3,h4⟩,h5⟩,h=>by
  refine ⟨i,.inl ⟨b,_,h1,run_takeDeferred h3,?_⟩⟩;refine mV i a _ (h5.same λ l k c g j=>?_) λ w' hs=>h w' ⟨hs.os,hs.tape,hs.output,hs.size.trans World.putObj_size,λ c=>?_⟩
  .have f:c≠b:=λ e=>by simp_all
   rw [Gn f];exact j
  .by_cases g:c=b
   .grind
   .have:=hs.heap c;rwa [Gn g] at this
def Mem.shut {w0 w w':World} {M:Imm} {ob:Hs} {ac:List ab} (hm:Mem M ob ac w) (h:Shut w0 w w'):Mem M ob ac w':=by
 have e:∀ {b:Nat} {o:Obj},w.heap[b]? =some o->CZ o=false->w'.heap[b]? =some o:=λ{b o} h1 h2=>by
  rcases h.heap b with q | ⟨_,q⟩
  .grind
  .rw [h1] at q;cases q;cases h2
 refine ⟨λ b o x p=>?_,hm.len,λ k c g=>?_,λ k b n=>by rw [h.size];exact hm.lt k b n,hm.inj⟩
 .obtain ⟨v,d,l⟩:=hm.imm b o x p;refine ⟨v,?_,l⟩;unfold Km at d⊢;dsimp only at d⊢;cases i:w.heap[b]? with
  | none=>simp_all
  | some ob=>
   rw [i] at d;cases ob with
   | cells c _ _=>rw [e i rfl];exact d
   | _=>cases d
 .obtain ⟨hs',a,f⟩:=hm.obj k c g;refine ⟨hs',a,f.mono (λ_ _ _ h=>h) (dE.refl _) (λ_ _ _ _ h=>h) (λ b t m j r=>?_)⟩;obtain ⟨o,s,u⟩:=hm.alive_heap ((cN g a).2 ⟨m,j⟩)
  grind
def Ext.shut {w0 w w':World} {M0 M:Imm} {ob0 ob:Hs} {aq ac:List ab} (a:Ext M0 ob0 aq w0 M ob ac w) (h:Shut w0 w w'):Ext M0 ob0 aq w0 M ob ac w':=
 ⟨a.imm,a.new,a.hs,h.os.trans a.os,h.tape.trans a.tape,h.output.trans a.output,by rw [h.size];exact a.size,λ b d c=>by
  rcases h.heap b with q | ⟨q,_⟩
  .rw [q];exact a.keep b d c
  .omega,a.fresh⟩
def EF (E:Env) (fn:Func) (M0:Imm) (ob0:Hs) (aq:List ab) (w0:World) (g:Goal) (b:Bool) (a:Act) (w:World):Prop:=match E.rd with
 | none=>eZ E.P fn a.tmps (RR M0 ob0 aq w0 g) a.defers .returning w
 | some _=>RR M0 ob0 aq w0 g (.returned (.bool b)) w
def pI (E:Env) (fn:Func) (M0:Imm) (ob0:Hs) (aq:List ab) (w0:World) (g:Goal):Exit->Act->World->Prop
 | .normal,a,w=>EF E fn M0 ob0 aq w0 g true a w
 | .ret,a,w=>EF E fn M0 ob0 aq w0 g false a w
 | .panic ch,a,w=>(match E.rd with | none=>eZ E.P fn a.tmps (RR M0 ob0 aq w0 g) a.defers (.panicking ch) w | some _=>False)
 | _,_,_=>False
def pQ (g:Goal) (ob0:Hs):Prop:=ob0.length=g.n0/\(g.strict=true->∀ hs∈ob0,hs.length=1)
def cY (E:Env) (fn:Func) (g:Goal) (ks:List KI) (fr:List (Nat×aa)) (ac:List ab):Prop:=
 bC fn.ntmps ks=true->∀ M0 ob0 aq w0 a w,pQ g ob0->SS M0 ob0 aq w0 fn.ntmps E.df fr ac a w->KW E.rd E.P (pI E fn M0 ob0 aq w0 g) ks a w
def aD6 (E:Env) (fn:Func) (g:Goal) (fr:List (Nat×aa)) (ac:List ab):Prop:=
 ∀ M0 ob0 aq w0 a w,pQ g ob0->SS M0 ob0 aq w0 fn.ntmps E.df fr ac a w->eZ E.P fn a.tmps (RR M0 ob0 aq w0 g) a.defers .returning w
def aD5 (E:Env) (fn:Func) (g:Goal) (c:Nat->aa) (v:aa) (ac:List ab):Prop:=
 ∀ M0 ob0 aq w0 b a w,pQ g ob0->PP M0 ob0 aq w0 fn.ntmps E.df c v ac b a w->eZ E.P fn a.tmps (RR M0 ob0 aq w0 g) a.defers (.panicking b) w
def jU (E:Env) (fn:Func) (g:Goal) (a:Nat->aa) (v:aa) (ac:List ab):Prop:=match E.rd with
 | some _=>False
 | none=>match E.df with
  | []=>NW g .pan v ac
  | _::_=>aD5 E fn g a v ac
def aJE (E:Env) (fn:Func) (g:Goal) (R:RI) (n:Nat) (rest:List Oper) (br:List (Nat×Nat)) (fr:List (Nat×aa)) (ac:List ab):Prop:=
 match R.dr with
 | false=>eQ E R.all (cY E fn g R.ks) (jU E fn g) n rest fr ac
 | true=>iJ E R.all R.tab (cY E fn g R.ks) (jU E fn g) n rest br fr ac
def aCn (E:Env) (fn:Func) (g:Goal) (R:RI) (n:Nat) (d:Option Nat) (rest:List Oper) (br:List (Nat×Nat)) (fr:List (Nat×aa)) (len:Nat) (ac:List ab) (v:aa):Prop:=
 wrP rest n d fr v λ fr=>aJE E fn g R (n+1) rest (bif R.dr then born n len (gZ len ac) br else br) fr ac
def yJ (E:Env) (fn:Func) (g:Goal):St->Prop
 | .code ks fr ac=>cY E fn g ks fr ac
 | .head ks fr ac=>cY E fn g ks fr ac
 | .mid R n rest br fr ac=>aJE E fn g R n rest br fr ac
 | .pend R n d rest br fr ac r=>(match R.dr with
  | false=>orF E.P ac (λ v ap=>aCn E fn g R n d rest br fr (aM ac) ap v) (jU E fn g (aX fr)) r
  | true=>orD E.P (soN E R.tab R.all n d) (uoN E R.tab R.all n d) (blD E d) (pL E R.tab n br ac d) ac (aM ac) (λ v ap=>aCn E fn g R n d rest br fr (aM ac) ap v) (jU E fn g (aX fr)) r)
 | .got R n d rest br fr len ac v=>aCn E fn g R n d rest br fr len ac v
 | .leave none fr ac=>aD6 E fn g fr ac
 | .leave (some v) fr ac=>aD5 E fn g (aX fr) v ac
section
variable {E:Env} {M:Imm} {ob:Hs} {ac:List ab} {w:World}
def PJ (hE:ae E) (hm:Mem M ob ac w) {fr:List (Nat×aa)} {x:aa} {tmps:Array Value} {r:ResultVar} (h:aJc E ac fr r=some x) (q:∀ t,Rep M ob (tmps.getD t undef) (aX fr t)):
  ∃ v,(match r with | .tmp t=>(Pure.pure (tmps.getD t undef):Sem Value) | .cell a t=>(asAddr (tmps.getD a undef)) >>= loadVar t).run E.P w= .ok v w/\Rep M ob v x:=by
 cases r with
 | tmp t=>cases h;exact ⟨_,rfl,q t⟩
 | cell a t=>
  simp only [aJc] at h;show ∃ v,((asAddr (tmps.getD a undef)) >>= loadVar t).run E.P w= .ok v w/\Rep M ob v x;have s:=q a;split at h
  .rename_i z k off A C;rw [C] at s;split at h
   .rename_i cs j;split at h
    .rename_i l hl;obtain ⟨b,hav,p⟩:=s.ref_inv;obtain ⟨hs,h1,n,rfl,_,cv,B,g,_,e⟩:=hm.obj k _ (bZ j s_);have m:n=b:=by rw [bV h1] at p;simpa using p
     subst m;obtain ⟨y,H⟩:=iX hl;obtain ⟨u,G,D⟩:=MV (P:=E.P) (w:=w) (M:=M) (ob:=ob) (hE.tab t z A) (b:=n) (o:=off) h y λ i c F=>by
      have d:=H i c F;rw [lN,Bp] at d;have f:off+i<cv.length:=by rw [g];exact (Ab.1 d).1
      exact ⟨cv[off+i],by rw [cell_of_row w n _ _ _ (0,0) B];simp [f],e _ _ c (Aa f) d⟩
     refine ⟨u,?_,D⟩;rw [hav];simp only [asAddr,Bg,Bw,Aq];exact G
    .cases h
   .cases h
  .cases h
def BS (hE:ae E) (hm:Mem M ob ac w) {fr:List (Nat×aa)} {tmps:Array Value} (e:∀ t,Rep M ob (tmps.getD t undef) (aX fr t)):
  ∀ (b:List ResultVar) {xs:List aa},aAR E ac fr b=some xs->∃ vs,(b.mapM λ(r:ResultVar)=>(match r with | .tmp t=>(Pure.pure (tmps.getD t undef):Sem Value) | .cell a t=>(asAddr (tmps.getD a undef)) >>= loadVar t)).run E.P w= .ok vs w/\cA M ob vs xs
 | [],xs,h=>by
  cases h;exact ⟨[],by simp,rfl,λ i v a h=>by simp at h⟩
 | r::b,xs,h=>by
  simp only [aAR] at h;split at h
  .rename_i x l j hl;cases h;obtain ⟨v,f,g⟩:=PJ hE hm j e;obtain ⟨vs,d,c⟩:=BS hE hm e b hl;refine ⟨v::vs,?_,cA.cons g c⟩;rw [List.mapM_cons];simp only [Bg];rw [f];simp only [Aq];rw [d];simp
  .cases h
def PK (hE:ae E) (hm:Mem M ob ac w) {fn:Func} {fr:List (Nat×aa)} {x:aa} {tmps:Array Value} (h:aAS E ac fn.results.toList fr=some x)
  (g:∀ t,Rep M ob (tmps.getD t undef) (aX fr t)):∃ v,(results fn tmps).run E.P w= .ok v w/\Rep M ob v x:=by
 have hl:∃ xs,aAR E ac fr fn.results.toList=some xs/\((∃ y,xs=[y]/\x=y)\/(xs.length≠1/\x= .tup xs)):=by
  unfold aAS at h;split at h
  .simp_all
  .rename_i l c hl;cases h;refine ⟨_,hl,.inr ⟨λ h1=>?_,rfl⟩⟩
   match l,h1 with
   | [y],_=>grind
  .cases h
 obtain ⟨xs,d,e⟩:=hl;obtain ⟨vs,f,b⟩:=BS hE hm g _ d;have i:fn.results=fn.results.toList.toArray:=by simp
 have key:(results fn tmps).run E.P w= .ok (if h:vs.toArray.size=1 then vs.toArray[0] else .tuple vs.toArray) w:=by unfold results;rw [i,List.mapM_toArray];simp only [Bg,map_eq_pure_bind];have:(fn.results.toList.mapM λ(r:ResultVar)=>(match r with | .tmp t=>(Pure.pure (tmps.getD t undef):Sem Value) | .cell a t=>(asAddr (tmps.getD a undef)) >>= loadVar t)).run E.P w= .ok vs w:=f;refine (congrArg (λ z=>Ef (Ef z _) _) this).trans ?_;simp
 rw [key];rcases e with ⟨y,rfl,rfl⟩ | ⟨h1,rfl⟩
 .match vs,b with
  | [v],b=>exact ⟨v,by simp,b.2 0 v _ rfl rfl⟩
  | [],b=>have:=b.1;simp at this
  | _::_::_,b=>have:=b.1;simp at this
 .have c:¬ vs.toArray.size=1:=by rw [Gl,b.1];exact h1
  exact ⟨.tuple vs.toArray,by rw [dif_neg c],.tup vs xs b.1 b.2⟩
def kN:∀ {n j:Nat} {ks:List Nat},jW n j ks=true->∀ i,i<n->ks[i]? =some (j+i)
 | 0,_,_,_,i,hi=>by omega
 | n+1,j,[],h,_,_=>by cases h
 | n+1,j,k::r,h,i,hi=>by
  simp only [jW,Ad] at h;have:=aB h.1;subst this;cases i with
  | zero=>rfl
  | succ i=>
   have:=kN h.2 i o_;rw [show k+(i+1)=k+1+i from by omega];simp_all
def tN {M0:Imm} {ob0:Hs} {aq:List ab} {w0:World} {g:Goal} {n:aa->Res} {v:aa} {u:Value} (hst:pQ g ob0) (d:Ext M0 ob0 aq w0 M ob ac w) (hm:Mem M ob ac w) (D:Rep M ob u v) (h:NW g n v ac):
  ∃ M' ob' y,Ext M0 ob0 aq w0 M' ob' g.obs w/\Mem M' ob' g.obs w/\Rep M' ob' u y/\n y=g.res:=by
 cases g with
 | pure r=>
  obtain ⟨z,q,m,_,O⟩:=hm.frzL [v];have N:ob0=[]:=Ax hst.1;subst N;have a:=d.trans m;have no:∀ k b,¬ aG ([]:Hs) [] k b:=λ k b ⟨c,hs,e,_⟩=>by simp at e
  exact ⟨z,[],_,⟨a.imm,a.new,dE.refl _,a.os,a.tape,a.output,a.size,a.keep,λ k b p=>(no k b p).elim⟩,q.bare,q.cvtV (n0:=0) (ks:=[]) rfl 5 u v (D.monoM m.imm),h⟩
 | full n0 r ap=>
  obtain ⟨I,ks,⟨x,f⟩,h1,s⟩:=h;obtain ⟨z,q,m,_,O⟩:=Mem.frzs I M ac hm;obtain ⟨Q,P,_⟩:=q.cvt (n0:=n0) x;have a:=d.trans m;have H:ob0.length=n0:=hst.1;refine ⟨z,_,_,⟨a.imm,a.new,λ j hs B=>?_,a.os,a.tape,a.output,a.size,a.keep,λ j b p=>?_⟩,?_,q.cvtV (n0:=n0) x 5 u v (D.monoM m.imm),h1⟩
  .have o:j<n0:=by rw [<-H];exact (Ab.1 B).1
   have l:=kN f j o;rw [Bo] at l;obtain ⟨hs',K,t,A⟩:=a.hs j hs B;have L:=hst.2 rfl hs (Au B);refine ⟨iI n0 j (aC (AW.aj I ac) j) hs',?_,?_⟩
   .rw [gM,l];simp [K]
   .unfold iI;split
    .rw [<-A];have:(hs++t).take 1=hs:=by rw [Dc o_,Cf o_]
     rw [this];simp
    .exact ⟨t,A⟩
  .obtain ⟨k,_,C⟩:=P j b (by rw [s];exact p);exact a.fresh k b C
  .show Mem z _ ap w
   grind
 | keep n0 r ap=>
  obtain ⟨⟨F,i⟩,h1,s⟩:=h;rw [B7] at i s;obtain ⟨G,J⟩:=hm.cutO i;have H:ob0.length=n0:=hst.1;rw [s] at G J;refine ⟨M,ob.take n0,v,⟨d.imm,d.new,λ k hs x=>?_,d.os,d.tape,d.output,d.size,d.keep,λ k b p=>d.fresh k b (J p)⟩,G,A1 5 D F,h1⟩;obtain ⟨hs',K,A⟩:=d.hs k hs x;have o:k<n0:=by grind
  exact ⟨hs',by grind,A⟩
end
section
variable {E:Env} {fn:Func} {g:Goal}
def go_ret (hE:ae E) (c:E.df=[]) (p:E.rd=none) {fr:List (Nat×aa)} {ac:List ab} {v:aa} (k:aAS E ac fn.results.toList fr=some v) (h:NW g .ret v ac) {M0:Imm} {ob0:Hs} {aq:List ab} {w0:World} {a:Act} {w:World}
  (hst:pQ g ob0) (hs:SS M0 ob0 aq w0 fn.ntmps E.df fr ac a w):eZ E.P fn a.tmps (RR M0 ob0 aq w0 g) a.defers .returning w:=by
 obtain ⟨M,ob,d,hm,j,q,e,r⟩:=hs;rw [c] at e;refine mV (w0:=w0) s_ _ _ e.marks λ w' b=>?_;have d:=d.shut b;have hm:=hm.shut b;obtain ⟨u,o,l⟩:=PK hE hm k j;obtain ⟨M',ob',y,f,n,m,i⟩:=tN hst d hm l h;refine ⟨u,o,M',ob',f,n,?_⟩;rw [<-i];exact m
def UQ (hE:ae E) {b:Bool} {fr:List (Nat×aa)} {ac:List ab} (h:aFb E fn g (yJ E fn g) b fr ac) {M0:Imm} {ob0:Hs} {aq:List ab} {w0:World} {a:Act} {w:World}
  (hst:pQ g ob0) (hs:SS M0 ob0 aq w0 fn.ntmps E.df fr ac a w):EF E fn M0 ob0 aq w0 g b a w:=by
 unfold aFb at h;unfold EF;cases e:E.rd with
 | some l=>
  rw [e] at h;dsimp only at h⊢;rw [JF] at h;obtain ⟨M,ob,o,hm,q,n,s,r⟩:=hs;obtain ⟨M',ob',y,f,m,k,i⟩:=tN hst o hm (.bool b) h;exact ⟨M',ob',f,m,by rw [<-i];exact k⟩
 | none=>
 rw [e] at h;dsimp only at h⊢;cases c:E.df with
 | nil=>
  rw [c] at h;dsimp only at h;split at h
  .rename_i v j;rw [mR,JF] at h;exact go_ret hE c e j h hst hs
  grind
 | cons d p=>
  rw [c] at h;exact h M0 ob0 aq w0 a w hst hs
def aJY (c:E.df=[]) {v:aa} {ac:List ab} (h:NW g .pan v ac) {M0:Imm} {ob0:Hs} {aq:List ab} {w0:World} {sz:Nat} {n:Nat->aa} {d:List PanicEntry} {a:Act} {w:World}
  (hst:pQ g ob0) (hs:PP M0 ob0 aq w0 sz E.df n v ac d a w):eZ E.P fn a.tmps (RR M0 ob0 aq w0 g) a.defers (.panicking d) w:=by
 obtain ⟨M,ob,o,hm,⟨u,e,k⟩,_,_,f,_⟩:=hs;rw [c] at f;refine mV (w0:=w0) s_ _ _ f.marks λ w' b=>?_;obtain ⟨M',ob',y,i,m,l,j⟩:=tN hst (o.shut b) (hm.shut b) k h;refine ⟨M',ob',i,m,?_⟩;rw [<-j];exact ⟨u,e,l⟩
def AT {f:Nat->aa} {v:aa} {ac:List ab} (h:jU E fn g f v ac) {M0:Imm} {ob0:Hs} {aq:List ab} {w0:World} {e:List PanicEntry} {a:Act} {w:World}
  (hst:pQ g ob0) (hs:PP M0 ob0 aq w0 fn.ntmps E.df f v ac e a w):pI E fn M0 ob0 aq w0 g (.panic e) a w:=by
 unfold jU at h;unfold pI;cases c:E.rd with
 | some l=>grind
 | none=>
 rw [c] at h;dsimp only at h⊢;cases b:E.df with
 | nil=>
  rw [b] at h;exact aJY b h hst hs
 | cons d i=>
  rw [b] at h;exact h M0 ob0 aq w0 e a w hst hs
def oB {sz:Nat} {l:List Oper} (h:aIk sz l=true):∀ p∈l,∀ d,p.dst=some d->d<sz:=λ p hp d a=>by have:=Cq.1 h p hp;simp_all
def QR (E:Env) (fn:Func) (g:Goal) (M0:Imm) (ob0:Hs) (aq:List ab) (w0:World) (ks:List KI):Exit->Act->World->Prop
 | .normal,a,w=>KW E.rd E.P (pI E fn M0 ob0 aq w0 g) ks a w
 | .panic ch,a,w=>pI E fn M0 ob0 aq w0 g (.panic ch) a w
 | _,_,_=>False
def X1 (hE:ae E) (j:∀ ops:Array Oper,LJ ops=true->TabSp ops (iN [] ops.toList)) {id:Nat} {ops:Array Oper} {dr:Bool} {ks:List KI} {fr:List (Nat×aa)} {ac:List ab}
  (h:aJE E fn g ⟨ops.toList,dr,iN [] ops.toList,ks⟩ 0 ops.toList [] fr ac):cY E fn g (.code (.region id ops dr)::ks) fr ac:=by
 intro q M0 ob0 aq w0 a w hst hs;simp only [bC,KI.ok,dC,Ad] at q;obtain ⟨⟨m,n⟩,k⟩:=q;have r:=oB m
 refine KW.code (Q':=QR E fn g M0 ob0 aq w0 ks) ?_ (λ a w h=>h) (λ b a w h=>h) (λ e a w x=>by cases e<;>first | exact .inl rfl | exact .inr ⟨_,rfl⟩ | exact x.elim)
 have hp:∀ f v ac b a w,jU E fn g f v ac->PP M0 ob0 aq w0 fn.ntmps E.df f v ac b a w->pI E fn M0 ob0 aq w0 g (.panic b) a w:=λ f v ac b a w t l=>AT t hst l;have s:∀ fr ac a w,cY E fn g ks fr ac->SS M0 ob0 aq w0 fn.ntmps E.df fr ac a w->KW E.rd E.P (pI E fn M0 ob0 aq w0 g) ks a w:=λ fr ac a w u hs=>u k M0 ob0 aq w0 a w hst hs;cases dr with
 | false=>
  refine wpIn_region_list ?_;exact mM (rd:=E.rd) (Q:=QR E fn g M0 ob0 aq w0 ks) (K:=cY E fn g ks) (Kp:=jU E fn g) hE (λ f v ac b a w h1 c=>hp f v ac b a w h1 c) (λ fr ac a w h1 c=>s fr ac a w h1 c) ops.toList 0 fr ac a w r h hs
 | true=>
  exact PN (rd:=E.rd) (Q:=QR E fn g M0 ob0 aq w0 ks) (Kq:=cY E fn g ks) (Kp:=jU E fn g) hE (j ops (by simpa using n)) (λ i p y d o=>r p (Au (i:=i) q_) d o) (λ f v ac b a w h1 c=>hp f v ac b a w h1 c) (λ fr ac a w h1 c=>s fr ac a w h1 c) hs h
def cY.step {ks ks':List KI} {fr:List (Nat×aa)} {ac:List ab} (hs:∀ a w (b:Frame) cs,Go.step E.P (lone (b.atR a (gL ks)) cs w)= .next (lone (b.atR a (gL ks')) cs w)) (e:bC fn.ntmps ks=true->bC fn.ntmps ks'=true) (h:cY E fn g ks' fr ac):cY E fn g ks fr ac:=
 λ d M0 ob0 aq w0 a w hst c=>KW.step (hs a w) (h (e d) M0 ob0 aq w0 a w hst c)
def go (hE:ae E) (C:∀ ops:Array Oper,LJ ops=true->TabSp ops (iN [] ops.toList)):∀ (t:Nat) (st:St),bS E fn g (yJ E fn g) t st->yJ E fn g st:=by
 intro t;induction t with
 | zero=>intro st h;exact h
 | succ n e=>
  intro st h;cases st with
  | head ks fr ac=>exact e (.code ks fr ac) h
  | leave p fr ac=>exact h
  | code ks fr ac=>
   cases ks with
   | nil=>
    simp only [bS] at h;exact λ_ M0 ob0 aq w0 a w hst hs=>KW.nil (UQ (b:=true) hE h hst hs)
   | cons k ks=>
    cases k with
    | inB id=>exact cY.step (λ a w b cs=>stepR_inBlock) (λ j=>by simp only [bC,Ad] at j;exact j.2) (e (.code ks fr ac) h)
    | inL b=>
     exact cY.step (ks':=.code b:: .inL b::ks) (λ a w b cs=>stepR_inLoop) (λ j=>by simp only [bC,KI.ok,Ad] at j⊢;grind) h
    | beginR=>exact h
    | code q=>
     cases q with
     | rangeFunc x U as X=>exact h
     | skip=>exact cY.step (λ a w b cs=>stepR_skip) (λ j=>by simp only [bC,Ad] at j;exact j.2) (e (.code ks fr ac) h)
     | seq x y=>exact cY.step (λ a w b cs=>stepR_seq) (λ j=>by simp only [bC,KI.ok,dC,Ad] at j⊢;grind) (e (.code (.code x:: .code y::ks) fr ac) h)
     | block id b=>exact cY.step (λ a w b cs=>stepR_block) (λ j=>by simp only [bC,KI.ok,dC,Ad] at j⊢;grind) (e (.code (.code b:: .inB id::ks) fr ac) h)
     | loop b=>exact cY.step (ks':=.code b:: .inL b::ks) (λ a w b cs=>stepR_loop) (λ j=>by simp only [bC,KI.ok,dC,Ad] at j⊢;grind) h
     | exit id=>
            simp only [bS] at h;split at h
            .rename_i ks' G;exact cY.step (λ a w b cs=>stepR_exit (lJ _ _ G)) (λ j=>qZ _ _ G (by simp only [bC,Ad] at j;exact j.2)) (e (.code ks' fr ac) h)
            grind
     | ret=>
            simp only [bS] at h;exact λ_ M0 ob0 aq w0 a w hst hs=>KW.ret (UQ (b:=false) hE h hst hs)
     | cond x c d=>
            simp only [bS] at h;split at h
            .rename_i p hp;intro j M0 ob0 aq w0 a w hst hs;simp only [bC,KI.ok,dC,Ad] at j;obtain ⟨M,ob,G,hm,L,O,T,S⟩:=id hs;have B:=DL (a:=a) L x;rw [hp] at B;cases p with
             | true=>
              refine KW.step (ks':=.code c::ks) (λ b cs=>?_) (h.1 rfl (by simp only [bC,KI.ok,Ad];exact ⟨j.1.1,j.2⟩) M0 ob0 aq w0 a w hst hs);exact stepR_cond (P:=E.P) (b:=b) (k:=gL ks) (cs:=cs) (w:=w) (x:=c) (y:=d) B.bool_inv
             | false=>
              refine KW.step (ks':=.code d::ks) (λ b cs=>?_) (h.2 rfl (by simp only [bC,KI.ok,Ad];exact ⟨j.1.2,j.2⟩) M0 ob0 aq w0 a w hst hs);exact stepR_cond (P:=E.P) (b:=b) (k:=gL ks) (cs:=cs) (w:=w) (x:=c) (y:=d) B.bool_inv
            grind
     | region id ops dr=>
            simp only [bS] at h;cases A:aLD ops.toList with
            | true=>grind
            | false=>
             rw [A] at h;dsimp only at h;refine X1 hE C ?_;cases dr with
             | false=>
              have:=e (.mid ⟨ops.toList,false,[],ks⟩ 0 ops.toList [] fr ac) h;exact this
             | true=>
              simp only [aDN] at h;exact e (.mid ⟨ops.toList,true,iN [] ops.toList,ks⟩ 0 ops.toList [] fr ac) h
     | _=>exact h.elim
  | mid R i rest br fr ac=>
   cases rest with
   | nil=>
    have J:=e (.code R.ks fr ac) h;obtain ⟨all,dr,tab,ks⟩:=R;cases dr with
    | false=>exact J
    | true=>exact J
   | cons p rest=>
    obtain ⟨all,dr,tab,ks⟩:=R;cases dr with
    | false=>
     simp only [bS] at h;show eQ E all (cY E fn g ks) (jU E fn g) i (p::rest) fr ac;simp only [eQ];cases I:cF all (ev fr) p.guard with
     | none=>grind
     | some b=>
            rw [I] at h;cases b with
            | false=>
             cases o:p.dst with
             | none=>rw [o] at h;exact e _ h
             | some d=>
              rw [o] at h;dsimp only at h;rw [mD] at h;exact e (.mid ⟨all,false,tab,ks⟩ (i+1) rest br (bW fr d (.tup [])) ac) h
            | true=>exact e (.pend ⟨all,false,tab,ks⟩ i p.dst rest br fr ac _) h
    | true=>
     simp only [bS] at h;show iJ E all tab (cY E fn g ks) (jU E fn g) i (p::rest) br fr ac;simp only [iJ];cases I:cF all (evH tab all i fr) p.guard with
     | none=>grind
     | some b=>
            rw [I] at h;cases b with
            | false=>
             cases o:p.dst with
             | none=>rw [o] at h;exact e _ h
             | some d=>
              rw [o] at h;dsimp only at h;rw [mD] at h;exact e (.mid ⟨all,true,tab,ks⟩ (i+1) rest br (bW fr d (.tup [])) ac) h
            | true=>
             dsimp only at h;rw [rJ] at h;exact e (.pend ⟨all,true,tab,ks⟩ i p.dst rest br fr ac _) h
  | got R i d rest br fr len ac v=>
   simp only [bS,mR,rJ] at h;show aCn E fn g R i d rest br fr len ac v;unfold aCn wrP;cases d with
   | none=>exact e _ h
   | some d=>
    dsimp only at h⊢;cases K:vT i rest with
    | false=>
     rw [K] at h;simp only [cond_false,mD] at h;exact e _ h
    | true=>
     rw [K] at h;simp only [cond_true] at h⊢;split at h
     .rw [mD,mD] at h;exact h
     omega
  | pend R i d rest br fr ac r=>
   obtain ⟨all,dr,tab,ks⟩:=R;have H:∀ {q:Prop} {b:Bool},(match (!dr||b) with | true=>q | false=>False)->q/\(dr=true->b=true):=λ{q b} hq=>by grind
   cases r with
   | no=>exact h.elim
   | val v=>
    simp only [bS,mR] at h;have:=e _ h;cases dr<;>exact this
   | mkf f V cs=>
    simp only [bS,J8 (mR 3)] at h;have:=e _ h;cases dr<;>exact this
   | need p r=>
    simp only [bS] at h;cases dr<;>exact h
   | alt p v Q=>
    simp only [bS] at h;cases dr<;>exact h
   | idx m f=>
    simp only [bS] at h;cases dr<;>exact h
   | elem xs m f=>
    simp only [bS] at h;cases dr<;>exact h
   | byte l m=>
    simp only [bS] at h;cases dr<;>exact h
   | text xs=>
    simp only [bS] at h;cases dr<;>exact h
   | find es key f=>
    simp only [bS] at h;cases dr<;>exact h
   | born x v=>
    simp only [bS,aD3,rJ,mR] at h;cases dr with
    | false=>
     have:=e (.got _ _ _ _ _ _ _ _ _) h;exact this
    | true=>
     cases s:blD E d with
     | true=>rw [s] at h;exact h.elim
     | false=>
            rw [s] at h;have:=e (.got _ _ _ _ _ _ _ _ _) h;simp only [yJ];rw [s];exact this
   | upd k x v=>
    simp only [bS,aD3,rJ,mR] at h;obtain ⟨h,u⟩:=H h;have:=e _ h;cases dr with
    | false=>exact this
    | true=>
     simp only [yJ,orD];rw [u rfl];exact this
   | nilq xs N=>
    simp only [bS] at h;obtain ⟨h,u⟩:=H h;cases dr with
    | false=>exact h
    | true=>
     simp only [yJ];rw [u rfl];exact h
   | call f args=>
    have D:aJr E g (yJ E fn g) fr=jU E fn g (aX fr):=by rfl
    simp only [bS,J8 (mR 5),D] at h;cases dr with
    | false=>exact h
    | true=>
     dsimp only at h;cases s:blD E d with
     | true=>rw [s] at h;exact h.elim
     | false=>
            rw [s] at h;dsimp only at h;rw [rJ] at h;simp only [yJ];rw [s];exact h
   | pan v=>
    simp only [bS,mR] at h;obtain ⟨z,u⟩:=H h;have h3:jU E fn g (aX fr) v ac:=by
     unfold jU;cases F:E.rd with
     | some l=>rw [F] at z;omega
     | none=>
     rw [F] at z;dsimp only at z⊢;cases A:E.df with
     | nil=>rw [A] at z;dsimp only at z⊢;rw [JF] at z;exact z
     | cons d W=>rw [A] at z;exact z
    cases dr with
    | false=>exact h3
    | true=>
     simp only [yJ];rw [u rfl];exact h3
end
def nC (P:Program) (f:FuncId):Prop:=∀ (args:Array Value) (w:World),(callFunc f args).run P w= .ok (.enter f args) w
def C9:∀ (l:List aa) (n t:Nat),aX (frA n l) t=if n<=t then (l[t-n]?).getD .undef else .undef
 | [],n,t=>by simp [frA,aX]
 | a::l,n,t=>by
  simp only [frA,aX];cases h:Aw n t with
  | true=>simp_all
  | false=>
   have c:n≠t:=λ e=>by simp_all
   simp only [cond_false];rw [C9 l (n+1) t];by_cases b:n+1<=t
   .rw [if_pos b,if_pos o_];have:t-n=(t-(n+1))+1:=o_;simp_all
   grind
def OH {P:Program} {f:FuncId} {fn:Func} {c:Code} {args:Array Value} {w:World} {R:Ending->World->Prop} (t:P.funcs[f]? =some fn) (u:fn.body=some c)
  {Q:Exit->Act->World->Prop} (v:∀ e a w,Q e a w->(match e with | .normal | .ret=>eZ P fn a.tmps R a.defers .returning w | .panic ch=>eZ P fn a.tmps R a.defers (.panicking ch) w | _=>False)) (h:KW none P Q [.code c] {tmps:=args++Fz (fn.ntmps-args.size) undef,defers:=[]} w):Calls P f args w R:=by
 intro cs
 let b:Frame:={(default:Frame) with fn:=f,kind:=.normal}
 have m:Frame.enter P f args .normal=b.at {tmps:=args++Fz (fn.ntmps-args.size) undef,defers:=[]} [.code c]:=by simp [Frame.enter,Frame.at,t,u,b]
 obtain ⟨e,o,w',r,d⟩:=h.arrives b cs rfl;have r:=v _ _ _ r;rw [show gL [.code c]=[.code c] from rfl,<-m] at d;cases e with
 | normal=>
  obtain ⟨s,j,i,q,hs,g,p,hl⟩:=fH o.defers .returning w' {b.at o [] with mode:=.returning} cs rfl rfl rfl t r;exact ⟨s,j,i,q,Comes.of_steps (Steps.trans d (.one step_end)) hs,g,mX hl p⟩
 | ret=>
  obtain ⟨k,n⟩:=d;obtain ⟨s,j,i,q,hs,g,p,hl⟩:=fH o.defers .returning w' {b.at o k with mode:=.returning} cs rfl rfl rfl t r;exact ⟨s,j,i,q,Comes.of_steps n hs,g,mX hl p⟩
 | panic eQ=>
  obtain ⟨k,n⟩:=d;obtain ⟨s,j,i,q,hs,g,p,hl⟩:=fH o.defers (.panicking eQ) w' {b.at o k with mode:=.panicking eQ} cs rfl rfl rfl t r;exact ⟨s,j,i,q,Comes.of_steps n hs,g,mX hl p⟩
 | exit id=>simp_all
 | goto l=>simp_all
 | outgrown=>simp_all
def okA:aa->Prop
 | .int k n=>inR k n
 | .str l=>(l.length:Int)<=9223372036854775807
 | .slice _ xs _=>(xs.length:Int)<=9223372036854775807
 | _=>True
def Rep.okA {M:Imm} {ob:Hs} {v:Value} {a:aa} (h:Rep M ob v a):okA a:=by
 cases a with
 | int k n=>exact h.int_inv.2
 | str l=>exact h.str_inv.2
 | slice sz xs t=>obtain ⟨_,_,_,_,_,h⟩:=h.slice_inv;exact h
 | _=>exact trivial
def okL:List aa->Prop
 | []=>True
 | a::r=>okA a/\okL r
def cA.okL {M:Imm} {ob:Hs}:∀ {vs:List Value} {as:List aa},cA M ob vs as->okL as
 | _,[],_=>trivial
 | [],a::r,h=>by have:=h.1;simp at this
 | v::vs,a::r,h=>⟨(h.2 0 v a rfl rfl).okA,cA.okL (vs:=vs) ⟨by simpa using h.1,λ i u b c d=>h.2 (i+1) u b (by simp_all) (by simp_all)⟩⟩
def tC:List ab->Bool
 | []=>true
 | o::r=>o.owns&&Aw (eS o) 0&&tC r
def sZ:∀ {l:List ab},tC l=true->∀ (k:Nat) o,l[k]? =some o->o.owns=true/\eS o=0
 | [],_,k,o,h=>by simp at h
 | x::r,hb,k,o,h=>by
  simp only [tC,Ad] at hb;cases k with
  | zero=>simp_all
  | succ k=>exact sZ hb.2 k o (by simp_all)
def aA.of {E:Env} {f:FuncId} {fn:Func} {args:List aa} {ac:List ab} {g:Goal} (m:E.df=[]) (y:E.P.funcs[f]? =some fn) (u:fn.body=some (dG fn)) (o:nC E.P f)
  (j:dC fn.ntmps (dG fn)=true) (s:Fw args.length fn.ntmps=true) (n:tC ac=true) (z:ac.length=g.n0) (h:okL args->yJ E fn g (.code [.code (dG fn)] (frA 0 args) ac)) (c:E.rd=none:=by rfl):aA E.P f args ac g.res g.obs:=by
 intro M ob w b hm l;refine .inl ⟨o _ _,OH (Q:=pI E fn M ob ac w g) y u (λ e a w h=>?_) ?_⟩
 .cases e<;>(try unfold pI EF at h)<;>(try rw [c] at h)<;>exact h
 have r:b.length=args.length:=l.1;have v:=Ck s;have hst:pQ g ob:=by
  refine ⟨by rw [hm.len,z],λ_ hs i=>?_⟩;obtain ⟨k,x⟩:=Ct i;have d:k<ac.length:=by rw [<-hm.len];grind
  obtain ⟨h1,A⟩:=sZ n k _ (Aa d);have e:=gB (Aa d);have:=hm.histLen (by grind) x
  grind
 rw [<-c];refine h l.okL (by simp [bC,KI.ok,j]) M ob ac w {tmps:=b.toArray++Fz (fn.ntmps-b.toArray.size) undef,defers:=[]} w hst ⟨M,ob,Ext.refl _ _ _ _,hm,λ t=>?_,?_,by rw [m];exact cS.nil,by rw [hm.len];omega⟩
 .rw [C9];simp only [Bv,if_true,Jo];by_cases p:t<args.length
  .rw [Aa p];have q:t<b.length:=o_;have:(b.toArray++Fz (fn.ntmps-b.toArray.size) undef).getD t undef=b[t]:=by rw [Bj,Gx o_];simp [q]
   rw [this];exact l.2 t _ _ (Aa q) (Aa p)
  .rw [Bk o_];exact .undef _
 simp_all
def qE (m i:Nat):cP m i=m.testBit i:=by
 unfold cP Nat.testBit;have h1:Nat.land (Nat.shiftRight m i) 1=(m >>> i) % 2:=Nat.and_one_is_mod _;have a:(1 &&& (m >>> i))=(m >>> i) % 2:=by simp
 rw [h1,a];rcases Nat.mod_two_eq_zero_or_one (m >>> i) with h | h<;>rw [h]<;>rfl
def HH {tab:List Nat} {i:Nat}:∀ {l:List Nat},cP (iR tab l) i=true↔ ∃ e∈l,e=i\/cP (cV tab e) i=true
 | []=>by rw [qE];simp [iR]
 | x::r=>by
  have b:=HH (tab:=tab) (i:=i) (l:=r);rw [qE] at b⊢;have e:iR tab (x::r)=(1 <<< x ||| cV tab x) ||| iR tab r:=rfl
  rw [e,Nat.testBit_or,Nat.testBit_or,Nat.one_shiftLeft,La,Fc,Fc,b,decide_eq_true_eq];constructor
  .rintro ((h | h) | ⟨e,h1,a⟩)
   .simp_all
   .exact ⟨x,by simp,.inr (by rw [qE];exact h)⟩
   .exact ⟨e,by simp [h1],a⟩
  .rintro ⟨e,h1,a⟩;rcases Bb.1 h1 with rfl | h1
   .rcases a with a | a
    .omega
    .rw [qE] at a;grind
   .exact .inr ⟨e,h1,a⟩
def DC {a b:List Nat} {j:Nat} (h:j<a.length):cV (a++b) j=cV a j:=by
 induction a generalizing j with
 | nil=>simp at h
 | cons x r c=>
  cases j with
  | zero=>rfl
  | succ j=>exact c (by grind)
def aCs {a:List Nat} {m:Nat}:cV (a++[m]) a.length=m:=by
 induction a with
 | nil=>rfl
 | cons x r b=>exact b
def aCr {a:List Nat} {j:Nat} (h:a.length<=j):cV a j=0:=by
 induction a generalizing j with
 | nil=>rfl
 | cons x r b=>
  cases j with
  | zero=>simp at h
  | succ j=>exact b (by grind)
def yH:∀ (l:List Oper) (tab:List Nat),∃ t,iN tab l=tab++t/\t.length=l.length
 | [],tab=>⟨[],by simp [iN],rfl⟩
 | p::r,tab=>by obtain ⟨t,h1,a⟩:=yH r (tab++[iR tab (gX p)]);exact ⟨iR tab (gX p)::t,by simp [iN,h1],by simp [a]⟩
def zJ {a b:List Nat}:∀ {l:List Nat},(∀ e∈l,cV a e=cV b e)->iR a l=iR b l
 | [],_=>rfl
 | x::r,h=>by
  have:=zJ (l:=r) λ e c=>h e (by simp [c]);show Nj (Nj _ (cV a x)) (iR a r)=Nj (Nj _ (cV b x)) (iR b r)
  grind
def OQ:∀ (l:List Oper) (tab:List Nat),JL tab.length l=true->∀ (i:Nat) p,l[i]? =some p->cV (iN tab l) (tab.length+i)=iR (iN tab l) (gX p)/\∀ e∈gX p,e<tab.length+i
 | [],_,_,i,p,h=>by simp at h
 | q::r,tab,hb,i,p,h=>by
  simp only [JL,Ad] at hb;have a:∀ e∈gX q,e<tab.length:=λ e b=>by simp_all
  cases i with
  | zero=>
   simp at h;subst h;refine ⟨?_,λ e b=>by grind⟩;obtain ⟨t,h1,_⟩:=yH r (tab++[iR tab (gX q)]);have c:iN tab (q::r)=(tab++[iR tab (gX q)])++t:=h1;rw [Fl,c,DC s_,aCs];refine zJ λ e b=>?_;have:=a e b;rw [DC q_,DC this]
  | succ i=>
   have:=OQ r (tab++[iR tab (gX q)]) (by simp_all) i p (by simp_all);simp only [Ai,Mv] at this;rw [show tab.length+(i+1)=tab.length+1+i from by omega];exact this
def MC {p:Oper} {i:Nat}:i∈gX p↔ ∃ e∈p.after,Jp .any e=true/\e.on=i:=by
 unfold gX
 grind
def DV {tab:List Nat} {i d:Nat}:∀ {l:List Oper} {n:Nat},NZ tab i d n l=true->∀ (j:Nat) q,l[j]? =some q->loose tab i (n+j)=true->q.dst≠some d
 | [],_,_,j,q,h,_=>by simp at h
 | x::r,n,hb,j,q,h,hl=>by
  simp only [NZ,Ad] at hb;cases j with
  | zero=>
   simp at h;subst h;intro e;simp_all
  | succ j=>exact DV hb.2 j q (by simp_all) (by grind)
def G1 {tab:List Nat} {all:List Oper}:∀ {l:List Oper} {n:Nat},aG8 tab all n l=true->∀ (i:Nat) p d,l[i]? =some p->p.dst=some d->NZ tab (n+i) d 0 all=true
 | [],_,_,i,p,d,h,_=>by simp at h
 | x::r,n,hb,i,p,d,h,hd=>by
  simp only [aG8,Ad] at hb;cases i with
  | zero=>
   grind
  | succ i=>
   have:=G1 hb.2 i p d (by simp_all) hd
   grind
def BT (ops:Array Oper) (h:LJ ops=true):TabSp ops (iN [] ops.toList):=by
 simp only [LJ,Ad] at h;obtain ⟨h1,s⟩:=h;have get:∀ (j:Nat) p,ops[j]? =some p->cV (iN [] ops.toList) j=iR (iN [] ops.toList) (gX p)/\∀ e∈gX p,e<j:=λ j p hp=>by have:=OQ ops.toList [] h1 j p (by grind);simp_all
 have r:(iN [] ops.toList).length=ops.size:=by obtain ⟨t,B,C⟩:=yH ops.toList [];rw [B];simp;omega
 have c:∀ j i,cP (cV (iN [] ops.toList) j) i=true->j<ops.size:=λ j i g=>by refine Nat.lt_of_not_le λ u=>?_;rw [aCr o_,qE] at g;simp at g
 have a:∀ (j:Nat) p,ops[j]? =some p->∀ e∈p.after,Jp .any e=true->e.on<j:=λ j p hp e f k=>(get j p hp).2 _ (MC.2 ⟨e,f,k,rfl⟩);have b:∀ (j:Nat) p,ops[j]? =some p->∀ i,cP (cV (iN [] ops.toList) j) i=true->∃ e∈p.after,Jp .any e=true/\(e.on=i\/cP (cV (iN [] ops.toList) e.on) i=true):=λ j p hp i o=>by rw [(get j p hp).1] at o;obtain ⟨e,f,l⟩:=HH.1 o;obtain ⟨w,A,y,x⟩:=MC.1 f;subst x;exact ⟨w,A,y,l⟩
 have d:∀ i j,cP (cV (iN [] ops.toList) i) j=true->j<i:=by
  intro i;induction i using Hy with
  | ind i z=>
   intro j g;have m:=c i j g;have hp:ops[i]? =some ops[i]:=Ha m;obtain ⟨e,f,k,h | h⟩:=b i _ hp j g
   .have:=a i _ hp e f k;omega
   .have h1:=a i _ hp e f k;have:=z e.on h1 j h;omega
 exact ⟨a,d,b,c,λ i j p q hp D hl t v=>by
  have:=G1 (n:=0) s i p t q_ v;rw [Bo] at this
  exact DV this j q q_ q_⟩
inductive To (E:Env) (fn:Func) (g:Goal) (st:St):Prop
 | mk (h:yJ E fn g st)
def aMw (E:Env) (fn:Func) (g:Goal):To E fn g=yJ E fn g:=funext λ st=>propext ⟨λ⟨h⟩=>h,.mk⟩
def cO {E:Env} {fn:Func} {g:Goal} (hE:ae E) (a:Nat) {st:St} (h:bS E fn g (To E fn g) a st):To E fn g st:=by rw [aMw] at h⊢;exact go hE BT a st h
def aA.to {E:Env} {f:FuncId} {fn:Func} {args:List aa} {ac:List ab} {g:Goal} (b:E.df=[]) (m:E.P.funcs[f]? =some fn) (l:fn.body=some (dG fn)) (d:nC E.P f)
  (e:dC fn.ntmps (dG fn)=true) (j:Fw args.length fn.ntmps=true) (a:tC ac=true) (k:ac.length=g.n0) (h:okL args->To E fn g (.code [.code (dG fn)] (frA 0 args) ac)) (c:E.rd=none:=by rfl):aA E.P f args ac g.res g.obs:=
 aA.of b m l d e j a k (λ i=>(h i).rec λ h=>h) c
def zvL (f:Value->aa):List Value->List aa
 | []=>[]
 | v::r=>f v::zvL f r
def zv:Nat->Value->aa
 | n+1,.agg vs=>.agg (zvL (zv n) vs.toList)
 | _,v=>aHp v
def SC {M:Imm} {ob:Hs} {f:Value->aa} (e:∀ v,Rep M ob v (f v)):∀ (l:List Value),l.length=(zvL f l).length/\∀ (i:Nat) v a,l[i]? =some v->(zvL f l)[i]? =some a->Rep M ob v a
 | []=>⟨rfl,λ i v a h=>by simp at h⟩
 | x::l=>by
  obtain ⟨h1,d⟩:=SC e l;refine ⟨by simp [zvL,h1],λ i v a b c=>?_⟩;cases i with
  | zero=>simp [zvL] at b c;grind
  | succ i=>exact d i v a (by simpa using b) (by simpa [zvL] using c)
def aIq {M:Imm} {ob:Hs}:∀ (n:Nat) (v:Value),Rep M ob v (zv n v):=by
 intro n;induction n with
 | zero=>intro v;exact rA v
 | succ n a=>
  intro v;cases v with
  | agg vs=>
   obtain ⟨h1,b⟩:=SC (M:=M) (ob:=ob) a vs.toList;have:=Rep.agg vs.toList _ h1 b;simpa [zv] using this
  | _=>exact rA _
def OF (P:Program):Nat->Nat->List (Option Nat)
 | 0,_=>[]
 | n+1,t=>match P.underlying t with
  | some (.struct fs)=>fs.toList.flatMap λ f=>OF P n f.type
  | some (.array len e)=>(Aj len (OF P n e)).flatten
  | some (.slice e)=>[some (((P.info? e).map (·.size)).getD 0)]
  | _=>[none]
def aEo:Option Nat->aa->aa
 | some sz,.nilslice=>.slice sz [] .nil
 | _,v=>v
def tyZ:List (Option Nat)->List aa->List aa
 | k::ks,c::cs=>aEo k c::tyZ ks cs
 | _,cs=>cs
def zT (P:Program) (t:Nat) (z:Value):aa:=match zv 4 z with
 | .agg cs=>.agg (tyZ (OF P 6 t) cs)
 | v=>aEo (match OF P 6 t with | k::_=>k | []=>none) v
def KN {M:Imm} {ob:Hs} {k:Option Nat} {v:Value} {a:aa} (h:Rep M ob v a):Rep M ob v (aEo k a):=by
 unfold aEo;split
 .cases h;exact .slnil _ _ rfl
 .exact h
def SQ {M:Imm} {ob:Hs}:∀ {ks:List (Option Nat)} {cs:List aa} {vs:List Value},cA M ob vs cs->cA M ob vs (tyZ ks cs)
 | [],cs,vs,h=>by cases cs<;>exact h
 | k::ks,[],vs,h=>h
 | k::ks,c::cs,[],h=>by have:=h.1;simp at this
 | k::ks,c::cs,v::vs,h=>cA.cons (KN (h.2 0 v c rfl rfl)) (SQ ⟨by simpa using h.1,λ i u b a d=>h.2 (i+1) u b (by simp_all) (by simp_all)⟩)
def aIr {M:Imm} {ob:Hs} {P:Program} {t:Nat} {z:Value}:Rep M ob z (zT P t z):=by
 have h:=aIq (M:=M) (ob:=ob) 4 z;unfold zT;split
 .rename_i cs a;rw [a] at h;obtain ⟨vs,rfl,h1,c⟩:=h.agg_inv;obtain ⟨d,b⟩:=SQ (ks:=OF P 6 t) ⟨h1,c⟩;exact .agg vs _ d b
 .exact KN h
def qI (P:Program) (t:Nat):Nat:=((P.info? t).map (·.size)).getD 0
def mkF (P:Program) (f:Field):Nat×Nat×Bool:=(f.offset,qI P f.type,aP P f.type)
def aJD (P:Program):List Field->List (Nat×Nat×Bool)
 | []=>[]
 | f::r=>mkF P f::aJD P r
def I3 (P:Program) (t:Nat):Bool:=(P.info? t).isSome&&(P.underlying t).isSome
def fsB (P:Program):List Field->Bool
 | []=>true
 | f::r=>I3 P f.type&&fsB P r
def IU (P:Program) (t:Nat):TK:=match P.underlying t with
 | some (.int k)=>.int k
 | some .bool=>.bool
 | some .string=>.str
 | some (.struct fs)=>.strct (aJD P fs.toList)
 | some (.array n e)=>.arr n (qI P e) (aP P e)
 | some (.slice e)=>.slc e (qI P e) (((P.info? e).map (·.bytes)).getD 0)
 | some (.pointer e)=>.ptr e
 | some (.interface _)=>.iface
 | some (.map k e)=>.mp k e
 | _=>.other
def aFW (P:Program) (t:Nat):TI:=match P.info? t with
 | some i=>⟨IU P t,i.size,aP P t,match i.zero with | some z=>zT P t z | none=>.undef⟩
 | none=>⟨.other,0,false,.undef⟩
def SE (P:Program) (t:Nat):Bool:=match P.info? t with
 | some i=>(match i.zero with
  | some z=>Aw z.cells.size i.size&&(z.cells.toList.all (·.oneCell')&&CI (zT P t z))
  | none=>false)
 | none=>false
def aL9 (P:Program) (e:Nat):Bool:=SE P e
def okB (P:Program) (t:Nat):Bool:=SE P t&&match P.underlying t with
 | some (.int _) | some .bool | some .string | some (.pointer _) | some (.interface _) | some (.map _ _)=>Aw (qI P t) 1
 | some (.struct fs)=>fsB P fs.toList
 | some (.array _ e)=>I3 P e
 | some (.slice e)=>Aw (qI P t) 1&&aL9 P e
 | some _=>true
 | none=>false
def T8 (P:Program):∀ (l:List Field),fsB P l=true->oH P l (aJD P l)
 | [],_=>trivial
 | f::r,h=>by simp only [fsB,Ad,I3] at h;obtain ⟨⟨h1,a⟩,h3⟩:=h;obtain ⟨i,b⟩:=Da.1 h1;exact ⟨rfl,by simp [qI,b],a,rfl,T8 P r h3⟩
def A7 {P:Program} {t:Nat} (h:SE P t=true):∃ i z,P.info? t=some i/\i.zero=some z/\z.cells.size=i.size/\z.cells.toList.all (·.oneCell')=true/\zT P t z≠ .undef:=by
 unfold SE at h;split at h
 .rename_i i b;split at h
  .rename_i z hz;simp only [Ad] at h;obtain ⟨h1,a,h3⟩:=h;exact ⟨i,z,b,hz,aB h1,a,AP h3⟩
  .cases h
 .cases h
def aFV {P:Program} {t:Nat} (h:okB P t=true):TIOK P t (aFW P t):=by
 simp only [okB,Ad] at h;obtain ⟨s,h1⟩:=h;obtain ⟨i,z,m,hz,hs,f,l⟩:=A7 s;have hm:aFW P t=⟨IU P t,i.size,aP P t,zT P t z⟩:=by simp [aFW,m,hz]
 have hst:qI P t=i.size:=by simp [qI,m]
 rw [hm];refine ⟨⟨i,z,m,rfl,hz,hs,aIr,f,l⟩,?_⟩;show tY P t (aP P t) i.size (IU P t);unfold IU;have b:∀ d,P.underlying t=some d->aP P t=match d with | .struct _ | .array _ _=>true | _=>false:=λ d q=>by unfold aP;rw [q];cases d<;>rfl
 split at h1
 .rename_i k a;rw [a];exact ⟨a,b _ a,by rw [<-hst];exact aB h1⟩
 .rename_i a;rw [a];exact ⟨a,b _ a,by rw [<-hst];exact aB h1⟩
 .rename_i a;rw [a];exact ⟨a,b _ a,by rw [<-hst];exact aB h1⟩
 .rename_i e a;rw [a];exact ⟨a,b _ a,by rw [<-hst];exact aB h1⟩
 .rename_i p a;rw [a];exact ⟨⟨p,a⟩,b _ a,by rw [<-hst];exact aB h1⟩
 .rename_i mk D a;rw [a];exact ⟨a,b _ a,by rw [<-hst];exact aB h1⟩
 .rename_i r a;rw [a];exact ⟨⟨r,a,T8 P _ h1⟩,b _ a⟩
 .rename_i n e a;rw [a];simp only [I3,Ad] at h1;obtain ⟨j,c⟩:=Da.1 h1.1;exact ⟨⟨e,a,by simp [qI,c],h1.2,rfl⟩,b _ a⟩
 .rename_i e a;rw [a];simp only [Ad] at h1;obtain ⟨j,y,c,u,o,g,_⟩:=A7 h1.2;exact ⟨⟨a,j,y,c,by simp [qI,c],by simp [c],u,by simp [qI,c,o],g⟩,b _ a,by rw [<-hst];exact aB h1.1⟩
 .rename_i d v H B A I F G C w a;rw [a];have q:∀ (α:Type) (x y:α),True:=λ_ _ _=>trivial
  cases d<;>first
   | exact ⟨⟨_,a,λ p e=>by cases e⟩,rfl⟩
   | grind
 .cases h1
def T7 (P:Program):List Nat->Tab
 | []=>[]
 | t::r=>(t,aFW P t)::T7 P r
def aEx (P:Program):List Nat->Bool
 | []=>true
 | t::r=>okB P t&&aEx P r
def aB3:Tab->List Nat
 | []=>[]
 | (t,_)::r=>t::aB3 r
def MO {P:Program}:∀ {l:List Nat},aEx P l=true->∀ t a,cU (T7 P l) t=some a->TIOK P t a
 | [],_,t,a,h=>by cases h
 | x::r,hb,t,a,h=>by
  simp only [aEx,Ad] at hb;simp only [T7,cU] at h;cases b:Aw x t with
  | true=>
   rw [b] at h;cases h;rw [<-aB b];exact aFV hb.1
  | false=>rw [b] at h;exact MO hb.2 t a h
def O6 {P:Program} {T:Tab} (h1:T7 P (aB3 T)=T) (b:aEx P (aB3 T)=true):∀ t a,cU T t=some a->TIOK P t a:=by intro t a h;rw [<-h1] at h;exact MO b t a h
def pC (fr:List (Nat×aa)) (t:Nat):∀ (keep:List Nat),aX (mE keep fr) t=aX fr t\/aX (mE keep fr) t= .undef
 | []=>.inr rfl
 | k::r=>by
  simp only [mE,aX];cases h:Aw k t with
  | true=>simp_all
  | false=>exact pC fr t r
def SS.weak {M0:Imm} {ob0:Hs} {aq:List ab} {w0:World} {sz:Nat} {dfs:List (Nat×List aa)} {fr b:List (Nat×aa)} {ac:List ab} {a:Act} {w:World} (c:∀ t,aX b t=aX fr t\/aX b t= .undef) (h:SS M0 ob0 aq w0 sz dfs fr ac a w):
  SS M0 ob0 aq w0 sz dfs b ac a w:=by
 obtain ⟨M,ob,d,hm,f,r⟩:=h;refine ⟨M,ob,d,hm,λ t=>?_,r⟩;rcases c t with e | e
 .simp_all
 .rw [e];exact .undef _
def cY.weak {E:Env} {fn:Func} {g:Goal} {ks:List KI} {fr b:List (Nat×aa)} {ac:List ab} (d:∀ t,aX b t=aX fr t\/aX b t= .undef) (h:cY E fn g ks b ac):cY E fn g ks fr ac:=
 λ c M0 ob0 aq w0 a w hst hs=>h c M0 ob0 aq w0 a w hst (hs.weak d)
def cY.keep {E:Env} {fn:Func} {g:Goal} {ks:List KI} {fr:List (Nat×aa)} {ac:List ab} (l:List Nat) (h:cY E fn g ks (mE l fr) ac):cY E fn g ks fr ac:=h.weak λ t=>pC fr t l
def To.head {E:Env} {fn:Func} {g:Goal} {ks:List KI} {fr:List (Nat×aa)} {ac:List ab} (l:List Nat) (h:To E fn g (.head ks (mE l fr) ac)):To E fn g (.head ks fr ac):=h.rec λ h=>.mk (cY.keep l h)
abbrev C3:=IntKind×Int×Int
def vA (cs:List C3):List Value:=cs.map λ c=>.int c.1 c.2.1
def vB (cs:List C3):List Value:=cs.map λ c=>.int c.1 c.2.2
def pH:List C3->Bool
 | []=>true
 | c::r=>(c.2.1==c.2.2)&&pH r
def zK (a b:List C3):pH (a++b)=(pH a&&pH b):=by
 induction a with
 | nil=>simp [pH]
 | cons c r d=>simp [pH,d,Ij]
def mF (P:Program) (t:TypeId) (l:List Value):Value:=if aP P t then .agg l.toArray else l.headD undef
def wU (P:Program) (a:TypeId->Bool):Nat->List Field->Nat->Bool
 | off,[],total=>Aw off total
 | off,f::fs,total=>((f.name != "_")&&Aw f.offset off)&&((a f.type&&(P.info? f.type).isSome)&&wU P a (off+P.cellsOf f.type) fs total)
def fL (P:Program):Nat->TypeId->Bool
 | 0,_=>false
 | m+1,t=>match P.underlying t with
  | some (.int _)=>Aw (P.cellsOf t) 1
  | some (.array n e)=>(fL P m e&&(P.info? e).isSome)&&Aw (P.cellsOf t) (n*P.cellsOf e)
  | some (.struct fs)=>!P.stoodInHeld t&&wU P (fL P m) 0 fs.toList (P.cellsOf t)
  | _=>false
def EqI (P:Program) (d:Nat) (t:TypeId):Prop:=∀ (w:World) (cs:List C3),cs.length=P.cellsOf t->(Op.equalIn d t (mF P t (vA cs)) (mF P t (vB cs))).run P w= .ok (pH cs) w
section
variable {P:Program} (w:World)
def pD {m:Nat} {t:TypeId} (h:fL P m t=true):(P.underlying t).isSome=true/\(aP P t=false->P.cellsOf t=1):=by
 cases m with
 | zero=>cases h
 | succ m=>
  unfold fL at h;unfold aP;split at h
  .simp_all
  .grind
  .grind
  .cases h
def jE {e:TypeId} (j:(P.underlying e).isSome=true) (h:(P.info? e).isSome=true) (h1:aP P e=false->P.cellsOf e=1) (l:List Value) (off:Nat) (d:off+P.cellsOf e<=l.length):
  (part e l.toArray off).run P w= .ok (mF P e ((l.drop off).take (P.cellsOf e))) w:=by
 unfold part;simp only [Bg,wW j,Aq];unfold mF;obtain ⟨i,b⟩:=Da.1 h;have c:(P.info? e).map (·.size)=some (P.cellsOf e):=by simp [Program.cellsOf,b]
 cases f:aP P e with
 | true=>
  simp only [if_true,Bg,AW.af c,Aq,Bw];simp
 | false=>
  have g:=h1 f;have a:off<l.length:=o_;simp only [Cp,if_false];simp only [Jt,Aa a,Bw];rw [g];congr 1;rw [Ae a];rfl
def HS (cs:List C3):(vA cs).length=cs.length:=by simp [vA]
def aIu (cs:List C3):(vB cs).length=cs.length:=by simp [vB]
def O0 (cs:List C3) (o n:Nat):((vA cs).drop o).take n=vA ((cs.drop o).take n):=by simp [vA,Ix,Gh]
def aIv (cs:List C3) (o n:Nat):((vB cs).drop o).take n=vB ((cs.drop o).take n):=by simp [vB,Ix,Gh]
def K9 {d m:Nat} {e:TypeId} (i:fL P m e=true) (f:(P.info? e).isSome=true) (h:EqI P d e) (cs:List C3) (off:Nat) (c:off+P.cellsOf e<=cs.length):
  ∃ a b,(part e (vA cs).toArray off).run P w= .ok a w/\(part e (vB cs).toArray off).run P w= .ok b w/\(Op.equalIn d e a b).run P w= .ok (pH ((cs.drop off).take (P.cellsOf e))) w:=by
 obtain ⟨g,h1⟩:=pD i;refine ⟨_,_,jE w g f h1 _ _ (by rw [HS];exact c),jE w g f h1 _ _ (by rw [aIu];exact c),?_⟩;rw [O0,aIv];exact h w _ q_
def take_add (cs:List C3) (o a b:Nat):(cs.drop o).take (a+b)=(cs.drop o).take a++(cs.drop (o+a)).take b:=by rw [List.take_add,Hk]
def W3 {d m:Nat} {e:TypeId} (o:fL P m e=true) (p:(P.info? e).isSome=true) (q:EqI P d e) (cs:List C3):∀ (n k:Nat),(k+n)*P.cellsOf e<=cs.length->
  (Op.eqItems d e (P.cellsOf e) (vA cs).toArray (vB cs).toArray (Il k n)).run P w= .ok (pH ((cs.drop (k*P.cellsOf e)).take (n*P.cellsOf e))) w:=by
 intro n;induction n with
 | zero=>intro k _;simp [Op.eqItems,pH]
 | succ n s=>
  intro k l;have h:(k+1)*P.cellsOf e<=(k+(n+1))*P.cellsOf e:=Bu _ o_;have c:(k+1)*P.cellsOf e=k*P.cellsOf e+P.cellsOf e:=by grind
  obtain ⟨a,b,r,j,i⟩:=K9 w o p q cs (k*P.cellsOf e) o_;have f:=s (k+1) (by rw [show k+1+n=k+(n+1) from by omega];exact l);have g:(n+1)*P.cellsOf e=P.cellsOf e+n*P.cellsOf e:=by rw [Bx,Gt,Md]
  rw [g,take_add,zK,<-c];simp only [Lz,Op.eqItems,Bg,r,j,i,Aq];cases pH ((cs.drop (k*P.cellsOf e)).take (P.cellsOf e)) with
  | true=>simp;omega
  | false=>simp
def PF {d m:Nat} (r:∀ t,fL P m t=true->EqI P d t) (cs:List C3):∀ (c:List Field) (off:Nat),wU P (fL P m) off c cs.length=true->
  (Op.eqFields d (vA cs).toArray (vB cs).toArray c).run P w= .ok (pH (cs.drop off)) w/\off<=cs.length:=by
 intro c;induction c with
 | nil=>
  intro off h;have:=aB h;subst this;exact ⟨by simp [Op.eqFields,pH],Bc _⟩
 | cons f c u=>
  intro off h;simp only [wU,Ad] at h;obtain ⟨⟨h1,j⟩,⟨h3,k⟩,p⟩:=h;obtain ⟨o,i⟩:=u _ p;have e:=aB j;obtain ⟨a,b,s,n,l⟩:=K9 w h3 k (r _ h3) cs f.offset o_;refine ⟨?_,by omega⟩;have q:cs.drop off=(cs.drop off).take (P.cellsOf f.type)++cs.drop (off+P.cellsOf f.type):=by rw [<-Hk,Bq]
  rw [q,zK];have g:f.name≠ "_" :=by simpa using h1
  simp only [Op.eqFields,g,ne_eq,not_false_eq_true,if_true,Bg,s,n,l,Aq];rw [e] at *
  cases pH ((cs.drop off).take (P.cellsOf f.type)) with
  | true=>simp;omega
  | false=>simp
end
def QT {P:Program} (d:Nat):∀ (m:Nat) (t:TypeId),fL P m t=true->EqI P (d+m) t
 | 0,_,h=>by cases h
 | m+1,t,h=>by
  intro w cs f;have p:∀ t,fL P m t=true->EqI P (d+m) t:=λ t h=>QT d m t h;unfold fL at h;split at h
  .rename_i k g;have c:aP P t=false:=by unfold aP;rw [g]
   have h1:=aB h;rw [h1] at f
   match cs,f with
   | [(k',a,b)],_=>
    simp only [mF,c,vA,vB,Bl,List.map_nil,List.headD_cons,Cp,if_false,pH,Hz];exact run_equalIn_int w (d+m) t k' k a b g
  .rename_i n e g;simp only [Ad] at h;obtain ⟨⟨h1,j⟩,h3⟩:=h;have c:aP P t=true:=by unfold aP;rw [g]
   obtain ⟨i,q⟩:=Da.1 j;have r:=aB h3;simp only [mF,c,if_true];rw [show d+(m+1)=(d+m)+1 from rfl,run_equalIn_array w (d+m) _ _ g q,Im,W3 w h1 j (p e h1) cs n 0 (by grind)]
   grind
  .rename_i o g;simp only [Ad,Cx] at h;obtain ⟨h1,j⟩:=h;have c:aP P t=true:=by unfold aP;rw [g]
   have l:P.fieldsOf t=o:=by simp [Program.fieldsOf,g]
   simp only [mF,c,if_true];rw [<-f] at j;rw [show d+(m+1)=(d+m)+1 from rfl,run_equalIn_struct w (d+m) t _ _ (by grind) h1,l];simpa using (PF w p cs o.toList 0 j).1
  .cases h
def aDG:∀ {xs ys:List aa} {c:Bool} {vs us:List Value},ceq xs ys=some c->cA (λ_ _ _=>False) [] vs xs->cA (λ_ _ _=>False) [] us ys->∃ cs:List C3,vs=vA cs/\us=vB cs/\c=pH cs
 | [],[],c,vs,us,h,h1,h2=>by
  cases h;have f:vs=[]:=by simpa using h1.1
  have e:us=[]:=by simpa using h2.1
  exact ⟨[],by simp [vA,f],by simp [vB,e],rfl⟩
 | x::xs,y::ys,c,vs,us,h,h1,h2=>by
  cases x<;>first | (simp [ceq] at h;done) | skip
  cases y<;>first | (simp [ceq] at h;done) | skip
  rename_i k a p b;simp only [ceq] at h;obtain ⟨l,h3⟩:=eP h;have:=vS l;subst this;cases g:ceq xs ys with
  | none=>grind
  | some o=>
   rw [g] at h3;cases h3
   match vs,us,h1,h2 with
   | v::vs,u::us,h1,h2=>
    have d:=(h1.2 0 v _ rfl rfl).int_inv.1;have m:=(h2.2 0 u _ rfl rfl).int_inv.1;subst d m;obtain ⟨cs,f,e,j⟩:=aDG (vs:=vs) (us:=us) g ⟨by simpa using h1.1,λ i v a d n=>h1.2 (i+1) v a (by grind) (by grind)⟩ ⟨by simpa using h2.1,λ i v a d n=>h2.2 (i+1) v a (by grind) (by grind)⟩;exact ⟨(k,a,b)::cs,by simp [vA,f],by simp [vB,e],by simp [pH,j]⟩
 | [],_::_,c,vs,us,h,_,_=>by cases h
 | x::_,[],c,vs,us,h,_,_=>by cases x<;>cases h
def PG {P:Program} (w:World) {k:Bool} {d m:Nat} (q:∀ (e:TypeId),fL P m e=true->∀ (w:World) (cs:List C3),cs.length=P.cellsOf e->(Ht k d e (mF P e (vA cs))).run P w= .ok () w) (cs:List C3) {e:TypeId} (l:fL P m e=true) (b:(P.info? e).isSome=true):
  ∀ (a:List Nat),(∀ i∈a,(i+1)*P.cellsOf e<=cs.length)->
  (forIn (m:=Sem) a PUnit.unit λ i _=>(do Ht k d e (<-part e (vA cs).toArray (i*(<-sizeOf e)));Pure.pure (ForInStep.yield PUnit.unit))).run P w= .ok PUnit.unit w:=by
 intro a;obtain ⟨s,c⟩:=Da.1 b;have f:(P.info? e).map (·.size)=some (P.cellsOf e):=by simp [Program.cellsOf,c]
 obtain ⟨p,h1⟩:=pD l;induction a with
 | nil=>simp
 | cons j a r=>
  intro h;have g:=h j s_;rw [Bx,Gt] at g;have n:=jE w p b h1 (vA cs) (j*P.cellsOf e) (by rw [HS];exact g);rw [O0] at n;have o:=q e l w ((cs.drop (j*P.cellsOf e)).take (P.cellsOf e)) q_;simp only [List.forIn_cons,Bg,AW.af f,Aq,n,o,Bw];exact r λ i b=>h i (by simp [b])
def aDz {P:Program} (z:Bool) (d:Nat):∀ (m:Nat) (t:TypeId),fL P m t=true->∀ (w:World) (cs:List C3),cs.length=P.cellsOf t->(Ht z (d+m) t (mF P t (vA cs))).run P w= .ok () w
 | 0,_,h=>by cases h
 | m+1,t,h=>by
  intro w cs g;have C:=aDz (P:=P) z d m;unfold fL at h;rw [show d+(m+1)=(d+m)+1 from rfl,Ht];split at h
  .rename_i k j;have c:aP P t=false:=by unfold aP;rw [j]
   have h1:=aB h;rw [h1] at g
   match cs,g with
   | [(k',a,b)],_=>
    simp [mF,c,vA,run_underlying j]
  .rename_i n e j;simp only [Ad] at h;obtain ⟨⟨h1,o⟩,h3⟩:=h;have c:aP P t=true:=by unfold aP;rw [j]
   have K:=aB h3;simp only [mF,c,if_true,Bg,run_underlying j,Aq];simp only [Std.Legacy.Range.forIn_eq_forIn_range',Std.Legacy.Range.size,Jo,Nat.add_one_sub_one,Ip]
   have:=PG w C cs h1 o (Il 0 n) (λ i M=>by
    have:i<n:=by grind
    have:(i+1)*P.cellsOf e<=n*P.cellsOf e:=Bu _ this
    omega)
   simp at this⊢;simp_all
  .rename_i A j;simp only [Ad,Cx] at h;obtain ⟨h1,o⟩:=h;have c:aP P t=true:=by unfold aP;rw [j]
   simp only [mF,c,if_true,Bg,run_underlying j,Aq];rw [<-Array.forIn_toList];rw [<-g] at o;have key:∀ (L:List Field) (off:Nat),wU P (fL P m) off L cs.length=true→off≤cs.length∧∀ f∈L,f.name≠ "_" ∧fL P m f.type=true∧(P.info? f.type).isSome=true∧f.offset+P.cellsOf f.type≤cs.length:=by
    intro L;induction L with
    | nil=>
     intro off h;have:=aB h;simp_all
    | cons f L v=>
     intro off h;simp only [wU,Ad] at h;obtain ⟨⟨x,p⟩,⟨s,u⟩,H⟩:=h;obtain ⟨N,F⟩:=v _ H;have B:=aB p;refine ⟨by omega,λ J l=>?_⟩;rcases Bb.1 l with rfl | l
     .exact ⟨by simpa using x,s,u,by omega⟩
     .exact F J l
   have each:=(key A.toList 0 o).2;clear key o;generalize A.toList=L at each;induction L with
   | nil=>simp
   | cons f L v=>
    obtain ⟨x,p,s,u⟩:=each f s_;obtain ⟨r,q⟩:=pD p;have D:=jE w r s q (vA cs) f.offset (by rw [HS];exact u);rw [O0] at D;have G:=C f.type p w ((cs.drop f.offset).take (P.cellsOf f.type)) q_;simp only [List.forIn_cons,Bg,x,ne_eq,not_false_eq_true,if_true,Aq,D,G,Bw];exact v λ y I=>each y (by simp [I])
  .cases h
def aJM (a b:List Int) (h:a.length=b.length):∃ cs:List C3,cs.length=a.length/\fP true a= .agg (vA cs).toArray/\fP true b= .agg (vB cs).toArray/\pH cs=decide (a=b):=by
 refine ⟨(a.zip b).map λ p=>(.i64,p.1,p.2),by simp;omega,?_,?_,?_⟩
 .simp only [fP,vA,if_true,Dx];congr 2;have:(a.zip b).map Ma=a:=List.map_fst_zip o_
  conv=>lhs;rw [<-this]
  simp
 .simp only [fP,vB,if_true,Dx];congr 2;have:(a.zip b).map Prod.snd=b:=List.map_snd_zip o_
  conv=>lhs;rw [<-this]
  simp
 .induction a generalizing b with
  | nil=>
   cases b with
   | nil=>rfl
   | cons y b=>cases h
  | cons x a d=>
   cases b with
   | nil=>cases h
   | cons y b=>
    simp only [List.zip_cons_cons,Bl,pH];rw [d b (by grind)];by_cases c:x=y
    .simp_all
    .simp [c]
def aCD (P:Program) (t n:Nat):Bool:=(aP P t&&fL P 8 t)&&(!P.eqGuardType P.depth t&&Aw (P.cellsOf t) n)
def aCC {P:Program} {t n:Nat} (h:aCD P t n=true):SA P t n:=by
 simp only [aCD,Ad,Cx] at h;obtain ⟨⟨h1,d⟩,h3,l⟩:=h;have r:=aB l;refine And.symm ⟨λ w a b u s=>?_,?_⟩
 .obtain ⟨cs,v,q,o,j⟩:=aJM a b o_;have g:=QT 9992 8 t d w cs o_;have e:=λ k=>aDz k 9992 8 t d w cs o_;simp only [mF,h1,if_true] at g e;rw [q,o,<-j];exact ⟨g,e⟩
 intro w x y xs ys vs us c p i f m;obtain ⟨cs,rfl,rfl,rfl⟩:=aDG p f m;refine ⟨λ op=>run_eqGuard_agg w op t x y _ _ h3,?_⟩;have hl:cs.length=P.cellsOf t:=by have:=f.1;rw [HS] at this;omega
 have:=QT 9992 8 t d w cs hl;simp only [mF,h1,if_true] at this;exact this
def QN (P:Program):List (Nat×Nat)->Bool
 | []=>true
 | (t,n)::r=>aCD P t n&&QN P r
def NM {P:Program}:∀ {l:List (Nat×Nat)},QN P l=true->∀ t,0<zY l t->SA P t (zY l t)
 | [],_,t,h=>by cases h
 | (i,n)::r,hb,t,h=>by
  simp only [QN,Ad] at hb;simp only [zY] at h⊢;cases a:Aw i t with
  | true=>
   rw [a] at h;rw [<-aB a];exact aCC hb.1
  | false=>rw [a] at h;exact NM hb.2 t h
def zL (P:Program) (mt:aD4):Prop:=∀ t a g,aBM mt t a=some g->∀ v w,(method (P.types.size+Made.depth) t v a).run P w= .ok (g,v) w
def zL.nil {P:Program}:zL P []:=λ t a g h=>by cases h
def zL.cons {P:Program} {i f:Nat} {s:String} {mt:aD4} (h:∀ v w,(method (P.types.size+Made.depth) i v s).run P w= .ok (f,v) w) (k:zL P mt):zL P ((i,s,f)::mt):=by
 intro t a g b;simp only [aBM] at b;cases c:(Aw i t&&s==a) with
 | false=>rw [c] at b;exact k t a g b
 | true=>
  simp_all
section
variable {E:Env} {fn:Func} {g:Goal} {M0:Imm} {ob0:Hs} {aq:List ab} {w0:World} {sz:Nat} {dfs:List (Nat×List aa)} {fr:List (Nat×aa)} {ac:List ab} {a:Act} {w:World}
def SS.cap {t k i es:Nat} {e:TypeId} {xs:List aa} (h1:aX fr t= .row k i) (o:aC ac k= .row i es e xs) (h:SS M0 ob0 aq w0 sz dfs fr ac a w):
  ∃ c,xs.length<=c/\c<=maxLen/\SS M0 ob0 aq w0 sz dfs (bW fr t (.rowc k i c)) ac a w:=by
 obtain ⟨M,ob,y,hm,j,r⟩:=h;have l:=j t;rw [h1] at l;obtain ⟨x,n,c,p,d⟩:=l.row_inv;obtain ⟨hs',v,F,B,z,g,s,_⟩:=hm.rowOf (bD o s_);rw [d] at g;cases g;have f:xs.length<=c/\c<=maxLen:=by
  rcases s.len with ⟨q,rfl⟩ | ⟨b,A,m,_,D,C⟩
  .cases q;simp
  .cases m;omega
 refine ⟨c,f.1,f.2,M,ob,y,hm,λ u=>?_,r⟩;rw [sA];split
 .rename_i e;subst e;rw [p];have:=gC;exact .rowc k i c x n d o_
 .exact j u
def To.cap {ks:List KI} {t k i es:Nat} {e:TypeId} {xs:List aa} (h1:aX fr t= .row k i) (b:aC ac k= .row i es e xs)
  (h:∀ c,xs.length<=c->c<=maxLen->To E fn g (.code ks (bW fr t (.rowc k i c)) ac)):To E fn g (.code ks fr ac):=
 .mk λ d M0 ob0 aq w0 a w hst hs=>by obtain ⟨c,f,j,hs'⟩:=hs.cap h1 b;exact (h c f j).rec λ h=>h d M0 ob0 aq w0 a w hst hs'
def Mem.become {M:Imm} {ob:Hs} (hm:Mem M ob ac w) {j k i es es':Nat} {e p:TypeId} {xs ys:List aa} (H:j≠k) (h1:ac[j]? =some (.row i es e xs)) (D:ac[k]? =some (.row 0 es' p ys)) {v:Value} (hv:at' ob k 0=some v):
  ∃ ob',Mem M ob' ((ac.set j (.row (i+1) es' p ys)).set k .dead) w/\Ext M ob ac w M ob' ((ac.set j (.row (i+1) es' p ys)).set k .dead) w/\at' ob' j (i+1)=some v:=by
 obtain ⟨g,v0,W,V,e3,e4,T,Q⟩:=hm.rowOf h1;obtain ⟨u,v1,U,Z,f3,O,t,I⟩:=hm.rowOf D;rw [hv] at O;cases O;have F:j<ob.length:=(Ab.1 W).1;have G:j<ac.length:=(Ab.1 h1).1;have hko:k<ac.length:=(Ab.1 D).1;have m:(ob.set j (g++[v]))[j]? =some (g++[v]):=Ar F;have l:∀ {i:Nat},i≠j->(ob.set j (g++[v]))[i]? =ob[i]?:=λ{i} h=>Ay (Em h);have A:dE ob (ob.set j (g++[v])):=λ d hs J=>by
  by_cases f:d=j
  .subst f;rw [W] at J;cases J;exact ⟨_,m,_,rfl⟩
  .exact ⟨hs,(l f).trans J,Cn _⟩
 have z:(g++[v]).length=i+1+1:=by simp [V]
 have s:(g++[v])[i+1]? =some v:=by rw [<-V];simp
 have R:((ac.set j (.row (i+1) es' p ys)).set k .dead)[k]? =some .dead:=Ar q_;have Y:((ac.set j (.row (i+1) es' p ys)).set k .dead)[j]? =some (.row (i+1) es' p ys):=by rw [Ay (Em H),Ar G]
 have P:∀ {d},d≠j->d≠k->((ac.set j (.row (i+1) es' p ys)).set k .dead)[d]? =ac[d]?:=λ{d} a b=>by rw [Ay (Em b),Ay (Em a)]
 have alive:∀ {d b:Nat},aG (ob.set j (g++[v])) ((ac.set j (.row (i+1) es' p ys)).set k .dead) d b->(d=j/\aG ob ac k b)\/(d≠j/\d≠k/\aG ob ac d b):=by
  rintro d b ⟨c,hs,o,y,C,K⟩;by_cases f:d=j
  .subst f;rw [m] at C;cases C;have L:b∈blk u:=by rw [dT z s] at K;rw [dT Z f3];exact K
   exact .inl ⟨rfl,_,u,D,rfl,U,L⟩
  .by_cases n:d=k
   .subst n;rw [R] at o;cases o;cases y
   .rw [P f n] at o;rw [l f] at C;exact .inr ⟨f,n,c,hs,o,y,C,K⟩
 refine ⟨ob.set j (g++[v]),⟨hm.imm,by simp [hm.len],λ d c x=>?_,λ d b B=>?_,λ d N b B X=>?_⟩,⟨λ_ _ _ h=>h,λ_ _ _ h=>.inl h,A,rfl,rfl,rfl,Bc _,λ_ _ _=>rfl,λ d b B=>?_⟩,(bV m).trans s⟩
 .by_cases f:d=j
  .subst f;rw [Y] at x;cases x;exact ⟨_,m,z,v,s,t⟩
  .by_cases n:d=k
   .subst n;rw [R] at x;cases x;exact ⟨u,(l f).trans U,trivial⟩
   .rw [P f n] at x;obtain ⟨hs,o,y⟩:=hm.obj d c x;exact ⟨hs,(l f).trans o,y.mono (λ_ _ _ h=>h) A (λ_ _ _ _ h=>h) (λ_ _ _ _ h=>h)⟩
 .rcases alive B with ⟨_,q⟩ | ⟨_,_,q⟩<;>exact hm.lt _ b q
 .rcases alive B with ⟨o,q⟩ | ⟨o,y,q⟩<;>rcases alive X with ⟨S,r⟩ | ⟨S,r2,r⟩
  .rw [o,S]
  .exact absurd (hm.inj k N b q r).symm r2
  .exact absurd (hm.inj d k b q r) y
  .exact hm.inj d N b q r
 .rcases alive B with ⟨_,q⟩ | ⟨_,_,q⟩
  .exact .inl ⟨k,q⟩
  .exact .inl ⟨d,q⟩
def II:List Nat->aa->List (Nat×aa)->List (Nat×aa)
 | [],_,fr=>fr
 | t::r,v,fr=>II r v (bW fr t v)
def J2 (k:Nat) (fr:List (Nat×aa)):List Nat->Bool
 | []=>true
 | t::r=>(match aX fr t with | .row j 0=>Aw j k | _=>false)&&J2 k fr r
def yY {v:aa} {t:Nat}:∀ {l:List Nat} {fr:List (Nat×aa)},aX (II l v fr) t=aX fr t\/(t∈l/\aX (II l v fr) t=v)
 | [],fr=>.inl rfl
 | x::r,fr=>by
  rcases yY (v:=v) (t:=t) (l:=r) (fr:=bW fr x v) with h | ⟨h1,a⟩
  .rw [sA] at h;by_cases e:t=x
   .subst e;rw [if_pos rfl] at h;exact .inr ⟨by simp,h⟩
   .rw [if_neg e] at h;exact .inl h
  .exact .inr ⟨by simp [h1],a⟩
def D9 {k:Nat} {fr:List (Nat×aa)}:∀ {l:List Nat},J2 k fr l=true->∀ t∈l,aX fr t= .row k 0
 | [],_,t,h=>by simp at h
 | x::r,h,t,a=>by
  simp only [J2,Ad] at h;rcases Bb.1 a with rfl | a
  .have:=h.1;split at this
   .simp_all
   grind
  .exact D9 h.2 t a
def To.become {ks:List KI} {j k i es es':Nat} {e d:TypeId} {xs ys:List aa} (l:List Nat) (C:Aw j k=false) (h1:aC ac j= .row i es e xs) (y:aC ac k= .row 0 es' d ys) (hl:J2 k fr l=true)
  (h:To E fn g (.code ks (II l (.row j (i+1)) fr) (bJ (bJ ac j (.row (i+1) es' d ys)) k .dead))):To E fn g (.code ks fr ac):=
 .mk λ z M0 ob0 aq w0 a w hst hs=>by
  refine h.rec λ h=>h z M0 ob0 aq w0 a w hst ?_;obtain ⟨M,ob,H,hm,A,J,D,L⟩:=hs;have p:j≠k:=λ e=>by simp_all
  have s:=bD h1 s_;have f:=bD y s_;obtain ⟨F,v,N,K,O,r,_⟩:=hm.rowOf f;obtain ⟨ob',u,o,I⟩:=hm.become p s f r;have G:bJ (bJ ac j (.row (i+1) es' d ys)) k .dead=(ac.set j (.row (i+1) es' d ys)).set k .dead:=by rw [aO s];exact gK _ (by simpa using (Ab.1 f).1)
  rw [G];refine ⟨M,ob',H.trans o,u,λ t=>?_,J,D.mono (λ_ _ _ h=>h) o.hs,by simp;omega⟩;have m:=A t;rcases yY (v:=.row j (i+1)) (t:=t) (l:=l) (fr:=fr) with q | ⟨x,q⟩
  .rw [q];exact m.mono (λ_ _ _ h=>h) o.hs
  .rw [q];rw [D9 hl t x] at m;obtain ⟨P,n,c,B,b⟩:=m.row_inv;rw [r] at b;cases b;rw [B];exact .row _ _ _ _ _ I
end
def aLj {M:Imm} {ob:Hs} {vs:List Value} {a b:aa} (h:cA M ob vs [a,b]):∃ u v,vs=[u,v]/\Rep M ob u a/\Rep M ob v b:=by
 obtain ⟨hl,c⟩:=h
 match vs,hl with
 | [u,v],_=>exact ⟨u,v,rfl,c 0 _ _ rfl rfl,c 1 _ _ rfl rfl⟩
def L6 {P:Program} {f:FuncId} {fn:Func} {tS tR e:TypeId} (hf:P.funcs[f]? =some fn) (o:(fn.name== "runtime.NumGoroutine")=false) (hb:fn.body.isNone=true) (hn:Extern.findNext fn=none)
  (he:Extern.find fn=some (Extern.SlicesOverlaps.overlaps #[tS,tS] #[tR])) (F:P.underlying tS=some (.slice e)) {sz:Nat} (hz:(P.info? e).map (·.size)=some sz) (s:0<sz) {z p:TypeId} (xs ys:List aa) (lo len:Nat):
  aA P f [.row 0 0,.sub 1 0 lo len sz] [.row 0 sz z xs,.row 0 sz p ys] (.ret (.bool false)) [.row 0 sz z xs,.row 0 sz p ys]:=by
 intro M ob w H hm W;obtain ⟨u,v,rfl,hu,hv⟩:=aLj W;have i:=λ w:World=>af (P:=P) hz w;refine .inr ⟨.bool false,w,?_,M,ob,Ext.refl _ _ _ _,hm,.bool false⟩;rw [run_callFunc_extern hf o hb hn he];have key:(Extern.SlicesOverlaps.overlaps #[tS,tS] #[tR] #[u,v]).run P w= .ok (.bool false) w:=by
  obtain ⟨a,n,c,rfl,I⟩:=hu.row_inv;obtain ⟨L,v1,Y,p2,p3,T,D,C⟩:=hm.rowOf (k:=0) rfl;obtain ⟨G,v2,U,q2,q3,S,B,y⟩:=hm.rowOf (k:=1) rfl;rw [I] at T;cases T;have g:∀ (a:Option Addr) (n c:Nat) (b:Option Addr) (m d:Nat),(a=none\/b=none\/n=0\/m=0)->(Extern.SlicesOverlaps.overlaps #[tS,tS] #[tR] #[.slice a n c,.slice b m d]).run P w= .ok (.bool false) w:=by
   intro a n c b m d h
   change Sem.run P (α:=Value) (do
    let some t:=(#[tS,tS]:Array TypeId)[0]? | stuck "slices.overlaps: no parameter types"
    let .slice elem ←underlying t | stuck "slices.overlaps: slice type expected"
    let size <-sizeOf elem
    match a,b with
    | some a,some b=>
     if n=0\/m=0\/size=0 then pure (Ng false)
     else if a.block !=b.block&&(<-frozen a)&&(<-frozen b) then unsupported .addressObserved
     else do
      if a.block !=b.block then do
           noView a;noView b
           if ←mayBeOne a b then return Ng ((←choose (.extern "sameAddr.stringBytes" 2))==1)
      pure (Ng (a.block==b.block&&a.off<b.off+m*size&&b.off<a.off+n*size))
    | _,_=>pure (Ng false)) w=_
   cases a with
   | none=>simp [run_underlying F,i]
   | some a=>
    cases b with
    | none=>simp [run_underlying F,i]
    | some b=>
     have X:n=0\/m=0\/sz=0:=by
      rcases h with h | h | h | h
      .cases h
      .cases h
      .exact .inl h
      omega
     simp [run_underlying F,i,X]
  cases hv with
  | sub0 _ _ _ _ Q a' n2 R l hl hc=>exact g _ _ _ _ _ _ (.inr (.inr (.inr rfl)))
  | sub _ _ _ _ _ b n2 R l hl hn2 Z hmm=>
   rw [l] at S;cases S;obtain ⟨cv,⟨r1,x⟩,_⟩:=D;obtain ⟨cv2,⟨s1,r⟩,_⟩:=B;rcases x with ⟨x,_⟩ | ⟨A,N,q,x,_,J,r4,r5,r6,_⟩
   .cases x;exact g _ _ _ _ _ _ (.inl rfl)
   .rcases r with ⟨r,_⟩ | ⟨b2,O,j,r,_,s3,s4,s5,s6,_⟩
    .cases r
    .cases x;cases r;have K:A≠b:=by
      intro h;subst h
      have a1:aG ob [.row 0 sz z xs,.row 0 sz p ys] 0 A:=⟨_,L,rfl,rfl,Y,mP C rfl⟩
      have Q:aG ob [.row 0 sz z xs,.row 0 sz p ys] 1 A:=⟨_,G,rfl,rfl,U,mP y rfl⟩
      have:=hm.inj 0 1 A a1 Q;cases this
     have V:j.size≠0:=by rw [s6];have:=Nat.mul_pos (show 0<R by omega) s;omega
     exact Lib.run_overlaps_apart w tS tR e F sz i ⟨A,0,none⟩ ⟨b,lo*sz,none⟩ _ _ _ _ K z p q.size j.size (by simp [Ji,J]) (by simp [Ji,s3]) V (by simp [Lv,J]) (by simp [Lv,J])
 have e0:(([u,v]:List Value)).toArray= #[u,v]:=rfl;rw [e0,key];rfl
def strip:Nat->aa->aa
 | 0,v=>v
 | n+1,v=>match v with
  | .slice sz xs _=>.slice sz xs .no
  | .agg cs=>.agg (dX (strip n) cs)
  | .tup cs=>.tup (dX (strip n) cs)
  | .iface t v=>.iface t (strip n v)
  | v=>v
def rQ {M:Imm} {ob:Hs}:∀ (n:Nat) {v:Value} {a:aa},Rep M ob v a->Rep M ob v (strip n a):=by
 intro n;induction n with
 | zero=>intro v a h;exact h
 | succ n m=>
  intro v a h;cases h with
  | agg vs as hl e=>
   obtain ⟨h1,j⟩:=bX (λ v a=>m) hl e;exact .agg vs _ h1 j
  | tup vs as hl e=>
   obtain ⟨h1,j⟩:=bX (λ v a=>m) hl e;exact .tup vs _ h1 j
  | iface t v a e=>exact .iface t v _ (m e)
  | slnil sz t p=>exact .slnil sz .no trivial
  | slemp sz t a cap p=>exact .slemp sz .no a cap trivial
  | sl sz b o n cap xs t f d hm hz e p=>exact .sl sz b o n cap xs .no f d hm hz e trivial
  | undef v=>exact .undef v
  | bool b=>exact .bool b
  | int k n e=>exact .int k n e
  | str l hl=>exact .str l hl
  | ptr b o cs h=>exact .ptr b o cs h
  | ref k off b h=>exact .ref k off b h
  | eref k g i sz off b n c h=>exact .eref k g i sz off b n c h
  | csl k off len sz b h hm=>exact .csl k off len sz b h hm
  | row k g a n c h=>exact .row k g a n c h
  | sub k g lo len sz b n c h hl f d hm=>exact .sub k g lo len sz b n c h hl f d hm
  | sub0 k g lo sz a w n c h hl d=>exact .sub0 k g lo sz a w n c h hl d
  | rowc k g c a n h hm=>exact .rowc k g c a n h hm
  | pre k g n c sz b len h d f hl hm=>exact .pre k g n c sz b len h d f hl hm
  | mref k b h=>exact .mref k b h
  | nilptr=>exact .nilptr
  | nilslice=>exact .nilslice
  | nilmap=>exact .nilmap
  | nilfunc=>exact .nilfunc
  | nilif=>exact .nilif
  | hsl a n c=>exact .hsl a n c
  | func fn r cs q u s d h1 j=>exact .func fn r cs q u s d h1 j
def aA.strip {P:Program} {f:FuncId} {args:List aa} {ac ap:List ab} {r:Res} (h:aA P f (dX (strip 5) args) ac r ap):aA P f args ac r ap:=
 λ M ob w b hm c=>h M ob w b hm (by
  obtain ⟨h1,d⟩:=bX (M':=M) (ob':=ob) (λ v a=>rQ (M:=M) (ob:=ob) 5) c.1 c.2
  exact ⟨h1,d⟩)
def aA.less {P:Program} {f:FuncId} {args:List aa} {ac ap:List ab} {v:aa} (h:aA P f args ac (.ret v) ap):aA P f args ac (.ret (AW.strip 5 v)) ap:=
 λ M ob w a hm d=>cI.mono (λ e w' ⟨M',ob',c,g,b⟩=>⟨M',ob',c,g,by
  cases e with
  | returned u=>exact rQ 5 b
  | panicked i=>exact b.elim
  | outgrown=>exact b.elim⟩) (h M ob w a hm d)
def Y7 (n:Nat):List (Nat×List aa)->Bool
 | []=>true
 | (_,l)::r=>D5 (bel n 5) l&&Y7 n r
def OP {n:Nat}:∀ {l:List (Nat×List aa)},Y7 n l=true->∀ (i:Nat) x,l[i]? =some x->D5 (bel n 5) x.2=true
 | [],_,i,x,h=>by simp at h
 | (f,y)::r,hb,i,x,h=>by
  simp only [Y7,Ad] at hb;cases i with
  | zero=>grind
  | succ i=>exact OP hb.2 i x (by simp_all)
def aDM {w0 w:World} {M:Imm} {ob:Hs} {n:Nat} {f:List Deferred} {dfs:List (Nat×List aa)} (h:cS w0 w M ob f dfs) (k:Y7 n dfs=true):cS w0 w M (ob.take n) f dfs:=
 let ⟨d1,d2,e,h,h2⟩:=h
 ⟨d1,d2,e,⟨h.1,λ i d x c b=>⟨(h.2 i d x c b).1,(h.2 i d x c b).2.1,λ j v a l g=>A1 5 ((h.2 i d x c b).2.2 j v a l g) (lP (OP k i x b) j a g)⟩⟩,h2⟩
def To.cut {E:Env} {fn:Func} {g:Goal} {ks:List KI} {fr:List (Nat×aa)} {ac:List ab} (l:List Nat) (n:Nat) (B:Fw g.n0 n=true) (p:aDL n (mE l fr)=true) (j:EX n (nN n ac)=true) (s:Y7 n E.df=true)
  (h:To E fn g (.head ks (mE l fr) (nN n ac))):To E fn g (.head ks fr ac):=
 .mk λ i M0 ob0 aq w0 a w hst hs=>by
  refine h.rec λ h=>h i M0 ob0 aq w0 a w hst ?_;obtain ⟨M,ob,c,hm,d,z,v,A⟩:=hs;rw [B7] at j⊢;obtain ⟨o,r⟩:=hm.cutO j;have C:ob0.length<=n:=by rw [hst.1];simp_all
  refine ⟨M,ob.take n,⟨c.imm,c.new,λ k hs m=>?_,c.os,c.tape,c.output,c.size,c.keep,λ k b x=>c.fresh k b (r x)⟩,o,λ t=>?_,z,aDM v s,by simp;omega⟩
  .obtain ⟨hs',y,u⟩:=c.hs k hs m;have f:k<n:=by have:=(Ab.1 m).1;omega
   exact ⟨hs',by rw [Bi f];exact y,u⟩
  .rcases OO p t with q | q
   .rcases pC fr t l with e | e
    .rw [e] at q⊢;exact A1 5 (d t) q
    .rw [e];exact .undef _
   .rw [q];exact .undef _
open Go.RowKit Go.ChangeShapes Go.WideShapes Go.ChangeAt
section
variable {P:Program} {w:World} {r:Reach} {base:Nat} {t:TypeId} {v:Value}
def UP {k:IntKind} {n:Int} (h:k.has n):inR k n:=by cases k<;>simpa [IntKind.has,IntKind.min,IntKind.max,IntKind.signed,IntKind.bits,inR,cJ,bE] using h
def aLk {M:Imm} {ob:Hs} {v:Value} {a:aa} (h:Rep M ob v a) {vs:List Value} {as:List aa} (hs:cA M ob vs as):cA M ob (v::vs) (a::as):=cA.cons h hs
def aLl {M:Imm} {ob:Hs}:cA M ob [] []:=⟨rfl,λ i v a h=>by simp at h⟩
end
def aMX {args:Array Value} (h:args.toList.length=1):∃ a,args= #[a]:=by
 obtain ⟨l⟩:=args
 match l,h with
 | [a],_=>simp
section
variable {H:Type} {enc:TypeId×Value->H} {P:Program}
def TR (P:Program):List TypeId->Bool
 | []=>true
 | t::ts=>(P.readableRec t&&decide (t<P.types.size))&&TR P ts
def EJ (hl:laidOutB P=true) {W j:World} (l:Below W.heap.size W j):∀ {a:List TypeId} {vs:List Value} {f:List (DataW H)} {c:List MemPlace},TR P a=true->(∀ x∈c,x.block<W.heap.size)->
  DataW.TrodAll enc P W 0 (λ_=>true) true a vs f c->DataW.TrodAll enc P j 0 (λ b=>decide (b<W.heap.size)) true a vs f c:=by
 intro a;induction a with
 | nil=>
  intro vs f c _ _ h;obtain ⟨rfl,rfl,rfl⟩:=trodAll_nil h;rfl
 | cons t a o=>
  intro vs f c g e h;simp only [TR,Ad,decide_eq_true_eq] at g;obtain ⟨v,k,d,m,p,q,rfl,rfl,rfl,n,h1⟩:=trodAll_cons h;exact trodAll_cons_mk (Below.trod hl g.1.1 g.1.2 n l λ x i=>e x (by simp [i])) (o g.2 (λ x i=>e x (by simp [i])) h1)
def yN {W:World}:∀ {c:List TypeId} {vs:List Value} {e:List (DataW H)} {f:List MemPlace},DataW.TrodAll enc P W 0 (λ_=>true) true c vs e f->vs.length=c.length/\e.length=c.length:=by
 intro c;induction c with
 | nil=>
  intro vs e f h;obtain ⟨rfl,rfl,rfl⟩:=trodAll_nil h;omega
 | cons t c j=>
  intro vs e f h;obtain ⟨v,g,d,i,p,q,rfl,rfl,rfl,k,h1⟩:=trodAll_cons h;obtain ⟨a,b⟩:=j h1;simp_all
def XE {fn:Func} {s:ChangeSpec} {W m:World} {args:Array Value} {b n:List (DataW H)} {JW:List MemPlace} {j:TypeId} (hl:laidOutB P=true) (w:TR P fn.params.toList=true) (k:s.vars=[])
  (c:fn.resultTypes= #[j]) (r:P.underlying j=some .bool) (f:DataW.Whole enc P fn.params.toList s.vars false W args.toList b n JW) (a:Below W.heap.size W m)
  (d:b.length=fn.params.toList.length->(s.fn H b).results=[.lit (.bool true)]/\(s.fn H b).args=b/\(s.fn H b).vars=[]):s.post enc P fn false true false false W args (.bool true) m:=by
 have g:=f.lt;have e:=f;obtain ⟨p,q,l,i,rfl,y,o⟩:=f;rw [k] at i;obtain ⟨rfl,rfl⟩:=trodVars_none i;obtain ⟨u,t,v⟩:=d (yN l).2;refine ⟨b,[],_,[],p,[],e,?_,?_,?_,a.frame _,λ h=>by cases h⟩
 .rw [Av,u,c];exact trodAll_cons_mk (shut_bool r _) trodAll_mk0
 .rw [Av,t];exact EJ hl a w (λ x z=>g x (by simp [z])) l
 .rw [Av,v,k];exact rfl
end
inductive RepW (w:World):Value->aa->Prop
 | bool (b):RepW w (.bool b) (.bool b)
 | int (k n) (h:inR k n):RepW w (.int k n) (.int k n)
 | str (l:List UInt8) (h:(l.length:Int)<=9223372036854775807):RepW w (.string ⟨l.toArray⟩) (.str l)
 | nilslice (sz:Nat):RepW w (.slice none 0 0) (.slice sz [] .no)
 | emptys (sz:Nat) (a:Addr) (cap:Nat):RepW w (.slice (some a) 0 cap) (.slice sz [] .no)
 | slice (sz b o n cap:Nat) (xs:List aa) (us:Nat->Nat->Value) (hn:xs.length=n) (hc:n<=cap) (hm:(n:Int)<=9223372036854775807) (hz:∀ x∈xs,x.cells.length=sz)
   (h1:∀ (i j:Nat) x c,xs[i]? =some x->x.cells[j]? =some c->w.cell? ⟨b,o+i*sz+j,none⟩=some (us i j)) (h2:∀ (i j:Nat) x c,xs[i]? =some x->x.cells[j]? =some c->(us i j).oneCell'=true)
   (h3:∀ (i j:Nat) x c,xs[i]? =some x->x.cells[j]? =some c->RepW w (us i j) c):RepW w (.slice (some ⟨b,o,none⟩) n cap) (.slice sz xs .no)
def Mw (w:World):Imm:=λ b o x=>∃ v,w.cell? ⟨b,o,none⟩=some v/\v.oneCell'=true/\RepW w v x
def RepW.rep {w:World} {v:Value} {a:aa} (h:RepW w v a):Rep (Mw w) [] v a:=by
 cases h with
 | bool b=>exact .bool b
 | int k n h=>exact .int k n h
 | str l h=>exact .str l h
 | nilslice sz=>exact .slnil sz .no trivial
 | emptys _ a cap=>exact .slemp _ _ _ _ trivial
 | slice sz b o n cap xs us f g hm hz h1 m h3=>exact .sl sz b o n cap xs .no f g hm hz (λ i j x c e d=>⟨us i j,h1 i j x c e d,m i j x c e d,h3 i j x c e d⟩) trivial
def TyF (T:TypeId->List aa->Prop):List Field->List aa->Prop
 | [],cs=>cs=[]
 | f::fs,cs=>∃ a b,cs=a++b/\T f.type a/\TyF T fs b
def RepW.one {w:World} {v:Value} {a:aa} (h:RepW w v a):v.oneCell'=true:=by cases h<;>rfl
def fZ (w:World) (cs:List Value) (as:List aa):Prop:=cs.length=as.length/\∀ (i:Nat) v a,cs[i]? =some v->as[i]? =some a->RepW w v a
def fZ.append {w:World} {vs us:List Value} {as bs:List aa} (h:fZ w vs as) (k:fZ w us bs):fZ w (vs++us) (as++bs):=by
 refine ⟨by simp [h.1,k.1],λ i v a b c=>?_⟩;by_cases d:i<vs.length
 .rw [Ag d] at b;rw [Ag (by rw [<-h.1];exact d)] at c;exact h.2 i v a b c
 .rw [Ak o_] at b;rw [Ak (by rw [<-h.1];omega),<-h.1] at c;exact k.2 _ v a b c
def fZ.single {w:World} {v:Value} {a:aa} (h:RepW w v a):fZ w [v] [a]:=
 ⟨rfl,λ i u b c d=>by cases i with | zero=>grind | succ i=>simp at c⟩
def fZ.nil {w:World}:fZ w [] []:=⟨rfl,λ i v a h=>by simp at h⟩
def HX (P:Program) (a:TypeId->Bool):Nat->List Field->Nat->Bool
 | off,[],total=>Aw off total
 | off,f::fs,total=>(Aw f.offset off&&a f.type)&&HX P a (off+P.cellsOf f.type) fs total
def pM (P:Program):Nat->TypeId->Bool
 | 0,_=>false
 | n+1,t=>match P.underlying t with
  | some .bool=>true
  | some (.int _)=>true
  | some .string=>true
  | some (.struct fs)=>HX P (pM P n) 0 fs.toList (P.cellsOf t)
  | some (.array m e)=>pM P n e&&Aw (P.cellsOf t) (m*P.cellsOf e)
  | some (.slice e)=>pM P n e&&Ff 0 (P.cellsOf e)
  | _=>false
section
variable {H:Type} {enc:TypeId×Value->H} {P:Program} {w:World} {base:Nat} {spare:Nat->Bool} {held:Bool}
end
def A4 (M:Imm) (ob:Hs) (u:FrameMode):Option aa->Prop
 | none=>u= .returning
 | some v=>∃ x,u= .panicking [{v:=x,recovered:=false}]/\Rep M ob x v
def zO (P:Program) (f:FuncId) (args:List aa) (ac:List ab) (p:Option aa) (ap:List ab):Prop:=
 ∀ M ob w a u,Mem M ob ac w->cA M ob a args->A4 M ob u p->
  (callFunc f a.toArray).run P w= .ok (.enter f a.toArray) w/\
   CallsD P f a.toArray u w λ e b w'=>∃ v M' ob',e= .returned v/\settle b= .returning/\Ext M ob ac w M' ob' ap w'/\Mem M' ob' ap w'
section
variable {P:Program}
def LA {o:Oper} {a:Array TypeId} {ρ:Operand->Value} {w:World} (c:o.op= .call {callee:=.builtin .recover,args:= #[],argTypes:=a}):(execOp ρ o).run P w= .ok .recover w:=by obtain ⟨dst,op,ty,pos,b,d⟩:=o;subst c;rfl
def IC {M:Imm} {ob:Hs} {u:FrameMode} {p:Option aa} (h:A4 M ob u p) (c:Frame) (cs:List Frame) (b:c.mode=u):
  ∃ v d,Rep M ob v (match p with | none=>.nilif | some a=>a)/\settle d= .returning/\
   ((recoverD (c::cs)=some (v,{c with mode:=d}::cs))\/(recoverD (c::cs)=none/\v= .nilIface/\({c with mode:=d}:Frame)=c)):=by
 cases p with
 | none=>
  have h:u= .returning:=h;subst h;refine ⟨.nilIface,.returning,.nilif,rfl,.inr ⟨by simp [recoverD,b],rfl,?_⟩⟩;rw [<-b]
 | some a=>
  obtain ⟨x,rfl,e⟩:=h;refine ⟨x,.panicking [{v:=x,recovered:=true}],e,rfl,.inl ?_⟩;simp [recoverD,b]
end
def EA:Code->Code
 | .seq _ b=>b
 | c=>c
def aJf:Code->Bool
 | .seq (.region _ ops false) _=>(match ops.toList with
  | [o]=>(match o.op with
   | .call c=>(match c.callee with | .builtin .recover=>c.args.toList.isEmpty&&o.guard.isNone&&o.dst.isSome | _=>false)
   | _=>false)
  | _=>false)
 | _=>false
def W6:Code->Nat
 | .seq (.region _ ops _) _=>(match ops.toList with | [o]=>o.dst.getD 0 | _=>0)
 | _=>0
def W8 {c:Code} (h:aJf c=true):∃ id o a rest,c= .seq (.region id #[o] false) rest/\o.op= .call {callee:=.builtin .recover,args:= #[],argTypes:=a}/\o.guard=none/\o.dst=some (W6 c)/\EA c=rest:=by
 unfold aJf at h;split at h
 .rename_i id ops rest;split at h
  .rename_i o l;split at h
   .rename_i cl f;split at h
    .rename_i b;simp only [Ad] at h;obtain ⟨⟨h1,k⟩,h3⟩:=h;obtain ⟨g,as,a⟩:=cl;have b:g= .builtin .recover:=b;subst b;have e:ops= #[o]:=by cases ops;grind
     subst e;have j:as= #[]:=by simp_all
     subst j;obtain ⟨d,i⟩:=Da.1 h3;refine ⟨id,o,a,rest,rfl,f,by simp_all,?_,rfl⟩;simp [W6,i]
    .cases h
   .cases h
  .cases h
 .cases h
def zO.of {E:Env} {f:FuncId} {fn:Func} {args:List aa} {ac:List ab} {n0:Nat} {r:aa} {ap:List ab} {p:Option aa} (hdf:E.df=[]) (X:E.P.funcs[f]? =some fn) (hb:fn.body=some (dG fn)) (hbo:nC E.P f)
  (L:aJf (dG fn)=true) (O:dC fn.ntmps (EA (dG fn))=true) (hn:Fw args.length fn.ntmps=true) (Z:Ff (W6 (dG fn)) fn.ntmps=true) (hsb:tC ac=true) (hg:ac.length=n0)
  (h:okL args->To E fn (.full n0 (.ret r) ap) (.code [.code (EA (dG fn))] (bW (frA 0 args) (W6 (dG fn)) (match p with | none=>.nilif | some a=>a)) ac)) (z:E.rd=none:=by rfl):zO E.P f args ac p ap:=by
 intro M ob w g u hm hr H;refine ⟨hbo _ _,?_⟩;obtain ⟨id,o,ats,rest,hc,hop,hgd,S,R⟩:=W8 L;rw [R] at h O;have hlen:g.length=args.length:=hr.1;have hle:=Ck hn;have htl:W6 (dG fn)<fn.ntmps:=by simpa [Jw] using Z
 generalize htt:W6 (dG fn)=t at *
 have hst:pQ (.full n0 (.ret r) ap) ob:=by
  refine ⟨by rw [hm.len,hg];rfl,λ_ hs T=>?_⟩;obtain ⟨k,B⟩:=Ct T;have U:k<ac.length:=by rw [<-hm.len];exact (Ab.1 B).1
  obtain ⟨h1,h2⟩:=sZ hsb k _ (Aa U);have e:=gB (Aa U);have:=hm.histLen (by rw [e];exact h1) B;rw [e,h2] at this;exact this
 intro c cs hu;obtain ⟨v,y,Y,K,G⟩:=IC H c cs hu
 let b:Frame:={(default:Frame) with fn:=f,kind:=.deferred}
 let a:Act:={tmps:=g.toArray++Fz (fn.ntmps-g.toArray.size) undef,defers:=[]}
 have N:a.tmps.size=fn.ntmps:=by simp [a];omega
 have A:Frame.enter E.P f g.toArray .deferred=b.at a [.code (.seq (.region id #[o] false) rest)]:=by simp [Frame.enter,Frame.at,X,hb,hc,b,a]
 have ha:∀ t,Rep M ob (a.tmps.getD t undef) (aX (frA 0 args) t):=λ t=>by
  rw [C9];simp only [Bv,if_true,Jo];by_cases Z:t<args.length
  .rw [Aa Z];have Y:t<g.length:=o_;have:a.tmps.getD t undef=g[t]:=by show (g.toArray++Fz (fn.ntmps-g.toArray.size) undef).getD t undef=_;rw [Bj,Gx o_];simp [Y]
   rw [this];exact hr.2 t _ _ (Aa Y) (Aa Z)
  .rw [Bk o_];exact .undef _
 -- the region of recover
 have J:=wp_opsS (P:=E.P) (ops:= #[o]) (Q:=λ e a' cs' w'=>e= .normal/\a'=a.put o.dst v/\cs'={c with mode:=y}::cs/\w'=w) [0] a (c::cs) w (by
  have e0:(#[o]:Array Oper)[0]? =some o:=rfl;have hw:Fe o (yielded #[o] a.tmps)=true:=by unfold Fe;rw [hgd]
  simp only [wpOpsS,e0,hw,if_true,LA hop];rcases G with h1 | ⟨h1,rfl,h2⟩
  .rw [h1];simp
  .rw [h1]
   refine ⟨?_,?_,?_,?_⟩<;>first | trivial | rfl | rw [h2]) b [.code rest] rfl rfl
 obtain ⟨e1,a1,cs1,C,⟨rfl,rfl,rfl,rfl⟩,D⟩:=J
 -- the rest
 have hkw:KW none E.P (pI E fn M ob ac C (.full n0 (.ret r) ap)) [.code rest] (a.put o.dst v) C:=by rw [<-z];obtain ⟨hh⟩:=h hr.okL;refine hh (by simp [bC,KI.ok,O]) M ob ac C _ C hst ⟨M,ob,Ext.refl _ _ _ _,hm,?_,(eJ _ _ _).1.trans N,by rw [hdf];exact cS.put (a:=a) .nil,by rw [hm.len];omega⟩;intro s;have:=lG (d:=some t) ha Y (λ d' e=>by cases e;omega) s;rw [S];rwa [show iS (aX (frA 0 args)) (some t) _ s=aX (bW (frA 0 args) t _) s from (congrFun (eK (frA 0 args) (some t) _) s).symm] at this
 obtain ⟨e2,I,w2,m,j⟩:=hkw.arrives b ({c with mode:=y}::cs) rfl
 have i:Steps E.P (lone (b.at a [.code (.seq (.region id #[o] false) rest)]) (c::cs) C) (lone (b.at (a.put o.dst v) [.code rest]) ({c with mode:=y}::cs) C):=
  .head step_seq (.head step_region D)
 have fin:∀ {e:Ending} {w':World},RR M ob ac C (.full n0 (.ret r) ap) e w'->∃ v M' ob',e= .returned v/\settle y= .returning/\Ext M ob ac C M' ob' ap w'/\Mem M' ob' ap w':=λ{e w'} ⟨M',ob',x1,x2,x3⟩=>by
  cases e with
  | returned v=>exact ⟨v,M',ob',rfl,K,x1,x2⟩
  | panicked ch=>exact x3.elim
  | outgrown=>exact x3.elim
 rw [A];cases e2 with
 | normal=>
  unfold pI EF at m;rw [z] at m;obtain ⟨W,n,x,V,hs,_,B,hl⟩:=fH I.defers .returning w2 {b.at I [] with mode:=.returning} ({c with mode:=y}::cs) rfl rfl rfl X m;exact ⟨W,y,n,x,fin V,Comes.of_steps (i.trans (Steps.trans j (.one step_end))) hs,B,hl⟩
 | ret=>
  obtain ⟨q,F⟩:=j;unfold pI EF at m;rw [z] at m;obtain ⟨W,n,x,V,hs,_,B,hl⟩:=fH I.defers .returning w2 {b.at I q with mode:=.returning} ({c with mode:=y}::cs) rfl rfl rfl X m;exact ⟨W,y,n,x,fin V,Comes.of_steps (i.trans F) hs,B,hl⟩
 | panic eQ=>
  obtain ⟨q,F⟩:=j;unfold pI at m;rw [z] at m;obtain ⟨W,n,x,V,hs,_,B,hl⟩:=fH I.defers (.panicking eQ) w2 {b.at I q with mode:=.panicking eQ} ({c with mode:=y}::cs) rfl rfl rfl X m;exact ⟨W,y,n,x,fin V,Comes.of_steps (i.trans F) hs,B,hl⟩
 | exit id=>exact m.elim
 | goto l=>exact m.elim
 | outgrown=>exact m.elim
def aKw (fr:List (Nat×aa)):List Oper->Option (Nat×List aa)
 | [p]=>(match p.guard,p.op with
  | none,.defer c=>(match c.callee with
   | .value (.func f)=>some (f,evO (ev fr) c.args.toList)
   | _=>none)
  | _,_=>none)
 | _=>none
def QP (ρ:Operand->aa):∀ (l:List Operand),evO ρ l=l.map ρ
 | []=>rfl
 | x::r=>by simp [evO,QP ρ r]
def aBK (ks:List Nat) (og:Nat->ab):Option aa->Option aa
 | none=>none
 | some v=>some (cvtV 0 ks og 5 v)
section
variable {E:Env} {fn:Func} {g:Goal}
def ND {df:List (Nat×List aa)} {id:Nat} {ops:Array Oper} {ks:List KI} {fr:List (Nat×aa)} {ac:List ab} {f:Nat} {args:List aa} (k:aKw fr ops.toList=some (f,args))
  (C:df=(f,args)::E.df)
  (F:E.rd=none) (h:cY {E with df:=df} fn g ks (match ops.toList with | [o]=>kW fr o.dst (.tup []) | _=>fr) ac):cY E fn g (.code (.region id ops false)::ks) fr ac:=by
 intro H M0 ob0 aq w0 a w hst hs;simp only [bC,KI.ok,dC,Ad] at H;obtain ⟨⟨A,_⟩,u⟩:=H;have n:=oB A;unfold aKw at k;split at k
 .rename_i o m;split at k
  .rename_i c T p;split at k
   .rename_i Z l;cases k;rw [m] at h n;dsimp only at h
    refine KW.code (Q':=QR {E with df:=df} fn g M0 ob0 aq w0 ks) ?_ (λ a w h=>h) (λ Y a w h=>h) (λ e a w Q=>by cases e<;>first | exact .inl rfl | exact .inr ⟨_,rfl⟩ | exact Q.elim)
    refine wpIn_region_list ?_;rw [m];unfold wpListIn;have W:Fe o (yielded ops a.tmps)=true:=by unfold Fe;rw [T]
    rw [if_pos W];obtain ⟨dst,op,ty,pos,q,X⟩:=o;have p:op= .defer c:=p;subst p;obtain ⟨D,as,z⟩:=c;have l:D= .value (.func f):=l;subst l;have s:(execOp a.eval ⟨dst,.defer ⟨.value (.func f),as,z⟩,ty,pos,q,X⟩).run E.P w= .ok (.defer {target:=.fn (.func f) #[],args:= #[]++as.map a.eval}) w:=rfl;refine ⟨λ_ _=>trivial,?_⟩;rw [show (fen E.rd).round=none from F,Oper.semAt_none,s,Oper.uponIn_defer];obtain ⟨M,ob,O,U,J,I,t,R⟩:=hs;refine h u M0 ob0 aq w0 _ w hst ⟨M,ob,O,U,?_,(eJ _ _ _).1.trans I,?_,R⟩
    .rw [eK];exact lG (a:={a with defers:={target:=Target.fn (Fn.func f) #[],args:= #[]++Array.map a.eval as}::a.defers}) J wZ λ K e=>I▸n _ (Dj.2 rfl) K e
    .rw [C];obtain ⟨L,S,N,t,V⟩:=t;refine cS.put (a:={a with defers:=_}) ⟨_::L,S,by rw [N];rfl,⟨by simp [t.1],λ i d x k s=>?_⟩,V⟩;cases i with
     | zero=>
      simp at k s;subst k s;refine ⟨rfl,?_,λ j v b B r=>?_⟩
      .simp [QP]
      .rw [QP,Bf] at r;simp only [Array.empty_append,Jx,Bf] at B;cases G:as.toList[j]? with
       | none=>rw [G] at r;cases r
       | some y=>
        rw [G] at r B;cases r;cases B;exact DL J y
     | succ i=>exact t.2 i d x (by simpa using k) (by simpa using s)
   .cases k
  .cases k
 .cases k
def To.defer (df:List (Nat×List aa)) {id:Nat} {ops:Array Oper} {ks:List KI} {fr:List (Nat×aa)} {ac:List ab} {f:Nat} {args:List aa} (c:aKw fr ops.toList=some (f,args)) (a:df=(f,args)::E.df)
  (h:To {E with df:=df} fn g (.code ks (match ops.toList with | [o]=>kW fr o.dst (.tup []) | _=>fr) ac)) (b:E.rd=none:=by rfl):To E fn g (.code (.code (.region id ops false)::ks) fr ac):=
 .mk (h.rec λ h=>ND c a b h)
def CP {M0:Imm} {ob0:Hs} {aq:List ab} {w0:World} {sz:Nat} {f:Nat} {args:List aa} {rest:List (Nat×List aa)} {M:Imm} {ob:Hs} {ac ap:List ab} {w:World} {a:Act} {u:FrameMode} {p:Option aa} (g ks:List Nat)
  {fr:List (Nat×aa)} (N:Ext M0 ob0 aq w0 M ob ac w) (H:Mem M ob ac w) (U:∀ t,Rep M ob (a.tmps.getD t undef) (aX fr t)) (Q:a.tmps.size=sz) {o:List Deferred} (n:cS w0 w M ob o ((f,args)::rest)) (x6:ob0.length<=ac.length)
  (s:lT ks (aj g ac)=true) (y:A4 M ob u p)
  (h:zO E.P f (dX (cvtV 0 ks (aC (aj g ac)) 5) args) (iD 0 ks (aj g ac)) (aBK ks (aC (aj g ac)) p) ap) {R:Ending->World->Prop}
  (hl:∀ (q:List Deferred) w',SS M0 ob0 aq w0 sz rest fr (kB ks (aM (aj g ac)) (aj g ac) 0 ap (aj g ac)) {a with defers:=q} w'->eZ E.P fn a.tmps R q .returning w'):eZ E.P fn a.tmps R o u w:=by
 obtain ⟨A,k,rfl,n,W⟩:=n;cases A with
 | nil=>have:=n.1;simp at this
 | cons d o=>
  obtain ⟨c,b⟩:=n.2 0 d _ rfl rfl;obtain ⟨F,z,C,_,_⟩:=Mem.frzs g M ac H;obtain ⟨V,_,_⟩:=z.cvt (n0:=0) s;have l:cA F _ d.args.toList (dX (cvtV 0 ks (aC (aj g ac)) 5) args):=xF (λ v a=>z.cvtV (n0:=0) s 5 v a) ⟨b.1,λ i v a D I=>(b.2 i v a D I).monoM C.imm⟩;have m:A4 F (eO 0 ob (aj g ac) 0 ks) u (aBK ks (aC (aj g ac)) p):=by
   cases p with
   | none=>exact y
   | some v=>
    obtain ⟨x,e,S⟩:=y;exact ⟨x,e,z.cvtV s 5 _ _ (S.monoM C.imm)⟩
  obtain ⟨h1,L⟩:=h F _ w d.args.toList u V l m;have G:u≠ .run:=by
   cases p with
   | none=>have:u= .returning:=y;rw [this];simp
   | some v=>obtain ⟨x,e,_⟩:=y;rw [e];simp
  obtain ⟨B,r⟩:=d;have c:B= .fn (.func f) #[]:=c;subst c;refine ⟨G,.inr ⟨.func f,#[],f,r,rfl,?_,?_⟩⟩
  .show (callFunc f (r++ #[])).run E.P w=_;simp;omega
  .refine L.mono λ e u' w' ⟨v,M',Y,Z,X,K,O⟩=>?_;subst Z;dsimp only;rw [X];obtain ⟨J,T,_⟩:=z.emb s K O;have ext:=C.trans T;refine hl (o++k) w' ?_;rw [bG];refine ⟨M',_,N.trans ext,J,λ t=>(U t).mono ext.imm ext.hs,Q,?_,?_⟩
   .refine ⟨o,k,rfl,⟨by have:=n.1;simpa using this,λ i d x hd hx=>?_⟩,(cS.ext (M:=M) (ob:=ob) ⟨[],k,rfl,.nil,W⟩ H ext).marks⟩;have:=n.2 (i+1) d x q_ q_;exact ⟨this.1,this.2.1,λ j v a D I=>(this.2.2 j v a D I).mono ext.imm ext.hs⟩
   .have:=ext.lens;have:=J.len;have:=H.len;omega
def To.leave (df:List (Nat×List aa)) {f:Nat} {args:List aa} (j:E.df=(f,args)::df) (b ks:List Nat) {p:Option aa} {fr:List (Nat×aa)} {ac ap:List ab} (q:lT ks (aj b ac)=true)
  (h:zO E.P f (dX (cvtV 0 ks (aC (aj b ac)) 5) args) (iD 0 ks (aj b ac)) (aBK ks (aC (aj b ac)) p) ap)
  (d:To {E with df:=df} fn g (.leave none fr (kB ks (aM (aj b ac)) (aj b ac) 0 ap (aj b ac)))):To E fn g (.leave p fr ac):=by
 obtain ⟨d⟩:=d;have d:aD6 {E with df:=df} fn g fr (kB ks (aM (aj b ac)) (aj b ac) 0 ap (aj b ac)):=d;refine .mk ?_;cases p with
 | none=>
  intro M0 ob0 aq w0 a w hst ⟨M,ob,k,o,n,l,i,m⟩;rw [j] at i;exact CP (p:=none) b ks k o n l i m q rfl h λ c w' hs=>d M0 ob0 aq w0 {a with defers:=c} w' hst hs
 | some v=>
  intro M0 ob0 aq w0 s a w hst ⟨M,ob,k,o,⟨x,e,r⟩,n,l,i,m⟩;rw [j] at i;exact CP (p:=some v) b ks k o n l i m q ⟨x,by rw [e],r⟩ h λ c w' hs=>d M0 ob0 aq w0 {a with defers:=c} w' hst hs
def To.left (hE:ae E) (b:E.df=[]) {fr:List (Nat×aa)} {ac:List ab} {v:aa} (d:aAS E ac fn.results.toList fr=some v) (h:NW g .ret v ac) (c:E.rd=none:=by rfl):To E fn g (.leave none fr ac):=
 .mk λ M0 ob0 aq w0 a w hst hs=>go_ret hE b c d h hst hs
end
def lQ (r:Nat):Code->List KI->Option (List KI)
 | .region id _ _,ks=>bif Aw id r then some ks else none
 | .seq a b,ks=>(match lQ r a (.code b::ks) with | some x=>some x | none=>lQ r b ks)
 | .cond _ a b,ks=>(match lQ r a ks with | some x=>some x | none=>lQ r b ks)
 | .block id b,ks=>lQ r b (.inB id::ks)
 | .loop b,ks=>lQ r b (.inL b::ks)
 | _,_=>none
def iM (fn:Func) (r:Nat):List KI:=match lQ r (dG fn) [] with | some ks=>ks | none=>[]
def To.cutC {E:Env} {fn:Func} {g:Goal} {ks:List KI} {fr:List (Nat×aa)} {ac:List ab} (l:List Nat) (n:Nat) (b:Fw g.n0 n=true) (d:aDL n (mE l fr)=true) (a:EX n (nN n ac)=true) (c:Y7 n E.df=true)
  (h:To E fn g (.code ks (mE l fr) (nN n ac))):To E fn g (.code ks fr ac):=by
 have:=To.cut (E:=E) (fn:=fn) (g:=g) (ks:=ks) (fr:=fr) (ac:=ac) l n b d a c (h.rec λ h=>.mk h);exact this.rec λ h=>.mk h
def T3:St->Bool
 | .head _ _ _=>false
 | _=>true
def goN {E:Env} {fn:Func} {g:Goal} (hE:ae E) (a:Nat) {st:St} (_hs:T3 st=true) (h:bS E fn g (To E fn g) a st):To E fn g st:=cO hE a h
def K5 {w:World} {b:Nat} {u s q:Value} {T:TypeId} (h:w.heap[b]? =some (.cells #[u,s] T (0,0))):w.setCell ⟨b,0,none⟩ q=w.setRow b #[q,s]:=by
 unfold World.setCell World.setRow;congr 1;refine Array.ext_getElem? λ i=>?_;by_cases a:b=i
 .subst a;rw [Fi,Fi,if_pos rfl,if_pos rfl,h];rfl
 .rw [Fi,Fi,if_neg a,if_neg a]
def mZ {P:Program} {f:FuncId} {T:TypeId} (y:nC P f)
  (z:∀ (b:Nat) (w:World),w.cell? ⟨b,0,none⟩=some (.pointer none)->w.shape? b=some (T,2)->w.frozen? ⟨b,0,none⟩=false->Calls P f #[.pointer (some ⟨b,0,none⟩)] w λ e w'=>e= .returned (.tuple #[])/\w'=w.setCell ⟨b,0,none⟩ (.pointer (some ⟨b,0,none⟩)))
  (s:aa):aA P f [.ref 0 0] [.cells T [.nilptr,s]] (.ret (.tup [])) [.cells T [.ref 0 0,s]]:=by
 intro M ob w h hm r;obtain ⟨hl,r⟩:=r
 match h,hl with
 | [v],_=>
 obtain ⟨b,rfl,c⟩:=(r 0 _ _ rfl rfl).ref_inv;obtain ⟨hs,C,m,rfl,B,cv,j,p,h1,d⟩:=hm.obj 0 _ rfl;have q:m=b:=by rw [bV C] at c;simpa using c
 subst q
 match cv,p with
 | [u,t],_=>
 have A:u= .pointer none:=by have:=d 0 u _ rfl rfl;cases this;rfl
 subst A;have j:w.heap[m]? =some (.cells #[.pointer none,t] T (0,0)):=j;have l:=h1 t s_;refine .inl ⟨y _ _,(z m w (by simp [Km,j]) (by simp [Ji,j]) (by simp [Lv,j])).mono ?_⟩;rintro e w' ⟨rfl,rfl⟩;rw [K5 j]
 have:=hm.cellsTurn (k:=0) (cs':=[.ref 0 0,s]) (cv':=[.pointer (some ⟨m,0,none⟩),t]) rfl c rfl (λ x n=>by
  rcases Bb.1 n with rfl | n
  .rfl
  .rcases Bb.1 n with rfl | n
   .exact l
   .cases n) (λ i v a g o=>by
  match i with
  | 0=>
   simp at g o;subst g o;exact .ref 0 0 m c
  | 1=>
   simp at g o;subst g o;exact d 1 _ _ rfl rfl
  | i+2=>simp at g)
 exact ⟨M,ob,this.2.1,this.1,.tup [] [] rfl (λ i v a g=>by simp at g)⟩
def HL (g n:Nat) (w w':World):Prop:=w'.os=w.os/\w'.tape=w.tape/\w'.output=w.output/\w'.heap=(w.freeze ⟨g,0,none⟩ n).heap
def QL {w:World} {g n:Nat} (h:n≠0):HL g n w (w.drew.freeze ⟨g,0,none⟩ n):=by unfold HL Ml;rw [if_neg h,if_neg h];exact ⟨rfl,rfl,rfl,rfl⟩
def GF {w:World} {g n k:Nat} (h:g≠k):(w.freeze ⟨g,0,none⟩ n).heap[k]? =w.heap[k]?:=by
 unfold Ml;split
 .rfl
 .simp only [Fi,if_neg h]
def aCy {w:World} {g n:Nat}:(w.freeze ⟨g,0,none⟩ n).heap.size=w.heap.size:=by
 unfold Ml;split
 .rfl
 .simp
def aCz {w:World} {g n b o:Nat}:(w.freeze ⟨g,0,none⟩ n).cell? ⟨b,o,none⟩=w.cell? ⟨b,o,none⟩:=by
 by_cases h:g=b
 .subst h;unfold Ml;split
  .rfl
  .unfold Km;simp only [Fi,if_true];cases h:w.heap[g]? with
   | none=>rfl
   | some x=>cases x<;>rfl
 .exact Cr (w:=w) (a:=⟨b,o,none⟩) (GF h)
def lO {P:Program} {f:FuncId} {T e:TypeId} (O:nC P f)
  (hc:∀ (b g cap:Nat) (p:Value) (d:Array Value) (l:List UInt8) (w:World),w.heap[b]? =some (.cells #[p,.slice (some ⟨g,0,none⟩) l.length cap] T (0,0))->w.heap[g]? =some (.cells d e (0,0))->l≠[]->
   l.length<=cap->cap<=maxLen->d.size=cap->(∀ (j:Nat) x,l[j]? =some x->w.cell? ⟨g,j,none⟩=some (.int .u8 x.toNat))->
   Calls P f #[.pointer (some ⟨b,0,none⟩)] w λ e w'=>e= .returned (.string ⟨l.toArray⟩)/\HL g l.length w w')
  (l:List UInt8) (N:l≠[]) (p:aa):aA P f [.ref 0 0] [.cells T [p,.slice 1 (l.map ub) (.own 1 0)],.tail 0 1 e] (.ret (.str l)) [.dead,.dead]:=by
 intro M ob w r hm L;obtain ⟨hl,L⟩:=L
 match r,hl with
 | [v],_=>
 obtain ⟨b,rfl,B⟩:=(L 0 _ _ rfl rfl).ref_inv;obtain ⟨hs,e1,Z,rfl,hno,cv,K,J,h1,C⟩:=hm.obj 0 _ rfl;have X:Z=b:=by rw [bV e1] at B;simpa using B
 subst X
 match cv,J with
 | [u,t],_=>
 have K:w.heap[Z]? =some (.cells #[u,t] T (0,0)):=K;have F:=C 1 t _ rfl rfl;obtain ⟨F,i⟩:=F.untok;have i:at' ob 1 0=some t:=i;obtain ⟨hs1,R,k2,v1,k3,n,cw,I,k5⟩:=hm.obj 1 _ rfl;have Y:v1=t:=by rw [bV R,k3] at i;simpa using i
 subst Y;have hn:n=(l.map ub).length:=yS F I;have D:(l.map ub).length=l.length:=by simp
 have hlm:=F.slice_inv;obtain ⟨_,_,_,_,_,q⟩:=hlm;rw [D] at q hn;have hpos:0<l.length:=Dy.2 N;subst hn;have k4':=I;obtain ⟨hcwl,hor⟩:=I;rcases hor with ⟨rfl,hz⟩ | ⟨g,cap,d,rfl,_,hg,hnc,Q,hcs,V⟩
 .omega
 have m:∀ (j:Nat) x,l[j]? =some x->w.cell? ⟨g,j,none⟩=some (.int .u8 x.toNat):=λ j x S=>by
  rcases F.sl_inv with ⟨h1,_⟩ | ⟨_,_,_,h1⟩ | ⟨b2,o2,cap2,h1,_,_,_,h⟩
  .cases h1
  .exact absurd (List.map_eq_nil_iff.1 h1) N
  .simp only [Value.slice.injEq,Ds,Addr.mk.injEq] at h1;obtain ⟨⟨rfl,rfl,_⟩,_,_⟩:=h1;have hM:=h j 0 (ub x) (ub x) (by simp [S]) rfl;obtain ⟨u',A,_,W⟩:=hm.imm _ _ _ hM;rw [show 0+j*1+0=j from by omega] at A;rw [A];have:=W.int_inv;rw [this.1]
 refine .inl ⟨O _ _,(hc Z g cap u d l w K hg N hnc Q o_ m).mono ?_⟩;rintro e w' ⟨rfl,hos,s,G,a⟩;have y:∀ b o,w'.cell? ⟨b,o,none⟩=w.cell? ⟨b,o,none⟩:=λ b o=>by
  have:w'.cell? ⟨b,o,none⟩=(w.freeze ⟨g,0,none⟩ l.length).cell? ⟨b,o,none⟩:=by unfold Km;rw [a]
  rw [this,aCz]
 have dead:∀ (k b:Nat),¬ aG ob [.dead,.dead] k b:=λ k b ⟨c,hs,h1,H,_⟩=>by
  match k with
  | 0=>simp at h1;subst h1;cases H
  | 1=>simp at h1;subst h1;cases H
  | k+2=>simp at h1
 refine ⟨M,ob,?_,?_,.str l q⟩
 .refine ⟨λ_ _ _ h=>h,λ_ _ _ h=>.inl h,dE.refl _,hos,s,G,by rw [a,aCy];omega,λ k z U=>?_,λ k b h=>absurd h (dead k b)⟩;rw [a,GF];intro e;subst e;refine U 1 ⟨_,hs1,rfl,rfl,R,?_⟩;rw [dT k2 k3];exact dM.2 rfl
 .refine ⟨λ b o x S=>?_,hm.len,λ k c z=>?_,λ k b h=>absurd h (dead k b),λ k _ b h=>absurd h (dead k b)⟩
  .obtain ⟨v,h1,H,h3⟩:=hm.imm b o x S;exact ⟨v,by rw [y];exact h1,H,h3⟩
  .match k with
   | 0=>simp at z;subst z;exact ⟨_,e1,trivial⟩
   | 1=>simp at z;subst z;exact ⟨_,R,trivial⟩
   | k+2=>simp at z
def M5 (k:IntKind):∃ p,bE k+1=2 ^ p/\p<=k.bits:=by
 cases k
 .exact ⟨7,by decide,by decide⟩
 .exact ⟨15,by decide,by decide⟩
 .exact ⟨31,by decide,by decide⟩
 .exact ⟨63,by decide,by decide⟩
 .exact ⟨8,by decide,by decide⟩
 .exact ⟨16,by decide,by decide⟩
 .exact ⟨32,by decide,by decide⟩
 .exact ⟨64,by decide,by decide⟩
def aF6 (k:IntKind):cJ k<=0:=by cases k<;>decide
def rZ {k:IntKind} {a:Nat} (h:(a:Int)<=bE k):inR k a:=⟨Fk (aF6 k) (Int.natCast_nonneg a),h⟩
def rX (n a:Nat) (h:a<2 ^ n):(BitVec.ofInt n (a:Int)).toNat=a:=by grind
def IZ {k:IntKind} {a p:Nat} (hp:bE k+1=2 ^ p) (h:(a:Int)<=bE k):a<2 ^ p:=by grind
def aBV {k:IntKind} {a p:Nat} (hp:bE k+1=2 ^ p) (h:a<2 ^ p):(a:Int)<=bE k:=by grind
def nZ (k:IntKind) (a b:Nat) (e:(a:Int)<=bE k) (g:(b:Int)<=bE k):dF .or k a b=((a ||| b:Nat):Int):=by obtain ⟨p,hp,c⟩:=M5 k;have h1:=IZ hp e;have f:=IZ hp g;have d:2 ^ p<=2 ^ k.bits:=Ew d_ c;simp only [dF,BitVec.toNat_or,rX k.bits a o_,rX k.bits b o_];exact jK (rZ (aBV hp (Nat.or_lt_two_pow h1 f)))
def xS (k:IntKind) (a b:Nat) (e:(a:Int)<=bE k) (g:(b:Int)<=bE k):dF .and k a b=((a &&& b:Nat):Int):=by obtain ⟨p,hp,c⟩:=M5 k;have h1:=IZ hp e;have f:=IZ hp g;have d:2 ^ p<=2 ^ k.bits:=Ew d_ c;simp only [dF,BitVec.toNat_and,rX k.bits a o_,rX k.bits b o_];exact jK (rZ (aBV hp (Nat.and_lt_two_pow _ f)))
def CC {a b i:Nat} (h:a<2 ^ i):a ||| (b*2 ^ i)=a+b*2 ^ i:=by have:=Ii h b;rw [Nat.or_comm,De b,<-this,Md]
def aHU (a p:Nat):a &&& (2 ^ p-1)=a % 2 ^ p:=Jv a p
def HM (n:Nat):IntKind.u8.wrap (n:Int)=((n % 256:Nat):Int):=by rfl
set_option maxRecDepth 8000 in
def aJu:∀ m:Fin 256,m.val ||| 128=128+m.val % 128:=by decide
def KK {m:Nat} (h:m<256):ub (Dm m)= .int .u8 m:=by simp only [ub];simp;omega
def RF (n0:Nat) (ks:List Nat) (og:Nat->ab):List (Nat×aa)->List (Nat×aa)
 | []=>[]
 | (i,v)::r=>(i,cvtV n0 ks og 5 v)::RF n0 ks og r
def xO (n0:Nat) (ks:List Nat) (og:Nat->ab) (t:Nat):∀ (fr:List (Nat×aa)),aX (RF n0 ks og fr) t=cvtV n0 ks og 5 (aX fr t)
 | []=>rfl
 | (i,v)::r=>by
  simp only [RF,aX];cases Aw i t with
  | true=>rfl
  | false=>exact xO n0 ks og t r
def To.part {E:Env} {fn:Func} {g:Goal} {st:List KI} {fr:List (Nat×aa)} {ac:List ab} (l:List Nat) (ks:List Nat) (o:E.df=[]) (u:lT ks ac=true) (s:jW g.n0 0 ks=true)
  (h:To E fn g (.head st (RF g.n0 ks (aC ac) (mE l fr)) (iD g.n0 ks ac))) (d:g.strict=true:=by rfl):To E fn g (.head st fr ac):=
 .mk λ q M0 ob0 aq w0 a w hst hs=>by
  refine h.rec λ h=>h q M0 ob0 aq w0 a w hst ?_;obtain ⟨M,ob,c,hm,m,H,x,I⟩:=hs;obtain ⟨z,D,_⟩:=hm.cvt (n0:=g.n0) u;have r:ob0.length=g.n0:=hst.1;have y:(iD g.n0 ks ac).length=ks.length:=by unfold iD;rw [nF]
  have B:ob0.length<=ks.length:=by
   rw [r];rcases Fp g.n0 with C | C
   .omega
   .have:=kN s (g.n0-1) o_;have:=(Ab.1 this).1;omega
  refine ⟨M,_,⟨c.imm,c.new,λ j hs i=>?_,c.os,c.tape,c.output,c.size,c.keep,λ j b F=>?_⟩,z,λ t=>?_,H,?_,by omega⟩
  .have p:j<g.n0:=by rw [<-r];exact (Ab.1 i).1
   have f:=kN s j p;rw [Bo] at f;obtain ⟨hs',G,t,v⟩:=c.hs j hs i;have A:=hst.2 d hs (Au i);refine ⟨iI g.n0 j (aC ac j) hs',?_,?_⟩
   .rw [gM,f];simp [G]
   .unfold iI;split
    .rw [<-v];have:(hs++t).take 1=hs:=by rw [Dc o_,Cf o_]
     rw [this];simp
    .exact ⟨t,v⟩
  .obtain ⟨k,_,n⟩:=D j b F;exact c.fresh k b n
  .rw [xO];have:Rep M ob (a.tmps.getD t undef) (aX (mE l fr) t):=by
    rcases pC fr t l with e | e
    .rw [e];exact m t
    .rw [e];exact .undef _
   exact hm.cvtV (n0:=g.n0) u 5 _ _ this
  .rw [o] at x⊢;exact x.bare
def K6:List aa->Nat->aa->List aa
 | [],_,_=>[]
 | _::r,0,x=>x::r
 | c::r,n+1,x=>c::K6 r n x
def H3:∀ (l:List aa) (n:Nat) (x:aa),K6 l n x=l.set n x
 | [],_,_=>rfl
 | _::_,0,_=>rfl
 | c::r,n+1,x=>by simp [K6,H3 r n x]
def kF:List ab->ab->List ab
 | [],x=>[x]
 | c::r,x=>c::kF r x
def nJ:∀ (l:List ab) (x:ab),kF l x=l++[x]
 | [],_=>rfl
 | c::r,x=>by simp [kF,nJ r x]
def Mem.beginC {M:Imm} {ob:Hs} {ac:List ab} {w:World} (hm:Mem M ob ac w) {k i sz:Nat} {T e:TypeId} {cs:List aa} (C:ac[k]? =some (.cells T cs)) (K:cs[i]? =some (.slice sz [] .nil)):
  Mem M (ob++[[.slice none 0 0]]) (ac.set k (.cells T (cs.set i (.slice sz [] (.own ac.length 0))))++[.tail 0 sz e]) w/\
   Ext M ob ac w M (ob++[[.slice none 0 0]]) (ac.set k (.cells T (cs.set i (.slice sz [] (.own ac.length 0))))++[.tail 0 sz e]) w/\dE ob (ob++[[.slice none 0 0]]):=by
 have l:dE ob (ob++[[.slice none 0 0]]):=λ j hs d=>⟨hs,by rw [Ag (Ab.1 d).1];exact d,Cn _⟩
 have q:k<ac.length:=(Ab.1 C).1;have f:(ob++[[.slice none 0 0]])[ac.length]? =some [.slice none 0 0]:=by rw [<-hm.len];simp
 have D:at' (ob++[[.slice none 0 0]]) ac.length 0=some (.slice none 0 0):=by rw [bV f];rfl
 have o:∀ {j:Nat} {c:ab},(ac.set k (.cells T (cs.set i (.slice sz [] (.own ac.length 0))))++[.tail 0 sz e])[j]? =some c->
   (j=ac.length/\c= .tail 0 sz e)\/(j=k/\c= .cells T (cs.set i (.slice sz [] (.own ac.length 0))))\/(j≠k/\j<ac.length/\ac[j]? =some c):=λ{j c} d=>by
  by_cases B:j<ac.length
  .rw [Ag q_] at d;by_cases p:j=k
   .subst p;rw [Ar B] at d
    grind
   .rw [Ay (Em p)] at d
    grind
  .have m:j=ac.length:=by have:=(Ab.1 d).1;simp at this;omega
   subst m;rw [Ak s_] at d;simp at d
   grind
 have x:∀ {j b:Nat},aG (ob++[[.slice none 0 0]]) (ac.set k (.cells T (cs.set i (.slice sz [] (.own ac.length 0))))++[.tail 0 sz e]) j b->aG ob ac j b:=λ{j b} ⟨c,hs,r,u,e3,e4⟩=>by
  rcases o r with ⟨rfl,rfl⟩ | ⟨rfl,rfl⟩ | ⟨h1,m,h3⟩
  .rw [f] at e3;cases e3;cases e4
  .rw [Ag (by rw [hm.len];exact q)] at e3;exact ⟨_,hs,C,rfl,e3,e4⟩
  .rw [Ag (by rw [hm.len];exact m)] at e3;exact ⟨c,hs,h3,u,e3,e4⟩
 have H:∀ (j:Nat) c,(ac.set k (.cells T (cs.set i (.slice sz [] (.own ac.length 0))))++[.tail 0 sz e])[j]? =some c->∃ hs,(ob++[[.slice none 0 0]])[j]? =some hs/\gQ M (ob++[[.slice none 0 0]]) w hs c:=λ j c d=>by
  rcases o d with ⟨rfl,rfl⟩ | ⟨rfl,rfl⟩ | ⟨h1,m,h3⟩
  .exact ⟨_,f,rfl,_,rfl,0,[],Hf w 0 _ _,λ b N=>by cases N⟩
  .obtain ⟨hs,r,b,y,G,cv,I,L,z,t⟩:=hm.obj _ _ C;refine ⟨hs,by rw [Ag (by rw [hm.len];exact q)];exact r,b,y,G,cv,I,by simp;omega,z,λ n v a s g=>?_⟩;by_cases J:n=i
   .subst J;have F:n<cs.length:=(Ab.1 K).1;rw [Ar F] at g;cases g;have:=t n v _ s K;obtain ⟨_,A⟩:=this.untok;have A:v= .slice none 0 0:=A;subst A;exact .slnil _ _ D
   .rw [Ay (Em J)] at g;exact (t n v a s g).mono (λ_ _ _ h=>h) l
  .obtain ⟨hs,r,u⟩:=hm.obj j c h3;refine ⟨hs,by rw [Ag (by rw [hm.len];exact m)];exact r,?_⟩;cases c with
   | cells P cs'=>
    obtain ⟨b,y,G,cv,I,L,z,t⟩:=u;exact ⟨b,y,G,cv,I,L,z,λ n v a s g=>(t n v a s g).mono (λ_ _ _ h=>h) l⟩
   | _=>exact u
 refine ⟨⟨hm.imm,by simp [hm.len],H,λ j b g=>hm.lt j b (x g),λ j O b h1 m=>hm.inj j O b (x h1) (x m)⟩,⟨λ_ _ _ h=>h,λ_ _ _ h=>.inl h,l,rfl,rfl,rfl,Bc _,λ_ _ _=>rfl,λ j b g=>.inl ⟨j,x g⟩⟩,l⟩
def To.begin {E:Env} {fn:Func} {g:Goal} {st:List KI} {fr:List (Nat×aa)} {ac:List ab} (k i:Nat) (e:TypeId) {T:TypeId} {cs:List aa} {sz:Nat} (l:aC ac k= .cells T cs) (n:nth cs i=some (.slice sz [] .nil))
  (h:To E fn g (.head st fr (kF (bJ ac k (.cells T (K6 cs i (.slice sz [] (.own (aM ac) 0))))) (.tail 0 sz e)))):To E fn g (.head st fr ac):=
 .mk λ d M0 ob0 aq w0 a w hst hs=>by refine h.rec λ h=>h d M0 ob0 aq w0 a w hst ?_;obtain ⟨M,ob,p,hm,c,q,o,r⟩:=hs;have b:=bD l s_;obtain ⟨j,m,f⟩:=hm.beginC (e:=e) b (kY n);rw [nJ,H3,bG,aO b];exact ⟨M,_,p.trans m,j,λ t=>(c t).mono (λ_ _ _ h=>h) f,q,o.mono (λ_ _ _ h=>h) f,by simp;omega⟩
def mapO (f:aa->aa):ab->ab
 | .cells T cs=>.cells T (dX f cs)
 | x=>x
def sR (f:aa->aa):List ab->List ab
 | []=>[]
 | x::r=>mapO f x::sR f r
def CL (f:aa->aa):∀ (l:List ab),sR f l=l.map (mapO f)
 | []=>rfl
 | x::r=>by simp [sR,CL f r]
def aA.mapO {P:Program} {f:FuncId} {args:List aa} {ac ap:List ab} {r:Res} (g:aa->aa) (D:∀ (M:Imm) (ob:Hs) v a,Rep M ob v a->Rep M ob v (g a)) (h:aA P f args ac r ap):aA P f args ac r (sR g ap):=by
 rw [CL];intro M ob w m hm G;have key:∀ {e:Ending} {w':World},(∃ M' ob',Ext M ob ac w M' ob' ap w'/\Mem M' ob' ap w'/\rK M' ob' e r)->∃ M' ob',Ext M ob ac w M' ob' (ap.map (AW.mapO g)) w'/\Mem M' ob' (ap.map (AW.mapO g)) w'/\rK M' ob' e r:=by
  rintro e w' ⟨M',ob',h1,l,h3⟩;have own:∀ x:ab,(AW.mapO g x).owns=x.owns:=λ x=>by cases x<;>rfl
  have p:∀ {k b:Nat},aG ob' (ap.map (AW.mapO g)) k b->aG ob' ap k b:=λ{k b} ⟨c,hs,o,t,e3,e4⟩=>by
   rw [Bf] at o;cases n:ap[k]? with
   | none=>simp_all
   | some x=>
    rw [n] at o;cases o;exact ⟨x,hs,n,by grind,e3,e4⟩
  refine ⟨M',ob',⟨h1.imm,h1.new,h1.hs,h1.os,h1.tape,h1.output,h1.size,h1.keep,λ k b d=>h1.fresh k b (p d)⟩,⟨l.imm,by simpa using l.len,λ k c q=>?_,λ k b d=>l.lt k b (p d),λ i j b d B=>l.inj i j b (p d) (p B)⟩,h3⟩;rw [Bf] at q;cases n:ap[k]? with
  | none=>grind
  | some x=>
   rw [n] at q;cases q;obtain ⟨hs,o,t⟩:=l.obj k x n;refine ⟨hs,o,?_⟩;cases x with
   | cells T cs=>
    obtain ⟨b,z,H,cv,I,J,A,F⟩:=t;refine ⟨b,z,H,cv,I,by rw [vN];simp;omega,A,λ i v a C d=>?_⟩;rw [vN,Bf] at d;cases s:cs[i]? with
    | none=>rw [s] at d;cases d
    | some y=>rw [s] at d;cases d;exact D _ _ _ _ (F i v y C s)
   | _=>exact t
 rcases h M ob w m hm G with ⟨h1,l⟩ | ⟨u,w',h1,l⟩
 .exact .inl ⟨h1,l.mono λ e w' h=>key h⟩
 .exact .inr ⟨u,w',h1,key l⟩
def aA.blur {P:Program} {f:FuncId} {args:List aa} {ac ap:List ab} {r:Res} (h:aA P f args ac r ap):aA P f args ac r (sR (λ_=>.undef) ap):=
 h.mapO _ λ_ _ _ _ _=>.undef _
def aA.loose {P:Program} {f:FuncId} {args:List aa} {ac ap:List ab} {r:Res} (h:aA P f args ac r ap):aA P f args ac r (sR (AW.strip 5) ap):=
 h.mapO _ λ_ _ _ _=>rQ 5
def vZ (l:List Nat) (og:Nat->ab):List (Nat×aa)->List (Nat×aa)
 | []=>[]
 | (i,v)::r=>(i,bif sL i l then ah og 5 v else v)::vZ l og r
def GE (l:List Nat) (og:Nat->ab) (t:Nat):∀ (fr:List (Nat×aa)),aX (vZ l og fr) t=aX fr t\/aX (vZ l og fr) t=ah og 5 (aX fr t)
 | []=>.inl rfl
 | (i,v)::r=>by
  simp only [vZ,aX];cases Aw i t with
  | true=>
   grind
  | false=>exact GE l og t r
def To.frz {E:Env} {fn:Func} {g:Goal} {st:List KI} {fr:List (Nat×aa)} {ac:List ab} (l c:List Nat)
  (h:To E fn g (.code st (vZ l (aC (AW.aj c ac)) fr) (AW.aj c ac))):To E fn g (.code st fr ac):=
 .mk λ f M0 ob0 aq w0 a w hst hs=>by
  refine h.rec λ h=>h f M0 ob0 aq w0 a w hst ?_;obtain ⟨M,ob,k,hm,b,m,j,n⟩:=hs;obtain ⟨M',i,d,_,o⟩:=Mem.frzs c M ac hm;refine ⟨M',ob,k.trans d,i,λ t=>?_,m,j.mono d.imm (dE.refl _),by omega⟩;rcases GE l (aC (AW.aj c ac)) t fr with e | e
  .rw [e];exact (b t).monoM d.imm
  .rw [e];exact (i.pureV 5 _ _ ((b t).monoM d.imm)).pure
def P2 {P:Program} {w:World} {r:Reach} {b:Nat} {t:TypeId} {v:Value} (a:aP P t=true) (h:Lc P w r b t v):∃ cs:Array Value,v= .agg cs:=by
 unfold Lc at h;unfold aP at a;split at h
 .grind
 .grind
 grind
structure Bulk (H:Type) (N:Nat) (G:DataW H->Prop):Prop where
 str:∀ (l:List UInt8),G (.lit (.string l))->l.length<=N
 sl:∀ (e r:List (DataW H)),G (.slice e r)->e.length<=N/\∀ d∈e,G d
 agg:∀ (l:List (DataW H)),G (.agg l)->∀ d∈l,G d
def TyN (P:Program) (N:Nat):Nat->TypeId->List aa->Prop
 | 0,_,_=>False
 | n+1,t,cs=>match P.underlying t with
  | some .bool=>∃ b,cs=[.bool b]
  | some (.int k)=>∃ m,cs=[.int k m]/\inR k m
  | some .string=>∃ l,cs=[.str l]/\l.length<=N
  | some (.struct fs)=>TyF (TyN P N n) fs.toList cs
  | some (.array m e)=>∃ xs:List (List aa),xs.length=m/\(∀ x∈xs,TyN P N n e x)/\cs=xs.flatten
  | some (.slice e)=>∃ xs,cs=[.slice (P.cellsOf e) xs .no]/\xs.length<=N/\∀ x∈xs,TyN P N n e x.cells/\(aP P e=true->∃ l,x= .agg l)/\(aP P e=false->x.cells=[x])
  | _=>False
section
variable {H:Type} {N:Nat} {G:DataW H->Prop} {enc:TypeId×Value->H} {P:Program} {w:World} {base:Nat} {spare:Nat->Bool} {held:Bool}
def IO {n m:Nat} (v:∀ t,pM P n t=true->∀ cs x,DataW.trod enc P w base spare held m t cs=some x->G x.1->∃ as,fZ w cs as/\TyN P N n t as) (cs:List Value):
  ∀ (c:List Field) (off:Nat),(∀ f∈c,∃ y,DataW.trod enc P w base spare held m f.type ((cs.drop f.offset).take (P.cellsOf f.type))=some y/\G y.1)->HX P (pM P n) off c cs.length=true->
   ∃ as,fZ w (cs.drop off) as/\TyF (TyN P N n) c as:=by
 intro c;induction c with
 | nil=>
  intro off _ h;have:=aB h;subst this;exact ⟨[],by simpa using fZ.nil,rfl⟩
 | cons f c e=>
  intro off l h;simp only [HX,Ad] at h;obtain ⟨⟨h1,p⟩,h3⟩:=h;have d:=aB h1;obtain ⟨y,s,k⟩:=l f s_;obtain ⟨a,o,j⟩:=v f.type p _ y s k;obtain ⟨b,q,i⟩:=e (off+P.cellsOf f.type) (λ g r=>l g (by simp [r])) h3;refine ⟨a++b,?_,a,b,rfl,j,i⟩;have u:cs.drop off=(cs.drop off).take (P.cellsOf f.type)++cs.drop (off+P.cellsOf f.type):=by rw [<-Hk,Bq]
  rw [u];rw [d] at o;exact o.append q
def MA {n m:Nat} {e:TypeId} (j:pM P n e=true) (r:∀ t,pM P n t=true->∀ cs x,DataW.trod enc P w base spare held m t cs=some x->G x.1->∃ as,fZ w cs as/\TyN P N n t as) (cs:List Value):
  ∀ (k:Nat),k*P.cellsOf e<=cs.length->(∀ i,i<k->∃ y,DataW.trod enc P w base spare held m e ((cs.drop (i*P.cellsOf e)).take (P.cellsOf e))=some y/\G y.1)->
   ∃ c:List (List aa),c.length=k/\(∀ x∈c,TyN P N n e x)/\fZ w (cs.take (k*P.cellsOf e)) c.flatten:=by
 intro k;induction k with
 | zero=>intro _ _;exact ⟨[],rfl,λ x b=>by simp at b,by simpa using fZ.nil⟩
 | succ k d=>
  intro l h;rw [Bx,Gt] at l;obtain ⟨c,l1,l2,p⟩:=d o_ (λ i s=>h i o_);obtain ⟨y,o,g⟩:=h k o_;obtain ⟨a,q,f⟩:=r e j _ y o g;refine ⟨c++[a],by simp [l1],λ x b=>?_,?_⟩
  .rcases Az.1 b with b | b
   .exact l2 x b
   .simp at b;subst b;exact f
  .rw [Bx,Gt,List.take_add];simp only [List.flatten_append,List.flatten_cons,List.flatten_nil,Av];exact p.append q
def TyN.pack {n:Nat} {t:TypeId} {as:List aa} (h:TyN P N n t as):∃ x:aa,x.cells=as/\(aP P t=true->∃ l,x= .agg l)/\(aP P t=false->x.cells=[x]):=by
 cases n with
 | zero=>exact h.elim
 | succ n=>
  unfold TyN at h;cases a:aP P t with
  | true=>exact ⟨.agg as,rfl,(λ_=>⟨_,rfl⟩),λ h=>by cases h⟩
  | false=>
   unfold aP at a;split at h
   .obtain ⟨b,rfl⟩:=h;exact ⟨.bool b,rfl,(λ h=>by cases h),λ_=>rfl⟩
   .rename_i k _;obtain ⟨m,rfl,_⟩:=h;exact ⟨.int k m,rfl,(λ h=>by cases h),λ_=>rfl⟩
   .obtain ⟨l,rfl,_⟩:=h;exact ⟨.str l,rfl,(λ h=>by cases h),λ_=>rfl⟩
   .grind
   .grind
   .rename_i e _;obtain ⟨xs,rfl,_⟩:=h;exact ⟨.slice (P.cellsOf e) xs .no,rfl,(λ h=>by cases h),λ_=>rfl⟩
   grind
def MB {n m:Nat} {e:TypeId} (v:pM P n e=true) (D:∀ t,pM P n t=true->∀ cs x,DataW.trod enc P w base spare held m t cs=some x->G x.1->∃ as,fZ w cs as/\TyN P N n t as) (a:Addr):
  ∀ (k:Nat),(∀ i,i<k->∃ y,((w.cells? base (a.add (i*P.cellsOf e)) (P.cellsOf e)).bind (DataW.trod enc P w base spare held m e))=some y/\G y.1)->
   ∃ (xs:List aa) (us:List (List Value)),xs.length=k/\us.length=k/\∀ (i:Nat) x u,xs[i]? =some x->us[i]? =some u->x.cells.length=P.cellsOf e/\(∀ j,j<P.cellsOf e->w.cell? ((a.add (i*P.cellsOf e)).add j)=u[j]?)/\fZ w u x.cells/\
    TyN P N n e x.cells/\(aP P e=true->∃ l,x= .agg l)/\(aP P e=false->x.cells=[x]):=by
 intro k;induction k with
 | zero=>intro _;exact ⟨[],[],rfl,rfl,λ i x u c=>by simp at c⟩
 | succ k p=>
  intro s;obtain ⟨xs,us,l1,l2,C⟩:=p λ i A=>s i o_;obtain ⟨y,q,r⟩:=s k o_;obtain ⟨u,B,q⟩:=Option.bind_eq_some_iff.1 q;obtain ⟨_,g,d⟩:=World.cells?_some B;obtain ⟨as,has,f⟩:=D e v _ y q r;obtain ⟨x,rfl,h⟩:=f.pack;refine ⟨xs++[x],us++[u],by simp [l1],by simp [l2],λ i x' z c b=>?_⟩;by_cases A:i<k
  .rw [Ag o_] at c b;exact C i x' z c b
  .have o:i=k:=by have:=(Ab.1 c).1;simp at this;omega
   subst o;rw [Ak o_] at c b;rw [l1,Mm] at c;rw [l2,Mm] at b;simp at c b;subst c b;exact ⟨by rw [<-has.1,g],d,has,f,h⟩
def P1 (W:Bulk H N G):∀ (n:Nat) (t:TypeId),pM P n t=true->∀ (I:Nat) (cs:List Value) (x:DataW H×List MemPlace),DataW.trod enc P w base spare held I t cs=some x->G x.1->∃ as,fZ w cs as/\TyN P N n t as:=by
 intro n;induction n with
 | zero=>intro t h;cases h
 | succ n Y=>
  intro t h I cs x d F;unfold pM at h;unfold TyN;split at h
  .rename_i g
   try rw [g]
   obtain ⟨b,rfl,_⟩:=DataW.trod_bool g d;exact ⟨[.bool b],fZ.single (.bool b),b,rfl⟩
  .rename_i k g
   try rw [g]
   obtain ⟨m,rfl,_,O⟩:=DataW.trod_int g d;simp only [Lit.wf,Ad,decide_eq_true_eq] at O;exact ⟨[.int k m],fZ.single (.int k m (UP O)),m,rfl,UP O⟩
  .rename_i g
   try rw [g]
   obtain ⟨s,rfl,r,hs⟩:=DataW.trod_string g d;obtain ⟨⟨l⟩⟩:=s;have X:=W.str _ (by rw [r] at F;exact F);exact ⟨[.str l],fZ.single (.str l (by have:=gC;have B:l.length<=maxLen:=hs;omega)),l,rfl,X⟩
  .rename_i fs g
   try rw [g]
   obtain ⟨xs,m,rfl,r,J,hxl,T⟩:=DataW.trod_struct g d;have y:=W.agg _ (by rw [r] at F;exact F);rw [<-J] at h
   have:=IO (λ t V cs x d S=>Y t V m cs x d S) cs fs.toList 0 (λ f hf'=>by
    obtain ⟨i,z⟩:=Ct hf';have U:fs[i]? =some f:=by simpa using z
    have Q:=(Ez.1 U).1
    exact ⟨xs[i]' o_,(T i f U).trans (Aa o_),y _ (Cm (Bh _))⟩) h
   simpa using this
  .rename_i m e g
   try rw [g]
   simp only [Ad] at h;obtain ⟨h1,B⟩:=h;obtain ⟨xs,q,rfl,r,J,hxl,T⟩:=DataW.trod_array g d;have y:=W.agg _ (by rw [r] at F;exact F);have hc:=aB B;obtain ⟨Ls,l1,l2,K⟩:=MA h1 (λ t V cs x d S=>Y t V q cs x d S) cs m o_ (λ i z=>⟨xs[i]' o_,(T i z).trans (Aa o_),y _ (Cm (Bh _))⟩);rw [Cf o_] at K;exact ⟨Ls.flatten,K,Ls,l1,l2,rfl⟩
  .rename_i e g
   try rw [g]
   simp only [Ad] at h;obtain ⟨h1,B⟩:=h;have D:0<P.cellsOf e:=by simpa [Jw] using B
   rcases DataW.trod_slice g d with ⟨rfl,_⟩ | ⟨a,len,cap,M,rest,q,rfl,rfl,r,hb,Z,hcm,hel,T,_⟩
   .exact ⟨[.slice (P.cellsOf e) [] .no],fZ.single (.nilslice _),[],rfl,Bv _,λ x d=>by simp at d⟩
   .have y:=W.sl _ _ (by rw [r] at F;exact F);obtain ⟨xs,us,l1,l2,K⟩:=MB h1 (λ t V cs x d S=>Y t V q cs x d S) a len (λ i z=>⟨M[i]' o_,(T i z).trans (Aa o_),y.2 _ (Cm (Bh _))⟩);have hty:∀ x∈xs,TyN P N n e x.cells/\(aP P e=true->∃ l,x= .agg l)/\(aP P e=false->x.cells=[x]):=λ x d=>by obtain ⟨i,z⟩:=Ct d;have Q:=(Ab.1 z).1;exact (K i x (us[i]' o_) z (Aa o_)).2.2.2
    by_cases h0:len=0
    .subst h0;have:xs=[]:=Ax l1;subst this;exact ⟨[.slice (P.cellsOf e) [] .no],fZ.single (.emptys _ a cap),[],rfl,Bv _,λ x d=>by simp at d⟩
    .obtain ⟨b,o,sp⟩:=a;have hx0:xs[0]? =some (xs[0]' o_):=Aa o_;have hu0:us[0]? =some (us[0]' o_):=Aa o_;obtain ⟨c1,c2,c3,_⟩:=K 0 _ _ hx0 hu0;have u:=c2 0 D;have R:0<(us[0]' o_).length:=by rw [c3.1,c1];exact D
     rw [Aa R] at u;have hsp:sp=none:=by have:=World.cell?_spot u;simpa [Addr.add] using this
     subst hsp;have key:∀ (i j:Nat) x c,xs[i]? =some x->x.cells[j]? =some c->∃ v,(us.getD i []).getD j undef=v/\w.cell? ⟨b,o+i*P.cellsOf e+j,none⟩=some v/\RepW w v c:=by
      intro i j x c d C;have Q:=(Ab.1 d).1;have L:us[i]? =some (us[i]' o_):=Aa o_;obtain ⟨d1,d2,d3,_⟩:=K i x _ d L;have hjl:=(Ab.1 C).1;have A:j<(us[i]' o_).length:=by rw [d3.1];exact hjl
      have p:=d2 j o_;rw [Aa A] at p;refine ⟨_,rfl,?_,?_⟩
      .rw [Fb,Fb,L];simp only [Jy,Aa A];rw [bA,bA] at p;exact p
      .rw [Fb,Fb,L];simp only [Jy,Aa A];exact d3.2 j _ c (Aa A) C
     refine ⟨[.slice (P.cellsOf e) xs .no],fZ.single (.slice (P.cellsOf e) b o len cap xs (λ i j=>(us.getD i []).getD j undef) l1 Z (by have:=gC;omega) (λ x d=>?_) (λ i j x c d C=>?_) (λ i j x c d C=>?_) (λ i j x c d C=>?_)),xs,rfl,by have h9:=y.1;simp only [Ch] at h9;omega,hty⟩
     .obtain ⟨i,z⟩:=Ct d;have Q:=(Ab.1 z).1;exact (K i x (us[i]' o_) z (Aa o_)).1
     .obtain ⟨v,rfl,h1,_⟩:=key i j x c d C;exact h1
     .obtain ⟨v,rfl,_,B⟩:=key i j x c d C;exact B.one
     .obtain ⟨v,rfl,_,B⟩:=key i j x c d C;exact B
  .cases h
def aDU (o:Bulk H N G) {r:Reach} {j:Nat} {n:Nat} {t:TypeId} {v:Value} {d:DataW H} {m:List MemPlace}
  (f:aP P t=true) (c:pM P n t=true) (g:Lc P w r j t v) (h:DataW.Trod enc P w base spare held t v d m) (k:G d):∃ as,Rep (Mw w) [] v (.agg as)/\TyN P N n t as:=by
 obtain ⟨cs,rfl⟩:=P2 f g;obtain ⟨b,h⟩:=h;obtain ⟨as,h1,l⟩:=P1 o n t c b _ _ h k;have e:(Value.agg cs).cells.toList=cs.toList:=rfl;rw [e] at h1;refine ⟨as,?_,l⟩;have:=Rep.agg (M:=Mw w) (ob:=[]) cs.toList as h1.1 (λ i v a g p=>(h1.2 i v a g p).rep);omega
end
open Go.RowKit Go.Sort
def LU (d:List Int) (a:Array Value) (h:d.length<=a.size):
  putCells (Eb .i64) 0 d.toArray a=((a.toList.take 0++d.map (Eb .i64))++a.toList.drop (0+(d.map (Eb .i64)).length)).toArray:=by
 apply Array.ext_getElem?;intro k;simp only [putCells,Array.getElem?_mapIdx,Iq,Bn,Jt,Bo,Ch,Gl,Bv,true_and,Jo];by_cases c:k<d.length
 .have b:k<a.size:=o_;simp_all
 .rw [Ak (by grind),Ch,Bp,show d.length+(k-d.length)=k from by omega];cases b:a[k]? with
  | none=>simp [b]
  | some y=>simp [b,c]
def LR {w:World} {b k:Nat} {d:List Int} {a:Array Value} {e:TypeId} {f:Nat×Nat} {n:Nat} {os:Array Obj} (g:w.heap[b]? =some (.cells a e f)) (h:d.length<=a.size) (i:k<w.heap.size):
  (grow (putRow (Eb .i64) (Sort.ahead w n) b 0 d.toArray) os).heap[k]? =(w.setRow b ((a.toList.take 0++d.map (Eb .i64))++a.toList.drop (0+(d.map (Eb .i64)).length)).toArray).heap[k]?:=by
 unfold grow putRow mapBlock World.setRow Sort.ahead;dsimp only;rw [Gx (by grind)];simp only [Fi];by_cases c:b=k
 .subst c;rw [if_pos rfl,if_pos rfl,g];simp only [Mq,onCells,LU d a h]
 grind
def EK {P:Program} {f:FuncId} (K:nC P f)
  (G:∀ (p:Option Addr) (cap:Nat) (w:World),Calls P f #[.slice p 0 cap] w λ e w'=>e= .returned (.tuple #[])/\w'=w)
  (hs:∀ (blk off cap:Nat) (V:List Int) (w:World),Holds (Eb .i64) w blk off V.toArray->blk<w.heap.size->V.length<4611686018427387904->Calls P f #[.slice (some ⟨blk,off,none⟩) V.length cap] w λ e w'=>
   e= .returned (.tuple #[])/\∃ n os,w'=grow (putRow (Eb .i64) (Sort.ahead w n) blk off (V.mergeSort λ x y=>decide (x<=y)).toArray) os)
  (e:TypeId) (l:List Int) (hl:l.length<=1000000000):aA P f [.row 0 0] [.row 0 1 e (l.map (aa.int .i64))] (.ret (.tup [])) [.row 0 1 e ((l.mergeSort λ x y=>decide (x<=y)).map (aa.int .i64))]:=by
 intro M ob w C hm D;obtain ⟨Z,D⟩:=D
 match C,Z with
 | [v],_=>
 obtain ⟨a,n,c,rfl,Y⟩:=(D 0 _ _ rfl rfl).row_inv;obtain ⟨hs0,v0,e1,e2,e3,e4,B,hblk⟩:=hm.rowOf (k:=0) rfl;rw [Y] at e4;cases e4;have F:=B;obtain ⟨cv,d,h1,hz,hc,hno,hone⟩:=B;have Q:(l.map (aa.int .i64)).length=l.length:=by simp
 have J:∀ {M':Imm} {ob':Hs},Rep M' ob' (.tuple #[]) (.tup []):=.tup [] [] rfl (λ i v a hv=>by simp at hv);by_cases h0:l=[]
 .subst h0;have hn:n=0:=by
   rcases dD d with ⟨q,_⟩ | ⟨b,cap,q,_⟩
   .cases q;rfl
   .cases q;rfl
  subst hn;refine .inl ⟨K _ _,(G a c w).mono ?_⟩;rintro e' w' ⟨rfl,rfl⟩;have e0:(([]:List Int).mergeSort λ x y=>decide (x<=y))=[]:=by simp
  rw [e0];exact ⟨M,ob,Ext.refl _ _ _ _,hm,J⟩
 .have hpos:0<l.length:=Dy.2 h0;have hcw:∀ q,q<l.length->∃ u,cv[q]? =some u/\u= .int .i64 (l[q]!):=λ q W=>by obtain ⟨u,z,D⟩:=hc q (.int .i64 l[q]) (by unfold aH;simp [W,aa.cells,Ip,Jd]);refine ⟨u,z,?_⟩;rw [D.int_inv.1];simp [W]
  obtain ⟨X,hor⟩:=d;rcases hor with ⟨q1,q2⟩ | ⟨b,cap,g,q1,_,N,q4,q5,q6,q7⟩
  .omega
  cases q1
  have d:w.ownsRow 0 e 1 (.slice (some ⟨b,0,none⟩) (l.map (aa.int .i64)).length c) (l.map (aa.int .i64)).length cv:=⟨X,.inr ⟨b,c,g,rfl,Bv _,N,q4,q5,q6,q7⟩⟩
  have U:b<w.heap.size:=eX N;have hH:Holds (Eb .i64) w b 0 l.toArray:=λ j H=>by have H:j<l.length:=o_;obtain ⟨u,z,rfl⟩:=hcw j H;refine ⟨?_,by simp [Lv,N]⟩;rw [Bo,fF d rfl z];simp [H]
  have hsl:(l.mergeSort λ x y=>decide (x<=y)).length=l.length:=Mu l;rw [Q];refine .inl ⟨K _ _,(hs b 0 c l w hH U o_).mono ?_⟩;rintro e' w' ⟨rfl,k,os,rfl⟩;generalize hS:(l.mergeSort λ x y=>decide (x<=y))=S at hsl⊢;have L:∀ x∈S,inR .i64 x:=λ x s=>by
   have:x∈l:=by rw [<-hS] at s;exact (List.mergeSort_perm l _).mem_iff.1 s
   obtain ⟨i,hi⟩:=Ct this;have A:=(Ab.1 hi).1;obtain ⟨u,z,D⟩:=hc i (.int .i64 x) (by unfold aH;simp [hi,aa.cells,Ip,Jd]);exact D.int_inv.2
  have hw:=F.write (p:=0) (news:=S.map (Eb .i64)) (xs':=S.map (aa.int .i64)) rfl o_ (by simp [hsl]) (λ u z=>by
    obtain ⟨x,_,rfl⟩:=Ca.1 z
    rfl) (by simp [hsl]) (λ x s=>by
    obtain ⟨y,_,rfl⟩:=Ca.1 s
    rfl) (λ q c' W=>.inl (by
    obtain ⟨x,s,T⟩:=fV W;rw [Ip] at s;rw [Jd] at T;rw [Bf] at s;cases r:S[q]? with
    | none=>rw [r] at s;cases s
    | some y=>
     rw [r] at s;cases s;cases T;have A:=(Ab.1 r).1
     exact ⟨Bv _,by simp;omega,.int .i64 y,by simp [r],.int _ _ (L y (Au r))⟩))
  obtain ⟨cur',c1,c2,c3⟩:=hw;rw [N] at c1;cases c1;have R:S.length<=g.size:=o_;have t:=hm.rowTurn (k:=0) (hs':=hs0) rfl e1 e3 (Cn _) e2 e3 c3 (λ I _ hn=>setRow_other w b I _ (λ e=>hn (by simp [Gk,e]))) rfl rfl rfl s_ (λ I hb'=>.inl hb');rw [fR e1] at t;obtain ⟨t1,t2,_⟩:=t;have hsz:(w.setRow b ((g.toList.take 0++S.map (Eb .i64))++g.toList.drop (0+(S.map (Eb .i64)).length)).toArray).heap.size=w.heap.size:=by simp
  have O:∀ j,j<w.heap.size->(grow (putRow (Eb .i64) (Sort.ahead w k) b 0 S.toArray) os).heap[j]? =(w.setRow b ((g.toList.take 0++S.map (Eb .i64))++g.toList.drop (0+(S.map (Eb .i64)).length)).toArray).heap[j]?:=
   λ j H=>LR N R H
  have m:=t1.more (M':=M) (w':=grow (putRow (Eb .i64) (Sort.ahead w k) b 0 S.toArray) os) (λ_ _ _ h=>h) (λ_ _ _ h=>.inl h) (λ I o y hy=>by
    obtain ⟨u,z,r1,r2⟩:=t1.imm I o y hy;have A:=Cs _ _ z;rw [hsz] at A
    exact ⟨u,(Cr (a:=⟨I,o,none⟩) (O I A)).trans z,r1,r2⟩) (λ j H=>O j o_) rfl rfl rfl s_
  exact ⟨M,ob,t2.trans m.2,m.1,J⟩
def XM (g:aa->aa) (x:ab):(mapO g x).owns=x.owns:=by cases x<;>rfl
def sG {g:aa->aa} {ob:Hs} {ac:List ab} {k b:Nat} (h:aG ob (ac.map (mapO g)) k b):aG ob ac k b:=by
 obtain ⟨c,hs,a,e,f,i⟩:=h;rw [Bf] at a;cases d:ac[k]? with
 | none=>simp_all
 | some x=>
  rw [d] at a;cases a;exact ⟨x,hs,d,by rw [<-XM g];exact e,f,i⟩
def Mem.mapO {M:Imm} {ob:Hs} {ac:List ab} {w:World} {g:aa->aa} (r:∀ (M:Imm) (ob:Hs) v a,Rep M ob v a->Rep M ob v (g a)) (e:Mem M ob ac w):Mem M ob (ac.map (AW.mapO g)) w:=by
 refine ⟨e.imm,by simpa using e.len,λ k c f=>?_,λ k b d=>e.lt k b (sG d),λ i j b d p=>e.inj i j b (sG d) (sG p)⟩;rw [Bf] at f;cases l:ac[k]? with
 | none=>grind
 | some x=>
  rw [l] at f;cases f;obtain ⟨hs,z,m⟩:=e.obj k x l;refine ⟨hs,z,?_⟩;cases x with
  | cells T cs=>
   obtain ⟨b,n,t,cv,u,A,o,s⟩:=m;refine ⟨b,n,t,cv,u,by rw [vN];simp;omega,o,λ i v a q d=>?_⟩;rw [vN,Bf] at d;cases h:cs[i]? with
   | none=>rw [h] at d;cases d
   | some y=>rw [h] at d;cases d;exact r _ _ _ _ (s i v y q h)
  | _=>exact m
def Ext.mapO {M M':Imm} {ob ob':Hs} {aq ac:List ab} {w w':World} {g:aa->aa} (h1:Ext M ob aq w M' ob' ac w'):Ext M ob aq w M' ob' (ac.map (AW.mapO g)) w':=
 ⟨h1.imm,h1.new,h1.hs,h1.os,h1.tape,h1.output,h1.size,h1.keep,λ k b a=>h1.fresh k b (sG a)⟩
def To.mapO {E:Env} {fn:Func} {g:Goal} {st:List KI} {fr:List (Nat×aa)} {ac:List ab} (f:aa->aa) (d:∀ (M:Imm) (ob:Hs) v a,Rep M ob v a->Rep M ob v (f a))
  (h:To E fn g (.code st fr (sR f ac))):To E fn g (.code st fr ac):=
 .mk λ c M0 ob0 aq w0 a w hst hs=>by rw [CL] at h;refine h.rec λ h=>h c M0 ob0 aq w0 a w hst ?_;obtain ⟨M,ob,i,hm,b,j,e,k⟩:=hs;exact ⟨M,ob,i.mapO,hm.mapO d,b,j,e,by simp_all⟩
def To.loose {E:Env} {fn:Func} {g:Goal} {st:List KI} {fr:List (Nat×aa)} {ac:List ab} (h:To E fn g (.code st fr (sR (strip 5) ac))):To E fn g (.code st fr ac):=
 h.mapO _ λ_ _ _ _=>rQ 5
end Go.AW
