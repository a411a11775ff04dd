/- Part 3 of what the statement rests on. -/
import Derived.Defers
import Derived.RangeFuncRecord
import Derived.ChangeKeysEq
import Derived.Lib.Overlaps
import Derived.WalkKit
import Derived.ProofKit
import Derived.OpenShut
import Derived.Recover
import Derived.Sort.Grow
import Derived.Test.YtaeegbkbahgjhaaGreatDoorWB
set_option linter.all false
open Array renaming getD_eq_getD_getElem?->Bk,getElem?_append_left->Gz,getElem?_eq_getElem->Hb,getElem?_eq_some_iff->Ey,getElem?_modify->Fk,getElem?_setIfInBounds_ne->Ep,getElem?_setIfInBounds_self_of_lt->Ek,replicate->Fy,toList_map->Jv
open Bool renaming and_assoc->Ih,and_eq_true->Ad,and_true->Kc,false_eq_true->Cp,not_eq_true'->Cw,or_eq_true->Fb
open Go.Instr renaming checkKey->Hr
open Go.Region renaming binds->Jo,wanted->Fe
open Go.Result renaming andThen->Ee,andThen_ok->Aq
open Go.Sem renaming run_bind->Bh,run_pure->Bz
open Go.Value renaming bool->Nh,int->Ea,okWide->La,ownBlock->Gl
open Go.World renaming block_lt_of_cell?->Ct,cell?->Kk,cell?_of_block->Cs,freeze->Mk,frozen?->Lu,ownsRow_nil->Hg,putObj_heap_other->Gq,shape?->Jh
open Int renaming le_trans->Fl
open List renaming all_eq_true->Cr,append_nil->Ar,drop_drop->Hl,drop_eq_getElem_cons->Ae,eq_nil_of_length_eq_zero->Az,ext_getElem?->Eb,getD_eq_getElem?_getD->Fa,getElem?_append_left->Ag,getElem?_append_right->Ak,getElem?_drop->Bq,getElem?_eq_getElem->Aa,getElem?_eq_none->Bi,getElem?_eq_some_iff->Ab,getElem?_map->Bg,getElem?_of_mem->Cu,getElem?_replicate->Em,getElem?_set_ne->Bb,getElem?_set_self->Au,getElem?_take_of_lt->Bj,getElem?_toArray->Js,getElem_mem->Bf,length_append->Ai,length_map->Cc,length_mergeSort->Mu,length_pos_iff->Dx,length_singleton->Mv,map_cons->Bl,map_drop->Ix,map_map->Dw,map_take->Gh,mem_append->Ba,mem_cons->Aw,mem_map->Ca,mem_map_of_mem->Cm,mem_of_getElem?->Av,mem_singleton->Dj,mergeSort_perm->Kz,nil_append->Bn,prefix_refl->Cn,range'->Ij,range'_succ->Ly,range_eq_range'->Ik,replicate->Aj,size_toArray->Gn,take_append_drop->Bo,take_append_of_le_length->Db,take_of_length_le->Ch,take_zero->Im
open Nat renaming add_comm->Mc,add_mul->Bw,add_zero->Fm,and_two_pow_sub_one_eq_mod->Jt,beq->Ax,ble->Fv,blt->Ff,blt_eq->Ju,div_one->Il,eq_zero_or_pos->Fp,le_of_ble_eq_true->Ck,le_refl->Bd,le_trans->Cx,lor->Nk,mod_one->Jc,mul_comm->Dd,mul_le_mul_right->Br,one_mul->Gu,pow_le_pow_right->Eu,strongRecOn->Hx,sub_self->Ml,sub_zero->Iq,testBit_two_pow->Ky,two_pow_add_eq_or_of_lt->Ig,zero_add->Bp,zero_le->Bx
open Ne renaming symm->Ej
open Option renaming getD_some->Jw,isSome_iff_exists->Da,map_some->Mq
open Option.some renaming injEq->Dq
open Prod renaming fst->Lz
open UInt8 renaming ofNat->Dt
namespace Go.AW
open Go.RowKit
open Classical
section
variable {P:Program} {M:Imm} {ob:Hs} {L ac:au} {w:World} {a:Act}
def lU{g:Nat->aa}(c:∀ t,Rep M ob (a.tmps.getD t undef) (g t)){u:Value}{v:aa}(i:Rep M ob u v){d:Option Nat}(f:∀ e,d=some e->e<a.tmps.size):
  ∀ t,Rep M ob ((a.put d u).tmps.getD t undef) (jC g d v t):=by
 intro t;unfold jC;cases d with
 | none=>rw [if_neg s_];exact c t
 | some d=>
  have b:=f d rfl;by_cases h:d=t
  .subst h;simp only [if_true,Act.put];rw [Bk,Ek b];exact i
  .rw [if_neg (by grind)];simp only [Act.put];rw [Bk,Ep h,<-Bk];exact c t
def dK(a:Act)(d:Option Nat)(u:Value):(a.put d u).tmps.size=a.tmps.size/\(a.put d u).defers=a.defers:=by cases d<;>simp [Act.put]
def EC{fr:ar}(h:∀ t,Rep M ob (a.tmps.getD t undef) (aW fr t))(x:Operand):Rep M ob (a.eval x) (ev fr x):=by
 cases x with
 | tmp t=>exact h t
 | const v=>exact oO v
 | global g=>exact .undef _
 | func f=>exact .func (.func f) [] [] [] [] rfl rfl (λ i v a h=>by simp at h) (λ i v a h=>by simp at h)
def aHR{tab:az}{all:bb}{j:Nat}{g:Nat->aa}(h:∀ t,Rep M ob (a.tmps.getD t undef) (g t))(x:Operand):Rep M ob (a.eval x) (evG tab all j g x):=by
 cases x with
 | tmp t=>
  simp only [evG];cases OA tab j t 0 all with
  | true=>exact .undef _
  | false=>exact h t
 | const v=>exact oO v
 | global g=>exact .undef _
 | func f=>exact .func (.func f) [] [] [] [] rfl rfl (λ i v a h=>by simp at h) (λ i v a h=>by simp at h)
def G(rd:Option Nat)(P:Program)(ops:Array Oper)(p:Oper)(a:Act)(w:World)(next:Act->World->Prop)(Q:Exit->Act->World->Prop):Prop:=
 if Fe p (yielded ops a.tmps) then p.wpIn (fen rd) 0 P a w next Q else next (a.put p.dst undef) w
def iG{ops:Array Oper}{p:Oper}{ρ:Operand->aa}(o:∀ x,Rep M ob (a.eval x) (ρ x)){b:Bool}
  (h:cH ops.toList ρ p.guard=some b):Fe p (yielded ops a.tmps)=b:=by
 unfold cH at h;unfold Fe;cases r:p.guard with
 | none=>simp_all
 | some s=>
  obtain ⟨j,k⟩:=s;rw [r] at h;dsimp only at h⊢;split at h
  .rename_i q v;have f:ops[j]? =some q:=by simpa using gX v
   split at h
   .rename_i d n;have c:=o (.tmp d);have m:∀ u,a.tmps.getD d undef=u->yielded ops a.tmps j=match u with | .bool b=>some b | _=>none:=by
     intro u e;unfold yielded;rw [f];simp only [Option.bind_some,n];rw [Bk] at e;cases l:a.tmps[d]? with
     | none=>rw [l] at e;simp at e;subst e;rfl
     | some x=>rw [l] at e;simp at e;subst e;cases x<;>rfl
    split at h
    .rename_i t i;rw [i] at c;have g:a.tmps.getD d undef= .bool t:=c.bool_inv;rw [m _ g];cases h;simp
    .rename_i i;rw [i] at c;obtain ⟨us,e,hl,_⟩:=c.tup_inv;have g:a.tmps.getD d undef= .tuple us.toArray:=e;rw [m _ g];cases h;simp
    .cases h
   .cases h
  .cases h
def xS:Rep M ob undef (.tup []):=.tup [] [] rfl λ i v a h=>by simp at h
def zV:∀ {L ac:au},aB L=aB ac->L.length<=ac.length->ac=L++Aj (ac.length-L.length) .dead:=λ{L ac} hg hl=>by
 refine Eb λ k=>?_;by_cases b:k<L.length
 .rw [Ag b,oB b,oB (show k<ac.length by omega),hg]
 .rw [Ak o_,Em];by_cases a:k<ac.length
  .rw [if_pos o_,oB a,<-hg];rcases fC L k with ⟨h1,_⟩ | ⟨_,_,e⟩
   .omega
   .rw [e]
  simp_all
def Mem.norm(h:Mem M ob L w)(d:aB L=aB ac)(m:∀ (k:Nat),ac.length<=k->∀ hs,ob[k]? =some hs->hs=[]):
  ∃ ob',Mem M ob' ac w/\(∀ (k g:Nat) v,at' ob k g=some v->at' ob' k g=some v)/\∀ {M0:Imm} {ob0:Hs} {ap:au} {w0:World},Ext M0 ob0 ap w0 M ob L w->ob0.length<=ac.length->Ext M0 ob0 ap w0 M ob' ac w:=by
 by_cases hl:L.length<=ac.length
 .have e:=zV d hl;obtain ⟨c,b,_⟩:=h.extend (ac.length-L.length);rw [<-e] at c b;exact ⟨_,c,λ k g v l=>b.hs.at l,λ a _=>a.trans b⟩
 .have e:=zV d.symm o_;rw [e] at h;obtain ⟨f,o,j⟩:=h.shrink λ i hs p=>m i p hs;exact ⟨_,f,o,λ a n=>j (e▸a) n⟩
def iS{K d Kp:aa->au->Prop}(a:∀ v o,K v o->d v o):∀ {r:OR},orF P ac K Kp r->orF P ac d Kp r
 | .no,k=>k.elim
 | .val v,k=>a _ _ k
 | .mkf fn fs cs,k=>a _ _ k
 | .need p r,k=>⟨k.1,iS a k.2⟩
 | .alt p v w,k=>k.imp (λ h=>⟨h.1,a _ _ h.2⟩) (a _ _)
 | .idx n f,⟨i,hi,k⟩=>⟨i,hi,iS a k⟩
 | .elem xs i f,⟨x,hx,k⟩=>⟨x,hx,iS a k⟩
 | .byte l i,⟨c,hc,k⟩=>⟨c,hc,a _ _ k⟩
 | .text xs,⟨l,hl,hm,k⟩=>⟨l,hl,hm,a _ _ k⟩
 | .find es key f,⟨o,ho,k⟩=>⟨o,ho,iS a k⟩
 | .born x v,k=>a _ _ k
 | .upd i x v,k=>a _ _ k
 | .nilq xs neg,k=>λ b e=>a _ _ (k b e)
 | .call f args,k=>CallG.mono a k
 | .pan v,k=>k
def sP{e:au}{base:Nat}{K Kp:aa->au->Prop}(g:base=aM ac)(hs:e=ac):∀ {r:OR},orD P true true false e ac base K Kp r->orF P ac K Kp r
 | .no,k=>k.elim
 | .val v,k=>k
 | .mkf fn fs cs,k=>k
 | .need p r,k=>⟨k.1,sP g hs k.2⟩
 | .alt p v w,k=>k
 | .idx n f,⟨i,hi,k⟩=>⟨i,hi,sP g hs k⟩
 | .elem xs i f,⟨x,hx,k⟩=>⟨x,hx,sP g hs k⟩
 | .byte l i,k=>k
 | .text xs,k=>k
 | .find es key f,⟨o,ho,k⟩=>⟨o,ho,sP g hs k⟩
 | .born x v,k=>by rw [g] at k;exact k
 | .upd i x v,k=>k
 | .nilq xs neg,k=>k
 | .call f args,k=>by
  have k:CallD P f args true e base ac K Kp:=k;cases k with
  | pure r new h k=>subst g hs;exact .eff [] [] r new rfl h k
  | sole _ h=>exact h
  | look ks r o a l b c d q=>subst g hs;exact .eff [] ks r o a b (by show K (embV ks _ e 5 r) (gJ ks _ e 0 o e);rw [c,d];exact q)
 | .pan v,k=>k
end
section
variable {rd:Option Nat} {M0:Imm} {ob0:Hs} {ap:au} {w0:World} {sz:Nat} {dfs:List (Nat×ay)} {E:Env} {ops:Array Oper} {Q:Exit->Act->World->Prop} {K:ar->au->Prop} {Kp:(Nat->aa)->aa->au->Prop}
def E7(M:Imm)(ob:Hs)(a:List Deferred)(dfs:List (Nat×ay)):Prop:=
 a.length=dfs.length/\∀ (i:Nat) d x,a[i]? =some d->dfs[i]? =some x->d.target= .fn (.func x.1) #[]/\cA M ob d.args.toList x.2
def E7.nil{M:Imm}{ob:Hs}:E7 M ob [] []:=⟨rfl,λ i d x h=>by simp at h⟩
def E7.nil_inv{M:Imm}{ob:Hs}{a:List Deferred}(h:E7 M ob a []):a=[]:=Az h.1
def E7.mono{M M':Imm}{ob ob':Hs}{f:List Deferred}{dfs:List (Nat×ay)}(g:∀ b o x,M b o x->M' b o x)(m:dJ ob ob')(h:E7 M ob f dfs):E7 M' ob' f dfs:=
 ⟨h.1,λ i d x c e=>⟨(h.2 i d x c e).1,(h.2 i d x c e).2.1,λ j v a k l=>((h.2 i d x c e).2.2 j v a k l).mono g m⟩⟩
def E7.monoA{M:Imm}{ob ob':Hs}{e:List Deferred}{dfs:List (Nat×ay)}(m:∀ (k g:Nat) v,at' ob k g=some v->at' ob' k g=some v)(h:E7 M ob e dfs):E7 M ob' e dfs:=
 ⟨h.1,λ i d x b c=>⟨(h.2 i d x b c).1,(h.2 i d x b c).2.1,λ j v a f l=>((h.2 i d x b c).2.2 j v a f l).monoA m⟩⟩
def Mks(w0 w:World):List Deferred->Prop
 | []=>True
 | d::ds=>(∃ b,d.target= .collected b/\w0.heap.size<=b/\w.heap[b]? =some (.deferred (some []))/\∀ a∈ds,a.target≠ .collected b)/\Mks w0 w ds
def Mks.same{w0 w w':World}:∀ {a:List Deferred},(∀ d∈a,∀ b,d.target= .collected b->w.heap[b]? =some (.deferred (some []))->w'.heap[b]? =some (.deferred (some [])))->Mks w0 w a->Mks w0 w' a
 | [],_,_=>trivial
 | d::a,hb,⟨⟨b,h1,h2,h3,h4⟩,h5⟩=>⟨⟨b,h1,h2,hb d s_ b h1 h3,h4⟩,Mks.same (λ d c=>hb d (by simp [c])) h5⟩
def cV(w0 w:World)(M:Imm)(ob:Hs)(c:List Deferred)(dfs:List (Nat×ay)):Prop:=∃ b a,c=b++a/\E7 M ob b dfs/\Mks w0 w a
def Mem.alive_heap{M:Imm}{ob:Hs}{ac:au}{w:World}(hm:Mem M ob ac w){k b:Nat}(p:aG ob ac k b):∃ o,w.heap[b]? =some o/\DQ o=false:=by
 obtain ⟨c,hs,l,i,s,f⟩:=p;obtain ⟨hs',j,a⟩:=hm.obj k c l;rw [s] at j;cases j;have row:∀ {v:Value} {n sz:Nat} {e:TypeId} {cv:ba},w.ownsRow 0 e sz v n cv->blk hs=v.ownBlock.toList->∃ o,w.heap[b]? =some o/\DQ o=false:=λ{v n sz e cv} ho hb=>by
  have h:=wG hb f;rcases ho.2 with ⟨rfl,_⟩ | ⟨g,cap,m,t,_,q,_⟩
  .cases h
  .rw [t] at h;cases h;exact ⟨_,q,rfl⟩
 cases c with
 | dead=>cases i
 | fcells cs=>cases i
 | frow g sz xs=>cases i
 | cells T cs=>
  obtain ⟨r,rfl,_,cv,d,_⟩:=a;have:=dU.1 f;subst this;exact ⟨_,d,rfl⟩
 | row g sz e xs=>
  obtain ⟨h1,v,d,cv,h3,_⟩:=a;exact row h3 ((eG h1 d).trans (fA h3))
 | tail g sz e=>
  obtain ⟨h1,v,d,n,cv,h3,_⟩:=a;exact row h3 ((eG h1 d).trans (fA h3))
 | mp u es=>
  obtain ⟨r,rfl,_,x,cl,d,_⟩:=a;have:=dU.1 f;subst this;exact ⟨_,d,rfl⟩
 | bun g I=>
  obtain ⟨h1,bs,d,h3,_⟩:=a;have e:blk hs=bs:=by rw [<-BR (hs:=[eD bs]) rfl];exact eG h1 d
  rw [e] at f;exact h3 b f
def cV.nil{w0 w:World}{M:Imm}{ob:Hs}:cV w0 w M ob [] []:=⟨[],[],rfl,.nil,trivial⟩
def cV.marks{w0 w:World}{M:Imm}{ob:Hs}{a:List Deferred}(h:cV w0 w M ob a []):Mks w0 w a:=by obtain ⟨d,c,rfl,h1,b⟩:=h;rw [h1.nil_inv];exact b
def cV.bare{w0 w:World}{M M':Imm}{ob ob':Hs}{a:List Deferred}(h:cV w0 w M ob a []):cV w0 w M' ob' a []:=⟨[],a,rfl,.nil,h.marks⟩
def cV.mono{w0 w:World}{M M':Imm}{ob ob':Hs}{a:List Deferred}{dfs:List (Nat×ay)}(c:∀ b o x,M b o x->M' b o x)(d:dJ ob ob')(h:cV w0 w M ob a dfs):cV w0 w M' ob' a dfs:=
 let ⟨d1,d2,e,h1,h2⟩:=h;⟨d1,d2,e,h1.mono c d,h2⟩
def cV.monoA{w0 w:World}{M:Imm}{ob ob':Hs}{a:List Deferred}{dfs:List (Nat×ay)}(b:∀ (k g:Nat) v,at' ob k g=some v->at' ob' k g=some v)(h:cV w0 w M ob a dfs):cV w0 w M ob' a dfs:=
 let ⟨d1,d2,e,h1,h2⟩:=h;⟨d1,d2,e,h1.monoA b,h2⟩
def cV.put{w0 w:World}{M:Imm}{ob:Hs}{a:Act}{d:Option Nat}{u:Value}{dfs:List (Nat×ay)}(h:cV w0 w M ob a.defers dfs):cV w0 w M ob (a.put d u).defers dfs:=by rw [(dK a d u).2];exact h
def cV.same{w0 w w':World}{M:Imm}{ob:Hs}{a:List Deferred}{dfs:List (Nat×ay)}(c:w'.heap=w.heap)(h:cV w0 w M ob a dfs):cV w0 w' M ob a dfs:=
 let ⟨d1,d2,e,h1,h2⟩:=h;⟨d1,d2,e,h1,h2.same λ d _ b _ h=>by grind⟩
def cV.ext{w0 w w':World}{M M':Imm}{ob ob':Hs}{ac ao:au}{c:List Deferred}{dfs:List (Nat×ay)}(h:cV w0 w M ob c dfs)(hm:Mem M ob ac w)(a:Ext M ob ac w M' ob' ao w'):cV w0 w' M' ob' c dfs:=
 let ⟨d1,d2,e,h1,h2⟩:=h
 ⟨d1,d2,e,h1.mono a.imm a.hs,h2.same λ d _ b _ h=>by
  rw [a.keep b (fE h) λ k g=>by
   obtain ⟨o,f,i⟩:=hm.alive_heap g;rw [h] at f;cases f
   cases i]
  exact h⟩
def SS(M0:Imm)(ob0:Hs)(ap:au)(w0:World)(sz:Nat)(dfs:List (Nat×ay))(fr:ar)(ac:au)(a:Act)(w:World):Prop:=
 ∃ M ob,Ext M0 ob0 ap w0 M ob ac w/\Mem M ob ac w/\(∀ t,Rep M ob (a.tmps.getD t undef) (aW fr t))/\a.tmps.size=sz/\cV w0 w M ob a.defers dfs/\ob0.length<=ac.length
def PP(M0:Imm)(ob0:Hs)(ap:au)(w0:World)(sz:Nat)(dfs:List (Nat×ay))(c:Nat->aa)(v:aa)(ac:au)(b:List PanicEntry)(a:Act)(w:World):Prop:=
 ∃ M ob,Ext M0 ob0 ap w0 M ob ac w/\Mem M ob ac w/\sE M ob (.panicked b) (.pan v)/\(∀ t,Rep M ob (a.tmps.getD t undef) (c t))/\a.tmps.size=sz/\cV w0 w M ob a.defers dfs/\ob0.length<=ac.length
def Ext.lens{M M':Imm}{ob ob':Hs}{L L':au}{w w':World}(a:Ext M ob L w M' ob' L' w'):ob.length<=ob'.length:=by
 rcases Fp ob.length with h | h
 .omega
 .obtain ⟨hs',e,_⟩:=a.hs (ob.length-1) _ (Aa o_)
  grind
def iJ{P:Program}{hint base:Nat}{ac:au}{ρ:Operand->aa}{op:Op}{ty:TypeId}{K Kp:aa->au->Prop}(h:orF P ac K Kp (eop E hint base (aB ac) ρ op ty)):∀ c,op≠ .defer c:=by intro c e;subst e;exact h.elim
def L9(hE:ae E){fr:ar}{ac:au}{a:Act}{w:World}(hs:SS M0 ob0 ap w0 sz dfs fr ac a w){p:Oper}(y:∀ d,p.dst=some d->d<sz){hint:Nat}
  (h:match cH ops.toList (ev fr) p.guard with
   | none=>False
   | some false=>K (kV fr p.dst (.tup [])) ac
   | some true=>orF E.P ac (λ v ac=>K (kV fr p.dst v) ac) (Kp (aW fr)) (eop E hint (aM ac) (aB ac) (ev fr) p.op p.type))
  (hp:∀ v ac l w,Kp (aW fr) v ac->PP M0 ob0 ap w0 sz dfs (aW fr) v ac l a w->Q (.panic l) a w):
  G rd E.P ops p a w (λ a w=>∃ fr ac,K fr ac/\SS M0 ob0 ap w0 sz dfs fr ac a w) Q:=by
 obtain ⟨M,ob,q,hm,m,f,i,B⟩:=hs;have k:=EC m;have hl:=hm.len;unfold G;cases z:cH ops.toList (ev fr) p.guard with
 | none=>simp_all
 | some b=>
  rw [z] at h;rw [iG k z];cases b with
  | false=>
   rw [if_neg s_];refine ⟨_,ac,h,M,ob,q,hm,?_,(dK _ _ _).1.trans f,i.put,B⟩;rw [dR];exact lU m xS λ x e=>f▸y x e
  | true=>
   rw [if_pos rfl];have s:∀ c,p.op≠ .defer c:=iJ h;refine (sK hE hm k h).wpIn s (λ u w' ⟨M',ob',L',g,j,r⟩=>?_) (λ l w' ⟨M',ob',L',g,j,r⟩=>?_)
   .rcases r with ⟨A,v,e,n,o⟩ | ⟨l,v,e,_⟩
    .cases e;have:=g.lens;have:=j.len;refine ⟨_,L',o,M',ob',q.trans g,j,?_,(dK _ _ _).1.trans f,(i.ext hm g).put,by omega⟩;rw [dR];exact lU (λ t=>(m t).mono g.imm g.hs) n λ x e=>f▸y x e
    .cases e
   .rcases r with ⟨A,v,e,_⟩ | ⟨C,v,e,n,o⟩
    .cases e
    .cases e;have:=g.lens;have:=j.len;exact hp v L' l w' o ⟨M',ob',q.trans g,j,n,λ t=>(m t).mono g.imm g.hs,f,i.ext hm g,by omega⟩
def wk{l:bb}{p:Oper}{a:Act}{w:World}{next:Act->World->Prop}(b:G rd E.P ops p a w next Q)(d:∀ a w,next a w->wpListIn (fen rd) 0 E.P ops Q l a w):wpListIn (fen rd) 0 E.P ops Q (p::l) a w:=by
 unfold wpListIn;unfold G at b;split
 .rename_i c;rw [if_pos c] at b;exact Oper.wpIn_mono d b
 .rename_i c;rw [if_neg c] at b;exact ⟨λ_ _=>trivial,d _ _ b⟩
def mY(hE:ae E)(hp:∀ g v ac c a w,Kp g v ac->PP M0 ob0 ap w0 sz dfs g v ac c a w->Q (.panic c) a w)(j:∀ fr ac a w,K fr ac->SS M0 ob0 ap w0 sz dfs fr ac a w->Q .normal a w):
  ∀ (l:bb) (n:Nat) (fr:ar) (ac:au) (a:Act) (w:World),(∀ p∈l,∀ d,p.dst=some d->d<sz)->eX E ops.toList K Kp n l fr ac->SS M0 ob0 ap w0 sz dfs fr ac a w->wpListIn (fen rd) 0 E.P ops Q l a w
 | [],n,fr,ac,a,w,_,h,hs=>j fr ac a w h hs
 | p::l,n,fr,ac,a,w,hd,h,hs=>by
  refine wk (L9 (K:=λ fr ac=>eX E ops.toList K Kp (n+1) l fr ac) (Kp:=Kp) (hint:=dG E p.dst) hE hs (hd p s_) ?_ λ v ac c w i f=>hp (aW fr) v ac c a w i f) λ k w' ⟨e,ao,i,hs'⟩=>mY hE hp j l (n+1) e ao k w' (λ p hp=>hd p (by simp [hp])) i hs';simp only [eX] at h;cases m:cH ops.toList (ev fr) p.guard with
  | none=>grind
  | some b=>
   rw [m] at h;cases b with
   | false=>exact h
   | true=>
    exact iS (λ v o h=>vE h) h
end
section
variable {rd:Option Nat} {M0:Imm} {ob0:Hs} {ap:au} {w0:World} {sz:Nat} {dfs:List (Nat×ay)} {E:Env} {ops:Array Oper} {Q:Exit->Act->World->Prop} {K:AS->Prop} {Kp:(Nat->aa)->aa->au->Prop} {L0:Nat} {tab:az}
def FE{P:Program}{og b:Nat->ab}{hint base a:Nat}{ρ:Operand->aa}{op:Op}{ty:TypeId}{z:aa}{bs:au}(h:gL P b a z bs (eop E hint base og ρ op ty)):∀ c,op≠ .defer c:=by intro c e;subst e;exact h.elim
def I5{og:Nat->ab}{hint base k:Nat}{ρ:Operand->aa}{op:Op}{ty:TypeId}{z:aa}{x:ab}(h:I6 z k x (eop E hint base og ρ op ty)):∀ c,op≠ .defer c:=by intro c e;subst e;exact h.elim
def DS(M0:Imm)(ob0:Hs)(ap:au)(w0:World)(sz:Nat)(dfs:List (Nat×ay))(L0:Nat)(s:AS)(a:Act)(w:World):Prop:=
 ∃ M ob L,Ext M0 ob0 ap w0 M ob L w/\Mem M ob L w/\aB L=s.o/\(∀ t,Rep M ob (a.tmps.getD t undef) (s.g t))/\a.tmps.size=sz/\cV w0 w M ob a.defers dfs/\ob0.length<=L0/\
  ∀ (k:Nat),L0<=k->(∀ i,¬ s.br i k)->∀ hs,ob[k]? =some hs->hs=[]
def aId(hE:ae E)(hd:∀ (i:Nat) p,ops[i]? =some p->∀ d,p.dst=some d->d<sz)(hp:∀ g v ac F a w,Kp g v ac->PP M0 ob0 ap w0 sz dfs g v ac F a w->Q (.panic F) a w)
  {s:AS} {a:Act} {w:World} (hs:DS M0 ob0 ap w0 sz dfs L0 s a w) {i:Nat} (h:aOp E ops tab L0 Kp i K s):wpOpIn (fen rd) 0 E.P ops Q i (λ a w=>∃ s',K s'/\DS M0 ob0 ap w0 sz dfs L0 s' a w) a w:=by
 obtain ⟨p,hi,h⟩:=h;have A:=hd i p hi
 suffices hg:G rd E.P ops p a w (λ a w=>∃ s',K s'/\DS M0 ob0 ap w0 sz dfs L0 s' a w) Q by
  unfold wpOpIn;rw [hi];dsimp only;unfold G at hg;split
  .rename_i n;rw [if_pos n] at hg;exact hg
  .rename_i n;rw [if_neg n] at hg;exact ⟨λ_ _=>trivial,hg⟩
 obtain ⟨M,ob,L,W,hm,I,H,j,q,X,b⟩:=hs;have l:∀ x,Rep M ob (a.eval x) (evG tab ops.toList i s.g x):=aHR H;have skip:∀ {base:Nat},K (s.upd i p.dst (.tup []) base [])->Fe p (yielded ops a.tmps)=false->G rd E.P ops p a w (λ a w=>∃ s',K s'/\DS M0 ob0 ap w0 sz dfs L0 s' a w) Q:=λ{base} m n=>by unfold G;rw [if_neg (by rw [n];simp)];refine ⟨_,m,?_⟩;rw [BA];exact ⟨M,ob,L,W,hm,I,lU H xS λ B e=>j▸A B e,(dK _ _ _).1.trans j,q.put,X,b⟩
 rcases h with ⟨_,z,base,bs,⟨y,_,hy⟩,hfr,m⟩ | ⟨_,z,base,k,x,⟨⟨y,Z⟩,n,S,c⟩,m⟩ | ⟨_,ac,hoo,hl0,V,Y,hy⟩
 .rcases hy with ⟨n,rfl,rfl⟩ | ⟨n,c⟩
  .exact skip m (iG l n)
  .unfold G;rw [iG l n,if_pos rfl];obtain ⟨hid,o⟩:∃ hid,aB (cE hid L)=lI E tab i p.dst s:=by
    cases hbl:blD E p.dst with
    | true=>exact ⟨λ_=>True,by rw [fV];unfold lI;rw [if_pos hbl];simp⟩
    | false=>exact ⟨RY tab i s.br,by rw [fV,I];unfold lI;rw [if_neg q_];rfl⟩
   rw [<-o] at c;refine (aLw hE hm l (λ k m=>b k (Cx y m.1) (hfr k m)) c).wpIn (FE c) (λ u w' ⟨M',ob',L',J,e,f,r,D,x4,x5,x6⟩=>?_) (λ F w' ⟨M',ob',L',J,e,_⟩=>by cases e);cases e;refine ⟨_,m,M',ob',L',W.trans f,r,?_,lU (λ t=>(H t).mono f.imm f.hs) x5 λ B e=>j▸A B e,(dK _ _ _).1.trans j,(q.ext hm f).put,X,λ k h1 C hs U=>?_⟩
   .rw [D,I];rfl
   .have R:¬ inB base bs.length k:=λ h=>C i (.inr ⟨rfl,h⟩);exact x6 k R (b k h1 λ i' y=>C i' (.inl y)) hs U
 .unfold G;rw [iG l n,if_pos rfl];have o:aB (cE (RY tab i s.br) L)=nW tab i s:=by rw [fV,I];rfl
  rw [<-o] at c S;refine (aIe hE hm l (b base y Z) S c).wpIn (I5 c) (λ u w' ⟨M',ob',L',J,e,f,r,D,x4,x5,x6⟩=>?_) (λ F w' ⟨M',ob',L',J,e,_⟩=>by cases e);cases e;refine ⟨_,m,M',ob',L',W.trans f,r,?_,lU (λ t=>(H t).mono f.imm f.hs) x5 λ B e=>j▸A B e,(dK _ _ _).1.trans j,(q.ext hm f).put,X,λ k' h1 C hs U=>x6 k' (b k' h1 C) hs U⟩;rw [D,I];rfl
 .rcases hy with ⟨n,m⟩ | ⟨n,T⟩
  .exact skip m (iG l n)
  .unfold G;rw [iG l n,if_pos rfl];have hof:=bJ ac;obtain ⟨ob1,n1,n2,n3⟩:=hm.norm (ac:=ac) (I.trans hoo.symm) λ k m=>b k o_ λ i y=>by have:=Y i k y;omega
   have O:∀ x,Rep M ob1 (a.eval x) (evG tab ops.toList i s.g x):=λ x=>(l x).monoA n2;have N:=n3 W o_;refine (sK hE n1 O (sP rfl rfl T)).wpIn (iJ (sP rfl rfl T)) (λ u w' ⟨M',ob',L',f,r,D⟩=>?_) (λ F w' ⟨M',ob',L',f,r,D⟩=>?_)
   .rcases D with ⟨J,v,e,hr,m⟩ | ⟨F,v,e,_⟩
    .cases e;have l1:=f.lens;have l2:=r.len;have l3:=n1.len;have hle:aM ac<=aM L':=by rw [bJ,bJ];omega
     refine ⟨_,m hle,M',ob',L',N.trans f,r,rfl,lU (λ t=>((H t).monoA n2).mono f.imm f.hs) hr λ B e=>j▸A B e,(dK _ _ _).1.trans j,((q.monoA n2).ext n1 f).put,X,λ k h1 C hs U=>?_⟩;have hk1:k<aM L':=by rw [bJ,<-l2];exact (Ab.1 U).1
     by_cases hk2:k<aM ac
     .obtain ⟨i',y⟩:=V k h1 hk2;exact absurd (.inl y) (C i')
     .exact absurd (.inr ⟨rfl,by omega,hk1⟩) (C i)
    .cases e
   .rcases D with ⟨J,v,e,_⟩ | ⟨ch',v,e,hr,m⟩
    .cases e
    .cases e;have l1:=f.lens;have l2:=r.len;have l3:=n1.len;exact hp _ v L' F a w' m ⟨M',ob',N.trans f,r,hr,λ t=>((H t).monoA n2).mono f.imm f.hs,j,(q.monoA n2).ext n1 f,by omega⟩
def oW(hE:ae E)(k:∀ (i:Nat) p,ops[i]? =some p->∀ d,p.dst=some d->d<sz)(hp:∀ g v ac n a w,Kp g v ac->PP M0 ob0 ap w0 sz dfs g v ac n a w->Q (.panic n) a w){l:AS->Prop}
  (j:∀ s a w,l s->DS M0 ob0 ap w0 sz dfs L0 s a w->Q .normal a w):
  ∀ (b:Nat) (c:Array Bool) (s:AS) (a:Act) (w:World),wpA E ops tab L0 Kp l b c s->DS M0 ob0 ap w0 sz dfs L0 s a w->wpAnyIn (fen rd) 0 E.P .any ops Q b c a w
 | 0,_,_,_,_,h,hs=>⟨h.1,j _ _ _ h.2 hs⟩
 | b+1,_,_,_,_,h,hs=>⟨λ r=>j _ _ _ (h.1 r) hs,λ i t=>by
   have:=aId (rd:=rd) (K:=wpA E ops tab L0 Kp l b _) hE k hp hs (h.2 i t);unfold wpOpIn at this⊢;cases q:ops[i]? with
   | none=>rw [q] at this;obtain ⟨s',e,f⟩:=this;exact oW hE k hp j b _ s' _ _ e f
   | some o=>
    rw [q] at this;dsimp only at this⊢;split
    .rename_i m;rw [if_pos m] at this;exact Oper.wpIn_mono (λ a w ⟨s',e,f⟩=>oW hE k hp j b _ s' a w e f) this
    .rename_i m;rw [if_neg m] at this;obtain ⟨_,s',e,f⟩:=this
     exact ⟨λ_ _=>trivial,oW hE k hp j b _ s' _ _ e f⟩⟩
def DS.of{fr:ar}{ac:au}{a:Act}{w:World}(h:SS M0 ob0 ap w0 sz dfs fr ac a w):DS M0 ob0 ap w0 sz dfs ac.length (jS fr ac []) a w:=by
 obtain ⟨M,ob,f,hm,g,c,b,e⟩:=h
 exact ⟨M,ob,ac,f,hm,rfl,g,c,b,e,λ k i _ hs d=>by
  have:=(Ab.1 d).1;rw [hm.len] at this
  omega⟩
def DS.back{fr:ar}{ac:au}{br:List (Nat×Nat)}{n:Nat}{a:Act}{w:World}(g:LI L0 n ac br)(h:DS M0 ob0 ap w0 sz dfs L0 (jS fr ac br) a w):SS M0 ob0 ap w0 sz dfs fr ac a w:=by
 obtain ⟨M,ob,L,m,hm,q,o,c,d,s,b⟩:=h;have j:=bJ ac;have f:=g.low;obtain ⟨e,n1,n2,l⟩:=hm.norm (ac:=ac) q λ k r=>b k o_ λ i p=>by have:=(g.lt i k p).1;omega
 exact ⟨M,e,l m o_,n1,λ t=>(o t).monoA n2,c,d.monoA n2,by omega⟩
def SS.draw{fr:ar}{ac:au}{a:Act}{w:World}(h:SS M0 ob0 ap w0 sz dfs fr ac a w):SS M0 ob0 ap w0 sz dfs fr ac a {w with drawn:=w.drawn+1}:=by obtain ⟨M,ob,b,hm,f,d,c,e⟩:=h;exact ⟨M,ob,⟨b.imm,b.new,b.hs,b.os,b.tape,b.output,b.size,b.keep,b.fresh⟩,hm.same (Bd _) λ_ _=>rfl,f,d,cV.same (w:=w) rfl c,e⟩
def QY(hE:ae E){id:Nat}(y:TabSp ops tab)(x:∀ (i:Nat) p,ops[i]? =some p->∀ d,p.dst=some d->d<sz){Kq:ar->au->Prop}
  (hp:∀ g v ac q a w,Kp g v ac->PP M0 ob0 ap w0 sz dfs g v ac q a w->Q (.panic q) a w) (A:∀ fr ac a w,Kq fr ac->SS M0 ob0 ap w0 sz dfs fr ac a w->Q .normal a w)
  {fr:ar} {ac:au} {a:Act} {w:World} (hs:SS M0 ob0 ap w0 sz dfs fr ac a w) (h:iV E ops.toList tab Kq Kp 0 ops.toList [] fr ac):(Code.region id ops true).wpIn (fen rd) 0 E.P Q a w:=by
 refine wpIn_region_any hE.mix ?_;have b:∀ j,j<ops.size->(Fy ops.size false)[j]? =some (decide (j<0)):=by intro j u;simp [u]
 have f:(Fy ops.size false).size=ops.size:=by simp
 have c:ops.toList.length=ops.size:=by simp
 have z:LI ac.length 0 ac []:=⟨by rw [bJ];omega,λ k h1 r=>by rw [bJ] at r;omega,λ i k o=>by simp at o⟩
 have:=aG0 y ops.toList 0 _ [] fr ac rfl b f z h;rw [c] at this;exact oW hE x hp (λ s a w ⟨l,ao,t,B,e,m,o⟩ n=>A l ao a w o (DS.back m (e▸n))) _ _ _ _ _ this (DS.of hs.draw)
end
def KI.item:KI->Item
 | .code c=>.code c
 | .inB id=>.inBlock id
 | .inL c=>.inLoop c
 | .beginR=>.beginRound
def gY(ks:bf):List Item:=ks.map KI.item
def aDs(rd:Option Nat)(n:Nat):(fen rd).room n:=λ d h=>by cases h
def jL(P:Program)(rd:Option Nat)(m:Machine):m.fenced P (fen rd):=fenced_wide P m
def KW(rd:Option Nat)(P:Program)(Q:Exit->Act->World->Prop)(ks:bf)(a:Act)(w:World):Prop:=
 ∀ (b:Frame) (cs:List Frame),b.roundOf=rd->∃ e c w',Q e c w'/\ArrivesIn (Machine.fenced P (fen rd)) P (lone (b.atR a (gY ks)) cs w) b [] cs e c w'
section
variable {rd:Option Nat} {P:Program} {Q:Exit->Act->World->Prop} {ks ks':bf} {a:Act} {w:World}
def KW.nil(h:Q .normal a w):KW rd P Q [] a w:=λ_ _ _=>⟨.normal,a,w,h,.refl _⟩
def KW.step(hs:∀ (b:Frame) cs,Go.step P (lone (b.atR a (gY ks)) cs w)= .next (lone (b.atR a (gY ks')) cs w))(h:KW rd P Q ks' a w):KW rd P Q ks a w:=
 λ b cs c=>let ⟨e,a',w',q,r⟩:=h b cs c;⟨e,a',w',q,.of_steps (.one (jL _ _ _) (hs b cs)) r⟩
def KW.ret(h:Q .ret a w):KW rd P Q (.code .ret::ks) a w:=λ b _ _=>⟨.ret,a,w,h,λ c=>⟨_,.one (jL _ _ _) (stepR_ret c)⟩,λ_=>⟨gY ks,.refl _⟩⟩
def KW.code{c:Code}{Q':Exit->Act->World->Prop}(h:c.wpIn (fen rd) 0 P Q' a w)(h1:∀ a w,Q' .normal a w->KW rd P Q ks a w)(i:∀ d a w,Q' (.panic d) a w->Q (.panic d) a w)
  (h3:∀ e a w,Q' e a w->e= .normal\/∃ d,e= .panic d):KW rd P Q (.code c::ks) a w:=by
 intro b cs g;obtain ⟨e,f,w',q,r⟩:=h b (gY ks) cs g trivial (aDs _ _);rcases h3 e f w' q with rfl | ⟨d,rfl⟩
 .obtain ⟨l,j,m,n,k⟩:=h1 f w' q b cs g;exact ⟨l,j,m,n,.of_steps r k⟩
 .exact ⟨.panic d,f,w',i d f w' q,r⟩
def KW.arrives(h:KW none P Q ks a w)(b:Frame)(cs:List Frame)(d:b.roundOf=none):∃ e c w',Q e c w'/\Arrives P (lone (b.at a (gY ks)) cs w) b [] cs e c w':=by obtain ⟨e,c,w',q,r⟩:=h b cs d;rw [Frame.atR_of_none d] at r;exact ⟨e,c,w',q,(arrivesIn_iff (I:=Machine.fenced P Fence.wide) (λ_ _=>stepsIn_wide) d).1 r⟩
def lX{id:Nat}:∀ (ks ks':bf),EB id ks=some ks'->exitTo id (gY ks)=some (gY ks')
 | [],ks',h=>by cases h
 | .inB i::r,ks',h=>by
  simp only [EB] at h;simp only [gY,Bl,KI.item,exitTo];cases b:Ax i id with
  | true=>
   simp_all
  | false=>
   rw [b] at h;have a:¬ (i==id)=true:=λ e=>by simp_all
   rw [if_neg a];exact lX r ks' h
 | .code c::r,ks',h=>lX r ks' h
 | .inL c::r,ks',h=>lX r ks' h
 | .beginR::r,ks',h=>lX r ks' h
end
def KL:Nat->bb->Bool
 | _,[]=>true
 | n,p::r=>(iF p).all (λ i=>Ff i n)&&KL (n+1) r
def O1(tab:az)(i:Nat)(d:Nat):Nat->bb->Bool
 | _,[]=>true
 | j,q::r=>(match q.dst with | some e=>!Ax e d|| !loose tab i j | none=>true)&&O1 tab i d (j+1) r
def aIb(tab:az)(all:bb):Nat->bb->Bool
 | _,[]=>true
 | i,p::r=>(match p.dst with | some d=>O1 tab i d 0 all | none=>true)&&aIb tab all (i+1) r
def MJ(ops:Array Oper):Bool:=KL 0 ops.toList&&aIb (gS [] ops.toList) ops.toList 0 ops.toList
def aJl(sz:Nat)(l:bb):Bool:=l.all λ p=>match p.dst with | some d=>Ff d sz | none=>true
def cZ(sz:Nat):Code->Bool
 | .region _ ops dr=>aJl sz ops.toList&&(!dr||MJ ops)
 | .seq a b=>cZ sz a&&cZ sz b
 | .cond _ a b=>cZ sz a&&cZ sz b
 | .block _ b=>cZ sz b
 | .loop b=>cZ sz b
 | _=>true
def KI.ok(sz:Nat):KI->Bool
 | .code c=>cZ sz c
 | .inL c=>cZ sz c
 | .inB _=>true
 | .beginR=>true
def bC(sz:Nat):bf->Bool
 | []=>true
 | k::r=>k.ok sz&&bC sz r
def rX{sz id:Nat}:∀ (ks ks':bf),EB id ks=some ks'->bC sz ks=true->bC sz ks'=true
 | [],ks',h,_=>by cases h
 | .inB i::r,ks',h,ho=>by
  simp only [EB] at h;simp only [bC,Ad] at ho;cases a:Ax i id with
  | true=>grind
  | false=>rw [a] at h;exact rX r ks' h ho.2
 | .code c::r,ks',h,ho=>rX r ks' h (by simp only [bC,Ad] at ho;exact ho.2)
 | .inL c::r,ks',h,ho=>rX r ks' h (by simp only [bC,Ad] at ho;exact ho.2)
 | .beginR::r,ks',h,ho=>rX r ks' h (by simp only [bC,Ad] at ho;exact ho.2)
def Goal.res:Goal->Res
 | .pure r=>r
 | .full _ r _=>r
 | .keep _ r _=>r
def Goal.obs:Goal->au
 | .pure _=>[]
 | .full _ _ o=>o
 | .keep _ _ o=>o
def Goal.strict:Goal->Bool
 | .keep _ _ _=>false
 | _=>true
def RR(M0:Imm)(ob0:Hs)(ap:au)(w0:World)(g:Goal)(e:Ending)(w':World):Prop:=∃ M' ob',Ext M0 ob0 ap w0 M' ob' g.obs w'/\Mem M' ob' g.obs w'/\sE M' ob' e g.res
def fF(P:Program)(fn:Func)(tmps:Array Value)(R:Ending->World->Prop):List Deferred->FrameMode->World->Prop
 | [],u,w=>Leaves P fn tmps R [] u w
 | d::ds,u,w=>u≠ .run/\((∃ r w',d.target= .collected r/\(Instr.takeDeferred r).run P w= .ok [] w'/\fF P fn tmps R ds u w')\/
   ∃ fv cap f args,d.target= .fn fv cap/\(invoke d.target d.args).run P w= .ok (.enter f args) w/\
   CallsD P f args u w fun
    | .returned _,u',w'=>fF P fn tmps R ds (settle u') w'
    | .panicked eX,u',w'=>fF P fn tmps R ds (raised u' eX) w'
    | .outgrown,_,w'=>R .outgrown w')
def fL{P:Program}{fn:Func}{tmps:Array Value}{R:Ending->World->Prop}:∀ (n:List Deferred) (u:FrameMode) (w:World) (fr:Frame)
  (cs:List Frame),fr.mode=u->fr.defers=n->fr.tmps=tmps->P.funcs[fr.fn]? =some fn->fF P fn tmps R n u w->
  ∃ e w' a,R e w'/\Comes P (lone fr cs w) (lone a cs w') e/\a.fn=fr.fn/\a.kind=fr.kind/\a.going P w' e:=by
 intro n;induction n with
 | nil=>
  intro u w fr cs s z A y h;cases u with
  | run=>exact h.elim
  | returning=>
   obtain ⟨v,J,D⟩:=h;exact ⟨.returned v,w,fr,D,Steps.refl P _,rfl,rfl,s,z,fn,y,A▸J⟩
  | panicking eX=>exact ⟨.panicked eX,w,fr,h,Steps.refl P _,rfl,rfl,s,z,fn,y⟩
 | cons d n H=>
  intro u w fr cs s z A y h;obtain ⟨o,⟨r,w',k,q,x⟩ | ⟨fv,cap,f,args,k,F,t⟩⟩:=h
  .have h1:=step_collected (cs:=cs) (s▸o) z k q;obtain ⟨B,l,a,m,hs',g,j,i⟩:=H u w' {fr with defers:=[]++n} cs s rfl A y x;exact ⟨B,l,a,m,Comes.of_steps (.one h1) hs',g,j,i⟩
  have h1:=step_defer (cs:=cs) (s▸o) z k F;obtain ⟨e,p,w',K,D,b,I,C⟩:=t {fr with defers:=n} cs s;cases e with
  | returned v=>
   have G:=step_going_returned (c:={{fr with defers:=n} with mode:=p}) (cs:=cs) I C;obtain ⟨B,l,a,m,hs',g,j,i⟩:=H (settle p) w' {{{fr with defers:=n} with mode:=p} with mode:=settle p} cs rfl rfl A y D;exact ⟨B,l,a,m,Comes.of_steps (.head h1 (Steps.trans b (.one G))) hs',g,j,i⟩
  | panicked eX=>
   have G:=step_going_panicked (c:={{fr with defers:=n} with mode:=p}) (cs:=cs) C;obtain ⟨B,l,a,m,hs',g,j,i⟩:=H (raised p eX) w' {{{fr with defers:=n} with mode:=p} with mode:=raised p eX} cs rfl rfl A y D;exact ⟨B,l,a,m,Comes.of_steps (.head h1 (Steps.trans b (.one G))) hs',g,j,i⟩
  | outgrown=>exact ⟨.outgrown,w',fr,D,Outgrown.of_steps (.one h1) b,rfl,rfl,trivial⟩
def nK{P:Program}{fr:Frame}{w:World}{e:Ending}(h:fr.going P w e)(a:fr.kind= .normal):fr.leaving P w e:=by
 cases e with
 | returned v=>exact ⟨h.1,h.2.1,a,h.2.2⟩
 | panicked b=>exact h
 | outgrown=>exact h
structure Shut(w0 w w':World):Prop where
 os:w'.os=w.os
 tape:w'.tape=w.tape
 output:w'.output=w.output
 size:w'.heap.size=w.heap.size
 heap:∀ b,w'.heap[b]? =w.heap[b]?\/(w0.heap.size<=b/\w.heap[b]? =some (.deferred (some [])))
def nI{P:Program}{fn:Func}{tmps:Array Value}{R:Ending->World->Prop}{w0:World}{u:FrameMode}(g:u≠ .run):∀ (a:List Deferred) (w:World),Mks w0 w a->(∀ w',Shut w0 w w'->Leaves P fn tmps R [] u w')->fF P fn tmps R a u w
 | [],w,_,h=>h w ⟨rfl,rfl,rfl,rfl,λ b=>.inl rfl⟩
 | d::a,w,⟨⟨b,h1,h2,h3,h4⟩,h5⟩,h=>by
  refine ⟨g,.inl ⟨b,_,h1,run_takeDeferred h3,?_⟩⟩;refine nI g a _ (h5.same λ l j c i k=>?_) λ w' hs=>h w' ⟨hs.os,hs.tape,hs.output,hs.size.trans World.putObj_size,λ c=>?_⟩
  .have f:c≠b:=λ e=>by simp_all
   rw [Gq f];exact k
  .by_cases i:c=b
   .grind
   .have:=hs.heap c;rwa [Gq i] at this
def Mem.shut{w0 w w':World}{M:Imm}{ob:Hs}{ac:au}(hm:Mem M ob ac w)(h:Shut w0 w w'):Mem M ob ac w':=by
 have f:∀ {b:Nat} {o:Obj},w.heap[b]? =some o->DQ o=false->w'.heap[b]? =some o:=λ{b o} h1 h2=>by
  rcases h.heap b with q | ⟨_,q⟩
  .grind
  .rw [h1] at q;cases q;cases h2
 refine ⟨λ b o x p=>?_,hm.len,λ k c g=>?_,λ k b n=>by rw [h.size];exact hm.lt k b n,hm.inj⟩
 .obtain ⟨v,a,j⟩:=hm.imm b o x p;refine ⟨v,?_,j⟩;unfold Kk at a⊢;dsimp only at a⊢;cases i:w.heap[b]? with
  | none=>simp_all
  | some ob=>
   rw [i] at a;cases ob with
   | cells c _ _=>rw [f i rfl];exact a
   | _=>cases a
 .obtain ⟨hs',d,e⟩:=hm.obj k c g;refine ⟨hs',d,e.mono (λ_ _ _ h=>h) (dJ.refl _) (λ_ _ _ _ h=>h) (λ b s r l m=>?_)⟩;obtain ⟨o,u,t⟩:=hm.alive_heap ((cO g d).2 ⟨r,l⟩)
  grind
def Ext.shut{w0 w w':World}{M0 M:Imm}{ob0 ob:Hs}{ap ac:au}(a:Ext M0 ob0 ap w0 M ob ac w)(h:Shut w0 w w'):Ext M0 ob0 ap w0 M ob ac w':=
 ⟨a.imm,a.new,a.hs,h.os.trans a.os,h.tape.trans a.tape,h.output.trans a.output,by rw [h.size];exact a.size,λ b c d=>by
  rcases h.heap b with q | ⟨q,_⟩
  .rw [q];exact a.keep b c d
  .omega,a.fresh⟩
def E6(E:Env)(fn:Func)(M0:Imm)(ob0:Hs)(ap:au)(w0:World)(g:Goal)(b:Bool)(a:Act)(w:World):Prop:=match E.rd with
 | none=>fF E.P fn a.tmps (RR M0 ob0 ap w0 g) a.defers .returning w
 | some _=>RR M0 ob0 ap w0 g (.returned (.bool b)) w
def nN(E:Env)(fn:Func)(M0:Imm)(ob0:Hs)(ap:au)(w0:World)(g:Goal):Exit->Act->World->Prop
 | .normal,a,w=>E6 E fn M0 ob0 ap w0 g true a w
 | .ret,a,w=>E6 E fn M0 ob0 ap w0 g false a w
 | .panic ch,a,w=>(match E.rd with | none=>fF E.P fn a.tmps (RR M0 ob0 ap w0 g) a.defers (.panicking ch) w | some _=>False)
 | _,_,_=>False
def qG(g:Goal)(ob0:Hs):Prop:=ob0.length=g.n0/\(g.strict=true->∀ hs∈ob0,hs.length=1)
def dD(E:Env)(fn:Func)(g:Goal)(ks:bf)(fr:ar)(ac:au):Prop:=
 bC fn.ntmps ks=true->∀ M0 ob0 ap w0 a w,qG g ob0->SS M0 ob0 ap w0 fn.ntmps E.df fr ac a w->KW E.rd E.P (nN E fn M0 ob0 ap w0 g) ks a w
def aEQ(E:Env)(fn:Func)(g:Goal)(fr:ar)(ac:au):Prop:=
 ∀ M0 ob0 ap w0 a w,qG g ob0->SS M0 ob0 ap w0 fn.ntmps E.df fr ac a w->fF E.P fn a.tmps (RR M0 ob0 ap w0 g) a.defers .returning w
def aEP(E:Env)(fn:Func)(g:Goal)(c:Nat->aa)(v:aa)(ac:au):Prop:=
 ∀ M0 ob0 ap w0 b a w,qG g ob0->PP M0 ob0 ap w0 fn.ntmps E.df c v ac b a w->fF E.P fn a.tmps (RR M0 ob0 ap w0 g) a.defers (.panicking b) w
def jE(E:Env)(fn:Func)(g:Goal)(a:Nat->aa)(v:aa)(ac:au):Prop:=match E.rd with
 | some _=>False
 | none=>match E.df with
  | []=>OX g .pan v ac
  | _::_=>aEP E fn g a v ac
def aKF(E:Env)(fn:Func)(g:Goal)(R:RI)(n:Nat)(rest:bb)(br:List (Nat×Nat))(fr:ar)(ac:au):Prop:=
 match R.dr with
 | false=>eX E R.all (dD E fn g R.ks) (jE E fn g) n rest fr ac
 | true=>iV E R.all R.tab (dD E fn g R.ks) (jE E fn g) n rest br fr ac
def aC5(E:Env)(fn:Func)(g:Goal)(R:RI)(n:Nat)(d:Option Nat)(rest:bb)(br:List (Nat×Nat))(fr:ar)(len:Nat)(ac:au)(v:aa):Prop:=
 wrP rest n d fr v λ fr=>aKF E fn g R (n+1) rest (bif R.dr then born n len (iH len ac) br else br) fr ac
def zD(E:Env)(fn:Func)(g:Goal):St->Prop
 | .code ks fr ac=>dD E fn g ks fr ac
 | .head ks fr ac=>dD E fn g ks fr ac
 | .mid R n rest br fr ac=>aKF E fn g R n rest br fr ac
 | .pend R n d rest br fr ac r=>(match R.dr with
  | false=>orF E.P ac (λ v ao=>aC5 E fn g R n d rest br fr (aM ac) ao v) (jE E fn g (aW fr)) r
  | true=>orD E.P (soN E R.tab R.all n d) (uoN E R.tab R.all n d) (blD E d) (pY E R.tab n br ac d) ac (aM ac) (λ v ao=>aC5 E fn g R n d rest br fr (aM ac) ao v) (jE E fn g (aW fr)) r)
 | .got R n d rest br fr len ac v=>aC5 E fn g R n d rest br fr len ac v
 | .leave none fr ac=>aEQ E fn g fr ac
 | .leave (some v) fr ac=>aEP E fn g (aW fr) v ac
section
variable {E:Env} {M:Imm} {ob:Hs} {ac:au} {w:World}
def QV(hE:ae E)(hm:Mem M ob ac w){fr:ar}{x:aa}{tmps:Array Value}{r:ResultVar}(h:aKe E ac fr r=some x)(q:∀ t,Rep M ob (tmps.getD t undef) (aW fr t)):
  ∃ v,(match r with | .tmp t=>(Pure.pure (tmps.getD t undef):Sem Value) | .cell a t=>(asAddr (tmps.getD a undef)) >>= loadVar t).run E.P w= .ok v w/\Rep M ob v x:=by
 cases r with
 | tmp t=>cases h;exact ⟨_,rfl,q t⟩
 | cell a t=>
  simp only [aKe] at h;show ∃ v,((asAddr (tmps.getD a undef)) >>= loadVar t).run E.P w= .ok v w/\Rep M ob v x;have p:=q a;split at h
  .rename_i A k off y C;rw [C] at p;split at h
   .rename_i cs m;split at h
    .rename_i l hl;obtain ⟨b,hav,s⟩:=p.ref_inv;obtain ⟨hs,h1,n,rfl,_,cv,H,g,_,f⟩:=hm.obj k _ (bZ m s_);have j:n=b:=by rw [bW h1] at s;simpa using s
     subst j;obtain ⟨F,D⟩:=jP hl;obtain ⟨u,B,z⟩:=NX (P:=E.P) (w:=w) (M:=M) (ob:=ob) (hE.tab t A y) (b:=n) (o:=off) h F λ i c G=>by
      have d:=D i c G;rw [mB,Bq] at d;have e:off+i<cv.length:=by rw [g];exact (Ab.1 d).1
      exact ⟨cv[off+i],by rw [cell_of_row w n _ _ _ (0,0) H];simp [e],f _ _ c (Aa e) d⟩
     refine ⟨u,?_,z⟩;rw [hav];simp only [asAddr,Bh,Bz,Aq];exact B
    .cases h
   .cases h
  .cases h
def CM(hE:ae E)(hm:Mem M ob ac w){fr:ar}{tmps:Array Value}(e:∀ t,Rep M ob (tmps.getD t undef) (aW fr t)):
  ∀ (b:List ResultVar) {xs:ay},aBA E ac fr b=some xs->∃ vs,(b.mapM λ(r:ResultVar)=>(match r with | .tmp t=>(Pure.pure (tmps.getD t undef):Sem Value) | .cell a t=>(asAddr (tmps.getD a undef)) >>= loadVar t)).run E.P w= .ok vs w/\cA M ob vs xs
 | [],xs,h=>by
  cases h;exact ⟨[],by simp,rfl,λ i v a h=>by simp at h⟩
 | r::b,xs,h=>by
  simp only [aBA] at h;split at h
  .rename_i x l j hl;cases h;obtain ⟨v,g,f⟩:=QV hE hm j e;obtain ⟨vs,d,c⟩:=CM hE hm e b hl;refine ⟨v::vs,?_,cA.cons f c⟩;rw [List.mapM_cons];simp only [Bh];rw [g];simp only [Aq];rw [d];simp
  .cases h
def QW(hE:ae E)(hm:Mem M ob ac w){fn:Func}{fr:ar}{x:aa}{tmps:Array Value}(h:aBB E ac fn.results.toList fr=some x)
  (i:∀ t,Rep M ob (tmps.getD t undef) (aW fr t)):∃ v,(results fn tmps).run E.P w= .ok v w/\Rep M ob v x:=by
 have hl:∃ xs,aBA E ac fr fn.results.toList=some xs/\((∃ y,xs=[y]/\x=y)\/(xs.length≠1/\x= .tup xs)):=by
  unfold aBB at h;split at h
  .simp_all
  .rename_i l c hl;cases h;refine ⟨_,hl,.inr ⟨λ h1=>?_,rfl⟩⟩
   match l,h1 with
   | [y],_=>grind
  .cases h
 obtain ⟨xs,d,f⟩:=hl;obtain ⟨vs,e,b⟩:=CM hE hm i _ d;have g:fn.results=fn.results.toList.toArray:=by simp
 have key:(results fn tmps).run E.P w= .ok (if h:vs.toArray.size=1 then vs.toArray[0] else .tuple vs.toArray) w:=by unfold results;rw [g,List.mapM_toArray];simp only [Bh,map_eq_pure_bind];have:(fn.results.toList.mapM λ(r:ResultVar)=>(match r with | .tmp t=>(Pure.pure (tmps.getD t undef):Sem Value) | .cell a t=>(asAddr (tmps.getD a undef)) >>= loadVar t)).run E.P w= .ok vs w:=e;refine (congrArg (λ z=>Ee (Ee z _) _) this).trans ?_;simp
 rw [key];rcases f with ⟨y,rfl,rfl⟩ | ⟨h1,rfl⟩
 .match vs,b with
  | [v],b=>exact ⟨v,by simp,b.2 0 v _ rfl rfl⟩
  | [],b=>have:=b.1;simp at this
  | _::_::_,b=>have:=b.1;simp at this
 .have c:¬ vs.toArray.size=1:=by rw [Gn,b.1];exact h1
  exact ⟨.tuple vs.toArray,by rw [dif_neg c],.tup vs xs b.1 b.2⟩
def kZ:∀ {n j:Nat} {ks:az},iY n j ks=true->∀ i,i<n->ks[i]? =some (j+i)
 | 0,_,_,_,i,hi=>by omega
 | n+1,j,[],h,_,_=>by cases h
 | n+1,j,k::r,h,i,hi=>by
  simp only [iY,Ad] at h;have:=aC h.1;subst this;cases i with
  | zero=>rfl
  | succ i=>
   have:=kZ h.2 i o_;rw [show k+(i+1)=k+1+i from by omega];simp_all
def uS{M0:Imm}{ob0:Hs}{ap:au}{w0:World}{g:Goal}{f:aa->Res}{v:aa}{u:Value}(hst:qG g ob0)(d:Ext M0 ob0 ap w0 M ob ac w)(hm:Mem M ob ac w)(B:Rep M ob u v)(h:OX g f v ac):
  ∃ M' ob' y,Ext M0 ob0 ap w0 M' ob' g.obs w/\Mem M' ob' g.obs w/\Rep M' ob' u y/\f y=g.res:=by
 cases g with
 | pure r=>
  obtain ⟨z,l,m,_,P⟩:=hm.frzL [v];have N:ob0=[]:=Az hst.1;subst N;have a:=d.trans m;have no:∀ k b,¬ aG ([]:Hs) [] k b:=λ k b ⟨c,hs,e,_⟩=>by simp at e
  exact ⟨z,[],_,⟨a.imm,a.new,dJ.refl _,a.os,a.tape,a.output,a.size,a.keep,λ k b o=>(no k b o).elim⟩,l.bare,l.cvtV (n0:=0) (ks:=[]) rfl 5 u v (B.monoM m.imm),h⟩
 | full n0 r ao=>
  obtain ⟨J,ks,⟨x,q⟩,h1,s⟩:=h;obtain ⟨z,l,m,_,P⟩:=Mem.frzs J M ac hm;obtain ⟨Q,L,_⟩:=l.cvt (n0:=n0) x;have a:=d.trans m;have I:ob0.length=n0:=hst.1;refine ⟨z,_,_,⟨a.imm,a.new,λ j hs C=>?_,a.os,a.tape,a.output,a.size,a.keep,λ j b o=>?_⟩,?_,l.cvtV (n0:=n0) x 5 u v (B.monoM m.imm),h1⟩
  .have i:j<n0:=by rw [<-I];exact (Ab.1 C).1
   have p:=kZ q j i;rw [Bp] at p;obtain ⟨hs',G,t,A⟩:=a.hs j hs C;have O:=hst.2 rfl hs (Av C);refine ⟨iU n0 j (aB (AW.aj J ac) j) hs',?_,?_⟩
   .rw [gZ,p];simp [G]
   .unfold iU;split
    .rw [<-A];have:(hs++t).take 1=hs:=by rw [Db o_,Ch o_]
     rw [this];simp
    .exact ⟨t,A⟩
  .obtain ⟨k,_,F⟩:=L j b (by rw [s];exact o);exact a.fresh k b F
  .show Mem z _ ao w
   grind
 | keep n0 r ao=>
  obtain ⟨⟨D,n⟩,h1,s⟩:=h;rw [C1] at n s;obtain ⟨H,K⟩:=hm.cutO n;have I:ob0.length=n0:=hst.1;rw [s] at H K;refine ⟨M,ob.take n0,v,⟨d.imm,d.new,λ k hs x=>?_,d.os,d.tape,d.output,d.size,d.keep,λ k b o=>d.fresh k b (K o)⟩,H,BS 5 B D,h1⟩;obtain ⟨hs',G,A⟩:=d.hs k hs x;have i:k<n0:=by grind
  exact ⟨hs',by grind,A⟩
end
section
variable {E:Env} {fn:Func} {g:Goal}
def go_ret(hE:ae E)(c:E.df=[])(i:E.rd=none){fr:ar}{ac:au}{v:aa}(l:aBB E ac fn.results.toList fr=some v)(h:OX g .ret v ac){M0:Imm}{ob0:Hs}{ap:au}{w0:World}{a:Act}{w:World}
  (hst:qG g ob0) (hs:SS M0 ob0 ap w0 fn.ntmps E.df fr ac a w):fF E.P fn a.tmps (RR M0 ob0 ap w0 g) a.defers .returning w:=by
 obtain ⟨M,ob,d,hm,o,f,e,r⟩:=hs;rw [c] at e;refine nI (w0:=w0) s_ _ _ e.marks λ w' b=>?_;have d:=d.shut b;have hm:=hm.shut b;obtain ⟨u,n,j⟩:=QW hE hm l o;obtain ⟨M',ob',y,k,m,q,p⟩:=uS hst d hm j h;refine ⟨u,n,M',ob',k,m,?_⟩;rw [<-p];exact q
def V4(hE:ae E){b:Bool}{fr:ar}{ac:au}(h:aGa E fn g (zD E fn g) b fr ac){M0:Imm}{ob0:Hs}{ap:au}{w0:World}{a:Act}{w:World}
  (hst:qG g ob0) (hs:SS M0 ob0 ap w0 fn.ntmps E.df fr ac a w):E6 E fn M0 ob0 ap w0 g b a w:=by
 unfold aGa at h;unfold E6;cases c:E.rd with
 | some l=>
  rw [c] at h;dsimp only at h⊢;rw [KC] at h;obtain ⟨M,ob,m,hm,q,f,p,r⟩:=hs;obtain ⟨M',ob',y,i,k,n,o⟩:=uS hst m hm (.bool b) h;exact ⟨M',ob',i,k,by rw [<-o];exact n⟩
 | none=>
 rw [c] at h;dsimp only at h⊢;cases e:E.df with
 | nil=>
  rw [e] at h;dsimp only at h;split at h
  .rename_i v j;rw [kT,KC] at h;exact go_ret hE e c j h hst hs
  grind
 | cons d s=>
  rw [e] at h;exact h M0 ob0 ap w0 a w hst hs
def aKY(c:E.df=[]){v:aa}{ac:au}(h:OX g .pan v ac){M0:Imm}{ob0:Hs}{ap:au}{w0:World}{sz:Nat}{o:Nat->aa}{f:List PanicEntry}{a:Act}{w:World}
  (hst:qG g ob0) (hs:PP M0 ob0 ap w0 sz E.df o v ac f a w):fF E.P fn a.tmps (RR M0 ob0 ap w0 g) a.defers (.panicking f) w:=by
 obtain ⟨M,ob,l,hm,⟨u,e,i⟩,_,_,d,_⟩:=hs;rw [c] at d;refine nI (w0:=w0) s_ _ _ d.marks λ w' b=>?_;obtain ⟨M',ob',y,j,k,n,m⟩:=uS hst (l.shut b) (hm.shut b) i h;refine ⟨M',ob',j,k,?_⟩;rw [<-m];exact ⟨u,e,n⟩
def wV{f:Nat->aa}{v:aa}{ac:au}(h:jE E fn g f v ac){M0:Imm}{ob0:Hs}{ap:au}{w0:World}{c:List PanicEntry}{a:Act}{w:World}
  (hst:qG g ob0) (hs:PP M0 ob0 ap w0 fn.ntmps E.df f v ac c a w):nN E fn M0 ob0 ap w0 g (.panic c) a w:=by
 unfold jE at h;unfold nN;cases e:E.rd with
 | some l=>grind
 | none=>
 rw [e] at h;dsimp only at h⊢;cases b:E.df with
 | nil=>
  rw [b] at h;exact aKY b h hst hs
 | cons d i=>
  rw [b] at h;exact h M0 ob0 ap w0 c a w hst hs
def lC{sz:Nat}{l:bb}(h:aJl sz l=true):∀ p∈l,∀ d,p.dst=some d->d<sz:=λ p hp d a=>by have:=Cr.1 h p hp;simp_all
def QR(E:Env)(fn:Func)(g:Goal)(M0:Imm)(ob0:Hs)(ap:au)(w0:World)(ks:bf):Exit->Act->World->Prop
 | .normal,a,w=>KW E.rd E.P (nN E fn M0 ob0 ap w0 g) ks a w
 | .panic ch,a,w=>nN E fn M0 ob0 ap w0 g (.panic ch) a w
 | _,_,_=>False
def ZE(hE:ae E)(j:∀ ops:Array Oper,MJ ops=true->TabSp ops (gS [] ops.toList)){id:Nat}{ops:Array Oper}{dr:Bool}{ks:bf}{fr:ar}{ac:au}
  (h:aKF E fn g ⟨ops.toList,dr,gS [] ops.toList,ks⟩ 0 ops.toList [] fr ac):dD E fn g (.code (.region id ops dr)::ks) fr ac:=by
 intro s M0 ob0 ap w0 a w hst hs;simp only [bC,KI.ok,cZ,Ad] at s;obtain ⟨⟨n,l⟩,m⟩:=s;have q:=lC n
 refine KW.code (Q':=QR E fn g M0 ob0 ap w0 ks) ?_ (λ a w h=>h) (λ b a w h=>h) (λ e a w x=>by cases e<;>first | exact .inl rfl | exact .inr ⟨_,rfl⟩ | exact x.elim)
 have hp:∀ f v ac b a w,jE E fn g f v ac->PP M0 ob0 ap w0 fn.ntmps E.df f v ac b a w->nN E fn M0 ob0 ap w0 g (.panic b) a w:=λ f v ac b a w u k=>wV u hst k;have r:∀ fr ac a w,dD E fn g ks fr ac->SS M0 ob0 ap w0 fn.ntmps E.df fr ac a w->KW E.rd E.P (nN E fn M0 ob0 ap w0 g) ks a w:=λ fr ac a w t hs=>t m M0 ob0 ap w0 a w hst hs;cases dr with
 | false=>
  refine wpIn_region_list ?_;exact mY (rd:=E.rd) (Q:=QR E fn g M0 ob0 ap w0 ks) (K:=dD E fn g ks) (Kp:=jE E fn g) hE (λ f v ac b a w h1 c=>hp f v ac b a w h1 c) (λ fr ac a w h1 c=>r fr ac a w h1 c) ops.toList 0 fr ac a w q h hs
 | true=>
  exact QY (rd:=E.rd) (Q:=QR E fn g M0 ob0 ap w0 ks) (Kq:=dD E fn g ks) (Kp:=jE E fn g) hE (j ops (by simpa using l)) (λ i p y d o=>q p (Av (i:=i) q_) d o) (λ f v ac b a w h1 c=>hp f v ac b a w h1 c) (λ fr ac a w h1 c=>r fr ac a w h1 c) hs h
def dD.step{ks ks':bf}{fr:ar}{ac:au}(hs:∀ a w (b:Frame) cs,Go.step E.P (lone (b.atR a (gY ks)) cs w)= .next (lone (b.atR a (gY ks')) cs w))(d:bC fn.ntmps ks=true->bC fn.ntmps ks'=true)(h:dD E fn g ks' fr ac):dD E fn g ks fr ac:=
 λ e M0 ob0 ap w0 a w hst c=>KW.step (hs a w) (h (d e) M0 ob0 ap w0 a w hst c)
def go(hE:ae E)(D:∀ ops:Array Oper,MJ ops=true->TabSp ops (gS [] ops.toList)):∀ (u:Nat) (st:St),bS E fn g (zD E fn g) u st->zD E fn g st:=by
 intro u;induction u with
 | zero=>intro st h;exact h
 | succ n e=>
  intro st h;cases st with
  | head ks fr ac=>exact e (.code ks fr ac) h
  | leave p fr ac=>exact h
  | code ks fr ac=>
   cases ks with
   | nil=>
    simp only [bS] at h;exact λ_ M0 ob0 ap w0 a w hst hs=>KW.nil (V4 (b:=true) hE h hst hs)
   | cons k ks=>
    cases k with
    | inB id=>exact dD.step (λ a w b cs=>stepR_inBlock) (λ j=>by simp only [bC,Ad] at j;exact j.2) (e (.code ks fr ac) h)
    | inL b=>
     exact dD.step (ks':=.code b:: .inL b::ks) (λ a w b cs=>stepR_inLoop) (λ j=>by simp only [bC,KI.ok,Ad] at j⊢;grind) h
    | beginR=>exact h
    | code q=>
     cases q with
     | rangeFunc x W as U=>exact h
     | skip=>exact dD.step (λ a w b cs=>stepR_skip) (λ j=>by simp only [bC,Ad] at j;exact j.2) (e (.code ks fr ac) h)
     | seq x y=>exact dD.step (λ a w b cs=>stepR_seq) (λ j=>by simp only [bC,KI.ok,cZ,Ad] at j⊢;grind) (e (.code (.code x:: .code y::ks) fr ac) h)
     | block id b=>exact dD.step (λ a w b cs=>stepR_block) (λ j=>by simp only [bC,KI.ok,cZ,Ad] at j⊢;grind) (e (.code (.code b:: .inB id::ks) fr ac) h)
     | loop b=>exact dD.step (ks':=.code b:: .inL b::ks) (λ a w b cs=>stepR_loop) (λ j=>by simp only [bC,KI.ok,cZ,Ad] at j⊢;grind) h
     | exit id=>
            simp only [bS] at h;split at h
            .rename_i ks' H;exact dD.step (λ a w b cs=>stepR_exit (lX _ _ H)) (λ j=>rX _ _ H (by simp only [bC,Ad] at j;exact j.2)) (e (.code ks' fr ac) h)
            grind
     | ret=>
            simp only [bS] at h;exact λ_ M0 ob0 ap w0 a w hst hs=>KW.ret (V4 (b:=false) hE h hst hs)
     | cond x c d=>
            simp only [bS] at h;split at h
            .rename_i p hp;intro j M0 ob0 ap w0 a w hst hs;simp only [bC,KI.ok,cZ,Ad] at j;obtain ⟨M,ob,H,hm,N,L,Q,V⟩:=id hs;have B:=EC (a:=a) N x;rw [hp] at B;cases p with
             | true=>
              refine KW.step (ks':=.code c::ks) (λ b cs=>?_) (h.1 rfl (by simp only [bC,KI.ok,Ad];exact ⟨j.1.1,j.2⟩) M0 ob0 ap w0 a w hst hs);exact stepR_cond (P:=E.P) (b:=b) (k:=gY ks) (cs:=cs) (w:=w) (x:=c) (y:=d) B.bool_inv
             | false=>
              refine KW.step (ks':=.code d::ks) (λ b cs=>?_) (h.2 rfl (by simp only [bC,KI.ok,Ad];exact ⟨j.1.2,j.2⟩) M0 ob0 ap w0 a w hst hs);exact stepR_cond (P:=E.P) (b:=b) (k:=gY ks) (cs:=cs) (w:=w) (x:=c) (y:=d) B.bool_inv
            grind
     | region id ops dr=>
            simp only [bS] at h;cases A:aMO ops.toList with
            | true=>grind
            | false=>
             rw [A] at h;dsimp only at h;refine ZE hE D ?_;cases dr with
             | false=>
              have:=e (.mid ⟨ops.toList,false,[],ks⟩ 0 ops.toList [] fr ac) h;exact this
             | true=>
              simp only [aEz] at h;exact e (.mid ⟨ops.toList,true,gS [] ops.toList,ks⟩ 0 ops.toList [] fr ac) h
     | _=>exact h.elim
  | mid R i rest br fr ac=>
   cases rest with
   | nil=>
    have K:=e (.code R.ks fr ac) h;obtain ⟨all,dr,tab,ks⟩:=R;cases dr with
    | false=>exact K
    | true=>exact K
   | cons p rest=>
    obtain ⟨all,dr,tab,ks⟩:=R;cases dr with
    | false=>
     simp only [bS] at h;show eX E all (dD E fn g ks) (jE E fn g) i (p::rest) fr ac;simp only [eX];cases G:cH all (ev fr) p.guard with
     | none=>grind
     | some b=>
            rw [G] at h;cases b with
            | false=>
             cases o:p.dst with
             | none=>rw [o] at h;exact e _ h
             | some d=>
              rw [o] at h;dsimp only at h;rw [kW] at h;exact e (.mid ⟨all,false,tab,ks⟩ (i+1) rest br (iE fr d (.tup [])) ac) h
            | true=>exact e (.pend ⟨all,false,tab,ks⟩ i p.dst rest br fr ac _) h
    | true=>
     simp only [bS] at h;show iV E all tab (dD E fn g ks) (jE E fn g) i (p::rest) br fr ac;simp only [iV];cases G:cH all (evH tab all i fr) p.guard with
     | none=>grind
     | some b=>
            rw [G] at h;cases b with
            | false=>
             cases o:p.dst with
             | none=>rw [o] at h;exact e _ h
             | some d=>
              rw [o] at h;dsimp only at h;rw [kW] at h;exact e (.mid ⟨all,true,tab,ks⟩ (i+1) rest br (iE fr d (.tup [])) ac) h
            | true=>
             dsimp only at h;rw [pW] at h;exact e (.pend ⟨all,true,tab,ks⟩ i p.dst rest br fr ac _) h
  | got R i d rest br fr len ac v=>
   simp only [bS,kT,pW] at h;show aC5 E fn g R i d rest br fr len ac v;unfold aC5 wrP;cases d with
   | none=>exact e _ h
   | some d=>
    dsimp only at h⊢;cases J:wQ i rest with
    | false=>
     rw [J] at h;simp only [cond_false,kW] at h;exact e _ h
    | true=>
     rw [J] at h;simp only [cond_true] at h⊢;split at h
     .rw [kW,kW] at h;exact h
     omega
  | pend R i d rest br fr ac r=>
   obtain ⟨all,dr,tab,ks⟩:=R;have I:∀ {q:Prop} {b:Bool},(match (!dr||b) with | true=>q | false=>False)->q/\(dr=true->b=true):=λ{q b} hq=>by grind
   cases r with
   | no=>exact h.elim
   | val v=>
    simp only [bS,kT] at h;have:=e _ h;cases dr<;>exact this
   | mkf f X cs=>
    simp only [bS,K9 (kT 3)] at h;have:=e _ h;cases dr<;>exact this
   | need p r=>
    simp only [bS] at h;cases dr<;>exact h
   | alt p v S=>
    simp only [bS] at h;cases dr<;>exact h
   | idx m f=>
    simp only [bS] at h;cases dr<;>exact h
   | elem xs m f=>
    simp only [bS] at h;cases dr<;>exact h
   | byte l m=>
    simp only [bS] at h;cases dr<;>exact h
   | text xs=>
    simp only [bS] at h;cases dr<;>exact h
   | find es key f=>
    simp only [bS] at h;cases dr<;>exact h
   | born x v=>
    simp only [bS,aEN,pW,kT] at h;cases dr with
    | false=>
     have:=e (.got _ _ _ _ _ _ _ _ _) h;exact this
    | true=>
     cases s:blD E d with
     | true=>rw [s] at h;exact h.elim
     | false=>
            rw [s] at h;have:=e (.got _ _ _ _ _ _ _ _ _) h;simp only [zD];rw [s];exact this
   | upd k x v=>
    simp only [bS,aEN,pW,kT] at h;obtain ⟨h,t⟩:=I h;have:=e _ h;cases dr with
    | false=>exact this
    | true=>
     simp only [zD,orD];rw [t rfl];exact this
   | nilq xs O=>
    simp only [bS] at h;obtain ⟨h,t⟩:=I h;cases dr with
    | false=>exact h
    | true=>
     simp only [zD];rw [t rfl];exact h
   | call f args=>
    have C:aKt E g (zD E fn g) fr=jE E fn g (aW fr):=by rfl
    simp only [bS,K9 (kT 5),C] at h;cases dr with
    | false=>exact h
    | true=>
     dsimp only at h;cases s:blD E d with
     | true=>rw [s] at h;exact h.elim
     | false=>
            rw [s] at h;dsimp only at h;rw [pW] at h;simp only [zD];rw [s];exact h
   | pan v=>
    simp only [bS,kT] at h;obtain ⟨z,t⟩:=I h;have h3:jE E fn g (aW fr) v ac:=by
     unfold jE;cases F:E.rd with
     | some l=>rw [F] at z;omega
     | none=>
     rw [F] at z;dsimp only at z⊢;cases A:E.df with
     | nil=>rw [A] at z;dsimp only at z⊢;rw [KC] at z;exact z
     | cons d T=>rw [A] at z;exact z
    cases dr with
    | false=>exact h3
    | true=>
     simp only [zD];rw [t rfl];exact h3
end
def nP(P:Program)(f:FuncId):Prop:=∀ (args:Array Value) (w:World),(callFunc f args).run P w= .ok (.enter f args) w
def D0:∀ (l:ay) (n t:Nat),aW (frA n l) t=if n<=t then (l[t-n]?).getD .undef else .undef
 | [],n,t=>by simp [frA,aW]
 | a::l,n,t=>by
  simp only [frA,aW];cases h:Ax n t with
  | true=>simp_all
  | false=>
   have c:n≠t:=λ e=>by simp_all
   simp only [cond_false];rw [D0 l (n+1) t];by_cases b:n+1<=t
   .rw [if_pos b,if_pos o_];have:t-n=(t-(n+1))+1:=o_;simp_all
   grind
def PN{P:Program}{f:FuncId}{fn:Func}{c:Code}{args:Array Value}{w:World}{R:Ending->World->Prop}(t:P.funcs[f]? =some fn)(u:fn.body=some c)
  {Q:Exit->Act->World->Prop} (v:∀ e a w,Q e a w->(match e with | .normal | .ret=>fF P fn a.tmps R a.defers .returning w | .panic ch=>fF P fn a.tmps R a.defers (.panicking ch) w | _=>False)) (h:KW none P Q [.code c] {tmps:=args++Fy (fn.ntmps-args.size) undef,defers:=[]} w):Calls P f args w R:=by
 intro cs
 let b:Frame:={(default:Frame) with fn:=f,kind:=.normal}
 have m:Frame.enter P f args .normal=b.at {tmps:=args++Fy (fn.ntmps-args.size) undef,defers:=[]} [.code c]:=by simp [Frame.enter,Frame.at,t,u,b]
 obtain ⟨e,o,w',r,d⟩:=h.arrives b cs rfl;have r:=v _ _ _ r;rw [show gY [.code c]=[.code c] from rfl,<-m] at d;cases e with
 | normal=>
  obtain ⟨q,k,g,s,hs,i,p,hl⟩:=fL o.defers .returning w' {b.at o [] with mode:=.returning} cs rfl rfl rfl t r;exact ⟨q,k,g,s,Comes.of_steps (Steps.trans d (.one step_end)) hs,i,nK hl p⟩
 | ret=>
  obtain ⟨j,n⟩:=d;obtain ⟨q,k,g,s,hs,i,p,hl⟩:=fL o.defers .returning w' {b.at o j with mode:=.returning} cs rfl rfl rfl t r;exact ⟨q,k,g,s,Comes.of_steps n hs,i,nK hl p⟩
 | panic eX=>
  obtain ⟨j,n⟩:=d;obtain ⟨q,k,g,s,hs,i,p,hl⟩:=fL o.defers (.panicking eX) w' {b.at o j with mode:=.panicking eX} cs rfl rfl rfl t r;exact ⟨q,k,g,s,Comes.of_steps n hs,i,nK hl p⟩
 | exit id=>simp_all
 | goto l=>simp_all
 | outgrown=>simp_all
def okA:aa->Prop
 | .int k n=>inR k n
 | .str l=>(l.length:Int)<=9223372036854775807
 | .slice _ xs _=>(xs.length:Int)<=9223372036854775807
 | _=>True
def Rep.okA{M:Imm}{ob:Hs}{v:Value}{a:aa}(h:Rep M ob v a):okA a:=by
 cases a with
 | int k n=>exact h.int_inv.2
 | str l=>exact h.str_inv.2
 | slice sz xs t=>obtain ⟨_,_,_,_,_,h⟩:=h.slice_inv;exact h
 | _=>exact trivial
def okL:ay->Prop
 | []=>True
 | a::r=>okA a/\okL r
def cA.okL{M:Imm}{ob:Hs}:∀ {vs:ba} {as:ay},cA M ob vs as->okL as
 | _,[],_=>trivial
 | [],a::r,h=>by have:=h.1;simp at this
 | v::vs,a::r,h=>⟨(h.2 0 v a rfl rfl).okA,cA.okL (vs:=vs) ⟨by simpa using h.1,λ i u b d c=>h.2 (i+1) u b (by simp_all) (by simp_all)⟩⟩
def uH:au->Bool
 | []=>true
 | o::r=>o.owns&&Ax (eZ o) 0&&uH r
def uG:∀ {l:au},uH l=true->∀ (k:Nat) o,l[k]? =some o->o.owns=true/\eZ o=0
 | [],_,k,o,h=>by simp at h
 | x::r,hb,k,o,h=>by
  simp only [uH,Ad] at hb;cases k with
  | zero=>simp_all
  | succ k=>exact uG hb.2 k o (by simp_all)
def aA.of{E:Env}{f:FuncId}{fn:Func}{args:ay}{ac:au}{g:Goal}(l:E.df=[])(x:E.P.funcs[f]? =some fn)(z:fn.body=some (dA fn))(m:nP E.P f)
  (o:cZ fn.ntmps (dA fn)=true) (v:Fv args.length fn.ntmps=true) (n:uH ac=true) (y:ac.length=g.n0) (h:okL args->zD E fn g (.code [.code (dA fn)] (frA 0 args) ac)) (c:E.rd=none:=by rfl):aA E.P f args ac g.res g.obs:=by
 intro M ob w b hm j;refine .inl ⟨m _ _,PN (Q:=nN E fn M ob ac w g) x z (λ e a w h=>?_) ?_⟩
 .cases e<;>(try unfold nN E6 at h)<;>(try rw [c] at h)<;>exact h
 have r:b.length=args.length:=j.1;have s:=Ck v;have hst:qG g ob:=by
  refine ⟨by rw [hm.len,y],λ_ hs i=>?_⟩;obtain ⟨k,u⟩:=Cu i;have d:k<ac.length:=by rw [<-hm.len];grind
  obtain ⟨h1,A⟩:=uG n k _ (Aa d);have e:=gH (Aa d);have:=hm.histLen (by grind) u
  grind
 rw [<-c];refine h j.okL (by simp [bC,KI.ok,o]) M ob ac w {tmps:=b.toArray++Fy (fn.ntmps-b.toArray.size) undef,defers:=[]} w hst ⟨M,ob,Ext.refl _ _ _ _,hm,λ t=>?_,?_,by rw [l];exact cV.nil,by rw [hm.len];omega⟩
 .rw [D0];simp only [Bx,if_true,Iq];by_cases q:t<args.length
  .rw [Aa q];have p:t<b.length:=o_;have:(b.toArray++Fy (fn.ntmps-b.toArray.size) undef).getD t undef=b[t]:=by rw [Bk,Gz o_];simp [p]
   rw [this];exact j.2 t _ _ (Aa p) (Aa q)
  .rw [Bi o_];exact .undef _
 simp_all
def qT(m i:Nat):cL m i=m.testBit i:=by
 unfold cL Nat.testBit;have h1:Nat.land (Nat.shiftRight m i) 1=(m >>> i) % 2:=Nat.and_one_is_mod _;have a:(1 &&& (m >>> i))=(m >>> i) % 2:=by simp
 rw [h1,a];rcases Nat.mod_two_eq_zero_or_one (m >>> i) with h | h<;>rw [h]<;>rfl
def IA{tab:az}{i:Nat}:∀ {l:az},cL (jJ tab l) i=true↔ ∃ e∈l,e=i\/cL (cR tab e) i=true
 | []=>by rw [qT];simp [jJ]
 | x::r=>by
  have b:=IA (tab:=tab) (i:=i) (l:=r);rw [qT] at b⊢;have e:jJ tab (x::r)=(1 <<< x ||| cR tab x) ||| jJ tab r:=rfl
  rw [e,Nat.testBit_or,Nat.testBit_or,Nat.one_shiftLeft,Ky,Fb,Fb,b,decide_eq_true_eq];constructor
  .rintro ((h | h) | ⟨e,h1,a⟩)
   .simp_all
   .exact ⟨x,by simp,.inr (by rw [qT];exact h)⟩
   .exact ⟨e,by simp [h1],a⟩
  .rintro ⟨e,h1,a⟩;rcases Aw.1 h1 with rfl | h1
   .rcases a with a | a
    .omega
    .rw [qT] at a;grind
   .exact .inr ⟨e,h1,a⟩
def D2{a b:az}{j:Nat}(h:j<a.length):cR (a++b) j=cR a j:=by
 induction a generalizing j with
 | nil=>simp at h
 | cons x r c=>
  cases j with
  | zero=>rfl
  | succ j=>exact c (by grind)
def aDa{a:az}{m:Nat}:cR (a++[m]) a.length=m:=by
 induction a with
 | nil=>rfl
 | cons x r b=>exact b
def aC9{a:az}{j:Nat}(h:a.length<=j):cR a j=0:=by
 induction a generalizing j with
 | nil=>rfl
 | cons x r b=>
  cases j with
  | zero=>simp at h
  | succ j=>exact b (by grind)
def zA:∀ (l:bb) (tab:az),∃ t,gS tab l=tab++t/\t.length=l.length
 | [],tab=>⟨[],by simp [gS],rfl⟩
 | p::r,tab=>by obtain ⟨t,h1,a⟩:=zA r (tab++[jJ tab (iF p)]);exact ⟨jJ tab (iF p)::t,by simp [gS,h1],by simp [a]⟩
def AL{a b:az}:∀ {l:az},(∀ e∈l,cR a e=cR b e)->jJ a l=jJ b l
 | [],_=>rfl
 | x::r,h=>by
  have:=AL (l:=r) λ e c=>h e (by simp [c]);show Nk (Nk _ (cR a x)) (jJ a r)=Nk (Nk _ (cR b x)) (jJ b r)
  grind
def PZ:∀ (l:bb) (tab:az),KL tab.length l=true->∀ (i:Nat) p,l[i]? =some p->cR (gS tab l) (tab.length+i)=jJ (gS tab l) (iF p)/\∀ e∈iF p,e<tab.length+i
 | [],_,_,i,p,h=>by simp at h
 | q::r,tab,hb,i,p,h=>by
  simp only [KL,Ad] at hb;have b:∀ e∈iF q,e<tab.length:=λ e a=>by simp_all
  cases i with
  | zero=>
   simp at h;subst h;refine ⟨?_,λ e a=>by grind⟩;obtain ⟨t,h1,_⟩:=zA r (tab++[jJ tab (iF q)]);have c:gS tab (q::r)=(tab++[jJ tab (iF q)])++t:=h1;rw [Fm,c,D2 s_,aDa];refine AL λ e a=>?_;have:=b e a;rw [D2 q_,D2 this]
  | succ i=>
   have:=PZ r (tab++[jJ tab (iF q)]) (by simp_all) i p (by simp_all);simp only [Ai,Mv] at this;rw [show tab.length+(i+1)=tab.length+1+i from by omega];exact this
def ND{p:Oper}{i:Nat}:i∈iF p↔ ∃ e∈p.after,Jo .any e=true/\e.on=i:=by
 unfold iF
 grind
def EK{tab:az}{i d:Nat}:∀ {l:bb} {n:Nat},O1 tab i d n l=true->∀ (j:Nat) q,l[j]? =some q->loose tab i (n+j)=true->q.dst≠some d
 | [],_,_,j,q,h,_=>by simp at h
 | x::r,n,hb,j,q,h,hl=>by
  simp only [O1,Ad] at hb;cases j with
  | zero=>
   simp at h;subst h;intro e;simp_all
  | succ j=>exact EK hb.2 j q (by simp_all) (by grind)
def HY{tab:az}{all:bb}:∀ {l:bb} {n:Nat},aIb tab all n l=true->∀ (i:Nat) p d,l[i]? =some p->p.dst=some d->O1 tab (n+i) d 0 all=true
 | [],_,_,i,p,d,h,_=>by simp at h
 | x::r,n,hb,i,p,d,h,hd=>by
  simp only [aIb,Ad] at hb;cases i with
  | zero=>
   grind
  | succ i=>
   have:=HY hb.2 i p d (by simp_all) hd
   grind
def uK(ops:Array Oper)(h:MJ ops=true):TabSp ops (gS [] ops.toList):=by
 simp only [MJ,Ad] at h;obtain ⟨h1,u⟩:=h;have get:∀ (j:Nat) p,ops[j]? =some p->cR (gS [] ops.toList) j=jJ (gS [] ops.toList) (iF p)/\∀ e∈iF p,e<j:=λ j p hp=>by have:=PZ ops.toList [] h1 j p (by grind);simp_all
 have o:(gS [] ops.toList).length=ops.size:=by obtain ⟨t,s,C⟩:=zA ops.toList [];rw [s];simp;omega
 have c:∀ j i,cL (cR (gS [] ops.toList) j) i=true->j<ops.size:=λ j i g=>by refine Nat.lt_of_not_le λ v=>?_;rw [aC9 o_,qT] at g;simp at g
 have a:∀ (j:Nat) p,ops[j]? =some p->∀ e∈p.after,Jo .any e=true->e.on<j:=λ j p hp e f k=>(get j p hp).2 _ (ND.2 ⟨e,f,k,rfl⟩);have b:∀ (j:Nat) p,ops[j]? =some p->∀ i,cL (cR (gS [] ops.toList) j) i=true->∃ e∈p.after,Jo .any e=true/\(e.on=i\/cL (cR (gS [] ops.toList) e.on) i=true):=λ j p hp i r=>by rw [(get j p hp).1] at r;obtain ⟨e,f,m⟩:=IA.1 r;obtain ⟨A,w,y,B⟩:=ND.1 f;subst B;exact ⟨A,w,y,m⟩
 have d:∀ i j,cL (cR (gS [] ops.toList) i) j=true->j<i:=by
  intro i;induction i using Hx with
  | ind i x=>
   intro j g;have l:=c i j g;have hp:ops[i]? =some ops[i]:=Hb l;obtain ⟨e,f,k,h | h⟩:=b i _ hp j g
   .have:=a i _ hp e f k;omega
   .have h1:=a i _ hp e f k;have:=x e.on h1 j h;omega
 exact ⟨a,d,b,c,λ i j p q hp D hl t z=>by
  have:=HY (n:=0) u i p t q_ z;rw [Bp] at this
  exact EK this j q q_ q_⟩
inductive To(E:Env)(fn:Func)(g:Goal)(st:St):Prop
 | mk (h:zD E fn g st)
def aNF(E:Env)(fn:Func)(g:Goal):To E fn g=zD E fn g:=funext λ st=>propext ⟨λ⟨h⟩=>h,.mk⟩
def cP{E:Env}{fn:Func}{g:Goal}(hE:ae E)(a:Nat){st:St}(h:bS E fn g (To E fn g) a st):To E fn g st:=by rw [aNF] at h⊢;exact go hE uK a st h
def aA.to{E:Env}{f:FuncId}{fn:Func}{args:ay}{ac:au}{g:Goal}(b:E.df=[])(k:E.P.funcs[f]? =some fn)(i:fn.body=some (dA fn))(a:nP E.P f)
  (e:cZ fn.ntmps (dA fn)=true) (j:Fv args.length fn.ntmps=true) (c:uH ac=true) (l:ac.length=g.n0) (h:okL args->To E fn g (.code [.code (dA fn)] (frA 0 args) ac)) (d:E.rd=none:=by rfl):aA E.P f args ac g.res g.obs:=
 aA.of b k i a e j c l (λ m=>(h m).rec λ h=>h) d
def zvL(f:Value->aa):ba->ay
 | []=>[]
 | v::r=>f v::zvL f r
def zv:Nat->Value->aa
 | n+1,.agg vs=>.agg (zvL (zv n) vs.toList)
 | _,v=>aIt v
def TQ{M:Imm}{ob:Hs}{f:Value->aa}(e:∀ v,Rep M ob v (f v)):∀ (l:ba),l.length=(zvL f l).length/\∀ (i:Nat) v a,l[i]? =some v->(zvL f l)[i]? =some a->Rep M ob v a
 | []=>⟨rfl,λ i v a h=>by simp at h⟩
 | x::l=>by
  obtain ⟨h1,d⟩:=TQ e l;refine ⟨by simp [zvL,h1],λ i v a b c=>?_⟩;cases i with
  | zero=>simp [zvL] at b c;grind
  | succ i=>exact d i v a (by simpa using b) (by simpa [zvL] using c)
def aJs{M:Imm}{ob:Hs}:∀ (n:Nat) (v:Value),Rep M ob v (zv n v):=by
 intro n;induction n with
 | zero=>intro v;exact oO v
 | succ n b=>
  intro v;cases v with
  | agg vs=>
   obtain ⟨h1,a⟩:=TQ (M:=M) (ob:=ob) b vs.toList;have:=Rep.agg vs.toList _ h1 a;simpa [zv] using this
  | _=>exact oO _
def PK(P:Program):Nat->Nat->List (Option Nat)
 | 0,_=>[]
 | n+1,t=>match P.underlying t with
  | some (.struct fs)=>fs.toList.flatMap λ f=>PK P n f.type
  | some (.array len e)=>(Aj len (PK P n e)).flatten
  | some (.slice e)=>[some (((P.info? e).map (·.size)).getD 0)]
  | _=>[none]
def aE7:Option Nat->aa->aa
 | some sz,.nilslice=>.slice sz [] .nil
 | _,v=>v
def tyZ:List (Option Nat)->ay->ay
 | k::ks,c::cs=>aE7 k c::tyZ ks cs
 | _,cs=>cs
def zT(P:Program)(t:Nat)(z:Value):aa:=match zv 4 z with
 | .agg cs=>.agg (tyZ (PK P 6 t) cs)
 | v=>aE7 (match PK P 6 t with | k::_=>k | []=>none) v
def LL{M:Imm}{ob:Hs}{k:Option Nat}{v:Value}{a:aa}(h:Rep M ob v a):Rep M ob v (aE7 k a):=by
 unfold aE7;split
 .cases h;exact .slnil _ _ rfl
 .exact h
def T4{M:Imm}{ob:Hs}:∀ {ks:List (Option Nat)} {cs:ay} {vs:ba},cA M ob vs cs->cA M ob vs (tyZ ks cs)
 | [],cs,vs,h=>by cases cs<;>exact h
 | k::ks,[],vs,h=>h
 | k::ks,c::cs,[],h=>by have:=h.1;simp at this
 | k::ks,c::cs,v::vs,h=>cA.cons (LL (h.2 0 v c rfl rfl)) (T4 ⟨by simpa using h.1,λ i u b d a=>h.2 (i+1) u b (by simp_all) (by simp_all)⟩)
def aJt{M:Imm}{ob:Hs}{P:Program}{t:Nat}{z:Value}:Rep M ob z (zT P t z):=by
 have h:=aJs (M:=M) (ob:=ob) 4 z;unfold zT;split
 .rename_i cs a;rw [a] at h;obtain ⟨vs,rfl,h1,b⟩:=h.agg_inv;obtain ⟨c,d⟩:=T4 (ks:=PK P 6 t) ⟨h1,b⟩;exact .agg vs _ c d
 .exact LL h
def qZ(P:Program)(t:Nat):Nat:=((P.info? t).map (·.size)).getD 0
def mkF(P:Program)(f:Field):Nat×Nat×Bool:=(f.offset,qZ P f.type,aK P f.type)
def aKE(P:Program):List Field->List (Nat×Nat×Bool)
 | []=>[]
 | f::r=>mkF P f::aKE P r
def JY(P:Program)(t:Nat):Bool:=(P.info? t).isSome&&(P.underlying t).isSome
def fsB(P:Program):List Field->Bool
 | []=>true
 | f::r=>JY P f.type&&fsB P r
def JR(P:Program)(t:Nat):TK:=match P.underlying t with
 | some (.int k)=>.int k
 | some .bool=>.bool
 | some .string=>.str
 | some (.struct fs)=>.strct (aKE P fs.toList)
 | some (.array n e)=>.arr n (qZ P e) (aK P e)
 | some (.slice e)=>.slc e (qZ P e) (((P.info? e).map (·.bytes)).getD 0)
 | some (.pointer e)=>.ptr e
 | some (.interface _)=>.iface
 | some (.map k e)=>.mp k e
 | _=>.other
def aGW(P:Program)(t:Nat):TI:=match P.info? t with
 | some i=>⟨JR P t,i.size,aK P t,match i.zero with | some z=>zT P t z | none=>.undef⟩
 | none=>⟨.other,0,false,.undef⟩
def TS(P:Program)(t:Nat):Bool:=match P.info? t with
 | some i=>(match i.zero with
  | some z=>Ax z.cells.size i.size&&(z.cells.toList.all (·.oneCell')&&DC (zT P t z))
  | none=>false)
 | none=>false
def aNi(P:Program)(e:Nat):Bool:=TS P e
def okB(P:Program)(t:Nat):Bool:=TS P t&&match P.underlying t with
 | some (.int _) | some .bool | some .string | some (.pointer _) | some (.interface _) | some (.map _ _)=>Ax (qZ P t) 1
 | some (.struct fs)=>fsB P fs.toList
 | some (.array _ e)=>JY P e
 | some (.slice e)=>Ax (qZ P t) 1&&aNi P e
 | some _=>true
 | none=>false
def VE(P:Program):∀ (l:List Field),fsB P l=true->oV P l (aKE P l)
 | [],_=>trivial
 | f::r,h=>by simp only [fsB,Ad,JY] at h;obtain ⟨⟨h1,b⟩,h3⟩:=h;obtain ⟨i,a⟩:=Da.1 h1;exact ⟨rfl,by simp [qZ,a],b,rfl,VE P r h3⟩
def BY{P:Program}{t:Nat}(h:TS P t=true):∃ i z,P.info? t=some i/\i.zero=some z/\z.cells.size=i.size/\z.cells.toList.all (·.oneCell')=true/\zT P t z≠ .undef:=by
 unfold TS at h;split at h
 .rename_i i a;split at h
  .rename_i z hz;simp only [Ad] at h;obtain ⟨h1,b,h3⟩:=h;exact ⟨i,z,a,hz,aC h1,b,BI h3⟩
  .cases h
 .cases h
def aGV{P:Program}{t:Nat}(h:okB P t=true):TIOK P t (aGW P t):=by
 simp only [okB,Ad] at h;obtain ⟨r,h1⟩:=h;obtain ⟨i,z,o,hz,hs,f,g⟩:=BY r;have hm:aGW P t=⟨JR P t,i.size,aK P t,zT P t z⟩:=by simp [aGW,o,hz]
 have hst:qZ P t=i.size:=by simp [qZ,o]
 rw [hm];refine ⟨⟨i,z,o,rfl,hz,hs,aJt,f,g⟩,?_⟩;show vC P t (aK P t) i.size (JR P t);unfold JR;have b:∀ d,P.underlying t=some d->aK P t=match d with | .struct _ | .array _ _=>true | _=>false:=λ d p=>by unfold aK;rw [p];cases d<;>rfl
 split at h1
 .rename_i k a;rw [a];exact ⟨a,b _ a,by rw [<-hst];exact aC h1⟩
 .rename_i a;rw [a];exact ⟨a,b _ a,by rw [<-hst];exact aC h1⟩
 .rename_i a;rw [a];exact ⟨a,b _ a,by rw [<-hst];exact aC h1⟩
 .rename_i e a;rw [a];exact ⟨a,b _ a,by rw [<-hst];exact aC h1⟩
 .rename_i q a;rw [a];exact ⟨⟨q,a⟩,b _ a,by rw [<-hst];exact aC h1⟩
 .rename_i mk F a;rw [a];exact ⟨a,b _ a,by rw [<-hst];exact aC h1⟩
 .rename_i u a;rw [a];exact ⟨⟨u,a,VE P _ h1⟩,b _ a⟩
 .rename_i n e a;rw [a];simp only [JY,Ad] at h1;obtain ⟨j,c⟩:=Da.1 h1.1;exact ⟨⟨e,a,by simp [qZ,c],h1.2,rfl⟩,b _ a⟩
 .rename_i e a;rw [a];simp only [Ad] at h1;obtain ⟨j,y,c,s,l,m,_⟩:=BY h1.2;exact ⟨⟨a,j,y,c,by simp [qZ,c],by simp [c],s,by simp [qZ,c,l],m⟩,b _ a,by rw [<-hst];exact aC h1.1⟩
 .rename_i d w H I D B v G C A a;rw [a];have p:∀ (α:Type) (x y:α),True:=λ_ _ _=>trivial
  cases d<;>first
   | exact ⟨⟨_,a,λ q e=>by cases e⟩,rfl⟩
   | grind
 .cases h1
def VD(P:Program):az->Tab
 | []=>[]
 | t::r=>(t,aGW P t)::VD P r
def aFh(P:Program):az->Bool
 | []=>true
 | t::r=>okB P t&&aFh P r
def aCL:Tab->az
 | []=>[]
 | (t,_)::r=>t::aCL r
def NP{P:Program}:∀ {l:az},aFh P l=true->∀ t a,cW (VD P l) t=some a->TIOK P t a
 | [],_,t,a,h=>by cases h
 | x::r,hb,t,a,h=>by
  simp only [aFh,Ad] at hb;simp only [VD,cW] at h;cases b:Ax x t with
  | true=>
   rw [b] at h;cases h;rw [<-aC b];exact aGV hb.1
  | false=>rw [b] at h;exact NP hb.2 t a h
def QG{P:Program}{T:Tab}(h1:VD P (aCL T)=T)(b:aFh P (aCL T)=true):∀ t a,cW T t=some a->TIOK P t a:=by intro t a h;rw [<-h1] at h;exact NP b t a h
def pN(fr:ar)(t:Nat):∀ (keep:az),aW (lM keep fr) t=aW fr t\/aW (lM keep fr) t= .undef
 | []=>.inr rfl
 | k::r=>by
  simp only [lM,aW];cases h:Ax k t with
  | true=>simp_all
  | false=>exact pN fr t r
def SS.weak{M0:Imm}{ob0:Hs}{ap:au}{w0:World}{sz:Nat}{dfs:List (Nat×ay)}{fr b:ar}{ac:au}{a:Act}{w:World}(d:∀ t,aW b t=aW fr t\/aW b t= .undef)(h:SS M0 ob0 ap w0 sz dfs fr ac a w):
  SS M0 ob0 ap w0 sz dfs b ac a w:=by
 obtain ⟨M,ob,c,hm,f,r⟩:=h;refine ⟨M,ob,c,hm,λ t=>?_,r⟩;rcases d t with e | e
 .simp_all
 .rw [e];exact .undef _
def dD.weak{E:Env}{fn:Func}{g:Goal}{ks:bf}{fr b:ar}{ac:au}(c:∀ t,aW b t=aW fr t\/aW b t= .undef)(h:dD E fn g ks b ac):dD E fn g ks fr ac:=
 λ d M0 ob0 ap w0 a w hst hs=>h d M0 ob0 ap w0 a w hst (hs.weak c)
def dD.keep{E:Env}{fn:Func}{g:Goal}{ks:bf}{fr:ar}{ac:au}(l:az)(h:dD E fn g ks (lM l fr) ac):dD E fn g ks fr ac:=h.weak λ t=>pN fr t l
def To.head{E:Env}{fn:Func}{g:Goal}{ks:bf}{fr:ar}{ac:au}(l:az)(h:To E fn g (.head ks (lM l fr) ac)):To E fn g (.head ks fr ac):=h.rec λ h=>.mk (dD.keep l h)
abbrev C3:=IntKind×Int×Int
def vA(cs:List C3):ba:=cs.map λ c=>.int c.1 c.2.1
def vB(cs:List C3):ba:=cs.map λ c=>.int c.1 c.2.2
def pT:List C3->Bool
 | []=>true
 | c::r=>(c.2.1==c.2.2)&&pT r
def AM(a b:List C3):pT (a++b)=(pT a&&pT b):=by
 induction a with
 | nil=>simp [pT]
 | cons c r d=>simp [pT,d,Ih]
def mT(P:Program)(t:TypeId)(l:ba):Value:=if aK P t then .agg l.toArray else l.headD undef
def xO(P:Program)(a:TypeId->Bool):Nat->List Field->Nat->Bool
 | off,[],total=>Ax off total
 | off,f::fs,total=>((f.name != "_")&&Ax f.offset off)&&((a f.type&&(P.info? f.type).isSome)&&xO P a (off+P.cellsOf f.type) fs total)
def fO(P:Program):Nat->TypeId->Bool
 | 0,_=>false
 | m+1,t=>match P.underlying t with
  | some (.int _)=>Ax (P.cellsOf t) 1
  | some (.array n e)=>(fO P m e&&(P.info? e).isSome)&&Ax (P.cellsOf t) (n*P.cellsOf e)
  | some (.struct fs)=>!P.stoodInHeld t&&xO P (fO P m) 0 fs.toList (P.cellsOf t)
  | _=>false
def EqI(P:Program)(d:Nat)(t:TypeId):Prop:=∀ (w:World) (cs:List C3),cs.length=P.cellsOf t->(Op.equalIn d t (mT P t (vA cs)) (mT P t (vB cs))).run P w= .ok (pT cs) w
section
variable {P:Program} (w:World)
def pO{m:Nat}{t:TypeId}(h:fO P m t=true):(P.underlying t).isSome=true/\(aK P t=false->P.cellsOf t=1):=by
 cases m with
 | zero=>cases h
 | succ m=>
  unfold fO at h;unfold aK;split at h
  .simp_all
  .grind
  .grind
  .cases h
def jV{e:TypeId}(h:(P.underlying e).isSome=true)(f:(P.info? e).isSome=true)(h1:aK P e=false->P.cellsOf e=1)(l:ba)(off:Nat)(d:off+P.cellsOf e<=l.length):
  (part e l.toArray off).run P w= .ok (mT P e ((l.drop off).take (P.cellsOf e))) w:=by
 unfold part;simp only [Bh,xP h,Aq];unfold mT;obtain ⟨i,c⟩:=Da.1 f;have b:(P.info? e).map (·.size)=some (P.cellsOf e):=by simp [Program.cellsOf,c]
 cases g:aK P e with
 | true=>
  simp only [if_true,Bh,AW.af b,Aq,Bz];simp
 | false=>
  have j:=h1 g;have a:off<l.length:=o_;simp only [Cp,if_false];simp only [Js,Aa a,Bz];rw [j];congr 1;rw [Ae a];rfl
def IN(cs:List C3):(vA cs).length=cs.length:=by simp [vA]
def aJw(cs:List C3):(vB cs).length=cs.length:=by simp [vB]
def QA(cs:List C3)(o n:Nat):((vA cs).drop o).take n=vA ((cs.drop o).take n):=by simp [vA,Ix,Gh]
def aJx(cs:List C3)(o n:Nat):((vB cs).drop o).take n=vB ((cs.drop o).take n):=by simp [vB,Ix,Gh]
def MB{d m:Nat}{e:TypeId}(i:fO P m e=true)(f:(P.info? e).isSome=true)(h:EqI P d e)(cs:List C3)(off:Nat)(c:off+P.cellsOf e<=cs.length):
  ∃ a b,(part e (vA cs).toArray off).run P w= .ok a w/\(part e (vB cs).toArray off).run P w= .ok b w/\(Op.equalIn d e a b).run P w= .ok (pT ((cs.drop off).take (P.cellsOf e))) w:=by
 obtain ⟨g,h1⟩:=pO i;refine ⟨_,_,jV w g f h1 _ _ (by rw [IN];exact c),jV w g f h1 _ _ (by rw [aJw];exact c),?_⟩;rw [QA,aJx];exact h w _ q_
def take_add(cs:List C3)(o a b:Nat):(cs.drop o).take (a+b)=(cs.drop o).take a++(cs.drop (o+a)).take b:=by rw [List.take_add,Hl]
def YF{d m:Nat}{e:TypeId}(p:fO P m e=true)(r:(P.info? e).isSome=true)(s:EqI P d e)(cs:List C3):∀ (n k:Nat),(k+n)*P.cellsOf e<=cs.length->
  (Op.eqItems d e (P.cellsOf e) (vA cs).toArray (vB cs).toArray (Ij k n)).run P w= .ok (pT ((cs.drop (k*P.cellsOf e)).take (n*P.cellsOf e))) w:=by
 intro n;induction n with
 | zero=>intro k _;simp [Op.eqItems,pT]
 | succ n f=>
  intro k j;have l:(k+1)*P.cellsOf e<=(k+(n+1))*P.cellsOf e:=Br _ o_;have c:(k+1)*P.cellsOf e=k*P.cellsOf e+P.cellsOf e:=by grind
  obtain ⟨a,b,q,g,i⟩:=MB w p r s cs (k*P.cellsOf e) o_;have h:=f (k+1) (by rw [show k+1+n=k+(n+1) from by omega];exact j);have o:(n+1)*P.cellsOf e=P.cellsOf e+n*P.cellsOf e:=by rw [Bw,Gu,Mc]
  rw [o,take_add,AM,<-c];simp only [Ly,Op.eqItems,Bh,q,g,i,Aq];cases pT ((cs.drop (k*P.cellsOf e)).take (P.cellsOf e)) with
  | true=>simp;omega
  | false=>simp
def QQ{d m:Nat}(u:∀ t,fO P m t=true->EqI P d t)(cs:List C3):∀ (e:List Field) (off:Nat),xO P (fO P m) off e cs.length=true->
  (Op.eqFields d (vA cs).toArray (vB cs).toArray e).run P w= .ok (pT (cs.drop off)) w/\off<=cs.length:=by
 intro e;induction e with
 | nil=>
  intro off h;have:=aC h;subst this;exact ⟨by simp [Op.eqFields,pT],Bd _⟩
 | cons f e j=>
  intro off h;simp only [xO,Ad] at h;obtain ⟨⟨h1,i⟩,⟨h3,q⟩,s⟩:=h;obtain ⟨o,r⟩:=j _ s;have c:=aC i;obtain ⟨a,b,p,k,n⟩:=MB w h3 q (u _ h3) cs f.offset o_;refine ⟨?_,by omega⟩;have l:cs.drop off=(cs.drop off).take (P.cellsOf f.type)++cs.drop (off+P.cellsOf f.type):=by rw [<-Hl,Bo]
  rw [l,AM];have g:f.name≠ "_" :=by simpa using h1
  simp only [Op.eqFields,g,ne_eq,not_false_eq_true,if_true,Bh,p,k,n,Aq];rw [c] at *
  cases pT ((cs.drop off).take (P.cellsOf f.type)) with
  | true=>simp;omega
  | false=>simp
end
def R8{P:Program}(d:Nat):∀ (m:Nat) (t:TypeId),fO P m t=true->EqI P (d+m) t
 | 0,_,h=>by cases h
 | m+1,t,h=>by
  intro w cs f;have p:∀ t,fO P m t=true->EqI P (d+m) t:=λ t h=>R8 d m t h;unfold fO at h;split at h
  .rename_i k g;have c:aK P t=false:=by unfold aK;rw [g]
   have h1:=aC h;rw [h1] at f
   match cs,f with
   | [(k',a,b)],_=>
    simp only [mT,c,vA,vB,Bl,List.map_nil,List.headD_cons,Cp,if_false,pT,Kc];exact run_equalIn_int w (d+m) t k' k a b g
  .rename_i n e g;simp only [Ad] at h;obtain ⟨⟨h1,j⟩,h3⟩:=h;have c:aK P t=true:=by unfold aK;rw [g]
   obtain ⟨i,q⟩:=Da.1 j;have r:=aC h3;simp only [mT,c,if_true];rw [show d+(m+1)=(d+m)+1 from rfl,run_equalIn_array w (d+m) _ _ g q,Ik,YF w h1 j (p e h1) cs n 0 (by grind)]
   grind
  .rename_i o g;simp only [Ad,Cw] at h;obtain ⟨h1,j⟩:=h;have c:aK P t=true:=by unfold aK;rw [g]
   have l:P.fieldsOf t=o:=by simp [Program.fieldsOf,g]
   simp only [mT,c,if_true];rw [<-f] at j;rw [show d+(m+1)=(d+m)+1 from rfl,run_equalIn_struct w (d+m) t _ _ (by grind) h1,l];simpa using (QQ w p cs o.toList 0 j).1
  .cases h
def aEs:∀ {xs ys:ay} {c:Bool} {vs us:ba},ceq xs ys=some c->cA (λ_ _ _=>False) [] vs xs->cA (λ_ _ _=>False) [] us ys->∃ cs:List C3,vs=vA cs/\us=vB cs/\c=pT cs
 | [],[],c,vs,us,h,h1,h2=>by
  cases h;have d:vs=[]:=by simpa using h1.1
  have f:us=[]:=by simpa using h2.1
  exact ⟨[],by simp [vA,d],by simp [vB,f],rfl⟩
 | x::xs,y::ys,c,vs,us,h,h1,h2=>by
  cases x<;>first | (simp [ceq] at h;done) | skip
  cases y<;>first | (simp [ceq] at h;done) | skip
  rename_i k a k' b;simp only [ceq] at h;obtain ⟨j,h3⟩:=eW h;have:=wP j;subst this;cases g:ceq xs ys with
  | none=>grind
  | some o=>
   rw [g] at h3;cases h3
   match vs,us,h1,h2 with
   | v::vs,u::us,h1,h2=>
    have e:=(h1.2 0 v _ rfl rfl).int_inv.1;have m:=(h2.2 0 u _ rfl rfl).int_inv.1;subst e m;obtain ⟨cs,d,f,n⟩:=aEs (vs:=vs) (us:=us) g ⟨by simpa using h1.1,λ i v a e l=>h1.2 (i+1) v a (by grind) (by grind)⟩ ⟨by simpa using h2.1,λ i v a e l=>h2.2 (i+1) v a (by grind) (by grind)⟩;exact ⟨(k,a,b)::cs,by simp [vA,d],by simp [vB,f],by simp [pT,n]⟩
 | [],_::_,c,vs,us,h,_,_=>by cases h
 | x::_,[],c,vs,us,h,_,_=>by cases x<;>cases h
def QS{P:Program}(w:World){n:Bool}{d m:Nat}(r:∀ (e:TypeId),fO P m e=true->∀ (w:World) (cs:List C3),cs.length=P.cellsOf e->(Hr n d e (mT P e (vA cs))).run P w= .ok () w)(cs:List C3){e:TypeId}(k:fO P m e=true)(b:(P.info? e).isSome=true):
  ∀ (a:az),(∀ i∈a,(i+1)*P.cellsOf e<=cs.length)->
  (forIn (m:=Sem) a PUnit.unit λ i _=>(do Hr n d e (<-part e (vA cs).toArray (i*(<-sizeOf e)));Pure.pure (ForInStep.yield PUnit.unit))).run P w= .ok PUnit.unit w:=by
 intro a;obtain ⟨s,f⟩:=Da.1 b;have c:(P.info? e).map (·.size)=some (P.cellsOf e):=by simp [Program.cellsOf,f]
 obtain ⟨q,h1⟩:=pO k;induction a with
 | nil=>simp
 | cons j a o=>
  intro h;have g:=h j s_;rw [Bw,Gu] at g;have l:=jV w q b h1 (vA cs) (j*P.cellsOf e) (by rw [IN];exact g);rw [QA] at l;have p:=r e k w ((cs.drop (j*P.cellsOf e)).take (P.cellsOf e)) q_;simp only [List.forIn_cons,Bh,AW.af c,Aq,l,p,Bz];exact o λ i b=>h i (by simp [b])
def aEl{P:Program}(D:Bool)(d:Nat):∀ (m:Nat) (t:TypeId),fO P m t=true->∀ (w:World) (cs:List C3),cs.length=P.cellsOf t->(Hr D (d+m) t (mT P t (vA cs))).run P w= .ok () w
 | 0,_,h=>by cases h
 | m+1,t,h=>by
  intro w cs g;have C:=aEl (P:=P) D d m;unfold fO at h;rw [show d+(m+1)=(d+m)+1 from rfl,Hr];split at h
  .rename_i k j;have c:aK P t=false:=by unfold aK;rw [j]
   have h1:=aC h;rw [h1] at g
   match cs,g with
   | [(k',a,b)],_=>
    simp [mT,c,vA,run_underlying j]
  .rename_i n e j;simp only [Ad] at h;obtain ⟨⟨h1,o⟩,h3⟩:=h;have c:aK P t=true:=by unfold aK;rw [j]
   have M:=aC h3;simp only [mT,c,if_true,Bh,run_underlying j,Aq];simp only [Std.Legacy.Range.forIn_eq_forIn_range',Std.Legacy.Range.size,Iq,Nat.add_one_sub_one,Il]
   have:=QS w C cs h1 o (Ij 0 n) (λ i N=>by
    have:i<n:=by grind
    have:(i+1)*P.cellsOf e<=n*P.cellsOf e:=Br _ this
    omega)
   simp at this⊢;simp_all
  .rename_i B j;simp only [Ad,Cw] at h;obtain ⟨h1,o⟩:=h;have c:aK P t=true:=by unfold aK;rw [j]
   simp only [mT,c,if_true,Bh,run_underlying j,Aq];rw [<-Array.forIn_toList];rw [<-g] at o;have key:∀ (L:List Field) (off:Nat),xO P (fO P m) off L cs.length=true→off≤cs.length∧∀ f∈L,f.name≠ "_" ∧fO P m f.type=true∧(P.info? f.type).isSome=true∧f.offset+P.cellsOf f.type≤cs.length:=by
    intro L;induction L with
    | nil=>
     intro off h;have:=aC h;simp_all
    | cons f L s=>
     intro off h;simp only [xO,Ad] at h;obtain ⟨⟨q,p⟩,⟨x,v⟩,H⟩:=h;obtain ⟨K,F⟩:=s _ H;have z:=aC p;refine ⟨by omega,λ J l=>?_⟩;rcases Aw.1 l with rfl | l
     .exact ⟨by simpa using q,x,v,by omega⟩
     .exact F J l
   have each:=(key B.toList 0 o).2;clear key o;generalize B.toList=L at each;induction L with
   | nil=>simp
   | cons f L s=>
    obtain ⟨q,p,x,v⟩:=each f s_;obtain ⟨u,r⟩:=pO p;have A:=jV w u x r (vA cs) f.offset (by rw [IN];exact v);rw [QA] at A;have G:=C f.type p w ((cs.drop f.offset).take (P.cellsOf f.type)) q_;simp only [List.forIn_cons,Bh,q,ne_eq,not_false_eq_true,if_true,Aq,A,G,Bz];exact s λ y I=>each y (by simp [I])
  .cases h
def aKM(a b:aw)(h:a.length=b.length):∃ cs:List C3,cs.length=a.length/\fR true a= .agg (vA cs).toArray/\fR true b= .agg (vB cs).toArray/\pT cs=decide (a=b):=by
 refine ⟨(a.zip b).map λ p=>(.i64,p.1,p.2),by simp;omega,?_,?_,?_⟩
 .simp only [fR,vA,if_true,Dw];congr 2;have:(a.zip b).map Lz=a:=List.map_fst_zip o_
  conv=>lhs;rw [<-this]
  simp
 .simp only [fR,vB,if_true,Dw];congr 2;have:(a.zip b).map Prod.snd=b:=List.map_snd_zip o_
  conv=>lhs;rw [<-this]
  simp
 .induction a generalizing b with
  | nil=>
   cases b with
   | nil=>rfl
   | cons y b=>cases h
  | cons x a d=>
   cases b with
   | nil=>cases h
   | cons y b=>
    simp only [List.zip_cons_cons,Bl,pT];rw [d b (by grind)];by_cases c:x=y
    .simp_all
    .simp [c]
def aDl(P:Program)(t n:Nat):Bool:=(aK P t&&fO P 8 t)&&(!P.eqGuardType P.depth t&&Ax (P.cellsOf t) n)
def aDk{P:Program}{t n:Nat}(h:aDl P t n=true):TO P t n:=by
 simp only [aDl,Ad,Cw] at h;obtain ⟨⟨h1,d⟩,h3,o⟩:=h;have s:=aC o;refine And.symm ⟨λ w a b u v=>?_,?_⟩
 .obtain ⟨cs,r,j,l,p⟩:=aKM a b o_;have e:=R8 9992 8 t d w cs o_;have f:=λ q=>aEl q 9992 8 t d w cs o_;simp only [mT,h1,if_true] at e f;rw [j,l,<-p];exact ⟨e,f⟩
 intro w x y xs ys vs us c m i g k;obtain ⟨cs,rfl,rfl,rfl⟩:=aEs m g k;refine ⟨λ op=>run_eqGuard_agg w op t x y _ _ h3,?_⟩;have hl:cs.length=P.cellsOf t:=by have:=g.1;rw [IN] at this;omega
 have:=R8 9992 8 t d w cs hl;simp only [mT,h1,if_true] at this;exact this
def R3(P:Program):List (Nat×Nat)->Bool
 | []=>true
 | (t,n)::r=>aDl P t n&&R3 P r
def ON{P:Program}:∀ {l:List (Nat×Nat)},R3 P l=true->∀ t,0<A2 l t->TO P t (A2 l t)
 | [],_,t,h=>by cases h
 | (i,n)::r,hb,t,h=>by
  simp only [R3,Ad] at hb;simp only [A2] at h⊢;cases a:Ax i t with
  | true=>
   rw [a] at h;rw [<-aC a];exact aDk hb.1
  | false=>rw [a] at h;exact ON hb.2 t h
def AN(P:Program)(mt:aEO):Prop:=∀ t a g,aCv mt t a=some g->∀ v w,(method (P.types.size+Made.depth) t v a).run P w= .ok (g,v) w
def AN.nil{P:Program}:AN P []:=λ t a g h=>by cases h
def AN.cons{P:Program}{i f:Nat}{s:String}{mt:aEO}(h:∀ v w,(method (P.types.size+Made.depth) i v s).run P w= .ok (f,v) w)(k:AN P mt):AN P ((i,s,f)::mt):=by
 intro t a g b;simp only [aCv] at b;cases c:(Ax i t&&s==a) with
 | false=>rw [c] at b;exact k t a g b
 | true=>
  simp_all
section
variable {E:Env} {fn:Func} {g:Goal} {M0:Imm} {ob0:Hs} {ap:au} {w0:World} {sz:Nat} {dfs:List (Nat×ay)} {fr:ar} {ac:au} {a:Act} {w:World}
def SS.cap{t k i es:Nat}{e:TypeId}{xs:ay}(h1:aW fr t= .row k i)(m:aB ac k= .row i es e xs)(h:SS M0 ob0 ap w0 sz dfs fr ac a w):
  ∃ c,xs.length<=c/\c<=maxLen/\SS M0 ob0 ap w0 sz dfs (iE fr t (.rowc k i c)) ac a w:=by
 obtain ⟨M,ob,s,hm,l,r⟩:=h;have f:=l t;rw [h1] at f;obtain ⟨o,n,c,p,d⟩:=f.row_inv;obtain ⟨hs',v,z,D,F,g,u,_⟩:=hm.rowOf (bF m s_);rw [d] at g;cases g;have j:xs.length<=c/\c<=maxLen:=by
  rcases u.len with ⟨q,rfl⟩ | ⟨b,A,y,_,C,B⟩
  .cases q;simp
  .cases y;omega
 refine ⟨c,j.1,j.2,M,ob,s,hm,λ x=>?_,r⟩;rw [oI];split
 .rename_i e;subst e;rw [p];have:=gI;exact .rowc k i c o n d o_
 .exact l x
def To.cap{ks:bf}{t k i es:Nat}{e:TypeId}{xs:ay}(h1:aW fr t= .row k i)(b:aB ac k= .row i es e xs)
  (h:∀ c,xs.length<=c->c<=maxLen->To E fn g (.code ks (iE fr t (.rowc k i c)) ac)):To E fn g (.code ks fr ac):=
 .mk λ j M0 ob0 ap w0 a w hst hs=>by obtain ⟨c,f,d,hs'⟩:=hs.cap h1 b;exact (h c f d).rec λ h=>h j M0 ob0 ap w0 a w hst hs'
def Mem.become{M:Imm}{ob:Hs}(hm:Mem M ob ac w){j k i es es':Nat}{e p:TypeId}{xs ys:ay}(L:j≠k)(h1:ac[j]? =some (.row i es e xs))(D:ac[k]? =some (.row 0 es' p ys)){v:Value}(Y:at' ob k 0=some v):
  ∃ ob',Mem M ob' ((ac.set j (.row (i+1) es' p ys)).set k .dead) w/\Ext M ob ac w M ob' ((ac.set j (.row (i+1) es' p ys)).set k .dead) w/\at' ob' j (i+1)=some v:=by
 obtain ⟨g,v0,N,R,e3,e4,U,P⟩:=hm.rowOf h1;obtain ⟨u,v1,V,X,f3,Q,t,G⟩:=hm.rowOf D;rw [Y] at Q;cases Q;have F:j<ob.length:=(Ab.1 N).1;have H:j<ac.length:=(Ab.1 h1).1;have hko:k<ac.length:=(Ab.1 D).1;have m:(ob.set j (g++[v]))[j]? =some (g++[v]):=Au F;have l:∀ {i:Nat},i≠j->(ob.set j (g++[v]))[i]? =ob[i]?:=λ{i} h=>Bb (Ej h);have A:dJ ob (ob.set j (g++[v])):=λ d hs K=>by
  by_cases f:d=j
  .subst f;rw [N] at K;cases K;exact ⟨_,m,_,rfl⟩
  .exact ⟨hs,(l f).trans K,Cn _⟩
 have z:(g++[v]).length=i+1+1:=by simp [R]
 have s:(g++[v])[i+1]? =some v:=by rw [<-R];simp
 have S:((ac.set j (.row (i+1) es' p ys)).set k .dead)[k]? =some .dead:=Au q_;have gj:((ac.set j (.row (i+1) es' p ys)).set k .dead)[j]? =some (.row (i+1) es' p ys):=by rw [Bb (Ej L),Au H]
 have W:∀ {d},d≠j->d≠k->((ac.set j (.row (i+1) es' p ys)).set k .dead)[d]? =ac[d]?:=λ{d} a b=>by rw [Bb (Ej b),Bb (Ej a)]
 have alive:∀ {d b:Nat},aG (ob.set j (g++[v])) ((ac.set j (.row (i+1) es' p ys)).set k .dead) d b->(d=j/\aG ob ac k b)\/(d≠j/\d≠k/\aG ob ac d b):=by
  rintro d b ⟨c,hs,o,y,C,J⟩;by_cases f:d=j
  .subst f;rw [m] at C;cases C;have I:b∈blk u:=by rw [eG z s] at J;rw [eG X f3];exact J
   exact .inl ⟨rfl,_,u,D,rfl,V,I⟩
  .by_cases n:d=k
   .subst n;rw [S] at o;cases o;cases y
   .rw [W f n] at o;rw [l f] at C;exact .inr ⟨f,n,c,hs,o,y,C,J⟩
 refine ⟨ob.set j (g++[v]),⟨hm.imm,by simp [hm.len],λ d c x=>?_,λ d b B=>?_,λ d O b B hb=>?_⟩,⟨λ_ _ _ h=>h,λ_ _ _ h=>.inl h,A,rfl,rfl,rfl,Bd _,λ_ _ _=>rfl,λ d b B=>?_⟩,(bW m).trans s⟩
 .by_cases f:d=j
  .subst f;rw [gj] at x;cases x;exact ⟨_,m,z,v,s,t⟩
  .by_cases n:d=k
   .subst n;rw [S] at x;cases x;exact ⟨u,(l f).trans V,trivial⟩
   .rw [W f n] at x;obtain ⟨hs,o,y⟩:=hm.obj d c x;exact ⟨hs,(l f).trans o,y.mono (λ_ _ _ h=>h) A (λ_ _ _ _ h=>h) (λ_ _ _ _ h=>h)⟩
 .rcases alive B with ⟨_,q⟩ | ⟨_,_,q⟩<;>exact hm.lt _ b q
 .rcases alive B with ⟨o,q⟩ | ⟨o,y,q⟩<;>rcases alive hb with ⟨T,r⟩ | ⟨T,Z,r⟩
  .rw [o,T]
  .exact absurd (hm.inj k O b q r).symm Z
  .exact absurd (hm.inj d k b q r) y
  .exact hm.inj d O b q r
 .rcases alive B with ⟨_,q⟩ | ⟨_,_,q⟩
  .exact .inl ⟨k,q⟩
  .exact .inl ⟨d,q⟩
def JE:az->aa->ar->ar
 | [],_,fr=>fr
 | t::r,v,fr=>JE r v (iE fr t v)
def K4(k:Nat)(fr:ar):az->Bool
 | []=>true
 | t::r=>(match aW fr t with | .row j 0=>Ax j k | _=>false)&&K4 k fr r
def AC{v:aa}{t:Nat}:∀ {l:az} {fr:ar},aW (JE l v fr) t=aW fr t\/(t∈l/\aW (JE l v fr) t=v)
 | [],fr=>.inl rfl
 | x::r,fr=>by
  rcases AC (v:=v) (t:=t) (l:=r) (fr:=iE fr x v) with h | ⟨h1,a⟩
  .rw [oI] at h;by_cases e:t=x
   .subst e;rw [if_pos rfl] at h;exact .inr ⟨by simp,h⟩
   .rw [if_neg e] at h;exact .inl h
  .exact .inr ⟨by simp [h1],a⟩
def E0{k:Nat}{fr:ar}:∀ {l:az},K4 k fr l=true->∀ t∈l,aW fr t= .row k 0
 | [],_,t,h=>by simp at h
 | x::r,h,t,a=>by
  simp only [K4,Ad] at h;rcases Aw.1 a with rfl | a
  .have:=h.1;split at this
   .simp_all
   grind
  .exact E0 h.2 t a
def To.become{ks:bf}{j k i es es':Nat}{e d:TypeId}{xs ys:ay}(l:az)(G:Ax j k=false)(h1:aB ac j= .row i es e xs)(u:aB ac k= .row 0 es' d ys)(hl:K4 k fr l=true)
  (h:To E fn g (.code ks (JE l (.row j (i+1)) fr) (bM (bM ac j (.row (i+1) es' d ys)) k .dead))):To E fn g (.code ks fr ac):=
 .mk λ H M0 ob0 ap w0 a w hst hs=>by
  refine h.rec λ h=>h H M0 ob0 ap w0 a w hst ?_;obtain ⟨M,ob,z,hm,A,F,B,N⟩:=hs;have o:j≠k:=λ e=>by simp_all
  have r:=bF h1 s_;have m:=bF u s_;obtain ⟨I,v,P,L,O,s,_⟩:=hm.rowOf m;obtain ⟨ob',x,p,C⟩:=hm.become o r m s;have D:bM (bM ac j (.row (i+1) es' d ys)) k .dead=(ac.set j (.row (i+1) es' d ys)).set k .dead:=by rw [aP r];exact fY _ (by simpa using (Ab.1 m).1)
  rw [D];refine ⟨M,ob',z.trans p,x,λ t=>?_,F,B.mono (λ_ _ _ h=>h) p.hs,by simp;omega⟩;have f:=A t;rcases AC (v:=.row j (i+1)) (t:=t) (l:=l) (fr:=fr) with q | ⟨J,q⟩
  .rw [q];exact f.mono (λ_ _ _ h=>h) p.hs
  .rw [q];rw [E0 hl t J] at f;obtain ⟨K,n,c,y,b⟩:=f.row_inv;rw [s] at b;cases b;rw [y];exact .row _ _ _ _ _ C
end
def aMt{M:Imm}{ob:Hs}{vs:ba}{a b:aa}(h:cA M ob vs [a,b]):∃ u v,vs=[u,v]/\Rep M ob u a/\Rep M ob v b:=by
 obtain ⟨hl,c⟩:=h
 match vs,hl with
 | [u,v],_=>exact ⟨u,v,rfl,c 0 _ _ rfl rfl,c 1 _ _ rfl rfl⟩
def M7{P:Program}{f:FuncId}{fn:Func}{tS tR e:TypeId}(X:P.funcs[f]? =some fn)(o:(fn.name== "runtime.NumGoroutine")=false)(Y:fn.body.isNone=true)(hn:Extern.findNext fn=none)
  (he:Extern.find fn=some (Extern.SlicesOverlaps.overlaps #[tS,tS] #[tR])) (F:P.underlying tS=some (.slice e)) {sz:Nat} (hz:(P.info? e).map (·.size)=some sz) (B:0<sz) {x r:TypeId} (xs ys:ay) (lo len:Nat):
  aA P f [.row 0 0,.sub 1 0 lo len sz] [.row 0 sz x xs,.row 0 sz r ys] (.ret (.bool false)) [.row 0 sz x xs,.row 0 sz r ys]:=by
 intro M ob w I hm hr;obtain ⟨u,v,rfl,hu,hv⟩:=aMt hr;have i:=λ w:World=>af (P:=P) hz w;refine .inr ⟨.bool false,w,?_,M,ob,Ext.refl _ _ _ _,hm,.bool false⟩;rw [run_callFunc_extern X o Y hn he];have key:(Extern.SlicesOverlaps.overlaps #[tS,tS] #[tR] #[u,v]).run P w= .ok (.bool false) w:=by
  obtain ⟨a,n,c,rfl,H⟩:=hu.row_inv;obtain ⟨J,v1,U,p2,p3,S,p,y⟩:=hm.rowOf (k:=0) rfl;obtain ⟨L,v2,q1,q2,q3,O,D,A⟩:=hm.rowOf (k:=1) rfl;rw [H] at S;cases S;have g:∀ (a:Option Addr) (n c:Nat) (b:Option Addr) (m d:Nat),(a=none\/b=none\/n=0\/m=0)->(Extern.SlicesOverlaps.overlaps #[tS,tS] #[tR] #[.slice a n c,.slice b m d]).run P w= .ok (.bool false) w:=by
   intro a n c b m d h
   change Sem.run P (α:=Value) (do
    let some t:=(#[tS,tS]:Array TypeId)[0]? | stuck "slices.overlaps: no parameter types"
    let .slice elem ←underlying t | stuck "slices.overlaps: slice type expected"
    let size <-sizeOf elem
    match a,b with
    | some a,some b=>
     if n=0\/m=0\/size=0 then pure (Nh false)
     else if a.block !=b.block&&(<-frozen a)&&(<-frozen b) then unsupported .addressObserved
     else do
      if a.block !=b.block then do
           noView a;noView b
           if ←mayBeOne a b then return Nh ((←choose (.extern "sameAddr.stringBytes" 2))==1)
      pure (Nh (a.block==b.block&&a.off<b.off+m*size&&b.off<a.off+n*size))
    | _,_=>pure (Nh false)) w=_
   cases a with
   | none=>simp [run_underlying F,i]
   | some a=>
    cases b with
    | none=>simp [run_underlying F,i]
    | some b=>
     have h0:n=0\/m=0\/sz=0:=by
      rcases h with h | h | h | h
      .cases h
      .cases h
      .exact .inl h
      omega
     simp [run_underlying F,i,h0]
  cases hv with
  | sub0 _ _ _ _ Q a' n2 N l hl hc=>exact g _ _ _ _ _ _ (.inr (.inr (.inr rfl)))
  | sub _ _ _ _ _ b n2 N l hl hn2 Z hmm=>
   rw [l] at O;cases O;obtain ⟨cv,⟨r1,C⟩,_⟩:=p;obtain ⟨cv2,⟨s1,s⟩,_⟩:=D;rcases C with ⟨C,_⟩ | ⟨z,R,q,C,_,G,r4,r5,r6,_⟩
   .cases C;exact g _ _ _ _ _ _ (.inl rfl)
   .rcases s with ⟨s,_⟩ | ⟨b2,T,j,s,_,W,s4,s5,s6,_⟩
    .cases s
    .cases C;cases s;have K:z≠b:=by
      intro h;subst h
      have V:aG ob [.row 0 sz x xs,.row 0 sz r ys] 0 z:=⟨_,J,rfl,rfl,U,nB y rfl⟩
      have Q:aG ob [.row 0 sz x xs,.row 0 sz r ys] 1 z:=⟨_,L,rfl,rfl,q1,nB A rfl⟩
      have:=hm.inj 0 1 z V Q;cases this
     have hk:j.size≠0:=by rw [s6];have:=Nat.mul_pos (show 0<N by omega) B;omega
     exact Lib.run_overlaps_apart w tS tR e F sz i ⟨z,0,none⟩ ⟨b,lo*sz,none⟩ _ _ _ _ K x r q.size j.size (by simp [Jh,G]) (by simp [Jh,W]) hk (by simp [Lu,G]) (by simp [Lu,G])
 have e0:(([u,v]:ba)).toArray= #[u,v]:=rfl;rw [e0,key];rfl
def strip:Nat->aa->aa
 | 0,v=>v
 | n+1,v=>match v with
  | .slice sz xs _=>.slice sz xs .no
  | .agg cs=>.agg (dO (strip n) cs)
  | .tup cs=>.tup (dO (strip n) cs)
  | .iface t v=>.iface t (strip n v)
  | v=>v
def sI{M:Imm}{ob:Hs}:∀ (n:Nat) {v:Value} {a:aa},Rep M ob v a->Rep M ob v (strip n a):=by
 intro n;induction n with
 | zero=>intro v a h;exact h
 | succ n m=>
  intro v a h;cases h with
  | agg vs as hl d=>
   obtain ⟨h1,f⟩:=bX (λ v a=>m) hl d;exact .agg vs _ h1 f
  | tup vs as hl d=>
   obtain ⟨h1,f⟩:=bX (λ v a=>m) hl d;exact .tup vs _ h1 f
  | iface t v a d=>exact .iface t v _ (m d)
  | slnil sz t p=>exact .slnil sz .no trivial
  | slemp sz t a cap p=>exact .slemp sz .no a cap trivial
  | sl sz b o n cap xs t j e hm hz d p=>exact .sl sz b o n cap xs .no j e hm hz d trivial
  | undef v=>exact .undef v
  | bool b=>exact .bool b
  | int k n d=>exact .int k n d
  | str l hl=>exact .str l hl
  | ptr b o cs h=>exact .ptr b o cs h
  | ref k off b h=>exact .ref k off b h
  | eref k g i sz off b n c h=>exact .eref k g i sz off b n c h
  | csl k off len sz b h hm=>exact .csl k off len sz b h hm
  | row k g a n c h=>exact .row k g a n c h
  | sub k g lo len sz b n c h hl j e hm=>exact .sub k g lo len sz b n c h hl j e hm
  | sub0 k g lo sz a w n c h hl e=>exact .sub0 k g lo sz a w n c h hl e
  | rowc k g c a n h hm=>exact .rowc k g c a n h hm
  | pre k g n c sz b len h e j hl hm=>exact .pre k g n c sz b len h e j hl hm
  | mref k b h=>exact .mref k b h
  | nilptr=>exact .nilptr
  | nilslice=>exact .nilslice
  | nilmap=>exact .nilmap
  | nilfunc=>exact .nilfunc
  | nilif=>exact .nilif
  | hsl a n c=>exact .hsl a n c
  | func fn u cs r q s e h1 f=>exact .func fn u cs r q s e h1 f
def aA.strip{P:Program}{f:FuncId}{args:ay}{ac ao:au}{r:Res}(h:aA P f (dO (strip 5) args) ac r ao):aA P f args ac r ao:=
 λ M ob w b hm c=>h M ob w b hm (by
  obtain ⟨h1,d⟩:=bX (M':=M) (ob':=ob) (λ v a=>sI (M:=M) (ob:=ob) 5) c.1 c.2
  exact ⟨h1,d⟩)
def aA.less{P:Program}{f:FuncId}{args:ay}{ac ao:au}{v:aa}(h:aA P f args ac (.ret v) ao):aA P f args ac (.ret (AW.strip 5 v)) ao:=
 λ M ob w a hm c=>cG.mono (λ e w' ⟨M',ob',d,g,b⟩=>⟨M',ob',d,g,by
  cases e with
  | returned u=>exact sI 5 b
  | panicked i=>exact b.elim
  | outgrown=>exact b.elim⟩) (h M ob w a hm c)
def aAh(n:Nat):List (Nat×ay)->Bool
 | []=>true
 | (_,l)::r=>EV (bel n 5) l&&aAh n r
def PY{n:Nat}:∀ {l:List (Nat×ay)},aAh n l=true->∀ (i:Nat) x,l[i]? =some x->EV (bel n 5) x.2=true
 | [],_,i,x,h=>by simp at h
 | (f,y)::r,hb,i,x,h=>by
  simp only [aAh,Ad] at hb;cases i with
  | zero=>grind
  | succ i=>exact PY hb.2 i x (by simp_all)
def aEy{w0 w:World}{M:Imm}{ob:Hs}{n:Nat}{g:List Deferred}{dfs:List (Nat×ay)}(h:cV w0 w M ob g dfs)(l:aAh n dfs=true):cV w0 w M (ob.take n) g dfs:=
 let ⟨d1,d2,e,h,h2⟩:=h
 ⟨d1,d2,e,⟨h.1,λ i d x c b=>⟨(h.2 i d x c b).1,(h.2 i d x c b).2.1,λ j v a k f=>BS 5 ((h.2 i d x c b).2.2 j v a k f) (mE (PY l i x b) j a f)⟩⟩,h2⟩
def To.cut{E:Env}{fn:Func}{g:Goal}{ks:bf}{fr:ar}{ac:au}(l:az)(n:Nat)(B:Fv g.n0 n=true)(u:aEx n (lM l fr)=true)(m:FR n (nZ n ac)=true)(p:aAh n E.df=true)
  (h:To E fn g (.head ks (lM l fr) (nZ n ac))):To E fn g (.head ks fr ac):=
 .mk λ i M0 ob0 ap w0 a w hst hs=>by
  refine h.rec λ h=>h i M0 ob0 ap w0 a w hst ?_;obtain ⟨M,ob,c,hm,f,z,v,A⟩:=hs;rw [C1] at m⊢;obtain ⟨r,x⟩:=hm.cutO m;have C:ob0.length<=n:=by rw [hst.1];simp_all
  refine ⟨M,ob.take n,⟨c.imm,c.new,λ k hs j=>?_,c.os,c.tape,c.output,c.size,c.keep,λ k b s=>c.fresh k b (x s)⟩,r,λ t=>?_,z,aEy v p,by simp;omega⟩
  .obtain ⟨hs',o,y⟩:=c.hs k hs j;have d:k<n:=by have:=(Ab.1 j).1;omega
   exact ⟨hs',by rw [Bj d];exact o,y⟩
  .rcases PX u t with q | q
   .rcases pN fr t l with e | e
    .rw [e] at q⊢;exact BS 5 (f t) q
    .rw [e];exact .undef _
   .rw [q];exact .undef _
open Go.RowKit Go.ChangeShapes Go.WideShapes Go.ChangeAt
section
variable {P:Program} {w:World} {r:Reach} {base:Nat} {t:TypeId} {v:Value}
def VZ{k:IntKind}{n:Int}(h:k.has n):inR k n:=by cases k<;>simpa [IntKind.has,IntKind.min,IntKind.max,IntKind.signed,IntKind.bits,inR,cJ,bE] using h
def aCc(a:aK P t=false)(h:La P w r base t v):Cell.okWide P w r base t v:=by
 unfold La at h;unfold aK at a;split at h
 .grind
 .grind
 .exact h
def aMu{M:Imm}{ob:Hs}{v:Value}{a:aa}(h:Rep M ob v a){vs:ba}{as:ay}(hs:cA M ob vs as):cA M ob (v::vs) (a::as):=cA.cons h hs
def aMv{M:Imm}{ob:Hs}:cA M ob [] []:=⟨rfl,λ i v a h=>by simp at h⟩
end
def aN3{args:Array Value}(h:args.toList.length=1):∃ a,args= #[a]:=by
 obtain ⟨l⟩:=args
 match l,h with
 | [a],_=>simp
section
variable {H:Type} {enc:TypeId×Value->H} {P:Program}
def UX(P:Program):List TypeId->Bool
 | []=>true
 | t::ts=>(P.readableRec t&&decide (t<P.types.size))&&UX P ts
def FA(hl:laidOutB P=true){W j:World}(l:Below W.heap.size W j):∀ {a:List TypeId} {vs:ba} {g:List (DataW H)} {e:List MemPlace},UX P a=true->(∀ x∈e,x.block<W.heap.size)->
  DataW.TrodAll enc P W 0 (λ_=>true) true a vs g e->DataW.TrodAll enc P j 0 (λ b=>decide (b<W.heap.size)) true a vs g e:=by
 intro a;induction a with
 | nil=>
  intro vs g e _ _ h;obtain ⟨rfl,rfl,rfl⟩:=trodAll_nil h;rfl
 | cons t a k=>
  intro vs g e f c h;simp only [UX,Ad,decide_eq_true_eq] at f;obtain ⟨v,n,d,o,p,q,rfl,rfl,rfl,m,h1⟩:=trodAll_cons h;exact trodAll_cons_mk (Below.trod hl f.1.1 f.1.2 m l λ x i=>c x (by simp [i])) (k f.2 (λ x i=>c x (by simp [i])) h1)
def zK{W:World}:∀ {c:List TypeId} {vs:ba} {e:List (DataW H)} {f:List MemPlace},DataW.TrodAll enc P W 0 (λ_=>true) true c vs e f->vs.length=c.length/\e.length=c.length:=by
 intro c;induction c with
 | nil=>
  intro vs e f h;obtain ⟨rfl,rfl,rfl⟩:=trodAll_nil h;omega
 | cons t c g=>
  intro vs e f h;obtain ⟨v,i,d,j,p,q,rfl,rfl,rfl,k,h1⟩:=trodAll_cons h;obtain ⟨a,b⟩:=g h1;simp_all
def YQ{fn:Func}{s:ChangeSpec}{W j:World}{args:Array Value}{b r:List (DataW H)}{iZ:List MemPlace}{m:TypeId}(hl:laidOutB P=true)(n:UX P fn.params.toList=true)(k:s.vars=[])
  (g:fn.resultTypes= #[m]) (u:P.underlying m=some .bool) (d:DataW.Whole enc P fn.params.toList s.vars false W args.toList b r iZ) (a:Below W.heap.size W j)
  (f:b.length=fn.params.toList.length->(s.fn H b).results=[.lit (.bool true)]/\(s.fn H b).args=b/\(s.fn H b).vars=[]):s.post enc P fn false true false false W args (.bool true) j:=by
 have c:=d.lt;have e:=d;obtain ⟨p,q,l,i,rfl,v,w⟩:=d;rw [k] at i;obtain ⟨rfl,rfl⟩:=trodVars_none i;obtain ⟨z,o,y⟩:=f (zK l).2;refine ⟨b,[],_,[],p,[],e,?_,?_,?_,a.frame _,λ h=>by cases h⟩
 .rw [Ar,z,g];exact trodAll_cons_mk (shut_bool u _) trodAll_mk0
 .rw [Ar,o];exact FA hl a n (λ x t=>c x (by simp [t])) l
 .rw [Ar,y,k];exact rfl
end
inductive RepW(w:World):Value->aa->Prop
 | bool (b):RepW w (.bool b) (.bool b)
 | int (k n) (h:inR k n):RepW w (.int k n) (.int k n)
 | str (l:ax) (h:(l.length:Int)<=9223372036854775807):RepW w (.string ⟨l.toArray⟩) (.str l)
 | nilslice (sz:Nat):RepW w (.slice none 0 0) (.slice sz [] .no)
 | emptys (sz:Nat) (a:Addr) (cap:Nat):RepW w (.slice (some a) 0 cap) (.slice sz [] .no)
 | slice (sz b o n cap:Nat) (xs:ay) (us:Nat->Nat->Value) (hn:xs.length=n) (hc:n<=cap) (hm:(n:Int)<=9223372036854775807) (hz:∀ x∈xs,x.cells.length=sz)
   (h1:∀ (i j:Nat) x c,xs[i]? =some x->x.cells[j]? =some c->w.cell? ⟨b,o+i*sz+j,none⟩=some (us i j)) (h2:∀ (i j:Nat) x c,xs[i]? =some x->x.cells[j]? =some c->(us i j).oneCell'=true)
   (h3:∀ (i j:Nat) x c,xs[i]? =some x->x.cells[j]? =some c->RepW w (us i j) c):RepW w (.slice (some ⟨b,o,none⟩) n cap) (.slice sz xs .no)
def Mw(w:World):Imm:=λ b o x=>∃ v,w.cell? ⟨b,o,none⟩=some v/\v.oneCell'=true/\RepW w v x
def RepW.rep{w:World}{v:Value}{a:aa}(h:RepW w v a):Rep (Mw w) [] v a:=by
 cases h with
 | bool b=>exact .bool b
 | int k n h=>exact .int k n h
 | str l h=>exact .str l h
 | nilslice sz=>exact .slnil sz .no trivial
 | emptys _ a cap=>exact .slemp _ _ _ _ trivial
 | slice sz b o n cap xs us g m hm hz h1 f h3=>exact .sl sz b o n cap xs .no g m hm hz (λ i j x c e d=>⟨us i j,h1 i j x c e d,f i j x c e d,h3 i j x c e d⟩) trivial
def TyF(T:TypeId->ay->Prop):List Field->ay->Prop
 | [],cs=>cs=[]
 | f::fs,cs=>∃ a b,cs=a++b/\T f.type a/\TyF T fs b
def TyC(P:Program):Nat->TypeId->ay->Prop
 | 0,_,_=>False
 | n+1,t,cs=>match P.underlying t with
  | some .bool=>∃ b,cs=[.bool b]
  | some (.int k)=>∃ m,cs=[.int k m]/\inR k m
  | some .string=>∃ l,cs=[.str l]/\l.length<=maxLen
  | some (.struct fs)=>TyF (TyC P n) fs.toList cs
  | some (.array m e)=>∃ xs:List ay,xs.length=m/\(∀ x∈xs,TyC P n e x)/\cs=xs.flatten
  | some (.slice e)=>∃ xs,cs=[.slice (P.cellsOf e) xs .no]/\xs.length<=maxLen/\∀ x∈xs,TyC P n e x.cells/\(aK P e=true->∃ l,x= .agg l)
  | _=>False
def RepW.one{w:World}{v:Value}{a:aa}(h:RepW w v a):v.oneCell'=true:=by cases h<;>rfl
def gF(w:World)(cs:ba)(as:ay):Prop:=cs.length=as.length/\∀ (i:Nat) v a,cs[i]? =some v->as[i]? =some a->RepW w v a
def gF.append{w:World}{vs us:ba}{as bs:ay}(h:gF w vs as)(k:gF w us bs):gF w (vs++us) (as++bs):=by
 refine ⟨by simp [h.1,k.1],λ i v a b c=>?_⟩;by_cases d:i<vs.length
 .rw [Ag d] at b;rw [Ag (by rw [<-h.1];exact d)] at c;exact h.2 i v a b c
 .rw [Ak o_] at b;rw [Ak (by rw [<-h.1];omega),<-h.1] at c;exact k.2 _ v a b c
def gF.single{w:World}{v:Value}{a:aa}(h:RepW w v a):gF w [v] [a]:=
 ⟨rfl,λ i u b c d=>by cases i with | zero=>grind | succ i=>simp at c⟩
def gF.nil{w:World}:gF w [] []:=⟨rfl,λ i v a h=>by simp at h⟩
def IR(P:Program)(a:TypeId->Bool):Nat->List Field->Nat->Bool
 | off,[],total=>Ax off total
 | off,f::fs,total=>(Ax f.offset off&&a f.type)&&IR P a (off+P.cellsOf f.type) fs total
def pZ(P:Program):Nat->TypeId->Bool
 | 0,_=>false
 | n+1,t=>match P.underlying t with
  | some .bool=>true
  | some (.int _)=>true
  | some .string=>true
  | some (.struct fs)=>IR P (pZ P n) 0 fs.toList (P.cellsOf t)
  | some (.array m e)=>pZ P n e&&Ax (P.cellsOf t) (m*P.cellsOf e)
  | some (.slice e)=>pZ P n e&&Ff 0 (P.cellsOf e)
  | _=>false
section
variable {H:Type} {enc:TypeId×Value->H} {P:Program} {w:World} {base:Nat} {spare:Nat->Bool} {held:Bool}
def TyC.pack{n:Nat}{t:TypeId}{as:ay}(h:TyC P n t as):∃ x:aa,x.cells=as/\(aK P t=true->∃ l,x= .agg l):=by
 cases n with
 | zero=>exact h.elim
 | succ n=>
  unfold TyC at h;cases a:aK P t with
  | true=>exact ⟨.agg as,rfl,λ_=>⟨_,rfl⟩⟩
  | false=>
   unfold aK at a;split at h
   .obtain ⟨b,rfl⟩:=h;exact ⟨.bool b,rfl,λ h=>by cases h⟩
   .rename_i k _;obtain ⟨m,rfl,_⟩:=h;exact ⟨.int k m,rfl,λ h=>by cases h⟩
   .obtain ⟨l,rfl,_⟩:=h;exact ⟨.str l,rfl,λ h=>by cases h⟩
   .grind
   .grind
   .rename_i e _;obtain ⟨xs,rfl,_⟩:=h;exact ⟨.slice (P.cellsOf e) xs .no,rfl,λ h=>by cases h⟩
   grind
def YV{r:Reach}{d:Nat}{t e:TypeId}{v:Value}(b:P.underlying t=some (.slice e))(h:Cell.okWide P w r d t v):∃ a n c,v= .slice a n c:=by unfold Cell.okWide at h;rw [b] at h;unfold Cell.ok at h;rw [b] at h;cases v<;>simp at h;simp
end
def BV(M:Imm)(ob:Hs)(u:FrameMode):Option aa->Prop
 | none=>u= .returning
 | some v=>∃ x,u= .panicking [{v:=x,recovered:=false}]/\Rep M ob x v
def AP(P:Program)(f:FuncId)(args:ay)(ac:au)(p:Option aa)(ao:au):Prop:=
 ∀ M ob w a u,Mem M ob ac w->cA M ob a args->BV M ob u p->
  (callFunc f a.toArray).run P w= .ok (.enter f a.toArray) w/\
   CallsD P f a.toArray u w λ e b w'=>∃ v M' ob',e= .returned v/\settle b= .returning/\Ext M ob ac w M' ob' ao w'/\Mem M' ob' ao w'
section
variable {P:Program}
def MC{o:Oper}{b:Array TypeId}{ρ:Operand->Value}{w:World}(c:o.op= .call {callee:=.builtin .recover,args:= #[],argTypes:=b}):(execOp ρ o).run P w= .ok .recover w:=by obtain ⟨dst,op,ty,pos,a,d⟩:=o;subst c;rfl
def I8{M:Imm}{ob:Hs}{u:FrameMode}{p:Option aa}(h:BV M ob u p)(c:Frame)(cs:List Frame)(d:c.mode=u):
  ∃ v b,Rep M ob v (match p with | none=>.nilif | some a=>a)/\settle b= .returning/\
   ((recoverD (c::cs)=some (v,{c with mode:=b}::cs))\/(recoverD (c::cs)=none/\v= .nilIface/\({c with mode:=b}:Frame)=c)):=by
 cases p with
 | none=>
  have h:u= .returning:=h;subst h;refine ⟨.nilIface,.returning,.nilif,rfl,.inr ⟨by simp [recoverD,d],rfl,?_⟩⟩;rw [<-d]
 | some a=>
  obtain ⟨x,rfl,e⟩:=h;refine ⟨x,.panicking [{v:=x,recovered:=true}],e,rfl,.inl ?_⟩;simp [recoverD,d]
end
def E1:Code->Code
 | .seq _ b=>b
 | c=>c
def aKh:Code->Bool
 | .seq (.region _ ops false) _=>(match ops.toList with
  | [o]=>(match o.op with
   | .call c=>(match c.callee with | .builtin .recover=>c.args.toList.isEmpty&&o.guard.isNone&&o.dst.isSome | _=>false)
   | _=>false)
  | _=>false)
 | _=>false
def YI:Code->Nat
 | .seq (.region _ ops _) _=>(match ops.toList with | [o]=>o.dst.getD 0 | _=>0)
 | _=>0
def YK{c:Code}(h:aKh c=true):∃ id o b rest,c= .seq (.region id #[o] false) rest/\o.op= .call {callee:=.builtin .recover,args:= #[],argTypes:=b}/\o.guard=none/\o.dst=some (YI c)/\E1 c=rest:=by
 unfold aKh at h;split at h
 .rename_i id ops rest;split at h
  .rename_i o l;split at h
   .rename_i cl g;split at h
    .rename_i a;simp only [Ad] at h;obtain ⟨⟨h1,k⟩,h3⟩:=h;obtain ⟨f,as,b⟩:=cl;have a:f= .builtin .recover:=a;subst a;have e:ops= #[o]:=by cases ops;grind
     subst e;have j:as= #[]:=by simp_all
     subst j;obtain ⟨d,i⟩:=Da.1 h3;refine ⟨id,o,b,rest,rfl,g,by simp_all,?_,rfl⟩;simp [YI,i]
    .cases h
   .cases h
  .cases h
 .cases h
def AP.of{E:Env}{f:FuncId}{fn:Func}{args:ay}{ac:au}{n0:Nat}{r:aa}{ao:au}{p:Option aa}(hdf:E.df=[])(Y:E.P.funcs[f]? =some fn)(hb:fn.body=some (dA fn))(hbo:nP E.P f)
  (T:aKh (dA fn)=true) (V:cZ fn.ntmps (E1 (dA fn))=true) (hn:Fv args.length fn.ntmps=true) (X:Ff (YI (dA fn)) fn.ntmps=true) (hsb:uH ac=true) (hg:ac.length=n0)
  (h:okL args->To E fn (.full n0 (.ret r) ao) (.code [.code (E1 (dA fn))] (iE (frA 0 args) (YI (dA fn)) (match p with | none=>.nilif | some a=>a)) ac)) (A:E.rd=none:=by rfl):AP E.P f args ac p ao:=by
 intro M ob w g u hm hr D;refine ⟨hbo _ _,?_⟩;obtain ⟨id,o,ats,rest,hc,hop,hgd,O,R⟩:=YK T;rw [R] at h V;have hlen:g.length=args.length:=hr.1;have hle:=Ck hn;have htl:YI (dA fn)<fn.ntmps:=by simpa [Ju] using X
 generalize htt:YI (dA fn)=t at *
 have hst:qG (.full n0 (.ret r) ao) ob:=by
  refine ⟨by rw [hm.len,hg];rfl,λ_ hs K=>?_⟩;obtain ⟨k,C⟩:=Cu K;have J:k<ac.length:=by rw [<-hm.len];exact (Ab.1 C).1
  obtain ⟨h1,h2⟩:=uG hsb k _ (Aa J);have e:=gH (Aa J);have:=hm.histLen (by rw [e];exact h1) C;rw [e,h2] at this;exact this
 intro c cs hu;obtain ⟨v,y,Z,L,H⟩:=I8 D c cs hu
 let b:Frame:={(default:Frame) with fn:=f,kind:=.deferred}
 let a:Act:={tmps:=g.toArray++Fy (fn.ntmps-g.toArray.size) undef,defers:=[]}
 have W:a.tmps.size=fn.ntmps:=by simp [a];omega
 have z:Frame.enter E.P f g.toArray .deferred=b.at a [.code (.seq (.region id #[o] false) rest)]:=by simp [Frame.enter,Frame.at,Y,hb,hc,b,a]
 have ha:∀ t,Rep M ob (a.tmps.getD t undef) (aW (frA 0 args) t):=λ t=>by
  rw [D0];simp only [Bx,if_true,Iq];by_cases X:t<args.length
  .rw [Aa X];have Z:t<g.length:=o_;have:a.tmps.getD t undef=g[t]:=by show (g.toArray++Fy (fn.ntmps-g.toArray.size) undef).getD t undef=_;rw [Bk,Gz o_];simp [Z]
   rw [this];exact hr.2 t _ _ (Aa Z) (Aa X)
  .rw [Bi o_];exact .undef _
 -- the region of recover
 have S:=wp_opsS (P:=E.P) (ops:= #[o]) (Q:=λ e a' cs' w'=>e= .normal/\a'=a.put o.dst v/\cs'={c with mode:=y}::cs/\w'=w) [0] a (c::cs) w (by
  have e0:(#[o]:Array Oper)[0]? =some o:=rfl;have hw:Fe o (yielded #[o] a.tmps)=true:=by unfold Fe;rw [hgd]
  simp only [wpOpsS,e0,hw,if_true,MC hop];rcases H with h1 | ⟨h1,rfl,h2⟩
  .rw [h1];simp
  .rw [h1]
   refine ⟨?_,?_,?_,?_⟩<;>first | trivial | rfl | rw [h2]) b [.code rest] rfl rfl
 obtain ⟨e1,a1,cs1,B,⟨rfl,rfl,rfl,rfl⟩,G⟩:=S
 -- the rest
 have hkw:KW none E.P (nN E fn M ob ac B (.full n0 (.ret r) ao)) [.code rest] (a.put o.dst v) B:=by rw [<-A];obtain ⟨hh⟩:=h hr.okL;refine hh (by simp [bC,KI.ok,V]) M ob ac B _ B hst ⟨M,ob,Ext.refl _ _ _ _,hm,?_,(dK _ _ _).1.trans W,by rw [hdf];exact cV.put (a:=a) .nil,by rw [hm.len];omega⟩;intro s;have:=lU (d:=some t) ha Z (λ d' e=>by cases e;omega) s;rw [O];rwa [show jC (aW (frA 0 args)) (some t) _ s=aW (iE (frA 0 args) t _) s from (congrFun (dR (frA 0 args) (some t) _) s).symm] at this
 obtain ⟨e2,I,w2,m,j⟩:=hkw.arrives b ({c with mode:=y}::cs) rfl
 have i:Steps E.P (lone (b.at a [.code (.seq (.region id #[o] false) rest)]) (c::cs) B) (lone (b.at (a.put o.dst v) [.code rest]) ({c with mode:=y}::cs) B):=
  .head step_seq (.head step_region G)
 have fin:∀ {e:Ending} {w':World},RR M ob ac B (.full n0 (.ret r) ao) e w'->∃ v M' ob',e= .returned v/\settle y= .returning/\Ext M ob ac B M' ob' ao w'/\Mem M' ob' ao w':=λ{e w'} ⟨M',ob',x1,x2,x3⟩=>by
  cases e with
  | returned v=>exact ⟨v,M',ob',rfl,L,x1,x2⟩
  | panicked ch=>exact x3.elim
  | outgrown=>exact x3.elim
 rw [z];cases e2 with
 | normal=>
  unfold nN E6 at m;rw [A] at m;obtain ⟨U,x,n,N,hs,_,C,hl⟩:=fL I.defers .returning w2 {b.at I [] with mode:=.returning} ({c with mode:=y}::cs) rfl rfl rfl Y m;exact ⟨U,y,x,n,fin N,Comes.of_steps (i.trans (Steps.trans j (.one step_end))) hs,C,hl⟩
 | ret=>
  obtain ⟨q,F⟩:=j;unfold nN E6 at m;rw [A] at m;obtain ⟨U,x,n,N,hs,_,C,hl⟩:=fL I.defers .returning w2 {b.at I q with mode:=.returning} ({c with mode:=y}::cs) rfl rfl rfl Y m;exact ⟨U,y,x,n,fin N,Comes.of_steps (i.trans F) hs,C,hl⟩
 | panic eX=>
  obtain ⟨q,F⟩:=j;unfold nN at m;rw [A] at m;obtain ⟨U,x,n,N,hs,_,C,hl⟩:=fL I.defers (.panicking eX) w2 {b.at I q with mode:=.panicking eX} ({c with mode:=y}::cs) rfl rfl rfl Y m;exact ⟨U,y,x,n,fin N,Comes.of_steps (i.trans F) hs,C,hl⟩
 | exit id=>exact m.elim
 | goto l=>exact m.elim
 | outgrown=>exact m.elim
def aLA(fr:ar):bb->Option (Nat×ay)
 | [p]=>(match p.guard,p.op with
  | none,.defer c=>(match c.callee with
   | .value (.func f)=>some (f,evO (ev fr) c.args.toList)
   | _=>none)
  | _,_=>none)
 | _=>none
def R5(ρ:Operand->aa):∀ (l:List Operand),evO ρ l=l.map ρ
 | []=>rfl
 | x::r=>by simp [evO,R5 ρ r]
def aCt(ks:az)(og:Nat->ab):Option aa->Option aa
 | none=>none
 | some v=>some (cvtV 0 ks og 5 v)
section
variable {E:Env} {fn:Func} {g:Goal}
def OF{df:List (Nat×ay)}{id:Nat}{ops:Array Oper}{ks:bf}{fr:ar}{ac:au}{f:Nat}{args:ay}(k:aLA fr ops.toList=some (f,args))
  (B:df=(f,args)::E.df)
  (u:E.rd=none) (h:dD {E with df:=df} fn g ks (match ops.toList with | [o]=>kV fr o.dst (.tup []) | _=>fr) ac):dD E fn g (.code (.region id ops false)::ks) fr ac:=by
 intro J M0 ob0 ap w0 a w hst hs;simp only [bC,KI.ok,cZ,Ad] at J;obtain ⟨⟨D,_⟩,F⟩:=J;have m:=lC D;unfold aLA at k;split at k
 .rename_i o n;split at k
  .rename_i c O q;split at k
   .rename_i Y l;cases k;rw [n] at h m;dsimp only at h
    refine KW.code (Q':=QR {E with df:=df} fn g M0 ob0 ap w0 ks) ?_ (λ a w h=>h) (λ Z a w h=>h) (λ e a w X=>by cases e<;>first | exact .inl rfl | exact .inr ⟨_,rfl⟩ | exact X.elim)
    refine wpIn_region_list ?_;rw [n];unfold wpListIn;have U:Fe o (yielded ops a.tmps)=true:=by unfold Fe;rw [O]
    rw [if_pos U];obtain ⟨dst,op,ty,pos,p,V⟩:=o;have q:op= .defer c:=q;subst q;obtain ⟨A,as,z⟩:=c;have l:A= .value (.func f):=l;subst l;have r:(execOp a.eval ⟨dst,.defer ⟨.value (.func f),as,z⟩,ty,pos,p,V⟩).run E.P w= .ok (.defer {target:=.fn (.func f) #[],args:= #[]++as.map a.eval}) w:=rfl;refine ⟨λ_ _=>trivial,?_⟩;rw [show (fen E.rd).round=none from u,Oper.semAt_none,r,Oper.uponIn_defer];obtain ⟨M,ob,L,N,H,I,t,T⟩:=hs;refine h F M0 ob0 ap w0 _ w hst ⟨M,ob,L,N,?_,(dK _ _ _).1.trans I,?_,T⟩
    .rw [dR];exact lU (a:={a with defers:={target:=Target.fn (Fn.func f) #[],args:= #[]++Array.map a.eval as}::a.defers}) H xS λ W e=>I▸m _ (Dj.2 rfl) W e
    .rw [B];obtain ⟨K,S,Q,t,R⟩:=t;refine cV.put (a:={a with defers:=_}) ⟨_::K,S,by rw [Q];rfl,⟨by simp [t.1],λ i d x k r=>?_⟩,R⟩;cases i with
     | zero=>
      simp at k r;subst k r;refine ⟨rfl,?_,λ j v b C s=>?_⟩
      .simp [R5]
      .rw [R5,Bg] at s;simp only [Array.empty_append,Jv,Bg] at C;cases G:as.toList[j]? with
       | none=>rw [G] at s;cases s
       | some y=>
        rw [G] at s C;cases s;cases C;exact EC H y
     | succ i=>exact t.2 i d x (by simpa using k) (by simpa using r)
   .cases k
  .cases k
 .cases k
def To.defer(df:List (Nat×ay)){id:Nat}{ops:Array Oper}{ks:bf}{fr:ar}{ac:au}{f:Nat}{args:ay}(c:aLA fr ops.toList=some (f,args))(a:df=(f,args)::E.df)
  (h:To {E with df:=df} fn g (.code ks (match ops.toList with | [o]=>kV fr o.dst (.tup []) | _=>fr) ac)) (b:E.rd=none:=by rfl):To E fn g (.code (.code (.region id ops false)::ks) fr ac):=
 .mk (h.rec λ h=>OF c a b h)
def DI{M0:Imm}{ob0:Hs}{ap:au}{w0:World}{sz:Nat}{f:Nat}{args:ay}{rest:List (Nat×ay)}{M:Imm}{ob:Hs}{ac ao:au}{w:World}{a:Act}{u:FrameMode}{p:Option aa}(c ks:az)
  {fr:ar} (S:Ext M0 ob0 ap w0 M ob ac w) (C:Mem M ob ac w) (U:∀ t,Rep M ob (a.tmps.getD t undef) (aW fr t)) (Z:a.tmps.size=sz) {q:List Deferred} (n:cV w0 w M ob q ((f,args)::rest)) (x6:ob0.length<=ac.length)
  (y:jD ks (aj c ac)=true) (z:BV M ob u p)
  (h:AP E.P f (dO (cvtV 0 ks (aB (aj c ac)) 5) args) (gG 0 ks (aj c ac)) (aCt ks (aB (aj c ac)) p) ao) {R:Ending->World->Prop}
  (hl:∀ (r:List Deferred) w',SS M0 ob0 ap w0 sz rest fr (gJ ks (aM (aj c ac)) (aj c ac) 0 ao (aj c ac)) {a with defers:=r} w'->fF E.P fn a.tmps R r .returning w'):fF E.P fn a.tmps R q u w:=by
 obtain ⟨H,m,rfl,n,Y⟩:=n;cases H with
 | nil=>have:=n.1;simp at this
 | cons d q=>
  obtain ⟨b,g⟩:=n.2 0 d _ rfl rfl;obtain ⟨G,s,A,_,_⟩:=Mem.frzs c M ac C;obtain ⟨Q,_,_⟩:=s.cvt (n0:=0) y;have k:cA G _ d.args.toList (dO (cvtV 0 ks (aB (aj c ac)) 5) args):=sS (λ v a=>s.cvtV (n0:=0) y 5 v a) ⟨g.1,λ i v a B D=>(g.2 i v a B D).monoM A.imm⟩;have l:BV G (eV 0 ob (aj c ac) 0 ks) u (aCt ks (aB (aj c ac)) p):=by
   cases p with
   | none=>exact z
   | some v=>
    obtain ⟨x,e,N⟩:=z;exact ⟨x,e,s.cvtV y 5 _ _ (N.monoM A.imm)⟩
  obtain ⟨h1,L⟩:=h G _ w d.args.toList u Q k l;have F:u≠ .run:=by
   cases p with
   | none=>have:u= .returning:=z;rw [this];simp
   | some v=>obtain ⟨x,e,_⟩:=z;rw [e];simp
  obtain ⟨I,o⟩:=d;have b:I= .fn (.func f) #[]:=b;subst b;refine ⟨F,.inr ⟨.func f,#[],f,o,rfl,?_,?_⟩⟩
  .show (callFunc f (o++ #[])).run E.P w=_;simp;omega
  .refine L.mono λ e u' w' ⟨v,M',T,K,W,X,O⟩=>?_;subst K;dsimp only;rw [W];obtain ⟨J,V,_⟩:=s.emb y X O;have ext:=A.trans V;refine hl (q++m) w' ?_;rw [bJ];refine ⟨M',_,S.trans ext,J,λ t=>(U t).mono ext.imm ext.hs,Z,?_,?_⟩
   .refine ⟨q,m,rfl,⟨by have:=n.1;simpa using this,λ i d x hd hx=>?_⟩,(cV.ext (M:=M) (ob:=ob) ⟨[],m,rfl,.nil,Y⟩ C ext).marks⟩;have:=n.2 (i+1) d x q_ q_;exact ⟨this.1,this.2.1,λ j v a B D=>(this.2.2 j v a B D).mono ext.imm ext.hs⟩
   .have:=ext.lens;have:=J.len;have:=C.len;omega
def To.leave(df:List (Nat×ay)){f:Nat}{args:ay}(i:E.df=(f,args)::df)(b ks:az){p:Option aa}{fr:ar}{ac ao:au}(q:jD ks (aj b ac)=true)
  (h:AP E.P f (dO (cvtV 0 ks (aB (aj b ac)) 5) args) (gG 0 ks (aj b ac)) (aCt ks (aB (aj b ac)) p) ao)
  (d:To {E with df:=df} fn g (.leave none fr (gJ ks (aM (aj b ac)) (aj b ac) 0 ao (aj b ac)))):To E fn g (.leave p fr ac):=by
 obtain ⟨d⟩:=d;have d:aEQ {E with df:=df} fn g fr (gJ ks (aM (aj b ac)) (aj b ac) 0 ao (aj b ac)):=d;refine .mk ?_;cases p with
 | none=>
  intro M0 ob0 ap w0 a w hst ⟨M,ob,k,l,n,m,j,o⟩;rw [i] at j;exact DI (p:=none) b ks k l n m j o q rfl h λ c w' hs=>d M0 ob0 ap w0 {a with defers:=c} w' hst hs
 | some v=>
  intro M0 ob0 ap w0 s a w hst ⟨M,ob,k,l,⟨x,e,r⟩,n,m,j,o⟩;rw [i] at j;exact DI (p:=some v) b ks k l n m j o q ⟨x,by rw [e],r⟩ h λ c w' hs=>d M0 ob0 ap w0 {a with defers:=c} w' hst hs
def To.left(hE:ae E)(b:E.df=[]){fr:ar}{ac:au}{v:aa}(d:aBB E ac fn.results.toList fr=some v)(h:OX g .ret v ac)(c:E.rd=none:=by rfl):To E fn g (.leave none fr ac):=
 .mk λ M0 ob0 ap w0 a w hst hs=>go_ret hE b c d h hst hs
end
def mF(r:Nat):Code->bf->Option bf
 | .region id _ _,ks=>bif Ax id r then some ks else none
 | .seq a b,ks=>(match mF r a (.code b::ks) with | some x=>some x | none=>mF r b ks)
 | .cond _ a b,ks=>(match mF r a ks with | some x=>some x | none=>mF r b ks)
 | .block id b,ks=>mF r b (.inB id::ks)
 | .loop b,ks=>mF r b (.inL b::ks)
 | _,_=>none
def dB(fn:Func)(r:Nat):bf:=match mF r (dA fn) [] with | some ks=>ks | none=>[]
def To.cutC{E:Env}{fn:Func}{g:Goal}{ks:bf}{fr:ar}{ac:au}(l:az)(n:Nat)(c:Fv g.n0 n=true)(b:aEx n (lM l fr)=true)(d:FR n (nZ n ac)=true)(a:aAh n E.df=true)
  (h:To E fn g (.code ks (lM l fr) (nZ n ac))):To E fn g (.code ks fr ac):=by
 have:=To.cut (E:=E) (fn:=fn) (g:=g) (ks:=ks) (fr:=fr) (ac:=ac) l n c b d a (h.rec λ h=>.mk h);exact this.rec λ h=>.mk h
def VA:St->Bool
 | .head _ _ _=>false
 | _=>true
def goN{E:Env}{fn:Func}{g:Goal}(hE:ae E)(a:Nat){st:St}(_hs:VA st=true)(h:bS E fn g (To E fn g) a st):To E fn g st:=cP hE a h
def L7{w:World}{b:Nat}{u s q:Value}{T:TypeId}(h:w.heap[b]? =some (.cells #[u,s] T (0,0))):w.setCell ⟨b,0,none⟩ q=w.setRow b #[q,s]:=by
 unfold World.setCell World.setRow;congr 1;refine Array.ext_getElem? λ i=>?_;by_cases a:b=i
 .subst a;rw [Fk,Fk,if_pos rfl,if_pos rfl,h];rfl
 .rw [Fk,Fk,if_neg a,if_neg a]
def nM{P:Program}{f:FuncId}{T:TypeId}(y:nP P f)
  (C:∀ (b:Nat) (w:World),w.cell? ⟨b,0,none⟩=some (.pointer none)->w.shape? b=some (T,2)->w.frozen? ⟨b,0,none⟩=false->Calls P f #[.pointer (some ⟨b,0,none⟩)] w λ e w'=>e= .returned (.tuple #[])/\w'=w.setCell ⟨b,0,none⟩ (.pointer (some ⟨b,0,none⟩)))
  (s:aa):aA P f [.ref 0 0] [.cells T [.nilptr,s]] (.ret (.tup [])) [.cells T [.ref 0 0,s]]:=by
 intro M ob w h hm q;obtain ⟨hl,q⟩:=q
 match h,hl with
 | [v],_=>
 obtain ⟨b,rfl,c⟩:=(q 0 _ _ rfl rfl).ref_inv;obtain ⟨hs,z,n,rfl,A,cv,j,p,h1,d⟩:=hm.obj 0 _ rfl;have r:n=b:=by rw [bW z] at c;simpa using c
 subst r
 match cv,p with
 | [u,t],_=>
 have B:u= .pointer none:=by have:=d 0 u _ rfl rfl;cases this;rfl
 subst B;have j:w.heap[n]? =some (.cells #[.pointer none,t] T (0,0)):=j;have l:=h1 t s_;refine .inl ⟨y _ _,(C n w (by simp [Kk,j]) (by simp [Jh,j]) (by simp [Lu,j])).mono ?_⟩;rintro e w' ⟨rfl,rfl⟩;rw [L7 j]
 have:=hm.cellsTurn (k:=0) (cs':=[.ref 0 0,s]) (cv':=[.pointer (some ⟨n,0,none⟩),t]) rfl c rfl (λ x m=>by
  rcases Aw.1 m with rfl | m
  .rfl
  .rcases Aw.1 m with rfl | m
   .exact l
   .cases m) (λ i v a g o=>by
  match i with
  | 0=>
   simp at g o;subst g o;exact .ref 0 0 n c
  | 1=>
   simp at g o;subst g o;exact d 1 _ _ rfl rfl
  | i+2=>simp at g)
 exact ⟨M,ob,this.2.1,this.1,.tup [] [] rfl (λ i v a g=>by simp at g)⟩
def IF(g n:Nat)(w w':World):Prop:=w'.os=w.os/\w'.tape=w.tape/\w'.output=w.output/\w'.heap=(w.freeze ⟨g,0,none⟩ n).heap
def R0{w:World}{g n:Nat}(h:n≠0):IF g n w (w.drew.freeze ⟨g,0,none⟩ n):=by unfold IF Mk;rw [if_neg h,if_neg h];exact ⟨rfl,rfl,rfl,rfl⟩
def HC{w:World}{g n k:Nat}(h:g≠k):(w.freeze ⟨g,0,none⟩ n).heap[k]? =w.heap[k]?:=by
 unfold Mk;split
 .rfl
 .simp only [Fk,if_neg h]
def aDg{w:World}{g n:Nat}:(w.freeze ⟨g,0,none⟩ n).heap.size=w.heap.size:=by
 unfold Mk;split
 .rfl
 .simp
def aDh{w:World}{g n b o:Nat}:(w.freeze ⟨g,0,none⟩ n).cell? ⟨b,o,none⟩=w.cell? ⟨b,o,none⟩:=by
 by_cases h:g=b
 .subst h;unfold Mk;split
  .rfl
  .unfold Kk;simp only [Fk,if_true];cases h:w.heap[g]? with
   | none=>rfl
   | some x=>cases x<;>rfl
 .exact Cs (w:=w) (a:=⟨b,o,none⟩) (HC h)
def mD{P:Program}{f:FuncId}{T e:TypeId}(N:nP P f)
  (hc:∀ (b g cap:Nat) (p:Value) (d:Array Value) (l:ax) (w:World),w.heap[b]? =some (.cells #[p,.slice (some ⟨g,0,none⟩) l.length cap] T (0,0))->w.heap[g]? =some (.cells d e (0,0))->l≠[]->
   l.length<=cap->cap<=maxLen->d.size=cap->(∀ (j:Nat) x,l[j]? =some x->w.cell? ⟨g,j,none⟩=some (.int .u8 x.toNat))->
   Calls P f #[.pointer (some ⟨b,0,none⟩)] w λ e w'=>e= .returned (.string ⟨l.toArray⟩)/\IF g l.length w w')
  (l:ax) (W:l≠[]) (p:aa):aA P f [.ref 0 0] [.cells T [p,.slice 1 (l.map ub) (.own 1 0)],.tail 0 1 e] (.ret (.str l)) [.dead,.dead]:=by
 intro M ob w r hm R;obtain ⟨hl,R⟩:=R
 match r,hl with
 | [v],_=>
 obtain ⟨b,rfl,B⟩:=(R 0 _ _ rfl rfl).ref_inv;obtain ⟨hs,e1,X,rfl,hno,cv,J,Z,h1,D⟩:=hm.obj 0 _ rfl;have hbb:X=b:=by rw [bW e1] at B;simpa using B
 subst hbb
 match cv,Z with
 | [u,t],_=>
 have J:w.heap[X]? =some (.cells #[u,t] T (0,0)):=J;have C:=D 1 t _ rfl rfl;obtain ⟨C,i⟩:=C.untok;have i:at' ob 1 0=some t:=i;obtain ⟨I,k1,k2,v1,k3,n,cw,V,k5⟩:=hm.obj 1 _ rfl;have K:v1=t:=by rw [bW k1,k3] at i;simpa using i
 subst K;have hn:n=(l.map ub).length:=zS C V;have F:(l.map ub).length=l.length:=by simp
 have hlm:=C.slice_inv;obtain ⟨_,_,_,_,_,q⟩:=hlm;rw [F] at q hn;have hpos:0<l.length:=Dx.2 W;subst hn;have k4':=V;obtain ⟨hcwl,Y⟩:=V;rcases Y with ⟨rfl,hz⟩ | ⟨g,cap,d,rfl,_,hg,L,hcm,hcs,S⟩
 .omega
 have m:∀ (j:Nat) x,l[j]? =some x->w.cell? ⟨g,j,none⟩=some (.int .u8 x.toNat):=λ j x U=>by
  rcases C.sl_inv with ⟨h1,_⟩ | ⟨_,_,_,h1⟩ | ⟨b2,o2,cap2,h1,_,_,_,h⟩
  .cases h1
  .exact absurd (List.map_eq_nil_iff.1 h1) W
  .simp only [Value.slice.injEq,Dq,Addr.mk.injEq] at h1;obtain ⟨⟨rfl,rfl,_⟩,_,_⟩:=h1;have hM:=h j 0 (ub x) (ub x) (by simp [U]) rfl;obtain ⟨u',G,_,hr'⟩:=hm.imm _ _ _ hM;rw [show 0+j*1+0=j from by omega] at G;rw [G];have:=hr'.int_inv;rw [this.1]
 refine .inl ⟨N _ _,(hc X g cap u d l w J hg W L hcm o_ m).mono ?_⟩;rintro e w' ⟨rfl,O,s,A,a⟩;have y:∀ b o,w'.cell? ⟨b,o,none⟩=w.cell? ⟨b,o,none⟩:=λ b o=>by
  have:w'.cell? ⟨b,o,none⟩=(w.freeze ⟨g,0,none⟩ l.length).cell? ⟨b,o,none⟩:=by unfold Kk;rw [a]
  rw [this,aDh]
 have dead:∀ (k b:Nat),¬ aG ob [.dead,.dead] k b:=λ k b ⟨c,hs,h1,H,_⟩=>by
  match k with
  | 0=>simp at h1;subst h1;cases H
  | 1=>simp at h1;subst h1;cases H
  | k+2=>simp at h1
 refine ⟨M,ob,?_,?_,.str l q⟩
 .refine ⟨λ_ _ _ h=>h,λ_ _ _ h=>.inl h,dJ.refl _,O,s,A,by rw [a,aDg];omega,λ k z Q=>?_,λ k b h=>absurd h (dead k b)⟩;rw [a,HC];intro e;subst e;refine Q 1 ⟨_,I,rfl,rfl,k1,?_⟩;rw [eG k2 k3];exact dU.2 rfl
 .refine ⟨λ b o x U=>?_,hm.len,λ k c z=>?_,λ k b h=>absurd h (dead k b),λ k _ b h=>absurd h (dead k b)⟩
  .obtain ⟨v,h1,H,h3⟩:=hm.imm b o x U;exact ⟨v,by rw [y];exact h1,H,h3⟩
  .match k with
   | 0=>simp at z;subst z;exact ⟨_,e1,trivial⟩
   | 1=>simp at z;subst z;exact ⟨_,k1,trivial⟩
   | k+2=>simp at z
def N4(k:IntKind):∃ p,bE k+1=2 ^ p/\p<=k.bits:=by
 cases k
 .exact ⟨7,by decide,by decide⟩
 .exact ⟨15,by decide,by decide⟩
 .exact ⟨31,by decide,by decide⟩
 .exact ⟨63,by decide,by decide⟩
 .exact ⟨8,by decide,by decide⟩
 .exact ⟨16,by decide,by decide⟩
 .exact ⟨32,by decide,by decide⟩
 .exact ⟨64,by decide,by decide⟩
def aG7(k:IntKind):cJ k<=0:=by cases k<;>decide
def sU{k:IntKind}{a:Nat}(h:(a:Int)<=bE k):inR k a:=⟨Fl (aG7 k) (Int.natCast_nonneg a),h⟩
def sR(n a:Nat)(h:a<2 ^ n):(BitVec.ofInt n (a:Int)).toNat=a:=by grind
def JW{k:IntKind}{a p:Nat}(hp:bE k+1=2 ^ p)(h:(a:Int)<=bE k):a<2 ^ p:=by grind
def aCE{k:IntKind}{a p:Nat}(hp:bE k+1=2 ^ p)(h:a<2 ^ p):(a:Int)<=bE k:=by grind
def oM(k:IntKind)(a b:Nat)(g:(a:Int)<=bE k)(d:(b:Int)<=bE k):dL .or k a b=((a ||| b:Nat):Int):=by obtain ⟨p,hp,c⟩:=N4 k;have h1:=JW hp g;have f:=JW hp d;have e:2 ^ p<=2 ^ k.bits:=Eu d_ c;simp only [dL,BitVec.toNat_or,sR k.bits a o_,sR k.bits b o_];exact kB (sU (aCE hp (Nat.or_lt_two_pow h1 f)))
def yM(k:IntKind)(a b:Nat)(g:(a:Int)<=bE k)(d:(b:Int)<=bE k):dL .and k a b=((a &&& b:Nat):Int):=by obtain ⟨p,hp,c⟩:=N4 k;have h1:=JW hp g;have f:=JW hp d;have e:2 ^ p<=2 ^ k.bits:=Eu d_ c;simp only [dL,BitVec.toNat_and,sR k.bits a o_,sR k.bits b o_];exact kB (sU (aCE hp (Nat.and_lt_two_pow _ f)))
def RC{a b i:Nat}(h:a<2 ^ i):a ||| (b*2 ^ i)=a+b*2 ^ i:=by have:=Ig h b;rw [Nat.or_comm,Dd b,<-this,Mc]
def aIW(a p:Nat):a &&& (2 ^ p-1)=a % 2 ^ p:=Jt a p
def IG(n:Nat):IntKind.u8.wrap (n:Int)=((n % 256:Nat):Int):=by rfl
set_option maxRecDepth 8000 in
def aKx:∀ m:Fin 256,m.val ||| 128=128+m.val % 128:=by decide
def LH{m:Nat}(h:m<256):ub (Dt m)= .int .u8 m:=by simp only [ub];simp;omega
def O8(n0:Nat)(ks:az)(og:Nat->ab):ar->ar
 | []=>[]
 | (i,v)::r=>(i,cvtV n0 ks og 5 v)::O8 n0 ks og r
def yI(n0:Nat)(ks:az)(og:Nat->ab)(t:Nat):∀ (fr:ar),aW (O8 n0 ks og fr) t=cvtV n0 ks og 5 (aW fr t)
 | []=>rfl
 | (i,v)::r=>by
  simp only [O8,aW];cases Ax i t with
  | true=>rfl
  | false=>exact yI n0 ks og t r
def To.part{E:Env}{fn:Func}{g:Goal}{st:bf}{fr:ar}{ac:au}(l:az)(ks:az)(n:E.df=[])(r:jD ks ac=true)(v:iY g.n0 0 ks=true)
  (h:To E fn g (.head st (O8 g.n0 ks (aB ac) (lM l fr)) (gG g.n0 ks ac))) (f:g.strict=true:=by rfl):To E fn g (.head st fr ac):=
 .mk λ q M0 ob0 ap w0 a w hst hs=>by
  refine h.rec λ h=>h q M0 ob0 ap w0 a w hst ?_;obtain ⟨M,ob,c,hm,o,H,u,I⟩:=hs;obtain ⟨B,A,_⟩:=hm.cvt (n0:=g.n0) r;have s:ob0.length=g.n0:=hst.1;have y:(gG g.n0 ks ac).length=ks.length:=by unfold gG;rw [nR]
  have C:ob0.length<=ks.length:=by
   rw [s];rcases Fp g.n0 with F | F
   .omega
   .have:=kZ v (g.n0-1) o_;have:=(Ab.1 this).1;omega
  refine ⟨M,_,⟨c.imm,c.new,λ j hs m=>?_,c.os,c.tape,c.output,c.size,c.keep,λ j b D=>?_⟩,B,λ t=>?_,H,?_,by omega⟩
  .have i:j<g.n0:=by rw [<-s];exact (Ab.1 m).1
   have d:=kZ v j i;rw [Bp] at d;obtain ⟨hs',z,t,x⟩:=c.hs j hs m;have G:=hst.2 f hs (Av m);refine ⟨iU g.n0 j (aB ac j) hs',?_,?_⟩
   .rw [gZ,d];simp [z]
   .unfold iU;split
    .rw [<-x];have:(hs++t).take 1=hs:=by rw [Db o_,Ch o_]
     rw [this];simp
    .exact ⟨t,x⟩
  .obtain ⟨k,_,p⟩:=A j b D;exact c.fresh k b p
  .rw [yI];have:Rep M ob (a.tmps.getD t undef) (aW (lM l fr) t):=by
    rcases pN fr t l with e | e
    .rw [e];exact o t
    .rw [e];exact .undef _
   exact hm.cvtV (n0:=g.n0) r 5 _ _ this
  .rw [n] at u⊢;exact u.bare
def L8:ay->Nat->aa->ay
 | [],_,_=>[]
 | _::r,0,x=>x::r
 | c::r,n+1,x=>c::L8 r n x
def IW:∀ (l:ay) (n:Nat) (x:aa),L8 l n x=l.set n x
 | [],_,_=>rfl
 | _::_,0,_=>rfl
 | c::r,n+1,x=>by simp [L8,IW r n x]
def kP:au->ab->au
 | [],x=>[x]
 | c::r,x=>c::kP r x
def nV:∀ (l:au) (x:ab),kP l x=l++[x]
 | [],_=>rfl
 | c::r,x=>by simp [kP,nV r x]
def Mem.beginC{M:Imm}{ob:Hs}{ac:au}{w:World}(hm:Mem M ob ac w){k i sz:Nat}{T e:TypeId}{cs:ay}(A:ac[k]? =some (.cells T cs))(L:cs[i]? =some (.slice sz [] .nil)):
  Mem M (ob++[[.slice none 0 0]]) (ac.set k (.cells T (cs.set i (.slice sz [] (.own ac.length 0))))++[.tail 0 sz e]) w/\
   Ext M ob ac w M (ob++[[.slice none 0 0]]) (ac.set k (.cells T (cs.set i (.slice sz [] (.own ac.length 0))))++[.tail 0 sz e]) w/\dJ ob (ob++[[.slice none 0 0]]):=by
 have l:dJ ob (ob++[[.slice none 0 0]]):=λ j hs d=>⟨hs,by rw [Ag (Ab.1 d).1];exact d,Cn _⟩
 have p:k<ac.length:=(Ab.1 A).1;have f:(ob++[[.slice none 0 0]])[ac.length]? =some [.slice none 0 0]:=by rw [<-hm.len];simp
 have B:at' (ob++[[.slice none 0 0]]) ac.length 0=some (.slice none 0 0):=by rw [bW f];rfl
 have q:∀ {j:Nat} {c:ab},(ac.set k (.cells T (cs.set i (.slice sz [] (.own ac.length 0))))++[.tail 0 sz e])[j]? =some c->
   (j=ac.length/\c= .tail 0 sz e)\/(j=k/\c= .cells T (cs.set i (.slice sz [] (.own ac.length 0))))\/(j≠k/\j<ac.length/\ac[j]? =some c):=λ{j c} d=>by
  by_cases z:j<ac.length
  .rw [Ag q_] at d;by_cases r:j=k
   .subst r;rw [Au z] at d
    grind
   .rw [Bb (Ej r)] at d
    grind
  .have m:j=ac.length:=by have:=(Ab.1 d).1;simp at this;omega
   subst m;rw [Ak s_] at d;simp at d
   grind
 have x:∀ {j b:Nat},aG (ob++[[.slice none 0 0]]) (ac.set k (.cells T (cs.set i (.slice sz [] (.own ac.length 0))))++[.tail 0 sz e]) j b->aG ob ac j b:=λ{j b} ⟨c,hs,o,u,e3,e4⟩=>by
  rcases q o with ⟨rfl,rfl⟩ | ⟨rfl,rfl⟩ | ⟨h1,m,h3⟩
  .rw [f] at e3;cases e3;cases e4
  .rw [Ag (by rw [hm.len];exact p)] at e3;exact ⟨_,hs,A,rfl,e3,e4⟩
  .rw [Ag (by rw [hm.len];exact m)] at e3;exact ⟨c,hs,h3,u,e3,e4⟩
 have G:∀ (j:Nat) c,(ac.set k (.cells T (cs.set i (.slice sz [] (.own ac.length 0))))++[.tail 0 sz e])[j]? =some c->∃ hs,(ob++[[.slice none 0 0]])[j]? =some hs/\hD M (ob++[[.slice none 0 0]]) w hs c:=λ j c d=>by
  rcases q d with ⟨rfl,rfl⟩ | ⟨rfl,rfl⟩ | ⟨h1,m,h3⟩
  .exact ⟨_,f,rfl,_,rfl,0,[],Hg w 0 _ _,λ b O=>by cases O⟩
  .obtain ⟨hs,o,b,I,H,cv,F,K,D,t⟩:=hm.obj _ _ A;refine ⟨hs,by rw [Ag (by rw [hm.len];exact p)];exact o,b,I,H,cv,F,by simp;omega,D,λ n v a s g=>?_⟩;by_cases J:n=i
   .subst J;have y:n<cs.length:=(Ab.1 L).1;rw [Au y] at g;cases g;have:=t n v _ s L;obtain ⟨_,C⟩:=this.untok;have C:v= .slice none 0 0:=C;subst C;exact .slnil _ _ B
   .rw [Bb (Ej J)] at g;exact (t n v a s g).mono (λ_ _ _ h=>h) l
  .obtain ⟨hs,o,u⟩:=hm.obj j c h3;refine ⟨hs,by rw [Ag (by rw [hm.len];exact m)];exact o,?_⟩;cases c with
   | cells P cs'=>
    obtain ⟨b,I,H,cv,F,K,D,t⟩:=u;exact ⟨b,I,H,cv,F,K,D,λ n v a s g=>(t n v a s g).mono (λ_ _ _ h=>h) l⟩
   | _=>exact u
 refine ⟨⟨hm.imm,by simp [hm.len],G,λ j b g=>hm.lt j b (x g),λ j N b h1 m=>hm.inj j N b (x h1) (x m)⟩,⟨λ_ _ _ h=>h,λ_ _ _ h=>.inl h,l,rfl,rfl,rfl,Bd _,λ_ _ _=>rfl,λ j b g=>.inl ⟨j,x g⟩⟩,l⟩
def To.begin{E:Env}{fn:Func}{g:Goal}{st:bf}{fr:ar}{ac:au}(k i:Nat)(e:TypeId){T:TypeId}{cs:ay}{sz:Nat}(l:aB ac k= .cells T cs)(q:nth cs i=some (.slice sz [] .nil))
  (h:To E fn g (.head st fr (kP (bM ac k (.cells T (L8 cs i (.slice sz [] (.own (aM ac) 0))))) (.tail 0 sz e)))):To E fn g (.head st fr ac):=
 .mk λ d M0 ob0 ap w0 a w hst hs=>by refine h.rec λ h=>h d M0 ob0 ap w0 a w hst ?_;obtain ⟨M,ob,m,hm,c,p,n,r⟩:=hs;have b:=bF l s_;obtain ⟨j,o,f⟩:=hm.beginC (e:=e) b (gX q);rw [nV,IW,bJ,aP b];exact ⟨M,_,m.trans o,j,λ t=>(c t).mono (λ_ _ _ h=>h) f,p,n.mono (λ_ _ _ h=>h) f,by simp;omega⟩
def mapO(f:aa->aa):ab->ab
 | .cells T cs=>.cells T (dO f cs)
 | x=>x
def tO(f:aa->aa):au->au
 | []=>[]
 | x::r=>mapO f x::tO f r
def DF(f:aa->aa):∀ (l:au),tO f l=l.map (mapO f)
 | []=>rfl
 | x::r=>by simp [tO,DF f r]
def aA.mapO{P:Program}{f:FuncId}{args:ay}{ac ao:au}{r:Res}(g:aa->aa)(C:∀ (M:Imm) (ob:Hs) v a,Rep M ob v a->Rep M ob v (g a))(h:aA P f args ac r ao):aA P f args ac r (tO g ao):=by
 rw [DF];intro M ob w m hm z;have key:∀ {e:Ending} {w':World},(∃ M' ob',Ext M ob ac w M' ob' ao w'/\Mem M' ob' ao w'/\sE M' ob' e r)->∃ M' ob',Ext M ob ac w M' ob' (ao.map (AW.mapO g)) w'/\Mem M' ob' (ao.map (AW.mapO g)) w'/\sE M' ob' e r:=by
  rintro e w' ⟨M',ob',h1,l,h3⟩;have own:∀ x:ab,(AW.mapO g x).owns=x.owns:=λ x=>by cases x<;>rfl
  have p:∀ {k b:Nat},aG ob' (ao.map (AW.mapO g)) k b->aG ob' ao k b:=λ{k b} ⟨c,hs,n,s,e3,e4⟩=>by
   rw [Bg] at n;cases o:ao[k]? with
   | none=>simp_all
   | some x=>
    rw [o] at n;cases n;exact ⟨x,hs,o,by grind,e3,e4⟩
  refine ⟨M',ob',⟨h1.imm,h1.new,h1.hs,h1.os,h1.tape,h1.output,h1.size,h1.keep,λ k b d=>h1.fresh k b (p d)⟩,⟨l.imm,by simpa using l.len,λ k c q=>?_,λ k b d=>l.lt k b (p d),λ i j b d F=>l.inj i j b (p d) (p F)⟩,h3⟩;rw [Bg] at q;cases o:ao[k]? with
  | none=>grind
  | some x=>
   rw [o] at q;cases q;obtain ⟨hs,n,s⟩:=l.obj k x o;refine ⟨hs,n,?_⟩;cases x with
   | cells T cs=>
    obtain ⟨b,I,H,cv,G,J,D,B⟩:=s;refine ⟨b,I,H,cv,G,by rw [wK];simp;omega,D,λ i v a A d=>?_⟩;rw [wK,Bg] at d;cases t:cs[i]? with
    | none=>rw [t] at d;cases d
    | some y=>rw [t] at d;cases d;exact C _ _ _ _ (B i v y A t)
   | _=>exact s
 rcases h M ob w m hm z with ⟨h1,l⟩ | ⟨u,w',h1,l⟩
 .exact .inl ⟨h1,l.mono λ e w' h=>key h⟩
 .exact .inr ⟨u,w',h1,key l⟩
def aA.blur{P:Program}{f:FuncId}{args:ay}{ac ao:au}{r:Res}(h:aA P f args ac r ao):aA P f args ac r (tO (λ_=>.undef) ao):=
 h.mapO _ λ_ _ _ _ _=>.undef _
def aA.loose{P:Program}{f:FuncId}{args:ay}{ac ao:au}{r:Res}(h:aA P f args ac r ao):aA P f args ac r (tO (AW.strip 5) ao):=
 h.mapO _ λ_ _ _ _=>sI 5
def wX(l:az)(og:Nat->ab):ar->ar
 | []=>[]
 | (i,v)::r=>(i,bif tJ i l then ah og 5 v else v)::wX l og r
def HB(l:az)(og:Nat->ab)(t:Nat):∀ (fr:ar),aW (wX l og fr) t=aW fr t\/aW (wX l og fr) t=ah og 5 (aW fr t)
 | []=>.inl rfl
 | (i,v)::r=>by
  simp only [wX,aW];cases Ax i t with
  | true=>
   grind
  | false=>exact HB l og t r
def To.frz{E:Env}{fn:Func}{g:Goal}{st:bf}{fr:ar}{ac:au}(l d:az)
  (h:To E fn g (.code st (wX l (aB (AW.aj d ac)) fr) (AW.aj d ac))):To E fn g (.code st fr ac):=
 .mk λ f M0 ob0 ap w0 a w hst hs=>by
  refine h.rec λ h=>h f M0 ob0 ap w0 a w hst ?_;obtain ⟨M,ob,j,hm,b,m,k,n⟩:=hs;obtain ⟨M',i,c,_,o⟩:=Mem.frzs d M ac hm;refine ⟨M',ob,j.trans c,i,λ t=>?_,m,k.mono c.imm (dJ.refl _),by omega⟩;rcases HB l (aB (AW.aj d ac)) t fr with e | e
  .rw [e];exact (b t).monoM c.imm
  .rw [e];exact (i.pureV 5 _ _ ((b t).monoM c.imm)).pure
structure Bulk(H:Type)(N:Nat)(G:DataW H->Prop):Prop where
 str:∀ (l:ax),G (.lit (.string l))->l.length<=N
 sl:∀ (e r:List (DataW H)),G (.slice e r)->e.length<=N/\∀ d∈e,G d
 agg:∀ (l:List (DataW H)),G (.agg l)->∀ d∈l,G d
def TyN(P:Program)(N:Nat):Nat->TypeId->ay->Prop
 | 0,_,_=>False
 | n+1,t,cs=>match P.underlying t with
  | some .bool=>∃ b,cs=[.bool b]
  | some (.int k)=>∃ m,cs=[.int k m]/\inR k m
  | some .string=>∃ l,cs=[.str l]/\l.length<=N
  | some (.struct fs)=>TyF (TyN P N n) fs.toList cs
  | some (.array m e)=>∃ xs:List ay,xs.length=m/\(∀ x∈xs,TyN P N n e x)/\cs=xs.flatten
  | some (.slice e)=>∃ xs,cs=[.slice (P.cellsOf e) xs .no]/\xs.length<=N/\∀ x∈xs,TyN P N n e x.cells/\(aK P e=true->∃ l,x= .agg l)/\(aK P e=false->x.cells=[x])
  | _=>False
section
variable {H:Type} {N:Nat} {G:DataW H->Prop} {enc:TypeId×Value->H} {P:Program} {w:World} {base:Nat} {spare:Nat->Bool} {held:Bool}
def JL{n m:Nat}(q:∀ t,pZ P n t=true->∀ cs x,DataW.trod enc P w base spare held m t cs=some x->G x.1->∃ as,gF w cs as/\TyN P N n t as)(cs:ba):
  ∀ (c:List Field) (off:Nat),(∀ f∈c,∃ y,DataW.trod enc P w base spare held m f.type ((cs.drop f.offset).take (P.cellsOf f.type))=some y/\G y.1)->IR P (pZ P n) off c cs.length=true->
   ∃ as,gF w (cs.drop off) as/\TyF (TyN P N n) c as:=by
 intro c;induction c with
 | nil=>
  intro off _ h;have:=aC h;subst this;exact ⟨[],by simpa using gF.nil,rfl⟩
 | cons f c e=>
  intro off o h;simp only [IR,Ad] at h;obtain ⟨⟨h1,p⟩,h3⟩:=h;have d:=aC h1;obtain ⟨y,v,j⟩:=o f s_;obtain ⟨a,l,k⟩:=q f.type p _ y v j;obtain ⟨b,u,i⟩:=e (off+P.cellsOf f.type) (λ g s=>o g (by simp [s])) h3;refine ⟨a++b,?_,a,b,rfl,k,i⟩;have r:cs.drop off=(cs.drop off).take (P.cellsOf f.type)++cs.drop (off+P.cellsOf f.type):=by rw [<-Hl,Bo]
  rw [r];rw [d] at l;exact l.append u
def NB{n m:Nat}{e:TypeId}(r:pZ P n e=true)(l:∀ t,pZ P n t=true->∀ cs x,DataW.trod enc P w base spare held m t cs=some x->G x.1->∃ as,gF w cs as/\TyN P N n t as)(cs:ba):
  ∀ (k:Nat),k*P.cellsOf e<=cs.length->(∀ i,i<k->∃ y,DataW.trod enc P w base spare held m e ((cs.drop (i*P.cellsOf e)).take (P.cellsOf e))=some y/\G y.1)->
   ∃ c:List ay,c.length=k/\(∀ x∈c,TyN P N n e x)/\gF w (cs.take (k*P.cellsOf e)) c.flatten:=by
 intro k;induction k with
 | zero=>intro _ _;exact ⟨[],rfl,λ x b=>by simp at b,by simpa using gF.nil⟩
 | succ k g=>
  intro o h;rw [Bw,Gu] at o;obtain ⟨c,l1,l2,j⟩:=g o_ (λ i s=>h i o_);obtain ⟨y,q,d⟩:=h k o_;obtain ⟨a,p,f⟩:=l e r _ y q d;refine ⟨c++[a],by simp [l1],λ x b=>?_,?_⟩
  .rcases Ba.1 b with b | b
   .exact l2 x b
   .simp at b;subst b;exact f
  .rw [Bw,Gu,List.take_add];simp only [List.flatten_append,List.flatten_cons,List.flatten_nil,Ar];exact j.append p
def TyN.pack{n:Nat}{t:TypeId}{as:ay}(h:TyN P N n t as):∃ x:aa,x.cells=as/\(aK P t=true->∃ l,x= .agg l)/\(aK P t=false->x.cells=[x]):=by
 cases n with
 | zero=>exact h.elim
 | succ n=>
  unfold TyN at h;cases a:aK P t with
  | true=>exact ⟨.agg as,rfl,(λ_=>⟨_,rfl⟩),λ h=>by cases h⟩
  | false=>
   unfold aK at a;split at h
   .obtain ⟨b,rfl⟩:=h;exact ⟨.bool b,rfl,(λ h=>by cases h),λ_=>rfl⟩
   .rename_i k _;obtain ⟨m,rfl,_⟩:=h;exact ⟨.int k m,rfl,(λ h=>by cases h),λ_=>rfl⟩
   .obtain ⟨l,rfl,_⟩:=h;exact ⟨.str l,rfl,(λ h=>by cases h),λ_=>rfl⟩
   .grind
   .grind
   .rename_i e _;obtain ⟨xs,rfl,_⟩:=h;exact ⟨.slice (P.cellsOf e) xs .no,rfl,(λ h=>by cases h),λ_=>rfl⟩
   grind
def NC{n m:Nat}{e:TypeId}(D:pZ P n e=true)(z:∀ t,pZ P n t=true->∀ cs x,DataW.trod enc P w base spare held m t cs=some x->G x.1->∃ as,gF w cs as/\TyN P N n t as)(a:Addr):
  ∀ (k:Nat),(∀ i,i<k->∃ y,((w.cells? base (a.add (i*P.cellsOf e)) (P.cellsOf e)).bind (DataW.trod enc P w base spare held m e))=some y/\G y.1)->
   ∃ (xs:ay) (us:List ba),xs.length=k/\us.length=k/\∀ (i:Nat) x u,xs[i]? =some x->us[i]? =some u->x.cells.length=P.cellsOf e/\(∀ j,j<P.cellsOf e->w.cell? ((a.add (i*P.cellsOf e)).add j)=u[j]?)/\gF w u x.cells/\
    TyN P N n e x.cells/\(aK P e=true->∃ l,x= .agg l)/\(aK P e=false->x.cells=[x]):=by
 intro k;induction k with
 | zero=>intro _;exact ⟨[],[],rfl,rfl,λ i x u c=>by simp at c⟩
 | succ k r=>
  intro s;obtain ⟨xs,us,l1,l2,v⟩:=r λ i C=>s i o_;obtain ⟨y,p,q⟩:=s k o_;obtain ⟨u,B,p⟩:=Option.bind_eq_some_iff.1 p;obtain ⟨_,f,d⟩:=World.cells?_some B;obtain ⟨as,has,g⟩:=z e D _ y p q;obtain ⟨x,rfl,o⟩:=g.pack;refine ⟨xs++[x],us++[u],by simp [l1],by simp [l2],λ i x' A c b=>?_⟩;by_cases C:i<k
  .rw [Ag o_] at c b;exact v i x' A c b
  .have h:i=k:=by have:=(Ab.1 c).1;simp at this;omega
   subst h;rw [Ak o_] at c b;rw [l1,Ml] at c;rw [l2,Ml] at b;simp at c b;subst c b;exact ⟨by rw [<-has.1,f],d,has,g,o⟩
def RD(W:Bulk H N G):∀ (n:Nat) (t:TypeId),pZ P n t=true->∀ (I:Nat) (cs:ba) (x:DataW H×List MemPlace),DataW.trod enc P w base spare held I t cs=some x->G x.1->∃ as,gF w cs as/\TyN P N n t as:=by
 intro n;induction n with
 | zero=>intro t h;cases h
 | succ n Z=>
  intro t h I cs x d J;unfold pZ at h;unfold TyN;split at h
  .rename_i g
   try rw [g]
   obtain ⟨b,rfl,_⟩:=DataW.trod_bool g d;exact ⟨[.bool b],gF.single (.bool b),b,rfl⟩
  .rename_i k g
   try rw [g]
   obtain ⟨m,rfl,_,O⟩:=DataW.trod_int g d;simp only [Lit.wf,Ad,decide_eq_true_eq] at O;exact ⟨[.int k m],gF.single (.int k m (VZ O)),m,rfl,VZ O⟩
  .rename_i g
   try rw [g]
   obtain ⟨s,rfl,p,hs⟩:=DataW.trod_string g d;obtain ⟨⟨l⟩⟩:=s;have hsN:=W.str _ (by rw [p] at J;exact J);exact ⟨[.str l],gF.single (.str l (by have:=gI;have B:l.length<=maxLen:=hs;omega)),l,rfl,hsN⟩
  .rename_i fs g
   try rw [g]
   obtain ⟨xs,m,rfl,p,D,hxl,V⟩:=DataW.trod_struct g d;have y:=W.agg _ (by rw [p] at J;exact J);rw [<-D] at h
   have:=JL (λ t S cs x d T=>Z t S m cs x d T) cs fs.toList 0 (λ f hf'=>by
    obtain ⟨i,z⟩:=Cu hf';have U:fs[i]? =some f:=by simpa using z
    have K:=(Ey.1 U).1
    exact ⟨xs[i]' o_,(V i f U).trans (Aa o_),y _ (Cm (Bf _))⟩) h
   simpa using this
  .rename_i m e g
   try rw [g]
   simp only [Ad] at h;obtain ⟨h1,B⟩:=h;obtain ⟨xs,q,rfl,p,D,hxl,V⟩:=DataW.trod_array g d;have y:=W.agg _ (by rw [p] at J;exact J);have hc:=aC B;obtain ⟨Ls,l1,l2,M⟩:=NB h1 (λ t S cs x d T=>Z t S q cs x d T) cs m o_ (λ i z=>⟨xs[i]' o_,(V i z).trans (Aa o_),y _ (Cm (Bf _))⟩);rw [Ch o_] at M;exact ⟨Ls.flatten,M,Ls,l1,l2,rfl⟩
  .rename_i e g
   try rw [g]
   simp only [Ad] at h;obtain ⟨h1,B⟩:=h;have F:0<P.cellsOf e:=by simpa [Ju] using B
   rcases DataW.trod_slice g d with ⟨rfl,_⟩ | ⟨a,len,cap,L,rest,q,rfl,rfl,p,hb,hlc,hcm,hel,V,_⟩
   .exact ⟨[.slice (P.cellsOf e) [] .no],gF.single (.nilslice _),[],rfl,Bx _,λ x d=>by simp at d⟩
   .have y:=W.sl _ _ (by rw [p] at J;exact J);obtain ⟨xs,us,l1,l2,M⟩:=NC h1 (λ t S cs x d T=>Z t S q cs x d T) a len (λ i z=>⟨L[i]' o_,(V i z).trans (Aa o_),y.2 _ (Cm (Bf _))⟩);have hty:∀ x∈xs,TyN P N n e x.cells/\(aK P e=true->∃ l,x= .agg l)/\(aK P e=false->x.cells=[x]):=λ x d=>by obtain ⟨i,z⟩:=Cu d;have K:=(Ab.1 z).1;exact (M i x (us[i]' o_) z (Aa o_)).2.2.2
    by_cases h0:len=0
    .subst h0;have:xs=[]:=Az l1;subst this;exact ⟨[.slice (P.cellsOf e) [] .no],gF.single (.emptys _ a cap),[],rfl,Bx _,λ x d=>by simp at d⟩
    .obtain ⟨b,o,sp⟩:=a;have X:xs[0]? =some (xs[0]' o_):=Aa o_;have hu0:us[0]? =some (us[0]' o_):=Aa o_;obtain ⟨c1,c2,c3,_⟩:=M 0 _ _ X hu0;have u:=c2 0 F;have Q:0<(us[0]' o_).length:=by rw [c3.1,c1];exact F
     rw [Aa Q] at u;have Y:sp=none:=by have:=World.cell?_spot u;simpa [Addr.add] using this
     subst Y;have key:∀ (i j:Nat) x c,xs[i]? =some x->x.cells[j]? =some c->∃ v,(us.getD i []).getD j undef=v/\w.cell? ⟨b,o+i*P.cellsOf e+j,none⟩=some v/\RepW w v c:=by
      intro i j x c d C;have K:=(Ab.1 d).1;have R:us[i]? =some (us[i]' o_):=Aa o_;obtain ⟨d1,d2,d3,_⟩:=M i x _ d R;have hjl:=(Ab.1 C).1;have A:j<(us[i]' o_).length:=by rw [d3.1];exact hjl
      have r:=d2 j o_;rw [Aa A] at r;refine ⟨_,rfl,?_,?_⟩
      .rw [Fa,Fa,R];simp only [Jw,Aa A];rw [bB,bB] at r;exact r
      .rw [Fa,Fa,R];simp only [Jw,Aa A];exact d3.2 j _ c (Aa A) C
     refine ⟨[.slice (P.cellsOf e) xs .no],gF.single (.slice (P.cellsOf e) b o len cap xs (λ i j=>(us.getD i []).getD j undef) l1 hlc (by have:=gI;omega) (λ x d=>?_) (λ i j x c d C=>?_) (λ i j x c d C=>?_) (λ i j x c d C=>?_)),xs,rfl,by have h9:=y.1;simp only [Cc] at h9;omega,hty⟩
     .obtain ⟨i,z⟩:=Cu d;have K:=(Ab.1 z).1;exact (M i x (us[i]' o_) z (Aa o_)).1
     .obtain ⟨v,rfl,h1,_⟩:=key i j x c d C;exact h1
     .obtain ⟨v,rfl,_,B⟩:=key i j x c d C;exact B.one
     .obtain ⟨v,rfl,_,B⟩:=key i j x c d C;exact B
  .cases h
def TJ(q:Bulk H N G){r:Reach}{j:Nat}{n:Nat}{t e:TypeId}{v:Value}{d:DataW H}{p:List MemPlace}(i:P.underlying t=some (.slice e))(f:pZ P (n+1) t=true)(k:La P w r j t v)(h:DataW.Trod enc P w base spare held t v d p)(s:G d):
  ∃ xs,Rep (Mw w) [] v (.slice (P.cellsOf e) xs .no)/\xs.length<=N/\∀ x∈xs,TyN P N n e x.cells/\(aK P e=true->∃ l,x= .agg l)/\(aK P e=false->x.cells=[x]):=by
 obtain ⟨a,m,c,rfl⟩:=YV i (aCc (by unfold aK;rw [i]) k);obtain ⟨b,h⟩:=h;obtain ⟨as,h1,g⟩:=RD q (n+1) t f b _ _ h s;unfold TyN at g;rw [i] at g;obtain ⟨xs,rfl,hl,o⟩:=g;exact ⟨xs,(h1.2 0 _ _ rfl rfl).rep,hl,o⟩
end
open Go.RowKit Go.Sort
def MW(d:aw)(a:Array Value)(h:d.length<=a.size):
  putCells (Ea .i64) 0 d.toArray a=((a.toList.take 0++d.map (Ea .i64))++a.toList.drop (0+(d.map (Ea .i64)).length)).toArray:=by
 apply Array.ext_getElem?;intro k;simp only [putCells,Array.getElem?_mapIdx,Im,Bn,Js,Bp,Cc,Gn,Bx,true_and,Iq];by_cases c:k<d.length
 .have b:k<a.size:=o_;simp_all
 .rw [Ak (by grind),Cc,Bq,show d.length+(k-d.length)=k from by omega];cases b:a[k]? with
  | none=>simp [b]
  | some y=>simp [b,c]
def MS{w:World}{b k:Nat}{d:aw}{a:Array Value}{e:TypeId}{g:Nat×Nat}{n:Nat}{os:Array Obj}(f:w.heap[b]? =some (.cells a e g))(h:d.length<=a.size)(i:k<w.heap.size):
  (grow (putRow (Ea .i64) (Sort.ahead w n) b 0 d.toArray) os).heap[k]? =(w.setRow b ((a.toList.take 0++d.map (Ea .i64))++a.toList.drop (0+(d.map (Ea .i64)).length)).toArray).heap[k]?:=by
 unfold grow putRow mapBlock World.setRow Sort.ahead;dsimp only;rw [Gz (by grind)];simp only [Fk];by_cases c:b=k
 .subst c;rw [if_pos rfl,if_pos rfl,f];simp only [Mq,onCells,MW d a h]
 grind
def FC{P:Program}{f:FuncId}(L:nP P f)
  (G:∀ (p:Option Addr) (cap:Nat) (w:World),Calls P f #[.slice p 0 cap] w λ e w'=>e= .returned (.tuple #[])/\w'=w)
  (hs:∀ (blk off cap:Nat) (V:aw) (w:World),Holds (Ea .i64) w blk off V.toArray->blk<w.heap.size->V.length<4611686018427387904->Calls P f #[.slice (some ⟨blk,off,none⟩) V.length cap] w λ e w'=>
   e= .returned (.tuple #[])/\∃ n os,w'=grow (putRow (Ea .i64) (Sort.ahead w n) blk off (V.mergeSort λ x y=>decide (x<=y)).toArray) os)
  (e:TypeId) (l:aw) (hl:l.length<=1000000000):aA P f [.row 0 0] [.row 0 1 e (l.map (aa.int .i64))] (.ret (.tup [])) [.row 0 1 e ((l.mergeSort λ x y=>decide (x<=y)).map (aa.int .i64))]:=by
 intro M ob w C hm F;obtain ⟨hln,F⟩:=F
 match C,hln with
 | [v],_=>
 obtain ⟨a,n,c,rfl,Y⟩:=(F 0 _ _ rfl rfl).row_inv;obtain ⟨hs0,v0,e1,e2,e3,e4,B,hblk⟩:=hm.rowOf (k:=0) rfl;rw [Y] at e4;cases e4;have D:=B;obtain ⟨cv,d,h1,hz,hc,hno,hone⟩:=B;have Q:(l.map (aa.int .i64)).length=l.length:=by simp
 have N:∀ {M':Imm} {ob':Hs},Rep M' ob' (.tuple #[]) (.tup []):=.tup [] [] rfl (λ i v a hv=>by simp at hv);by_cases h0:l=[]
 .subst h0;have hn:n=0:=by
   rcases dI d with ⟨q,_⟩ | ⟨b,cap,q,_⟩
   .cases q;rfl
   .cases q;rfl
  subst hn;refine .inl ⟨L _ _,(G a c w).mono ?_⟩;rintro e' w' ⟨rfl,rfl⟩;have e0:(([]:aw).mergeSort λ x y=>decide (x<=y))=[]:=by simp
  rw [e0];exact ⟨M,ob,Ext.refl _ _ _ _,hm,N⟩
 .have hpos:0<l.length:=Dx.2 h0;have hcw:∀ q,q<l.length->∃ u,cv[q]? =some u/\u= .int .i64 (l[q]!):=λ q W=>by obtain ⟨u,A,F⟩:=hc q (.int .i64 l[q]) (by unfold aH;simp [W,aa.cells,Il,Jc]);refine ⟨u,A,?_⟩;rw [F.int_inv.1];simp [W]
  obtain ⟨hcl,hor⟩:=d;rcases hor with ⟨q1,q2⟩ | ⟨b,cap,g,q1,_,J,q4,q5,q6,q7⟩
  .omega
  cases q1
  have d:w.ownsRow 0 e 1 (.slice (some ⟨b,0,none⟩) (l.map (aa.int .i64)).length c) (l.map (aa.int .i64)).length cv:=⟨hcl,.inr ⟨b,c,g,rfl,Bx _,J,q4,q5,q6,q7⟩⟩
  have T:b<w.heap.size:=fE J;have hH:Holds (Ea .i64) w b 0 l.toArray:=λ j H=>by have H:j<l.length:=o_;obtain ⟨u,A,rfl⟩:=hcw j H;refine ⟨?_,by simp [Lu,J]⟩;rw [Bp,fK d rfl A];simp [H]
  have hsl:(l.mergeSort λ x y=>decide (x<=y)).length=l.length:=Mu l;rw [Q];refine .inl ⟨L _ _,(hs b 0 c l w hH T o_).mono ?_⟩;rintro e' w' ⟨rfl,k,os,rfl⟩;generalize hS:(l.mergeSort λ x y=>decide (x<=y))=S at hsl⊢;have K:∀ x∈S,inR .i64 x:=λ x s=>by
   have:x∈l:=by rw [<-hS] at s;exact (Kz l _).mem_iff.1 s
   obtain ⟨i,hi⟩:=Cu this;have z:=(Ab.1 hi).1;obtain ⟨u,A,F⟩:=hc i (.int .i64 x) (by unfold aH;simp [hi,aa.cells,Il,Jc]);exact F.int_inv.2
  have hw:=D.write (p:=0) (news:=S.map (Ea .i64)) (xs':=S.map (aa.int .i64)) rfl o_ (by simp [hsl]) (λ u A=>by
    obtain ⟨x,_,rfl⟩:=Ca.1 A
    rfl) (by simp [hsl]) (λ x s=>by
    obtain ⟨y,_,rfl⟩:=Ca.1 s
    rfl) (λ q c' W=>.inl (by
    obtain ⟨x,s,R⟩:=gB W;rw [Il] at s;rw [Jc] at R;rw [Bg] at s;cases r:S[q]? with
    | none=>rw [r] at s;cases s
    | some y=>
     rw [r] at s;cases s;cases R;have z:=(Ab.1 r).1
     exact ⟨Bx _,by simp;omega,.int .i64 y,by simp [r],.int _ _ (K y (Av r))⟩))
  obtain ⟨cur',c1,c2,c3⟩:=hw;rw [J] at c1;cases c1;have U:S.length<=g.size:=o_;have t:=hm.rowTurn (k:=0) (hs':=hs0) rfl e1 e3 (Cn _) e2 e3 c3 (λ I _ hn=>setRow_other w b I _ (λ e=>hn (by simp [Gl,e]))) rfl rfl rfl s_ (λ I Z=>.inl Z);rw [fT e1] at t;obtain ⟨t1,t2,_⟩:=t;have X:(w.setRow b ((g.toList.take 0++S.map (Ea .i64))++g.toList.drop (0+(S.map (Ea .i64)).length)).toArray).heap.size=w.heap.size:=by simp
  have O:∀ j,j<w.heap.size->(grow (putRow (Ea .i64) (Sort.ahead w k) b 0 S.toArray) os).heap[j]? =(w.setRow b ((g.toList.take 0++S.map (Ea .i64))++g.toList.drop (0+(S.map (Ea .i64)).length)).toArray).heap[j]?:=
   λ j H=>MS J U H
  have m:=t1.more (M':=M) (w':=grow (putRow (Ea .i64) (Sort.ahead w k) b 0 S.toArray) os) (λ_ _ _ h=>h) (λ_ _ _ h=>.inl h) (λ I o y hy=>by
    obtain ⟨u,A,r1,r2⟩:=t1.imm I o y hy;have z:=Ct _ _ A;rw [X] at z
    exact ⟨u,(Cs (a:=⟨I,o,none⟩) (O I z)).trans A,r1,r2⟩) (λ j H=>O j o_) rfl rfl rfl s_
  exact ⟨M,ob,t2.trans m.2,m.1,N⟩
def Y0(g:aa->aa)(x:ab):(mapO g x).owns=x.owns:=by cases x<;>rfl
def tD{g:aa->aa}{ob:Hs}{ac:au}{k b:Nat}(h:aG ob (ac.map (mapO g)) k b):aG ob ac k b:=by
 obtain ⟨c,hs,a,e,i,f⟩:=h;rw [Bg] at a;cases d:ac[k]? with
 | none=>simp_all
 | some x=>
  rw [d] at a;cases a;exact ⟨x,hs,d,by rw [<-Y0 g];exact e,i,f⟩
def Mem.mapO{M:Imm}{ob:Hs}{ac:au}{w:World}{g:aa->aa}(q:∀ (M:Imm) (ob:Hs) v a,Rep M ob v a->Rep M ob v (g a))(e:Mem M ob ac w):Mem M ob (ac.map (AW.mapO g)) w:=by
 refine ⟨e.imm,by simpa using e.len,λ k c f=>?_,λ k b d=>e.lt k b (tD d),λ i j b d s=>e.inj i j b (tD d) (tD s)⟩;rw [Bg] at f;cases l:ac[k]? with
 | none=>grind
 | some x=>
  rw [l] at f;cases f;obtain ⟨hs,n,m⟩:=e.obj k x l;refine ⟨hs,n,?_⟩;cases x with
  | cells T cs=>
   obtain ⟨b,z,u,cv,t,A,r,p⟩:=m;refine ⟨b,z,u,cv,t,by rw [wK];simp;omega,r,λ i v a o d=>?_⟩;rw [wK,Bg] at d;cases h:cs[i]? with
   | none=>rw [h] at d;cases d
   | some y=>rw [h] at d;cases d;exact q _ _ _ _ (p i v y o h)
  | _=>exact m
def Ext.mapO{M M':Imm}{ob ob':Hs}{ap ac:au}{w w':World}{g:aa->aa}(h1:Ext M ob ap w M' ob' ac w'):Ext M ob ap w M' ob' (ac.map (AW.mapO g)) w':=
 ⟨h1.imm,h1.new,h1.hs,h1.os,h1.tape,h1.output,h1.size,h1.keep,λ k b a=>h1.fresh k b (tD a)⟩
def To.mapO{E:Env}{fn:Func}{g:Goal}{st:bf}{fr:ar}{ac:au}(f:aa->aa)(e:∀ (M:Imm) (ob:Hs) v a,Rep M ob v a->Rep M ob v (f a))
  (h:To E fn g (.code st fr (tO f ac))):To E fn g (.code st fr ac):=
 .mk λ c M0 ob0 ap w0 a w hst hs=>by rw [DF] at h;refine h.rec λ h=>h c M0 ob0 ap w0 a w hst ?_;obtain ⟨M,ob,d,hm,b,j,i,k⟩:=hs;exact ⟨M,ob,d.mapO,hm.mapO e,b,j,i,by simp_all⟩
def To.loose{E:Env}{fn:Func}{g:Goal}{st:bf}{fr:ar}{ac:au}(h:To E fn g (.code st fr (tO (strip 5) ac))):To E fn g (.code st fr ac):=
 h.mapO _ λ_ _ _ _=>sI 5
end Go.AW
