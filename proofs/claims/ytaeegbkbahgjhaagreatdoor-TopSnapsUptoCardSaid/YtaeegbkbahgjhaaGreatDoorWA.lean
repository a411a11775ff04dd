/- Part 1 of what the statement rests on. -/
import Derived.WalkKit
import Derived.WalkLawsBesides
import Derived.RangeFuncLeaves
import Derived.OrdersIn
import Derived.TacticsIn
import Derived.Deep.AppendSrc
import Derived.Lib.Strings
import Derived.LaidEql
set_option linter.all false
open Array renaming getElem?_eq_some_iff->Ey,length_toList->Iw,toList_append->Nd,toList_map->Jv
open Bool renaming and_eq_true->Ad,not_eq_true'->Cw,or_eq_true->Fb
open Go.Builtin renaming append_->Co,firstCells->Cj,zeroCells->Ci
open Go.Instr renaming checkKey->Hr
open Go.Region renaming binds->Jo
open Go.Result renaming andThen_ok->Aq
open Go.Sem renaming run_bind->Bh,run_pure->Bz
open Go.Value renaming int->Ea,ownBlock->Gl,slice->Gv
open Go.World renaming block_lt_of_cell?->Ct,cell?_of_block->Cs,ownsRow_nil->Hg
open Int renaming fdiv_eq_ediv_of_nonneg->Dz,mul_le_mul_of_nonneg_left->Km
open List renaming append_assoc->Af,append_nil->Ar,cons_append->Ce,drop_eq_nil_of_le->Ah,eq_nil_of_length_eq_zero->Az,ext_getElem?->Eb,getElem?_append_left->Ag,getElem?_append_right->Ak,getElem?_cons_succ->Fu,getElem?_drop->Bq,getElem?_eq_getElem->Aa,getElem?_eq_none->Bi,getElem?_eq_some_iff->Ab,getElem?_map->Bg,getElem?_of_mem->Cu,getElem?_range->Dm,getElem?_replicate->Em,getElem?_set_ne->Bb,getElem?_set_self->Au,getElem?_take->Gg,getElem?_take_of_lt->Bj,getElem_mem->Bf,getLast?_append->Na,getLast?_eq_getElem?->Lh,getLast?_eq_some_getLast->Kl,length->Lk,length_append->Ai,length_drop->Eh,length_pos_iff->Dx,length_take->Dn,map_cons->Bl,mem_append->Ba,mem_cons->Aw,mem_map->Ca,mem_of_getElem?->Av,mem_of_mem_drop->Ez,mem_of_mem_take->Cy,mem_range->Ho,nil_append->Bn,nodup_cons->Cg,nodup_nil->Hq,prefix_refl->Cn,range->Di,replicate->Aj,size_toArray->Gn,take_left->Hn,take_zero->Im
open Nat renaming add_assoc->Kd,add_mul->Bw,add_sub_cancel->Hv,add_sub_cancel_left->Gm,add_zero->Fm,beq->Ax,beq_refl->Nl,ble->Fv,blt->Ff,div_add_mod->Fx,div_lt_iff_lt_mul->Dl,div_one->Il,eq_zero_or_pos->Fp,le_div_iff_mul_le->Ib,le_of_ble_eq_true->Ck,le_refl->Bd,le_trans->Cx,lor->Nk,lt_of_lt_of_le->Ew,lt_or_ge->Ni,min_eq_left->Gr,mod_eq_of_lt->Gx,mod_le->Md,mod_lt->Fg,mod_one->Jc,mul_add_div->Kr,mul_comm->Dd,mul_le_mul_right->Br,zero_add->Bp,zero_le->Bx
open Option renaming getD_some->Jw,isSome_iff_exists->Da,map_eq_some_iff->Cf,map_some->Mq
open Option.some renaming injEq->Dq
namespace Go.AW
open Go.RowKit
abbrev _root_.aw:=List Int
abbrev _root_.ax:=List UInt8
abbrev _root_.az:=List Nat
abbrev _root_.ba:=List Value
abbrev _root_.bb:=List Oper
def _root_.o_{P:Prop}(h:P:=by omega):P:=h
def _root_.d_{P:Prop}(h:P:=by decide):P:=h
def _root_.s_{P:Prop}(h:P:=by simp):P:=h
def _root_.q_{P:Prop}(h:P:=by simp;omega):P:=h
def cJ:IntKind->Int
 | .i8=> -128 | .i16=> -32768 | .i32=> -2147483648 | .i64=> -9223372036854775808 | _=>0
def bE:IntKind->Int
 | .i8=>127 | .i16=>32767 | .i32=>2147483647 | .i64=>9223372036854775807
 | .u8=>255 | .u16=>65535 | .u32=>4294967295 | .u64=>18446744073709551615
def inR(k:IntKind)(n:Int):Prop:=cJ k<=n/\n<=bE k
inductive Tk where
 | no | nil | full | own (k g:Nat)
inductive aa where
 | undef
 | bool (b:Bool)
 | int (k:IntKind) (n:Int)
 | str (l:ax)
 | slice (sz:Nat) (xs:List aa) (t:Tk)
 | agg (cs:List aa)
 | tup (vs:List aa)
 | ptr (cs:List aa)
 | ref (k off:Nat)
 | eref (k g i sz off:Nat)
 | csl (k off len sz:Nat)
 | row (k g:Nat)
 | sub (k g lo len sz:Nat)
 | rowc (k g c:Nat)
 | pre (k g n c sz:Nat)
 | mref (k:Nat)
 | nilptr | nilslice | nilmap | nilfunc | nilif
 | hsl (a:Option Addr) (n c:Nat)
 | func (fn:Fn) (first caps:List aa)
 | iface (t:TypeId) (v:aa)
abbrev _root_.ay:=List aa
abbrev _root_.ar:=List (Nat×aa)
def aa.cells:aa->ay
 | .agg cs=>cs
 | v=>[v]
abbrev Imm:=Nat->Nat->aa->Prop
def NoM(M:Imm)(b o:Nat):Prop:=∀ x,¬ M b o x
abbrev Hs:=List ba
def at'(ob:Hs)(k g:Nat):Option Value:=(ob[k]?).bind λ hs=>hs[g]?
def dJ(ob ob':Hs):Prop:=∀ (k:Nat) hs,ob[k]? =some hs->∃ hs',ob'[k]? =some hs'/\hs<+:hs'
def dJ.refl(ob:Hs):dJ ob ob:=λ_ hs h=>⟨hs,h,Cn _⟩
def dJ.trans{a b c:Hs}(h:dJ a b)(k:dJ b c):dJ a c:=λ i hs d=>by obtain ⟨h1,e,f⟩:=h i hs d;obtain ⟨g,j,l⟩:=k i h1 e;exact ⟨g,j,f.trans l⟩
def dJ.at{ob ob':Hs}(h:dJ ob ob'){k g:Nat}{v:Value}(a:at' ob k g=some v):at' ob' k g=some v:=by
 unfold at' at *
 cases b:ob[k]? with
 | none=>grind
 | some hs=>
  rw [b] at a;obtain ⟨hs',e,p⟩:=h k hs b;rw [e];simp only [Option.bind_some] at a⊢;obtain ⟨t,rfl⟩:=p;rw [Ag (Ab.1 a).1];exact a
def tK(ob:Hs)(v:Value):Tk->Prop
 | .no=>True
 | .nil=>v= .slice none 0 0
 | .full=>∃ a n,v= .slice a n n
 | .own k g=>at' ob k g=some v
def tK.mono{ob ob':Hs}(a:dJ ob ob'){v:Value}{t:Tk}(h:tK ob v t):tK ob' v t:=by
 cases t with
 | own k g=>exact a.at h
 | _=>exact h
inductive Rep(M:Imm)(ob:Hs):Value->aa->Prop
 | undef (v):Rep M ob v .undef
 | bool (b):Rep M ob (.bool b) (.bool b)
 | int (k n) (h:inR k n):Rep M ob (.int k n) (.int k n)
 | str (l:ax) (h:(l.length:Int)<=9223372036854775807):Rep M ob (.string ⟨l.toArray⟩) (.str l)
 | agg (vs:ba) (as:ay) (hl:vs.length=as.length) (h:∀ (i:Nat) v a,vs[i]? =some v->as[i]? =some a->Rep M ob v a):Rep M ob (.agg vs.toArray) (.agg as)
 | tup (vs:ba) (as:ay) (hl:vs.length=as.length) (h:∀ (i:Nat) v a,vs[i]? =some v->as[i]? =some a->Rep M ob v a):Rep M ob (.tuple vs.toArray) (.tup as)
 | ptr (b o:Nat) (cs:ay) (h:∀ (j:Nat) c,cs[j]? =some c->M b (o+j) c):Rep M ob (.pointer (some ⟨b,o,none⟩)) (.ptr cs)
 | ref (k off b:Nat) (h:at' ob k 0=some (.pointer (some ⟨b,0,none⟩))):Rep M ob (.pointer (some ⟨b,off,none⟩)) (.ref k off)
 | eref (k g i sz off b n c:Nat) (h:at' ob k g=some (.slice (some ⟨b,0,none⟩) n c)):Rep M ob (.pointer (some ⟨b,i*sz+off,none⟩)) (.eref k g i sz off)
 | csl (k off len sz b:Nat) (h:at' ob k 0=some (.pointer (some ⟨b,0,none⟩))) (hm:(len:Int)<=9223372036854775807):Rep M ob (.slice (some ⟨b,off,none⟩) len len) (.csl k off len sz)
 | row (k g:Nat) (a:Option Addr) (n c:Nat) (h:at' ob k g=some (.slice a n c)):Rep M ob (.slice a n c) (.row k g)
 | sub (k g lo len sz b n c:Nat) (h:at' ob k g=some (.slice (some ⟨b,0,none⟩) n c)) (hl:lo<c) (hn:lo+len<=n) (hc:n<=c) (hm:(n:Int)<=9223372036854775807):Rep M ob (.slice (some ⟨b,lo*sz,none⟩) len (c-lo)) (.sub k g lo len sz)
 | sub0 (k g lo sz:Nat) (a a':Option Addr) (n c:Nat) (h:at' ob k g=some (.slice a n c)) (hl:lo=n) (hc:n=c):Rep M ob (.slice a' 0 0) (.sub k g lo 0 sz)
 | rowc (k g c:Nat) (a:Option Addr) (n:Nat) (h:at' ob k g=some (.slice a n c)) (hm:(c:Int)<=9223372036854775807):Rep M ob (.slice a n c) (.rowc k g c)
 | pre (k g n c sz b len:Nat) (h:at' ob k g=some (.slice (some ⟨b,0,none⟩) len c)) (hc:0<c) (hn:n<=len) (hl:len<=c) (hm:(c:Int)<=9223372036854775807):Rep M ob (.slice (some ⟨b,0,none⟩) n c) (.pre k g n c sz)
 | mref (k b:Nat) (h:at' ob k 0=some (.map (some b))):Rep M ob (.map (some b)) (.mref k)
 | nilptr:Rep M ob (.pointer none) .nilptr
 | nilslice:Rep M ob (.slice none 0 0) .nilslice
 | nilmap:Rep M ob (.map none) .nilmap
 | nilfunc:Rep M ob .nilFunc .nilfunc
 | nilif:Rep M ob .nilIface .nilif
 | hsl (a:Option Addr) (n c:Nat):Rep M ob (.slice a n c) (.hsl a n c)
 | slnil (sz:Nat) (t:Tk) (ht:tK ob (.slice none 0 0) t):Rep M ob (.slice none 0 0) (.slice sz [] t)
 | slemp (sz:Nat) (t:Tk) (a:Addr) (cap:Nat) (ht:tK ob (.slice (some a) 0 cap) t):Rep M ob (.slice (some a) 0 cap) (.slice sz [] t)
 | sl (sz b o n cap:Nat) (xs:ay) (t:Tk) (hn:xs.length=n) (hc:n<=cap) (hm:(n:Int)<=9223372036854775807) (hz:∀ x∈xs,x.cells.length=sz)
   (h:∀ (i j:Nat) x c,xs[i]? =some x->x.cells[j]? =some c->M b (o+i*sz+j) c) (ht:tK ob (.slice (some ⟨b,o,none⟩) n cap) t):Rep M ob (.slice (some ⟨b,o,none⟩) n cap) (.slice sz xs t)
 | func (fn:Fn) (fs cs:ba) (fa ca:ay) (hf:fs.length=fa.length) (hc:cs.length=ca.length)
   (h1:∀ (i:Nat) v a,fs[i]? =some v->fa[i]? =some a->Rep M ob v a) (h2:∀ (i:Nat) v a,cs[i]? =some v->ca[i]? =some a->Rep M ob v a):
   Rep M ob (.func fn fs.toArray cs.toArray) (.func fn fa ca)
 | iface (t:TypeId) (v:Value) (a:aa) (h:Rep M ob v a):Rep M ob (.iface t v) (.iface t a)
def Rep.mono{M M':Imm}{ob ob':Hs}(s:∀ b o x,M b o x->M' b o x)(d:dJ ob ob'){v:Value}{a:aa}(h:Rep M ob v a):Rep M' ob' v a:=by
 induction h with
 | undef v=>exact .undef v
 | bool b=>exact .bool b
 | int k n h=>exact .int k n h
 | str l h=>exact .str l h
 | agg vs as hl _ f=>exact .agg vs as hl f
 | tup vs as hl _ f=>exact .tup vs as hl f
 | ptr b o cs h=>exact .ptr b o cs λ j c e=>s _ _ _ (h j c e)
 | ref k off b h=>exact .ref k off b (d.at h)
 | eref k g i sz off b n c h=>exact .eref k g i sz off b n c (d.at h)
 | csl k off len sz b h hm=>exact .csl k off len sz b (d.at h) hm
 | row k g a n c h=>exact .row k g a n c (d.at h)
 | sub k g lo len sz b n c h hl m e hm=>exact .sub k g lo len sz b n c (d.at h) hl m e hm
 | sub0 k g lo sz a C n c h hl e=>exact .sub0 k g lo sz a C n c (d.at h) hl e
 | rowc k g c a n h hm=>exact .rowc k g c a n (d.at h) hm
 | pre k g n c sz b len h e m hl hm=>exact .pre k g n c sz b len (d.at h) e m hl hm
 | mref k b h=>exact .mref k b (d.at h)
 | nilptr=>exact .nilptr
 | nilslice=>exact .nilslice
 | nilmap=>exact .nilmap
 | nilfunc=>exact .nilfunc
 | nilif=>exact .nilif
 | hsl a n c=>exact .hsl a n c
 | slnil sz t p=>exact .slnil sz t (p.mono d)
 | slemp sz t a cap p=>exact .slemp sz t a cap (p.mono d)
 | sl sz b o n cap xs t m e hm hz h p=>exact .sl sz b o n cap xs t m e hm hz (λ i j x c z u=>s _ _ _ (h i j x c z u)) (p.mono d)
 | func fn B cs y w A e _ _ q r=>exact .func fn B cs y w A e q r
 | iface t v a _ f=>exact .iface t v a f
def DY(ob:Hs):dJ [] ob:=λ k hs h=>by simp at h
def Rep.pure{M:Imm}{ob:Hs}{v:Value}{a:aa}(h:Rep M [] v a):Rep M ob v a:=h.mono (λ_ _ _ h=>h) (DY ob)
def Rep.monoM{M M':Imm}{ob:Hs}{v:Value}{a:aa}(h:Rep M ob v a)(c:∀ b o x,M b o x->M' b o x):Rep M' ob v a:=h.mono c (dJ.refl _)
structure BInv where
 inv:Imm->az->World->Prop
 mono:∀ {M M':Imm} {bs:az} {w w':World},(∀ b o x,M b o x->M' b o x)->(∀ b,b∈bs->∀ o,NoM M b o->NoM M' b o)->(∀ b c,b∈bs->w.heap[b]? =some c->w'.heap[b]? =some c)->inv M bs w->inv M' bs w'
def DQ:Obj->Bool
 | .deferred _=>true
 | _=>false
def eD(bs:az):Value:=.tuple (bs.map λ b=>Value.map (some b)).toArray
inductive ab where
 | dead
 | cells (T:TypeId) (cs:ay)
 | fcells (cs:ay)
 | row (g sz:Nat) (e:TypeId) (xs:ay)
 | frow (g sz:Nat) (xs:ay)
 | tail (g sz:Nat) (e:TypeId)
 | mp (ag:Bool) (es:List (aw×aa))
 | bun (g:Nat) (I:BInv)
abbrev _root_.au:=List ab
def aKH:Value->Option Nat
 | .map (some b)=>some b
 | _=>none
def KU:Value->az
 | .pointer (some a)=>[a.block]
 | .slice (some a) _ _=>[a.block]
 | .map (some b)=>[b]
 | .tuple vs=>vs.toList.filterMap aKH
 | _=>[]
def blk(hs:ba):az:=match hs.getLast? with | some v=>KU v | none=>[]
def BR{hs:ba}{bs:az}(h:hs.getLast? =some (eD bs)):blk hs=bs:=by
 unfold blk;rw [h];show (bs.map λ b=>Value.map (some b)).filterMap aKH=bs;clear h;induction bs with
 | nil=>rfl
 | cons b r a=>simp only [Bl,List.filterMap_cons,aKH,a]
def dU{b c:Nat}:b∈([c]:az)↔c=b:=by grind
def ab.owns:ab->Bool
 | .dead | .fcells _ | .frow _ _ _=>false
 | _=>true
def aH(sz:Nat)(xs:ay)(q:Nat):Option aa:=(xs[q / sz]?).bind λ x=>x.cells[q % sz]?
def TN(w:World)(v:Value):Prop:=∀ b,v.ownBlock=some b->∀ a T c,w.heap[b]? =some (.cells a T c)->∀ u∈a.toList,u.oneCell'=true
def dM(M:Imm)(w:World)(v:Value)(sz:Nat)(e:TypeId)(xs:ay):Prop:=
 ∃ cv,w.ownsRow 0 e sz v xs.length cv/\(∀ u∈cv,u.oneCell'=true)/\(∀ x∈xs,x.cells.length=sz)/\
  (∀ (q:Nat) c,aH sz xs q=some c->∃ u,cv[q]? =some u/\Rep M [] u c)/\(∀ b,v.ownBlock=some b->∀ o,NoM M b o)/\TN w v
def fR(a:Bool)(l:aw):Value:=if a then .agg (l.map (Ea .i64)).toArray else .int .i64 (l.headD 0)
def aAq(M:Imm)(w:World)(b:Nat)(d:Bool)(es:List (aw×aa)):Prop:=
 ∃ (c:List MapEntry) (a:Nat),w.heap[b]? =some (.map c.toArray a)/\c.length=es.length/\(∀ (i:Nat) x y,c[i]? =some x->es[i]? =some y->x.key=fR d y.1/\(d=false->y.1.length=1)/\Rep M [] x.val y.2)/\
  (∀ (i:Nat) x,c[i]? =some x->x.born<a)/\∀ (i j:Nat) x y,c[i]? =some x->c[j]? =some y->x.born=y.born->i=j
def hD(M:Imm)(ob:Hs)(w:World)(hs:ba):ab->Prop
 | .dead=>True
 | .cells T cs=>∃ b,hs=[.pointer (some ⟨b,0,none⟩)]/\(∀ o,NoM M b o)/\∃ (cv:ba),w.heap[b]? =some (.cells cv.toArray T (0,0))/\cv.length=cs.length/\(∀ v∈cv,v.oneCell'=true)/\
   ∀ (i:Nat) v a,cv[i]? =some v->cs[i]? =some a->Rep M ob v a
 | .fcells cs=>∃ b,hs=[.pointer (some ⟨b,0,none⟩)]/\∀ (j:Nat) c,cs[j]? =some c->M b j c
 | .row g sz e xs=>hs.length=g+1/\∃ v,hs[g]? =some v/\dM M w v sz e xs
 | .frow g sz xs=>∃ v,hs[g]? =some v/\Rep M [] v (.slice sz xs .no)
 | .tail g sz e=>hs.length=g+1/\∃ v,hs[g]? =some v/\∃ n cv,w.ownsRow 0 e sz v n cv/\∀ b,v.ownBlock=some b->∀ o,n*sz<=o->NoM M b o
 | .mp d es=>∃ b,hs=[.map (some b)]/\(∀ o,NoM M b o)/\aAq M w b d es
 | .bun g I=>hs.length=g+1/\∃ bs,hs[g]? =some (eD bs)/\(∀ b,b∈bs->∃ o,w.heap[b]? =some o/\DQ o=false)/\I.inv M bs w
def aG(ob:Hs)(ac:au)(k b:Nat):Prop:=∃ c hs,ac[k]? =some c/\c.owns=true/\ob[k]? =some hs/\b∈blk hs
structure Mem(M:Imm)(ob:Hs)(ac:au)(w:World):Prop where
 imm:∀ b o x,M b o x->∃ v,w.cell? ⟨b,o,none⟩=some v/\v.oneCell'=true/\Rep M [] v x
 len:ob.length=ac.length
 obj:∀ (k:Nat) c,ac[k]? =some c->∃ hs,ob[k]? =some hs/\hD M ob w hs c
 lt:∀ k b,aG ob ac k b->b<w.heap.size
 inj:∀ k k' b,aG ob ac k b->aG ob ac k' b->k=k'
structure Ext(M:Imm)(ob:Hs)(ac:au)(w:World)(M':Imm)(ob':Hs)(ao:au)(w':World):Prop where
 imm:∀ b o x,M b o x->M' b o x
 new:∀ b o x,M' b o x->M b o x\/w.heap.size<=b\/∃ k,aG ob ac k b
 hs:dJ ob ob'
 os:w'.os=w.os
 tape:w'.tape=w.tape
 output:w'.output=w.output
 size:w.heap.size<=w'.heap.size
 keep:∀ b,b<w.heap.size->(∀ k,¬ aG ob ac k b)->w'.heap[b]? =w.heap[b]?
 fresh:∀ k b,aG ob' ao k b->(∃ k',aG ob ac k' b)\/w.heap.size<=b
def Ext.refl(M:Imm)(ob:Hs)(ac:au)(w:World):Ext M ob ac w M ob ac w where
 imm _ _ _ h:=h
 new _ _ _ h:=.inl h
 hs:=dJ.refl _
 os:=rfl
 tape:=rfl
 output:=rfl
 size:=Bd _
 keep _ _ _:=rfl
 fresh k _ h:=.inl ⟨k,h⟩
def Ext.trans{M M1 M2:Imm}{ob ob1 ob2:Hs}{ac obs1 obs2:au}{w w1 w2:World}(h:Ext M ob ac w M1 ob1 obs1 w1)(k:Ext M1 ob1 obs1 w1 M2 ob2 obs2 w2):
  Ext M ob ac w M2 ob2 obs2 w2 where
 imm b o x hx:=k.imm _ _ _ (h.imm _ _ _ hx)
 new b o x hx:=by
  rcases k.new b o x hx with h1 | h1 | ⟨i,hi⟩
  .exact h.new b o x h1
  .exact .inr (.inl (Cx h.size h1))
  .rcases h.fresh i b hi with h2 | h2
   .grind
   omega
 hs:=h.hs.trans k.hs
 os:=k.os.trans h.os
 tape:=k.tape.trans h.tape
 output:=k.output.trans h.output
 size:=Cx h.size k.size
 keep b hb ho:=by
  rw [<-h.keep b hb ho];refine k.keep b (Ew hb h.size) λ i hi=>?_;rcases h.fresh i b hi with ⟨j,hj⟩ | h2
  .grind
  .omega
 fresh i b hi:=by
  rcases k.fresh i b hi with ⟨j,hj⟩ | h1
  .exact h.fresh j b hj
  .exact .inr (Cx h.size h1)
def cK(ob:Hs)(ac:au)(ob':Hs)(ao:au):Prop:=∀ (k:Nat) hs,ac[k]? =some .dead->ob[k]? =some hs->
 (hs≠[]->ao[k]? =some .dead/\ob'[k]? =some hs)/\(hs=[]->ao[k]? =some .dead->ob'[k]? =some [])
def cK.refl(ob:Hs)(ac:au):cK ob ac ob ac:=λ_ _ h1 a=>⟨λ_=>⟨h1,a⟩,λ e _=>e▸a⟩
def fE{w:World}{b:Nat}{x:Obj}(a:w.heap[b]? =some x):b<w.heap.size:=(Ey.1 a).1
def dM.mono{M M':Imm}{w w':World}{v:Value}{sz:Nat}{e:TypeId}{xs:ay}(h:dM M w v sz e xs)(m:∀ b o x,M b o x->M' b o x)
  (p:∀ b,v.ownBlock=some b->(∀ o,NoM M b o)->∀ o,NoM M' b o) (k:∀ b c,v.ownBlock=some b->w.heap[b]? =some c->w'.heap[b]? =some c):dM M' w' v sz e xs:=by
 obtain ⟨cv,⟨h1,f⟩,h3,A,B,z,s⟩:=h;refine ⟨cv,⟨h1,?_⟩,h3,A,λ q c j=>?_,λ b e=>p b e (z b e),λ b e d T C j=>?_⟩
 .rcases f with f | ⟨g,cap,d,a,y,i,r⟩
  .exact .inl f
  .exact .inr ⟨g,cap,d,a,y,k g _ (by rw [a];rfl) i,r⟩
 .obtain ⟨u,t,n⟩:=B q c j;exact ⟨u,t,n.monoM m⟩
 .rcases f with ⟨rfl,_⟩ | ⟨g,cap,l,a,_,i,_⟩
  .cases e
  .rw [a] at e;cases e;have:=k g _ (by rw [a];rfl) i;rw [j] at this;cases this;exact s g (by rw [a];rfl) _ _ _ i
def hD.mono{M M':Imm}{ob ob':Hs}{w w':World}{hs:ba}{x:ab}(h:hD M ob w hs x)(q:∀ b o x,M b o x->M' b o x)(F:dJ ob ob')
  (t:∀ b,x.owns=true->b∈blk hs->∀ o,NoM M b o->NoM M' b o) (s:∀ b c,x.owns=true->b∈blk hs->w.heap[b]? =some c->w'.heap[b]? =some c):hD M' ob' w' hs x:=by
 have f:∀ {g:Nat} {v:Value},hs.length=g+1->hs[g]? =some v->blk hs=KU v:=λ{g v} hl A=>by unfold blk;rw [Lh,hl,Hv,A]
 have u:∀ {v:Value} {b:Nat},v.ownBlock=some b->b∈KU v:=λ{v b} h=>by
  unfold Gl at h;split at h
  .cases h;simp [KU]
  .cases h
 have k:∀ {v:Value} {b:Nat},blk hs=KU v->v.ownBlock=some b->b∈blk hs:=λ{v b} h1 d=>by rw [h1];exact u d
 cases x with
 | dead=>trivial
 | cells T cs=>
  obtain ⟨b,rfl,h1,cv,d,h3,m,p⟩:=h;exact ⟨b,rfl,λ o=>t b rfl (dU.2 rfl) o (h1 o),cv,s b _ rfl (dU.2 rfl) d,h3,m,λ i v a A J=>(p i v a A J).mono q F⟩
 | fcells cs=>
  obtain ⟨b,rfl,h1⟩:=h;exact ⟨b,rfl,λ j c K=>q _ _ _ (h1 j c K)⟩
 | row g sz e xs=>
  obtain ⟨h1,v,d,h3⟩:=h;exact ⟨h1,v,d,h3.mono q (λ b e B o=>t b rfl (k (f h1 d) e) o (B o)) (λ b c e=>s b c rfl (k (f h1 d) e))⟩
 | frow g sz xs=>
  obtain ⟨v,h1,d⟩:=h;exact ⟨v,h1,d.monoM q⟩
 | tail g sz e=>
  obtain ⟨h1,v,d,n,cv,⟨h3,m⟩,p⟩:=h;refine ⟨h1,v,d,n,cv,⟨h3,?_⟩,λ b e o F=>t b rfl (k (f h1 d) e) o (p b e o F)⟩;rcases m with m | ⟨H,cap,z,G,L,O,r⟩
  .exact .inl m
  .exact .inr ⟨H,cap,z,G,L,s H _ rfl (k (f h1 d) (by rw [G];rfl)) O,r⟩
 | mp Q es=>
  obtain ⟨b,rfl,h1,N,cl,d,h3,m,p⟩:=h;exact ⟨b,rfl,λ o=>t b rfl (dU.2 rfl) o (h1 o),N,cl,s b _ rfl (dU.2 rfl) d,h3,λ i x y C D=>⟨(m i x y C D).1,(m i x y C D).2.1,(m i x y C D).2.2.monoM q⟩,p⟩
 | bun g I=>
  obtain ⟨h1,bs,d,h3,m⟩:=h;have e:blk hs=bs:=by rw [<-BR (hs:=[eD bs]) rfl];exact f h1 d
  refine ⟨h1,bs,d,λ b l=>?_,I.mono q (λ b l=>t b rfl (by rw [e];exact l)) (λ b c l=>s b c rfl (by rw [e];exact l)) m⟩;obtain ⟨o,p,P⟩:=h3 b l;exact ⟨o,s b _ rfl (by rw [e];exact l) p,P⟩
def Mem.same{M:Imm}{ob:Hs}{ac:au}{w w':World}(h:Mem M ob ac w)(hs:w.heap.size<=w'.heap.size)
  (j:∀ b,b<w.heap.size->w'.heap[b]? =w.heap[b]?):Mem M ob ac w':=by
 refine ⟨λ b o x m=>?_,h.len,λ k c d=>?_,λ k b e=>Ew (h.lt k b e) hs,h.inj⟩
 .obtain ⟨v,i,l⟩:=h.imm b o x m;exact ⟨v,(Cs (w:=w) (a:=⟨b,o,none⟩) (j b (Ct w _ i))).trans i,l⟩
 .obtain ⟨hs',f,g⟩:=h.obj k c d;exact ⟨hs',f,g.mono (λ_ _ _ h=>h) (dJ.refl _) (λ_ _ _ _ h=>h) (λ b c _ _ d=>(j b (fE d)).trans d)⟩
def Mem.noImm{M:Imm}{ob:Hs}{ac:au}{w:World}(h:Mem M ob ac w){b:Nat}(d:w.heap.size<=b)(o:Nat):NoM M b o:=by
 intro x c;obtain ⟨v,a,_⟩:=h.imm b o x c;have:=Ct w _ a
 grind
inductive TK where
 | int (k:IntKind) | bool | str | strct (fs:List (Nat×Nat×Bool)) | arr (n esz:Nat) (eagg:Bool) | slc (e esz ebytes:Nat) | ptr (e:Nat) | iface | mp (k e:Nat) | other
structure TI where
 kind:TK
 size:Nat
 agg:Bool
 zero:aa
abbrev Tab:=List (Nat×TI)
def cW:Tab->Nat->Option TI
 | [],_=>none
 | (i,x)::r,n=>bif Ax i n then some x else cW r n
abbrev aEO:=List (Nat×String×Nat)
def aCv:aEO->Nat->String->Option Nat
 | [],_,_=>none
 | (i,s,f)::r,n,m=>bif (Ax i n&&s==m) then some f else aCv r n m
structure Env where
 P:Program
 T:Tab
 mt:aEO
 fl:List (Nat×Nat)
 own:az
 rws:az
 bl:az
 df:List (Nat×ay)
 rd:Option Nat:=none
def tJ(n:Nat):az->Bool
 | []=>false
 | x::r=>Ax x n||tJ n r
def aW:ar->Nat->aa
 | [],_=>.undef
 | (i,v)::r,n=>bif Ax i n then v else aW r n
def iE:ar->Nat->aa->ar
 | [],n,x=>[(n,x)]
 | (i,v)::r,n,x=>bif Ax i n then (n,x)::r else (i,v)::iE r n x
def aB:au->Nat->ab
 | [],_=>.dead
 | x::_,0=>x
 | _::r,n+1=>aB r n
def bM:au->Nat->ab->au
 | [],0,y=>[y]
 | [],n+1,y=>.dead::bM [] n y
 | _::r,0,y=>y::r
 | x::r,n+1,y=>x::bM r n y
def aM:au->Nat
 | []=>0
 | _::r=>aM r+1
def kR:Nat->ay->ay
 | 0,l=>l
 | _+1,[]=>[]
 | n+1,_::l=>kR n l
def lZ:Nat->ay->Option ay
 | 0,_=>some []
 | _+1,[]=>none
 | n+1,c::l=>match lZ n l with | some r=>some (c::r) | none=>none
def S2:ay->ay->Option ay
 | [],l=>some l
 | _::_,[]=>none
 | c::r,_::l=>match S2 r l with | some x=>some (c::x) | none=>none
def nL:Nat->ay->ay->Option ay
 | 0,new,l=>S2 new l
 | _+1,_,[]=>none
 | n+1,new,c::l=>match nL n new l with | some x=>some (c::x) | none=>none
def PF:ay->Nat
 | []=>0
 | _::r=>PF r+1
def nth{α:Type}:List α->Nat->Option α
 | [],_=>none
 | x::_,0=>some x
 | _::r,n+1=>nth r n
def aAj:ay->ay->ay
 | [],l=>l
 | c::r,l=>c::aAj r l
def dO(f:aa->aa):ay->ay
 | []=>[]
 | c::r=>f c::dO f r
def aJc:IntKind->Nat
 | .i8=>127 | .i16=>32767 | .i32=>2147483647 | .i64=>9223372036854775807
 | .u8=>255 | .u16=>65535 | .u32=>4294967295 | .u64=>18446744073709551615
def aCK:IntKind->Nat
 | .i8=>128 | .i16=>32768 | .i32=>2147483648 | .i64=>9223372036854775808 | _=>0
def aHl(k:IntKind):Int->Bool
 | .ofNat m=>Fv m (aJc k)
 | .negSucc m=>Ff m (aCK k)
def aCB:ax->Nat
 | []=>0
 | _::r=>aCB r+1
def aIt:Value->aa
 | .bool b=>.bool b
 | .int k n=>bif aHl k n then .int k n else .undef
 | .string s=>bif Fv (aCB s.data.toList) 1000000 then .str s.data.toList else .undef
 | .slice none 0 0=>.nilslice
 | .pointer none=>.nilptr
 | .map none=>.nilmap
 | .nilFunc=>.nilfunc
 | .nilIface=>.nilif
 | _=>.undef
def ev(fr:ar):Operand->aa
 | .tmp t=>aW fr t
 | .const v=>aIt v
 | .func f=>.func (.func f) [] []
 | .global _=>.undef
def one:aa->Bool
 | .undef | .agg _ | .tup _=>false
 | _=>true
def pF:ay->Bool
 | []=>true
 | c::r=>one c&&pF r
def DC:aa->Bool
 | .undef=>false
 | _=>true
def ah(og:Nat->ab):Nat->aa->aa
 | 0,_=>.undef
 | n+1,v=>match v with
  | .slice sz xs _=>.slice sz xs .no
  | .agg cs=>.agg (dO (ah og n) cs)
  | .tup cs=>.tup (dO (ah og n) cs)
  | .func fn a cs=>.func fn (dO (ah og n) a) (dO (ah og n) cs)
  | .iface t v=>.iface t (ah og n v)
  | .ref k off=>(match og k with | .fcells cs=>.ptr (kR off cs) | _=>.undef)
  | .csl k off len sz=>(match og k with | .fcells cs=>bif Ax sz 1 then (match lZ len (kR off cs) with | some l=>bif pF l then .slice 1 l .full else .undef | none=>.undef) else .undef | _=>.undef)
  | .row k g=>(match og k with | .frow g' sz xs=>bif Ax g g' then .slice sz xs .no else .undef | _=>.undef)
  | .sub k g lo len sz=>(match og k with | .frow g' sz' xs=>bif Ax g g'&&Ax sz sz' then .slice sz ((xs.drop lo).take len) .no else .undef | _=>.undef)
  | .eref _ _ _ _ _=>.undef
  | .rowc _ _ _=>.undef
  | .pre _ _ _ _ _=>.undef
  | .mref _=>.undef
  | v=>v
def foldO(f:au->aa->au):au->ay->au
 | ac,[]=>ac
 | ac,c::r=>foldO f (f ac c) r
def frz1(ac:au)(k:Nat):au:=match aB ac k with
 | .cells _ cs=>bM ac k (.fcells (dO (ah (aB ac) 4) cs))
 | _=>ac
def frzR(ac:au)(k g:Nat):au:=match aB ac k with
 | .row a sz _ xs=>bif Ax g a then bM ac k (.frow g sz xs) else ac
 | _=>ac
def frzV:Nat->au->aa->au
 | 0,ac,_=>ac
 | n+1,ac,v=>match v with
  | .agg cs=>foldO (frzV n) ac cs
  | .tup cs=>foldO (frzV n) ac cs
  | .func _ a cs=>foldO (frzV n) (foldO (frzV n) ac a) cs
  | .iface _ v=>frzV n ac v
  | .ref k _=>(match aB ac k with | .cells _ cs=>frz1 (foldO (frzV n) ac cs) k | _=>ac)
  | .csl k _ _ _=>(match aB ac k with | .cells _ cs=>frz1 (foldO (frzV n) ac cs) k | _=>ac)
  | .row k g=>frzR ac k g
  | .sub k g _ _ _=>frzR ac k g
  | _=>ac
def frzL(ac:au)(l:ay):au:=foldO (frzV 6) ac l
def aj:az->au->au
 | [],ac=>ac
 | k::r,ac=>aj r (match aB ac k with
  | .row g _ _ _=>frzR ac k g
  | .cells _ _=>frzV 6 ac (.ref k 0)
  | _=>ac)
inductive OR where
 | no
 | val (v:aa)
 | mkf (fn:Fn) (fs cs:ay)
 | need (p:Prop) (r:OR)
 | alt (p:Prop) (v w:aa)
 | idx (n:Int) (k:Nat->OR)
 | elem (xs:ay) (i:Nat) (k:aa->OR)
 | byte (l:ax) (i:Nat)
 | text (xs:ay)
 | find (es:List (aw×aa)) (key:aw) (k:Option aa->OR)
 | born (x:ab) (v:aa)
 | upd (k:Nat) (x:ab) (v:aa)
 | nilq (xs:ay) (neg:Bool)
 | call (f:Fn) (args:ay)
 | pan (v:aa)
def OR.bind:OR->(aa->OR)->OR
 | .val v,k=>k v
 | .need p r,k=>.need p (r.bind k)
 | .elem xs i f,k=>.elem xs i λ x=>(f x).bind k
 | .idx n f,k=>.idx n λ i=>(f i).bind k
 | _,_=>.no
def dL:BinOp->IntKind->Int->Int->Int
 | op,k,x,y=>
  let a:=BitVec.ofInt k.bits x
  let b:=BitVec.ofInt k.bits y
  match op with
  | .and=>k.wrap (a &&& b).toNat
  | .or=>k.wrap (a ||| b).toNat
  | .xor=>k.wrap (a ^^^ b).toNat
  | _=>k.wrap (a &&& ~~~b).toNat
def EI(k:IntKind)(n:Int):OR:=.alt (inR k n) (.int k n) (.int k (k.wrap n))
def aCN:IntKind->IntKind->Bool
 | .i8,.i8 | .i16,.i16 | .i32,.i32 | .i64,.i64 | .u8,.u8 | .u16,.u16 | .u32,.u32 | .u64,.u64=>true
 | _,_=>false
def aNj(op:BinOp)(k:IntKind)(x y:Int):OR:=
 match op with
 | .add=>EI k (x+y)
 | .sub=>EI k (x-y)
 | .mul=>EI k (x*y)
 | .quo=>.need (y≠0) (.alt (inR k (x.tdiv y)) (.int k (x.tdiv y)) (.int k (k.wrap (x.tdiv y))))
 | .rem=>.need (y≠0) (.val (.int k (x.tmod y)))
 | .and=>.val (.int k (dL .and k x y))
 | .or=>.val (.int k (dL .or k x y))
 | .xor=>.val (.int k (dL .xor k x y))
 | .andNot=>.val (.int k (dL .andNot k x y))
 | .eql=>.val (.bool (x==y))
 | .neq=>.val (.bool (x !=y))
 | .lss=>.val (.bool (decide (x<y)))
 | .leq=>.val (.bool (decide (x<=y)))
 | .gtr=>.val (.bool (decide (y<x)))
 | .geq=>.val (.bool (decide (y<=x)))
 | _=>.no
def ceq:ay->ay->Option Bool
 | [],[]=>some true
 | .int k a::r,.int k' b::s=>bif aCN k k' then (match ceq r s with | some c=>some ((a==b)&&c) | none=>none) else none
 | _,_=>none
def A2:List (Nat×Nat)->Nat->Nat
 | [],_=>0
 | (i,n)::r,t=>bif Ax i t then n else A2 r t
def wH(op:BinOp)(c:Bool):OR:=
 match op with
 | .eql=>.val (.bool c)
 | .neq=>.val (.bool (!c))
 | _=>.no
def aKw(op:BinOp)(xs:ay):OR:=
 match op with
 | .eql=>.nilq xs false
 | .neq=>.nilq xs true
 | _=>.no
def isC:Operand->Bool
 | .const _=>true
 | _=>false
def aLu(E:Env)(og:Nat->ab)(d:Bool)(op:BinOp)(t:Nat)(a b:aa):OR:=
 match a,b with
 | .int k x,.int k' y=>
  (match op with
  | .shl=>.need (0<=y) (.alt (y.toNat<=k.bits/\inR k (x*2 ^ y.toNat)) (.int k (x*2 ^ y.toNat)) (.int k (k.wrap (x*2 ^ (min y.toNat k.bits)))))
  | .shr=>.need (0<=y/\y.toNat<=k.bits) (.val (.int k (x.fdiv (2 ^ y.toNat))))
  | op=>bif aCN k k' then aNj op k x y else .no)
 | .str x,.str y=>
  (match op with
  | .add=>.need (((x.length+y.length:Nat):Int)<=9223372036854775807) (.val (.str (x++y)))
  | .eql=>.val (.bool (x==y))
  | .neq=>.val (.bool (!(x==y)))
  | .lss=>.val (.bool (Op.bytesLess x y))
  | .leq=>.val (.bool (Op.bytesLess x y||x==y))
  | .gtr=>.val (.bool (!(Op.bytesLess x y||x==y)))
  | .geq=>.val (.bool (!Op.bytesLess x y))
  | _=>.no)
 | .agg xs,.agg ys=>
  bif Ff 0 (A2 E.fl t)&&Ax (PF xs) (A2 E.fl t) then
   (match op,ceq xs ys with
   | .eql,some c=>.val (.bool c)
   | .neq,some c=>.val (.bool (!c))
   | _,_=>.no)
  else .no
 | a,b=>match cW E.T t with
  | none=>.no
  | some f=>match f.kind,a,b with
   | .bool,.bool x,.bool y=>wH op (x==y)
   | .slc _ _ _,.slice _ _ .nil,.nilslice=>wH op true
   | .slc _ _ _,.nilslice,.nilslice=>wH op true
   | .slc _ _ _,.slice _ xs _,.nilslice=>aKw op xs
   | .ptr _,.nilptr,.nilptr=>wH op true
   | .ptr _,.ref _ _,.nilptr=>wH op false
   | .ptr _,.ptr _,.nilptr=>wH op false
   | .ptr e,.ref k o,.ref k' o'=>(match cW E.T e with
    | some _=>bif Ax k k'&&Ax o o' then wH op true else .no
    | none=>.no)
   | .iface,.nilif,.nilif=>bif d then wH op true else .no
   | .iface,.iface _ _,.nilif=>wH op false
   | .iface,.nilif,.iface _ _=>wH op false
   | _,_,_=>.no
def mk(a:TI)(l:ay):Option aa:=
 bif a.agg then some (.agg l) else match l with
  | [c]=>some c
  | _=>none
def fin(a:TI)(l:Option ay):OR:=
 match l with
 | none=>.no
 | some l=>match mk a l with
  | none=>.no
  | some v=>.val v
def W0(E:Env)(og:Nat->ab)(t:Nat)(a:aa):OR:=
 match cW E.T t with
 | none=>.no
 | some b=>match a with
  | .ptr cs=>fin b (lZ b.size cs)
  | .ref k off=>(match og k with
   | .cells _ cs=>fin b (lZ b.size (kR off cs))
   | .fcells cs=>fin b (lZ b.size (kR off cs))
   | _=>.no)
  | .eref k g i sz off=>(match og k with
   | .row d c _ xs=>bif Ax g d&&Ax sz c then .elem xs i λ x=>fin b (lZ b.size (kR off x.cells)) else .no
   | _=>.no)
  | _=>.no
def aJa:ay->aa
 | [c]=>c
 | _=>.undef
def aKg(x:aa)(cs:ay):aa:=
 match x with
 | .agg _=>.agg cs
 | _=>aJa cs
def R6(E:Env)(og:Nat->ab)(t:Nat)(a v:aa):OR:=
 match cW E.T t with
 | none=>.no
 | some c=>
  bif pF v.cells&&Ax (PF v.cells) c.size then
   match a with
   | .ref k off=>(match og k with
    | .cells T cs=>(match nL off v.cells cs with
     | some cs=>.upd k (.cells T cs) .undef
     | none=>.no)
    | _=>.no)
   | .eref k g i sz off=>(match og k with
    | .row d b e xs=>
     bif ((Ax g d&&Ax sz b)&&Fv 1 sz)&&pF (ah og 4 v).cells then
            (bif Ax off 0&&Ax c.size sz then .need (i<xs.length) (.upd k (.row g sz e (xs.set i (ah og 4 v))) .undef)
            else .elem xs i λ x=>match nL off (ah og 4 v).cells x.cells with
             | some cs=>.upd k (.row g sz e (xs.set i (aKg x cs))) .undef
             | none=>.no)
     else .no
    | _=>.no)
   | _=>.no
  else .no
def SH(E:Env)(s:Nat)(a:aa)(f:Nat):OR:=
 match cW E.T s with
 | some {kind:=.strct fs,..}=>(match nth fs f with
  | none=>.no
  | some (off,sz,ag)=>match a with
   | .agg cs=>(match lZ sz (kR off cs) with
    | none=>.no
    | some l=>bif ag then .val (.agg l) else match l with
     | [c]=>.val c
     | _=>.no)
   | _=>.no)
 | _=>.no
def uW(E:Env)(s:Nat)(a:aa)(f:Nat):OR:=
 match cW E.T s with
 | some {kind:=.strct fs,..}=>(match nth fs f with
  | none=>.no
  | some (off,sz,_)=>
   bif Ax sz 0 then .no else
   match a with
   | .ptr cs=>.val (.ptr (kR off cs))
   | .ref k x=>.val (.ref k (x+off))
   | .eref k g i z x=>.val (.eref k g i z (x+off))
   | _=>.no)
 | _=>.no
def uT(E:Env)(og:Nat->ab)(t:Nat)(a i:aa):OR:=
 match cW E.T t,i with
 | some ti,.int _ n=>(match ti.kind with
  | .slc _ b _=>(match a with
   | .slice sz xs _=>bif Ax sz b then .idx n λ i=>.elem xs i λ x=>.val (.ptr x.cells) else .no
   | .row k g=>(match og k with
    | .row c sz _ xs=>bif Ax g c&&Ax sz b then .idx n λ i=>.need (i<xs.length) (.val (.eref k g i sz 0)) else .no
    | .frow c sz xs=>bif Ax g c&&Ax sz b then .idx n λ i=>.elem xs i λ x=>.val (.ptr x.cells) else .no
    | _=>.no)
   | .sub k g lo len sz=>(match og k with
    | .row c d _ _=>bif (Ax g c&&Ax sz d)&&Ax sz b then .idx n λ i=>.need (i<len) (.val (.eref k g (lo+i) sz 0)) else .no
    | _=>.no)
   | _=>.no)
  | .arr len b _=>(match a with
   | .ref k off=>.need (0<=n/\n.toNat<len) (.val (.ref k (off+n.toNat*b)))
   | .ptr cs=>.need (0<=n/\n.toNat<len) (.val (.ptr (kR (n.toNat*b) cs)))
   | _=>.no)
  | _=>.no)
 | _,_=>.no
def SG(E:Env)(t:Nat)(a i:aa):OR:=
 match a,i with
 | .str l,.int _ n=>(match cW E.T t with
  | some {kind:=.str,..}=>.idx n λ i=>.byte l i
  | _=>.no)
 | .agg cs,.int _ n=>(match cW E.T t with
  | some {kind:=.arr len esz ag,..}=>(match lZ esz (kR (n.toNat*esz) cs) with
   | some l=>bif ag then .need (0<=n/\n<len) (.val (.agg l)) else (match l with | [c]=>.need (0<=n/\n<len) (.val c) | _=>.no)
   | none=>.no)
  | _=>.no)
 | _,_=>.no
def EF(place:Nat->Option (Nat×Nat)):ay->ar->Option ay
 | cs,[]=>some cs
 | cs,(i,v)::r=>match place i with
  | none=>none
  | some (off,sz)=>bif DC v&&Ax (PF v.cells) sz then (match nL off v.cells cs with | some cs=>EF place cs r | none=>none) else none
def SJ(E:Env)(t:Nat)(a:ar):OR:=
 match cW E.T t with
 | some b=>(match b.kind,b.zero with
  | .strct fs,.agg z=>(match EF (λ i=>(nth fs i).map λ f=>(f.1,f.2.1)) z a with
   | some cs=>.val (.agg cs)
   | none=>.no)
  | .arr _ esz _,.agg z=>(match EF (λ i=>some (i*esz,esz)) z a with
   | some cs=>.val (.agg cs)
   | none=>.no)
  | _,_=>.no)
 | _=>.no
def pS(hint base sz:Nat)(e:TypeId)(xs:ay):OR:=
 match hint with
 | 2=>.born (.row 0 sz e xs) (.row base 0)
 | _=>.born (.tail 0 sz e) (.slice sz xs (.own base 0))
def EG(og:Nat->ab)(a:Nat):Nat->ar->Option ay
 | _,[]=>some []
 | n,(i,v)::r=>(λ v=>bif Ax i n&&Ax (PF v.cells) a&&pF v.cells then (match EG og a (n+1) r with | some l=>some (v::l) | none=>none) else none) (ah og 4 v)
def aB1:ar->Nat
 | []=>0
 | _::r=>aB1 r+1
def mX(E:Env)(hint base:Nat)(og:Nat->ab)(t len:Nat)(a:ar):OR:=
 match cW E.T t with
 | some {kind:=.slc e esz _,..}=>
  bif Ax (aB1 a) len&&Fv (len*esz) 1000&&Fv 1 esz then
   match EG og esz 0 a with
   | some xs=>(match hint with | 0=>.val (.slice esz xs .full) | h=>pS h base esz e xs)
   | none=>.no
  else .no
 | _=>.no
def evL(ρ:Operand->aa):List (Nat×Operand)->ar
 | []=>[]
 | (i,x)::r=>(i,ρ x)::evL ρ r
def evO(ρ:Operand->aa):List Operand->ay
 | []=>[]
 | x::r=>ρ x::evO ρ r
def bnd:Option aa->(Option Nat->OR)->OR
 | none,k=>k none
 | some (.int _ n),k=>.idx n λ i=>k (some i)
 | some _,_=>.no
def R7(E:Env)(og:Nat->ab)(t:Nat)(a:aa)(lo c d:Option aa):OR:=
 match cW E.T t with
 | none=>.no
 | some e=>match a with
  | .str l=>(match e.kind,d with
   | .str,none=>bnd lo λ lo=>bnd c λ c=>match lo,c with
    | none,none=>.val (.str l)
    | some x,none=>.need (x<=l.length) (.val (.str (l.drop x)))
    | none,some y=>.need (y<=l.length) (.val (.str (l.take y)))
    | some x,some y=>.need (x<=y/\y<=l.length) (.val (.str ((l.take y).drop x)))
   | _,_=>.no)
  | .slice sz xs _=>(match e.kind with
   | .slc _ b _=>bif Ax sz b then
     (bnd lo λ lo=>bnd c λ c=>bnd d λ d=>match d with
     | none=>(match lo,c with
            | none,none=>.val (.slice sz xs .no)
            | some x,none=>.need (x<=xs.length) (.val (.slice sz (xs.drop x) .no))
            | none,some y=>.need (y<=xs.length) (.val (.slice sz (xs.take y) .no))
            | some x,some y=>.need (x<=y/\y<=xs.length) (.val (.slice sz ((xs.take y).drop x) .no)))
     | some m=>(match lo,c with
            | none,some y=>.need (y<=xs.length/\m=y) (.val (.slice sz (xs.take y) .full))
            | _,_=>.no))
    else .no
   | _=>.no)
  | .row k g=>(match e.kind,d,og k with
   | .slc _ b _,none,.row g' sz _ xs=>bif Ax g g'&&Ax sz b then
     (bnd lo λ lo=>bnd c λ c=>match lo,c with
     | none,none=>.val (.row k g)
     | some x,none=>.need (x<=xs.length) (.val (.sub k g x (xs.length-x) sz))
     | none,some y=>.need (y<=xs.length) (.val (.sub k g 0 y sz))
     | some x,some y=>.need (x<=y/\y<=xs.length) (.val (.sub k g x (y-x) sz)))
    else .no
   | _,_,_=>.no)
  | .sub k g f len sz=>(match e.kind,d,og k with
   | .slc _ b _,none,.row g' sz' _ xs=>bif (Ax g g'&&Ax sz sz')&&Ax sz b then
     (bnd lo λ lo=>bnd c λ c=>match lo,c with
     | none,none=>.val (.sub k g f len sz)
     | some x,none=>.need (x<=len) (.val (.sub k g (f+x) (len-x) sz))
     | none,some y=>.need (f+y<=xs.length) (.val (.sub k g f y sz))
     | some x,some y=>.need (x<=y/\f+y<=xs.length) (.val (.sub k g (f+x) (y-x) sz)))
    else .no
   | _,_,_=>.no)
  | .ref k off=>(match e.kind,lo,c,d with
   | .arr len b _,none,none,none=>.need ((len:Int)<=9223372036854775807) (.val (.csl k off len b))
   | _,_,_,_=>.no)
  | .ptr cs=>(match e.kind,lo,c,d with
   | .arr len 1 false,none,none,none=>(match lZ len cs with
    | some l=>bif pF l then .need ((len:Int)<=9223372036854775807) (.val (.slice 1 l .full)) else .no
    | none=>.no)
   | _,_,_,_=>.no)
  | _=>.no
def ub(c:UInt8):aa:=.int .u8 c.toNat
def aFv(og:Nat->ab):aa->Option (Nat×ay)
 | .slice sz xs _=>some (sz,xs)
 | .row k g=>(match og k with
  | .row a sz _ xs=>bif Ax g a then some (sz,xs) else none
  | .frow a sz xs=>bif Ax g a then some (sz,xs) else none
  | _=>none)
 | .sub k g lo len sz=>(match og k with
  | .row a b _ xs=>bif Ax g a&&Ax sz b then some (sz,(xs.drop lo).take len) else none
  | _=>none)
 | _=>none
def aA9(E:Env)(og:Nat->ab)(a b:Nat)(x:aa):Option ay:=
 match x with
 | .str l=>(match cW E.T b with | some {kind:=.str,..}=>bif Ax a 1 then some (l.map ub) else none | _=>none)
 | .nilslice=>(match cW E.T b with | some {kind:=.slc _ _ _,..}=>some [] | _=>none)
 | x=>match cW E.T b,aFv og x with
  | some {kind:=.slc _ _ _,..},some (sz,xs)=>bif Ax sz a then some xs else none
  | _,_=>none
def aDT(E:Env)(og:Nat->ab)(s d:Nat)(a:aa):OR:=
 match cW E.T s,cW E.T d with
 | some ts,some td=>(match td.kind,a with
  | .int k,.int _ n=>.alt (inR k n) (.int k n) (.int k (k.wrap n))
  | .str,.str l=>(match ts.kind with | .str=>.val (.str l) | _=>.no)
  | .slc e 1 _,.str l=>(match ts.kind,cW E.T e with
   | .str,some {kind:=.int .u8,..}=>.val (.slice 1 (l.map ub) .no)
   | _,_=>.no)
  | .str,a=>(match ts.kind,aFv og a with
   | .slc e 1 _,some (1,xs)=>(match cW E.T e with
    | some {kind:=.int .u8,..}=>.text xs
    | _=>.no)
   | _,_=>.no)
  | _,_=>.no)
 | _,_=>.no
def aLp(E:Env)(og:Nat->ab)(t:Nat)(a:aa):OR:=
 match cW E.T t with
 | none=>.no
 | some c=>match c.kind,a with
  | .str,.str l=>.val (.int .i64 l.length)
  | .slc _ _ _,.slice _ xs _=>.val (.int .i64 xs.length)
  | .slc _ _ _,.nilslice=>.val (.int .i64 0)
  | .slc _ _ _,.csl _ _ len _=>.val (.int .i64 len)
  | .slc _ _ _,.hsl _ n _=>.need ((n:Int)<=9223372036854775807) (.val (.int .i64 n))
  | .slc _ _ _,.row k g=>(match og k with
   | .row b _ _ xs=>bif Ax g b then .val (.int .i64 xs.length) else .no
   | .frow b _ xs=>bif Ax g b then .val (.int .i64 xs.length) else .no
   | _=>.no)
  | .slc _ _ _,.sub _ _ _ len _=>.val (.int .i64 len)
  | .arr n _ _,_=>.need ((n:Int)<=9223372036854775807) (.val (.int .i64 n))
  | _,_=>.no
def A1(n a:Nat):Prop:=n<=maxLen/\n*a<=140737488355328
def sZ(E:Env)(hint base:Nat)(og:Nat->ab)(t d:Nat)(s x:aa):OR:=
 match cW E.T t with
 | some {kind:=.slc e esz eb,..}=>
  bif Fv 1 esz then
   match aA9 E og esz d x with
   | none=>.no
   | some ys=>(match s with
    | .slice sz xs tk=>(match tk with
     | .own k g=>(match og k with
      | .tail b a c=>bif ((Ax g b&&Ax sz a)&&Ax sz esz)&&Ax e c then .need (A1 (xs.length+ys.length) eb) (.upd k (.tail (g+1) esz e) (.slice esz (xs++ys) (.own k (g+1)))) else .no
      | _=>.no)
     | .nil=>bif Ax sz esz then .need (A1 ys.length eb) (pS hint base esz e ys) else .no
     | .full=>bif Ax sz esz then .need (A1 (xs.length+ys.length) eb) (match hint with | 0=>.val (.slice esz (xs++ys) .no) | 3=>.need (ys=[]) (.val (.slice esz xs .full)) | h=>.need (ys≠[]) (pS h base esz e (xs++ys))) else .no
     | .no=>.no)
    | .nilslice=>.need (A1 ys.length eb) (pS hint base esz e ys)
    | .row k g=>(match og k with
     | .row b sz c xs=>bif (Ax g b&&Ax sz esz)&&Ax e c then .need (A1 (xs.length+ys.length) eb) (.upd k (.row (g+1) sz e (xs++ys)) (.row k (g+1))) else .no
     | _=>.no)
    | .sub k g lo len sz=>(match og k with
     | .row b a c xs=>bif ((Ax g b&&Ax sz a)&&Ax sz esz)&&Ax e c then
       .need (lo+len+ys.length<=xs.length) (.upd k (.row g sz e (xs.take (lo+len)++ys++xs.drop (lo+len+ys.length))) (.sub k g lo (len+ys.length) sz)) else .no
     | _=>.no)
    | _=>.no)
  else .no
 | _=>.no
def aDS(E:Env)(og:Nat->ab)(t f:Nat)(d x:aa):OR:=
 match cW E.T t with
 | some {kind:=.slc e esz _,..}=>
  bif Fv 1 esz then
   match aA9 E og esz f x with
   | none=>.no
   | some ys=>(match d with
    | .row k g=>(match og k with
     | .row a sz c xs=>bif Ax g a&&Ax sz esz then .upd k (.row g sz c (ys.take xs.length++xs.drop ys.length)) (.int .i64 (min ys.length xs.length:Nat)) else .no
     | _=>.no)
    | .sub k g lo len sz=>(match og k with
     | .row a b c xs=>bif (Ax g a&&Ax sz b)&&Ax sz esz then
       .upd k (.row g sz c (xs.take lo++ys.take len++xs.drop (lo+min ys.length len))) (.int .i64 (min ys.length len:Nat)) else .no
     | _=>.no)
    | _=>.no)
  else .no
 | _=>.no
def SI(E:Env)(og:Nat->ab)(t:Nat)(d:aa):OR:=
 match cW E.T t with
 | some {kind:=.slc e esz _,..}=>(match cW E.T e with
  | some b=>bif Fv 1 esz&&DC (ah (λ_=>.dead) 4 b.zero) then (match d with
   | .sub k g lo len sz=>(match og k with
    | .row c a f xs=>bif (Ax g c&&Ax sz a)&&Ax sz esz then
            .upd k (.row g sz f (xs.take lo++Aj len (ah (λ_=>.dead) 4 b.zero)++xs.drop (lo+len))) (.tup []) else .no
    | _=>.no)
   | _=>.no) else .no
  | none=>.no)
 | _=>.no
def WY(E:Env)(hint base:Nat)(t:Nat)(n c:aa):OR:=
 match cW E.T t,n,c with
 | some {kind:=.slc e esz f,..},.int _ a,.int _ b=>(match cW E.T e with
  | some d=>bif Fv 1 esz&&DC (ah (λ_=>.dead) 4 d.zero) then
    .idx a λ i=>.need (a=b/\(f:Int)*b<=281474976710656/\i<=maxLen) (.born (.row 0 esz e (Aj i (ah (λ_=>.dead) 4 d.zero))) (.row base 0))
   else .no
  | none=>.no)
 | _,_,_=>.no
def N5:ay->Option aw
 | []=>some []
 | .int .i64 n::r=>(match N5 r with | some l=>some (n::l) | none=>none)
 | _=>none
def GY(E:Env)(k:Nat)(a:Bool)(v:aa):Option aw:=
 match a with
 | false=>(match cW E.T k with
  | some {kind:=.int .i64,..}=>(match v with | .int .i64 n=>some [n] | _=>none)
  | _=>none)
 | true=>(match cW E.T k with
  | some _=>(match v with
   | .agg cs=>(match N5 cs with
    | some l=>bif Ff 0 (A2 E.fl k)&&Ax (PF cs) (A2 E.fl k) then some l else none
    | none=>none)
   | _=>none)
  | none=>none)
def bR:List (aw×aa)->aw->Option aa
 | [],_=>none
 | (k,v)::r,x=>if k=x then some v else bR r x
def lP:List (aw×aa)->aw->aa->List (aw×aa)
 | [],x,y=>[(x,y)]
 | (k,v)::r,x,y=>if k=x then (x,y)::r else (k,v)::lP r x y
def FI:List (aw×aa)->aw->List (aw×aa)
 | [],_=>[]
 | (k,v)::r,x=>if k=x then r else (k,v)::FI r x
def BJ(a:Bool)(es:List (aw×aa))(key:aw)(r:OR):OR:=
 match a with
 | false=>r
 | true=>.need (∀ p∈es,p.1.length=key.length) r
def KG(E:Env)(og:Nat->ab)(t:Nat)(m k:aa)(ok:Bool):OR:=
 match cW E.T t,m with
 | some {kind:=.mp kt e,..},.mref j=>(match cW E.T e,og j with
  | some te,.mp ag es=>(match GY E kt ag k with
   | some key=>BJ ag es key (.find es key λ o=>match o with
    | some v=>.val (bif ok then .tup [v,.bool true] else v)
    | none=>.val (bif ok then .tup [te.zero,.bool false] else te.zero))
   | none=>.no)
  | _,_=>.no)
 | _,_=>.no
def SF(E:Env)(og:Nat->ab)(t:Nat)(m k v:aa):OR:=
 match cW E.T t,m with
 | some {kind:=.mp kt _,..},.mref j=>(match og j with
  | .mp a es=>(match GY E kt a k with
   | some key=>(λ v=>bif DC v then BJ a es key (.upd j (.mp a (lP es key v)) .undef) else .no) (ah og 4 v)
   | none=>.no)
  | _=>.no)
 | _,_=>.no
def KF(E:Env)(og:Nat->ab)(t:Nat)(m k:aa):OR:=
 match cW E.T t,m with
 | some {kind:=.mp kt _,..},.mref j=>(match og j with
  | .mp a es=>(match GY E kt a k with
   | some key=>BJ a es key (.upd j (.mp a (FI es key)) (.tup []))
   | none=>.no)
  | _=>.no)
 | _,_=>.no
def B6(E:Env)(ty:Nat):aa->aa
 | .nilslice=>(match cW E.T ty with | some {kind:=.slc _ esz _,..}=>.slice esz [] .nil | _=>.nilslice)
 | v=>v
def lY(E:Env)(hint base:Nat)(og:Nat->ab)(ρ:Operand->aa)(op:Op)(ty:TypeId):OR:=
 match op with
 | .move x=>.val (ρ x)
 | .assign x=>(match hint with
  | 0=>.val (B6 E ty (ρ x))
  | h=>match B6 E ty (ρ x) with
   | .slice o xs t=>(match t with
    | .nil=>(match xs with
          | []=>(match cW E.T ty with | some {kind:=.slc e esz' _,..}=>bif Ax o esz'&&Fv 1 o then pS h base o e [] else .no | _=>.no)
          | _::_=>.no)
    | t=>.val (.slice o xs t))
   | v=>.val v)
 | .pick c a b=>(match ρ c with
  | .bool true=>.val (ρ a)
  | .bool false=>.val (ρ b)
  | _=>.no)
 | .alloc t=>(match cW E.T t with
  | some j=>bif pF j.zero.cells then .born (.cells t j.zero.cells) (.ref base 0) else .no
  | none=>.no)
 | .box t x=>(λ v=>bif pF v.cells then .born (.cells t v.cells) (.ref base 0) else .no) (ρ x)
 | .build t w=>SJ E t (evL ρ w.toList)
 | .buildSlice t n w=>mX E hint base og t n (evL ρ w.toList)
 | .load t a=>(W0 E og t (ρ a)).bind λ v=>.val (B6 E t v)
 | .store t a x=>R6 E og t (ρ a) (B6 E t (ρ x))
 | .nilCheck x=>(match ρ x with
  | .ref k off=>.val (.ref k off)
  | .eref k g i sz off=>.val (.eref k g i sz off)
  | .ptr cs=>.val (.ptr cs)
  | .func (.func f) p cs=>.val (.func (.func f) p cs)
  | .func (.yield f) p cs=>.val (.func (.yield f) p cs)
  | .iface t v=>.val (.iface t v)
  | _=>.no)
 | .binOp op t x y _=>aLu E og (isC x||isC y) op t (ρ x) (ρ y)
 | .unOp op _ x=>(match op,ρ x with
  | .not,.bool b=>.val (.bool (!b))
  | .neg,.int k n=>EI k (0-n)
  | .xor,.int k n=>.val (.int k (dL .xor k (if k.signed then -1 else k.max) n))
  | _,_=>.no)
 | .convert s d x=>aDT E og s d (ρ x)
 | .makeSlice t n c=>WY E hint base t (ρ n) (ρ c)
 | .makeInterface t x=>(match cW E.T t with
  | some j=>(match j.kind with | .iface=>.no | _=>.val (.iface t (ρ x)))
  | none=>.no)
 | .makeFunc fn p cs=>.mkf fn (evO ρ p.toList) (evO ρ cs.toList)
 | .slice t x lo A z=>R7 E og t (ρ x) (lo.map ρ) (A.map ρ) (z.map ρ)
 | .fieldAddr t x f=>uW E t (ρ x) f
 | .field t x f=>(SH E t (ρ x) f).bind λ v=>.val (B6 E ty v)
 | .indexAddr t x i=>uT E og t (ρ x) (ρ i)
 | .index t x i=>SG E t (ρ x) (ρ i)
 | .extract x i=>(match ρ x with
  | .tup vs=>(match nth vs i with | some v=>.val v | none=>.no)
  | _=>.no)
 | .panic x=>(match ρ x with
  | .iface t v=>(λ v=>bif DC v then .pan (.iface t v) else .no) (ah og 3 v)
  | _=>.no)
 | .typeAssert x _ t ok=>(match cW E.T t,ρ x with
  | some j,.iface u v=>(match j.kind with
   | .iface=>.no
   | _=>bif Ax u t then .val (bif ok then .tup [v,.bool true] else v) else (bif ok then .val (.tup [j.zero,.bool false]) else .no))
  | some j,.nilif=>(match j.kind with
   | .iface=>.no
   | _=>bif ok then .val (.tup [j.zero,.bool false]) else .no)
  | _,_=>.no)
 | .makeMap t none=>(match cW E.T t with
  | some {kind:=.mp k _,..}=>(match cW E.T k with
   | some tk=>.born (.mp tk.agg []) (.mref base)
   | none=>.no)
  | _=>.no)
 | .lookup t m k ok=>KG E og t (ρ m) (ρ k) ok
 | .mapUpdate t m k v=>SF E og t (ρ m) (ρ k) (ρ v)
 | .call c=>(match c.callee with
  | .value f=>(match ρ f with
   | .func (.func g) p cs=>.call (.func g) (aAj (aAj p (evO ρ c.args.toList)) cs)
   | .func (.yield l) p _=>.call (.yield l) (aAj p (evO ρ c.args.toList))
   | _=>.no)
  | .invoke r q=>(match ρ r with
   | .iface t v=>(match aCv E.mt t q with
    | some g=>.call (.func g) (v::evO ρ c.args.toList)
    | none=>.no)
   | _=>.no)
  | .builtin b=>(match b,c.args.toList,c.argTypes.toList with
   | .len,[x],[t]=>aLp E og t (ρ x)
   | .min,[x,y],_=>(match ρ x,ρ y with | .int k a,.int k' b=>bif aCN k k' then .val (.int k (min a b)) else .no | _,_=>.no)
   | .max,[x,y],_=>(match ρ x,ρ y with | .int k a,.int k' b=>bif aCN k k' then .val (.int k (max a b)) else .no | _,_=>.no)
   | .append,[x,y],[t,t2]=>sZ E hint base og t t2 (ρ x) (ρ y)
   | .copy,[x,y],[t,t2]=>aDS E og t t2 (ρ x) (ρ y)
   | .clear,[x],[t]=>SI E og t (ρ x)
   | .delete,[m,k],[t,_]=>KF E og t (ρ m) (ρ k)
   | _,_,_=>.no))
 | _=>.no
def nrm:aa->aa
 | .rowc k g _=>.row k g
 | .pre k g n _ sz=>.sub k g 0 n sz
 | v=>v
def aLs(E:Env)(hint:Nat)(og:Nat->ab)(t k g c:Nat)(h:aa):OR:=
 match cW E.T t,og k,h with
 | some {kind:=.slc _ esz _,..},.row g' sz e xs,.int _ n=>bif (Ax g g'&&Ax sz esz)&&Fv 1 sz then
   .idx n λ y=>(match hint with
    | 0=>.need (y<=xs.length/\0<c) (.val (.pre k g y c sz))
    | _=>.need (xs.length<=y/\y<=c) (.upd k (.row (g+1) sz e (xs++Aj (y-xs.length) (.agg (Aj sz .undef)))) (.row k (g+1))))
  else .no
 | _,_,_=>.no
def aDR(E:Env)(og:Nat->ab)(t k g:Nat)(l h m:aa):OR:=
 match cW E.T t,og k,l,h,m with
 | some {kind:=.slc _ esz _,..},.row g' sz _ xs,.int _ a,.int _ b,.int _ c=>bif Ax g g'&&Ax sz esz then
   .idx a λ x=>.idx b λ y=>.idx c λ z=>.need ((x<=y/\y<=z)/\z<=xs.length) (.val .undef)
  else .no
 | _,_,_,_,_=>.no
def WV(E:Env)(base:Nat)(og:Nat->ab)(t k g n c sz:Nat)(m:aa):OR:=
 match cW E.T t,og k,m with
 | some {kind:=.slc e esz eb,..},.row g' sz' e' xs,.int .i64 a=>(match cW E.T e with
  | some b=>bif ((Ax g g'&&Ax sz sz')&&(Ax sz esz&&Ax e e'))&&(Fv 1 esz&&DC (ah (λ_=>.dead) 4 b.zero)) then
    .idx a λ y=>.need (c<n+y/\A1 (n+y) eb) (.born (.row 0 esz e (xs.take n++Aj y (ah (λ_=>.dead) 4 b.zero))) (.row base 0))
   else .no
  | none=>.no)
 | _,_,_=>.no
def kY(E:Env)(hint base:Nat)(og:Nat->ab)(ρ:Operand->aa)(op:Op):Option OR:=
 match op with
 | .move x=>some (.val (ρ x))
 | .assign x=>(match ρ x with
  | .rowc k g c=>some (.val (.rowc k g c))
  | _=>none)
 | .slice t x none (some h) none=>(match ρ x with
  | .rowc k g c=>some (aLs E hint og t k g c (ρ h))
  | _=>none)
 | .slice t x (some l) (some h) (some m)=>(match ρ x with
  | .row k g=>some (aDR E og t k g (ρ l) (ρ h) (ρ m))
  | _=>none)
 | .call c=>(match c.callee with
  | .builtin .cap=>(match c.args.toList,c.argTypes.toList with
   | [x],[t]=>(match ρ x,cW E.T t with
    | .rowc _ _ n,some {kind:=.slc _ _ _,..}=>some (.val (.int .i64 n))
    | _,_=>none)
   | _,_=>none)
  | .builtin .append=>(match c.args.toList,c.argTypes.toList with
   | [x,y],[t,t2]=>(match ρ x,cW E.T t2 with
    | .pre k g n c sz,some {kind:=.int _,..}=>some (WV E base og t k g n c sz (ρ y))
    | _,_=>none)
   | _,_=>none)
  | _=>none)
 | _=>none
def eop(E:Env)(hint base:Nat)(og:Nat->ab)(ρ:Operand->aa)(op:Op)(ty:TypeId):OR:=
 match kY E hint base og ρ op with
 | some r=>r
 | none=>lY E hint base og (λ x=>nrm (ρ x)) op ty
def KDL(f:aa->(aa->Prop)->Prop):ay->(ay->Prop)->Prop
 | [],k=>k []
 | c::r,k=>f c λ c=>KDL f r λ r=>k (c::r)
def KD:Nat->aa->(aa->Prop)->Prop
 | 0,v,k=>k v
 | n+1,v,k=>match v with
  | .undef=>k .undef
  | .bool b=>k (.bool b)
  | .int i n=>k (.int i n)
  | .str l=>k (.str l)
  | .slice sz xs t=>(match t with | .no=>k (.slice sz xs .no) | .nil=>k (.slice sz xs .nil) | .full=>k (.slice sz xs .full) | .own a b=>k (.slice sz xs (.own a b)))
  | .agg cs=>KDL (KD n) cs λ cs=>k (.agg cs)
  | .tup cs=>KDL (KD n) cs λ cs=>k (.tup cs)
  | .ptr cs=>k (.ptr cs)
  | .ref a b=>k (.ref a b)
  | .eref a b c d e=>k (.eref a b c d e)
  | .csl a b c d=>k (.csl a b c d)
  | .row a b=>k (.row a b)
  | .sub a b c d e=>k (.sub a b c d e)
  | .rowc a b c=>k (.rowc a b c)
  | .pre a b c d e=>k (.pre a b c d e)
  | .mref a=>k (.mref a)
  | .nilptr=>k .nilptr
  | .nilslice=>k .nilslice
  | .nilmap=>k .nilmap
  | .nilfunc=>k .nilfunc
  | .nilif=>k .nilif
  | .hsl a n c=>k (.hsl a n c)
  | .func fn f cs=>k (.func fn f cs)
  | .iface t v=>KD n v λ v=>k (.iface t v)
def K9{f:aa->(aa->Prop)->Prop}(b:∀ v k,f v k=k v)(l:ay):∀ (k:ay->Prop),KDL f l k=k l:=by
 induction l with
 | nil=>intro k;rfl
 | cons c r a=>intro k;simp only [KDL,b,a]
def kT(n:Nat):∀ (v:aa) (k:aa->Prop),KD n v k=k v:=by
 induction n with
 | zero=>intro v k;rfl
 | succ n a=>
  intro v k;cases v<;>simp only [KD,K9 a,a]
  grind
def OD(x:ab)(k:ab->Prop):Prop:=
 match x with
 | .dead=>k .dead
 | .cells T cs=>KDL (KD 3) cs λ cs=>k (.cells T cs)
 | .fcells cs=>KDL (KD 3) cs λ cs=>k (.fcells cs)
 | .row g sz e xs=>k (.row g sz e xs)
 | .frow g sz xs=>k (.frow g sz xs)
 | .tail g sz e=>k (.tail g sz e)
 | .mp a es=>k (.mp a es)
 | .bun g I=>k (.bun g I)
def aEN(x:ab)(k:ab->Prop):OD x k=k x:=by cases x<;>simp only [OD,K9 (kT 3)]
def ODL:au->(au->Prop)->Prop
 | [],k=>k []
 | c::r,k=>OD c λ c=>ODL r λ r=>k (c::r)
def pW(l:au):∀ (k:au->Prop),ODL l k=k l:=by
 induction l with
 | nil=>intro k;rfl
 | cons c r a=>intro k;simp only [ODL,aEN,a]
def CR:ar->Nat->aa->(ar->Prop)->Prop
 | [],n,x,k=>k [(n,x)]
 | (i,v)::r,n,x,k=>bif Ax i n then k ((n,x)::r) else CR r n x λ r=>k ((i,v)::r)
def kW(l:ar)(n:Nat)(x:aa):∀ (k:ar->Prop),CR l n x k=k (iE l n x):=by
 induction l with
 | nil=>intro k;rfl
 | cons c r a=>intro k;obtain ⟨i,v⟩:=c;simp only [CR,iE,a];grind
def pos(k:Nat):Nat->az->Option Nat
 | _,[]=>none
 | j,x::r=>bif Ax x k then some j else pos k (j+1) r
def eZ:ab->Nat
 | .row g _ _ _=>g
 | .tail g _ _=>g
 | .bun g _=>g
 | _=>0
def gm(n0 j a g:Nat):Option Nat:=
 bif Ax g a then some (bif Ff j n0 then (bif Ax a 0 then 0 else 1) else 0) else (bif Ff j n0&&Ax g 0 then some 0 else none)
def cvtV(n0:Nat)(ks:az)(og:Nat->ab):Nat->aa->aa
 | 0,_=>.undef
 | n+1,v=>match v with
  | .slice sz xs t=>(match t with
   | .full=>.slice sz xs .full
   | .nil=>(match ks with | []=>.slice sz xs .no | _::_=>.slice sz xs .nil)
   | .own k g=>(match pos k 0 ks with
    | some j=>(match gm n0 j (eZ (og k)) g with | some g=>.slice sz xs (.own j g) | none=>.slice sz xs .no)
    | none=>.slice sz xs .no)
   | _=>.slice sz xs .no)
  | .agg cs=>.agg (dO (cvtV n0 ks og n) cs)
  | .tup cs=>.tup (dO (cvtV n0 ks og n) cs)
  | .func fn a cs=>.func fn (dO (cvtV n0 ks og n) a) (dO (cvtV n0 ks og n) cs)
  | .iface t v=>.iface t (cvtV n0 ks og n v)
  | .ref k off=>(match pos k 0 ks with
   | some j=>(match gm n0 j (eZ (og k)) 0 with | some _=>.ref j off | none=>.undef)
   | none=>ah og 1 (.ref k off))
  | .csl k off len sz=>(match pos k 0 ks with
   | some j=>(match gm n0 j (eZ (og k)) 0 with | some _=>.csl j off len sz | none=>.undef)
   | none=>ah og 1 (.csl k off len sz))
  | .row k g=>(match pos k 0 ks with
   | some j=>(match gm n0 j (eZ (og k)) g with | some g=>.row j g | none=>.undef)
   | none=>ah og 1 (.row k g))
  | .sub k g lo len sz=>(match pos k 0 ks with
   | some j=>(match gm n0 j (eZ (og k)) g with | some g=>.sub j g lo len sz | none=>.undef)
   | none=>ah og 1 (.sub k g lo len sz))
  | .mref k=>(match pos k 0 ks with | some j=>(match gm n0 j (eZ (og k)) 0 with | some _=>.mref j | none=>.undef) | none=>.undef)
  | .eref _ _ _ _ _=>.undef
  | .rowc _ _ _=>.undef
  | .pre _ _ _ _ _=>.undef
  | v=>v
def FP(n0:Nat)(ks:az)(ac:au)(j:Nat):ab->ab
 | .cells T cs=>.cells T (dO (cvtV n0 ks (aB ac) 4) cs)
 | .row g sz e xs=>.row (match gm n0 j g g with | some g=>g | none=>0) sz e xs
 | .tail g sz e=>.tail (match gm n0 j g g with | some g=>g | none=>0) sz e
 | .bun g I=>.bun (match gm n0 j g g with | some g=>g | none=>0) I
 | o=>o
def qU(n0:Nat)(ks:az)(ac:au):Nat->az->au
 | _,[]=>[]
 | j,k::r=>FP n0 ks ac j (aB ac k)::qU n0 ks ac (j+1) r
def gG(n0:Nat)(ks:az)(ac:au):au:=qU n0 ks ac 0 ks
def jD:az->au->Bool
 | [],_=>true
 | k::r,ac=>(aB ac k).owns&& !tJ k r&&jD r ac
def upto:Nat->Nat->az
 | _,0=>[]
 | j,n+1=>j::upto (j+1) n
def iY:Nat->Nat->az->Bool
 | 0,_,_=>true
 | n+1,j,k::r=>Ax k j&&iY n (j+1) r
 | _+1,_,[]=>false
def dZ(ks:az)(base j:Nat):Nat:=match nth ks j with | some k=>k | none=>base+(j-(olenN ks))
where olenN:az->Nat
 | []=>0
 | _::r=>olenN r+1
def jF(ks:az)(ac:au)(j g:Nat):Nat:=match nth ks j with | some k=>eZ (aB ac k)+g | none=>g
def embV(ks:az)(base:Nat)(ac:au):Nat->aa->aa
 | 0,_=>.undef
 | n+1,v=>match v with
  | .slice sz xs t=>(match t with
   | .own j g=>.slice sz xs (.own (dZ ks base j) (jF ks ac j g))
   | t=>.slice sz xs t)
  | .agg cs=>.agg (dO (embV ks base ac n) cs)
  | .tup cs=>.tup (dO (embV ks base ac n) cs)
  | .func fn a cs=>.func fn (dO (embV ks base ac n) a) (dO (embV ks base ac n) cs)
  | .iface t v=>.iface t (embV ks base ac n v)
  | .ref j off=>.ref (dZ ks base j) off
  | .csl j off len sz=>.csl (dZ ks base j) off len sz
  | .row j g=>.row (dZ ks base j) (jF ks ac j g)
  | .sub j g lo len sz=>.sub (dZ ks base j) (jF ks ac j g) lo len sz
  | .mref j=>.mref (dZ ks base j)
  | .eref _ _ _ _ _=>.undef
  | .rowc _ _ _=>.undef
  | .pre _ _ _ _ _=>.undef
  | v=>v
def pP(ks:az)(base:Nat)(ac:au)(j:Nat):ab->ab
 | .cells T cs=>.cells T (dO (embV ks base ac 4) cs)
 | .row g sz e xs=>.row (jF ks ac j g) sz e xs
 | .frow g sz xs=>.frow (jF ks ac j g) sz xs
 | .tail g sz e=>.tail (jF ks ac j g) sz e
 | .bun g I=>.bun (jF ks ac j g) I
 | o=>o
def gJ(ks:az)(base:Nat)(ac:au):Nat->au->au->au
 | _,[],l=>l
 | j,o::r,l=>gJ ks base ac (j+1) r (bM l (dZ ks base j) (pP ks base ac j o))
inductive Res where
 | ret (a:aa)
 | pan (a:aa)
def sE(M:Imm)(ob:Hs):Ending->Res->Prop
 | .returned v,.ret a=>Rep M ob v a
 | .panicked ch,.pan a=>∃ v,ch=[{v,recovered:=false}]/\Rep M ob v a
 | _,_=>False
def cA(M:Imm)(ob:Hs)(vs:ba)(as:ay):Prop:=
 vs.length=as.length/\∀ (i:Nat) v a,vs[i]? =some v->as[i]? =some a->Rep M ob v a
def jB(P:Program)(f:FuncId)(a:Array Value)(w:World)(R:Ending->World->Prop):Prop:=
 ((callFunc f a).run P w= .ok (.enter f a) w/\Calls P f a w R)\/∃ u w',(callFunc f a).run P w= .ok (.value u) w'/\R (.returned u) w'
def aAp(P:Program)(l:Nat)(b:Array Value)(w:World)(R:Ending->World->Prop):Prop:=
 ∃ f tmps as a,(Instr.yield l b).run P w= .ok (.round l f tmps as a) w/\RoundIn Fence.wide 0 P l f tmps as a w R
def ES:Fn->Array Value->Sem Next
 | .func f,va=>callFunc f va
 | .yield l,va=>Instr.yield l va
 | _,va=>callFunc 0 va
@[reducible] def cG(P:Program)(f:Fn)(va:Array Value)(w:World)(R:Ending->World->Prop):Prop:=
 match f with
 | .func f=>jB P f va w R
 | .yield l=>aAp P l va w R
 | _=>False
def bH(P:Program)(f:Fn)(args:ay)(ac:au)(r:Res)(ao:au):Prop:=
 ∀ M ob w a,Mem M ob ac w->cA M ob a args->
  cG P f a.toArray w λ e w'=>∃ M' ob',Ext M ob ac w M' ob' ao w'/\Mem M' ob' ao w'/\sE M' ob' e r
abbrev aA(P:Program)(f:FuncId)(args:ay)(ac:au)(r:Res)(ao:au):Prop:=bH P (.func f) args ac r ao
inductive CallG(P:Program)(f:Fn)(args:ay)(ac:au)(K:aa->au->Prop)(Kp:aa->au->Prop):Prop
 | pure (r:aa) (new:au) (h:bH P f (dO (cvtV 0 [] (aB (frzL ac args)) 5) args) [] (.ret r) new) (k:K (embV [] (aM ac) (frzL ac args) 5 r) (gJ [] (aM ac) (frzL ac args) 0 new (frzL ac args)))
 | eff (fz ks:az) (r:aa) (ao:au) (hk:jD ks (aj fz ac)=true) (h:bH P f (dO (cvtV 0 ks (aB (aj fz ac)) 5) args) (gG 0 ks (aj fz ac)) (.ret r) ao)
   (k:K (embV ks (aM (aj fz ac)) (aj fz ac) 5 r) (gJ ks (aM (aj fz ac)) (aj fz ac) 0 ao (aj fz ac)))
 | effp (fz ks:az) (r:aa) (ao:au) (hk:jD ks (aj fz ac)=true) (h:bH P f (dO (cvtV 0 ks (aB (aj fz ac)) 5) args) (gG 0 ks (aj fz ac)) (.pan r) ao)
   (k:Kp (embV ks (aM (aj fz ac)) (aj fz ac) 5 r) (gJ ks (aM (aj fz ac)) (aj fz ac) 0 ao (aj fz ac)))
 | pan (r:aa) (h:bH P f (dO (cvtV 0 [] (aB (frzL ac args)) 5) args) [] (.pan r) []) (k:Kp r (frzL ac args))
inductive CallD(P:Program)(f:Fn)(args:ay)(so:Bool)(seen:au)(base:Nat)(ac:au)(K:aa->au->Prop)(Kp:aa->au->Prop):Prop
 | pure (r:aa) (new:au) (h:bH P f (dO (cvtV 0 [] (aB seen) 5) args) [] (.ret r) new) (k:K (embV [] base seen 5 r) (gJ [] base seen 0 new ac)):CallD P f args so seen base ac K Kp
 | sole (h:so=true) (h:CallG P f args ac K Kp):CallD P f args so seen base ac K Kp
 | look (ks:az) (r:aa) (ao:au) (hk:jD ks seen=true) (hl:ao.length=ks.length) (h:bH P f (dO (cvtV 0 ks (aB seen) 5) args) (gG 0 ks seen) (.ret r) ao) (hi:∀ b,gJ ks b seen 0 ao seen=seen) (hz:∀ b,embV ks b seen 5 r=r) (k:K r ac):CallD P f args so seen base ac K Kp
def orF(P:Program)(ac:au)(K:aa->au->Prop)(Kp:aa->au->Prop):OR->Prop
 | .no=>False
 | .val v=>K v ac
 | .mkf fn d cs=>K (.func fn d cs) ac
 | .need p r=>p/\orF P ac K Kp r
 | .alt p v w=>(p/\K v ac)\/K w ac
 | .idx n f=>∃ i:Nat,n=(i:Int)/\orF P ac K Kp (f i)
 | .elem xs i f=>∃ x,xs[i]? =some x/\orF P ac K Kp (f x)
 | .byte l i=>∃ c,l[i]? =some c/\K (.int .u8 (c.toNat:Int)) ac
 | .text xs=>∃ l:ax,xs=l.map ub/\(l.length:Int)<=9223372036854775807/\K (.str l) ac
 | .find es key f=>∃ o,bR es key=o/\orF P ac K Kp (f o)
 | .born x v=>K v (bM ac (aM ac) x)
 | .upd k x v=>K v (bM ac k x)
 | .nilq xs a=>∀ b:Bool,(b=true->xs=[])->K (.bool (if a then !b else b)) ac
 | .call f args=>CallG P f args ac K Kp
 | .pan v=>Kp v ac
def nd:ab->Bool
 | .dead=>false
 | _=>true
def orD(P:Program)(d e bl:Bool)(a ac:au)(base:Nat)(K:aa->au->Prop)(Kp:aa->au->Prop):OR->Prop
 | .val v=>K v ac
 | .mkf fn h cs=>K (.func fn h cs) ac
 | .need p r=>p/\orD P d e bl a ac base K Kp r
 | .alt p v w=>(p/\K v ac)\/K w ac
 | .idx n f=>∃ i:Nat,n=(i:Int)/\orD P d e bl a ac base K Kp (f i)
 | .elem xs i f=>∃ x,xs[i]? =some x/\orD P d e bl a ac base K Kp (f x)
 | .byte l i=>∃ c,l[i]? =some c/\K (.int .u8 (c.toNat:Int)) ac
 | .text xs=>∃ l:ax,xs=l.map ub/\(l.length:Int)<=9223372036854775807/\K (.str l) ac
 | .find es key f=>∃ o,bR es key=o/\orD P d e bl a ac base K Kp (f o)
 | .born x v=>(match bl with | true=>False | false=>K v (bM ac base x))
 | .upd k x v=>(match (d||(e&&nd (aB a k))) with | true=>K v (bM ac k x) | false=>False)
 | .nilq xs g=>(match d with | true=>∀ b:Bool,(b=true->xs=[])->K (.bool (if g then !b else b)) ac | false=>False)
 | .call f args=>(match bl with | true=>False | false=>CallD P f args d a base ac K Kp)
 | .pan v=>(match d with | true=>Kp v ac | false=>False)
 | .no=>False
def cH(all:bb)(ρ:Operand->aa)(g:Option (Nat×Bool)):Option Bool:=
 match g with
 | none=>some true
 | some (j,want)=>match nth all j with
  | some p=>match p.dst with
   | some d=>match ρ (.tmp d) with
    | .bool b=>some (b==want)
    | .tup []=>some false
    | _=>none
   | none=>none
  | none=>none
def wQ(n:Nat):bb->Bool
 | []=>false
 | o::r=>(match o.guard with | some (j,_)=>Ax j n | none=>false)||wQ n r
def dG(E:Env):Option Nat->Nat
 | none=>0
 | some d=>bif tJ d E.own then (bif tJ d E.rws then 3 else 1) else bif tJ d E.rws then 2 else 0
def kV(fr:ar):Option Nat->aa->ar
 | none,_=>fr
 | some d,v=>iE fr d v
def wrP(rest:bb)(n:Nat)(d:Option Nat)(fr:ar)(v:aa)(k:ar->Prop):Prop:=
 match d with
 | none=>k fr
 | some d=>bif wQ n rest then (match v with
   | .bool b=>(b=true->k (iE fr d (.bool true)))/\(b=false->k (iE fr d (.bool false)))
   | _=>False)
  else k (iE fr d v)
def eX(E:Env)(all:bb)(K:ar->au->Prop)(Kp:(Nat->aa)->aa->au->Prop):Nat->bb->ar->au->Prop
 | _,[],fr,ac=>K fr ac
 | n,p::rest,fr,ac=>match cH all (ev fr) p.guard with
  | none=>False
  | some false=>eX E all K Kp (n+1) rest (kV fr p.dst (.tup [])) ac
  | some true=>orF E.P ac (λ v ac=>wrP rest n p.dst fr v λ fr=>eX E all K Kp (n+1) rest fr ac) (Kp (aW fr))
    (eop E (dG E p.dst) (aM ac) (aB ac) (ev fr) p.op p.type)
def iF(p:Oper):az:=(p.after.toList.filter (Jo .any)).map (·.on)
def cL(m i:Nat):Bool:=Ax (Nat.land (Nat.shiftRight m i) 1) 1
def cR:az->Nat->Nat
 | [],_=>0
 | x::_,0=>x
 | _::r,n+1=>cR r n
def jJ(tab:az):az->Nat
 | []=>0
 | i::r=>Nk (Nk (Nat.shiftLeft 1 i) (cR tab i)) (jJ tab r)
def gS:az->bb->az
 | tab,[]=>tab
 | tab,p::r=>gS (tab++[jJ tab (iF p)]) r
def aMF(n:Nat)(k:Nat->Prop):Prop:=match n with | 0=>k 0 | m+1=>k (m+1)
def aGM(n:Nat)(k:Nat->Prop):aMF n k=k n:=by cases n<;>rfl
def UL:az->Nat->(az->Prop)->Prop
 | [],m,k=>k [m]
 | x::r,m,k=>UL r m λ r=>k (x::r)
def aBb(l:az)(m:Nat):∀ (k:az->Prop),UL l m k=k (l++[m]):=by
 induction l with
 | nil=>intro k;rfl
 | cons x r a=>intro k;simp only [UL,a,Ce]
def XH:az->bb->(az->Prop)->Prop
 | tab,[],k=>k tab
 | tab,p::r,k=>aMF (jJ tab (iF p)) λ m=>UL tab m λ tab=>XH tab r k
def aEz(l:bb):∀ (tab:az) (k:az->Prop),XH tab l k=k (gS tab l):=by
 induction l with
 | nil=>intro tab k;rfl
 | cons p r a=>intro tab k;simp only [XH,gS,aGM,aBb,a]
def loose(tab:az)(i j:Nat):Bool:=!Ax i j&& !cL (cR tab j) i&& !cL (cR tab i) j
def OA(tab:az)(j t:Nat):Nat->bb->Bool
 | _,[]=>false
 | i,p::r=>(match p.dst with | some d=>Ax d t&&loose tab i j | none=>false)||OA tab j t (i+1) r
def evH(tab:az)(all:bb)(j:Nat)(fr:ar):Operand->aa
 | .tmp t=>bif OA tab j t 0 all then .undef else aW fr t
 | x=>ev fr x
def qI:az->au->au
 | [],ac=>ac
 | k::r,ac=>qI r (bM ac k .dead)
def FL(tab:az)(j:Nat):List (Nat×Nat)->az
 | []=>[]
 | (i,k)::r=>bif cL (cR tab j) i then FL tab j r else k::FL tab j r
def sole(tab:az)(j:Nat):Nat->bb->Bool
 | _,[]=>true
 | i,_::r=>!loose tab i j&&sole tab j (i+1) r
def blD(E:Env):Option Nat->Bool
 | none=>false
 | some d=>tJ d E.bl
def F8(E:Env)(tab:az)(j:Nat):Nat->bb->Bool
 | _,[]=>true
 | i,p::r=>(!loose tab i j||blD E p.dst)&&F8 E tab j (i+1) r
def soN(E:Env)(tab:az)(all:bb)(n:Nat)(d:Option Nat):Bool:=sole tab n 0 all&& !blD E d
def uoN(E:Env)(tab:az)(all:bb)(n:Nat)(d:Option Nat):Bool:=F8 E tab n 0 all&& !blD E d
def pY(E:Env)(tab:az)(n:Nat)(br:List (Nat×Nat))(ac:au)(d:Option Nat):au:=bif blD E d then [] else qI (FL tab n br) ac
def born(j base:Nat):au->List (Nat×Nat)->List (Nat×Nat)
 | [],br=>br
 | _::r,br=>(j,base)::born j (base+1) r br
def iH:Nat->au->au
 | 0,l=>l
 | _+1,[]=>[]
 | n+1,_::l=>iH n l
def iV(E:Env)(all:bb)(tab:az)(K:ar->au->Prop)(Kp:(Nat->aa)->aa->au->Prop):Nat->bb->List (Nat×Nat)->ar->au->Prop
 | _,[],_,fr,ac=>K fr ac
 | n,p::rest,br,fr,ac=>
  match cH all (evH tab all n fr) p.guard with
  | none=>False
  | some false=>iV E all tab K Kp (n+1) rest br (kV fr p.dst (.tup [])) ac
  | some true=>orD E.P (soN E tab all n p.dst) (uoN E tab all n p.dst) (blD E p.dst) (pY E tab n br ac p.dst) ac (aM ac) (λ v ao=>wrP rest n p.dst fr v λ fr=>iV E all tab K Kp (n+1) rest (born n (aM ac) (iH (aM ac) ao) br) fr ao) (Kp (aW fr))
     (eop E (dG E p.dst) (aM ac) (aB (pY E tab n br ac p.dst)) (evH tab all n fr) p.op p.type)
inductive KI where
 | code (c:Code) | inB (id:Nat) | inL (c:Code) | beginR
abbrev _root_.bf:=List KI
def EB(id:Nat):bf->Option bf
 | []=>none
 | .inB i::r=>bif Ax i id then some r else EB id r
 | _::r=>EB id r
inductive Goal where
 | pure (r:Res)
 | full (n0:Nat) (r:Res) (ao:au)
 | keep (n0:Nat) (r:Res) (ao:au)
def aKe(E:Env)(ac:au)(fr:ar):ResultVar->Option aa
 | .tmp t=>some (aW fr t)
 | .cell t ty=>match cW E.T ty,aW fr t with
  | some ti,.ref k off=>match aB ac k with
   | .cells _ cs=>match lZ ti.size (kR off cs) with | some l=>mk ti l | none=>none
   | _=>none
  | _,_=>none
def aBA(E:Env)(ac:au)(fr:ar):List ResultVar->Option ay
 | []=>some []
 | r::rs=>match aKe E ac fr r,aBA E ac fr rs with
  | some v,some vs=>some (v::vs)
  | _,_=>none
def aBB(E:Env)(ac:au)(a:List ResultVar)(fr:ar):Option aa:=
 match aBA E ac fr a with
 | some [v]=>some v
 | some vs=>some (.tup vs)
 | none=>none
def aND(n:Nat):Tk->Bool
 | .own k _=>Ff k n
 | _=>true
def EV(f:aa->Bool):ay->Bool
 | []=>true
 | c::r=>f c&&EV f r
def bel(n:Nat):Nat->aa->Bool
 | 0,_=>false
 | m+1,a=>match a with
  | .slice _ _ t=>aND n t
  | .agg cs=>EV (bel n m) cs
  | .tup cs=>EV (bel n m) cs
  | .ref k _=>Ff k n
  | .eref k _ _ _ _=>Ff k n
  | .csl k _ _ _=>Ff k n
  | .row k _=>Ff k n
  | .sub k _ _ _ _=>Ff k n
  | .rowc k _ _=>Ff k n
  | .pre k _ _ _ _=>Ff k n
  | .mref k=>Ff k n
  | .func _ b cs=>EV (bel n m) b&&EV (bel n m) cs
  | .iface _ v=>bel n m v
  | _=>true
def FR(n:Nat):au->Bool
 | []=>true
 | .cells _ cs::r=>EV (bel n 5) cs&&FR n r
 | _::r=>FR n r
def aEx(n:Nat):ar->Bool
 | []=>true
 | (_,v)::r=>bel n 5 v&&aEx n r
def nZ:Nat->au->au
 | 0,_=>[]
 | _+1,[]=>[]
 | n+1,x::r=>x::nZ n r
def OX(g:Goal)(a:aa->Res)(v:aa)(ac:au):Prop:=
 match g with
 | .pure r=>a (cvtV 0 [] (aB (frzL ac [v])) 5 v)=r
 | .full n0 r ao=>∃ b ks,(jD ks (aj b ac)=true/\iY n0 0 ks=true)/\a (cvtV n0 ks (aB (aj b ac)) 5 v)=r/\gG n0 ks (aj b ac)=ao
 | .keep n0 r ao=>(bel n0 5 v=true/\FR n0 (nZ n0 ac)=true)/\a v=r/\nZ n0 ac=ao
def Goal.n0:Goal->Nat
 | .pure _=>0
 | .full n _ _=>n
 | .keep n _ _=>n
def dA(fn:Func):Code:=fn.body.getD .skip
def CG:Nat->Code->bf->bf ⊕ Nat
 | n,.seq a b,ks=>match CG n a (.code b::ks) with | .inl r=>.inl r | .inr n=>CG n b ks
 | n,.cond _ a b,ks=>match CG n a ks with | .inl r=>.inl r | .inr n=>CG n b ks
 | n,.block id b,ks=>CG n b (.inB id::ks)
 | 0,.loop b,ks=>.inl (.code b:: .inL b::ks)
 | n+1,.loop b,ks=>CG n b (.inL b::ks)
 | n,_,_=>.inr n
def stk(fn:Func)(n:Nat):bf:=match CG n (dA fn) [] with | .inl r=>r | .inr _=>[]
def frA:Nat->ay->ar
 | _,[]=>[]
 | n,a::r=>(n,a)::frA (n+1) r
def lM:az->ar->ar
 | [],_=>[]
 | t::r,fr=>(t,aW fr t)::lM r fr
structure RI where
 all:bb
 dr:Bool
 tab:az
 ks:bf
inductive St where
 | code (ks:bf) (fr:ar) (ac:au)
 | head (ks:bf) (fr:ar) (ac:au)
 | mid (R:RI) (n:Nat) (rest:bb) (br:List (Nat×Nat)) (fr:ar) (ac:au)
 | pend (R:RI) (n:Nat) (d:Option Nat) (rest:bb) (br:List (Nat×Nat)) (fr:ar) (ac:au) (r:OR)
 | got (R:RI) (n:Nat) (d:Option Nat) (rest:bb) (br:List (Nat×Nat)) (fr:ar) (len:Nat) (ac:au) (v:aa)
 | leave (p:Option aa) (fr:ar) (ac:au)
def aDK(g:Goal)(a:aa->Res)(v:aa)(ac:au):Prop:=
 match g with
 | .pure r=>KD 5 (cvtV 0 [] (aB (frzL ac [v])) 5 v) λ y=>a y=r
 | .full n0 r ao=>∃ b ks,(jD ks (aj b ac)=true/\iY n0 0 ks=true)/\KD 5 (cvtV n0 ks (aB (aj b ac)) 5 v) λ y=>ODL (gG n0 ks (aj b ac)) λ os=>a y=r/\os=ao
 | .keep n0 r ao=>(bel n0 5 v=true/\FR n0 (nZ n0 ac)=true)/\ODL (nZ n0 ac) λ os=>a v=r/\os=ao
def KC(g:Goal)(a:aa->Res)(v:aa)(ac:au):aDK g a v ac=OX g a v ac:=by cases g<;>simp only [aDK,OX,kT,pW]
def aKt(E:Env)(g:Goal)(J:St->Prop)(fr:ar)(v:aa)(ac:au):Prop:=match E.rd with
 | some _=>False
 | none=>match E.df with
  | []=>OX g .pan v ac
  | _::_=>J (.leave (some v) fr ac)
def aGa(E:Env)(fn:Func)(g:Goal)(J:St->Prop)(b:Bool)(fr:ar)(ac:au):Prop:=match E.rd with
 | some _=>aDK g .ret (.bool b) ac
 | none=>match E.df with
  | []=>(match aBB E ac fn.results.toList fr with | some v=>KD 5 v λ v=>aDK g .ret v ac | none=>False)
  | _::_=>J (.leave none fr ac)
def aMO:bb->Bool
 | [p]=>(match p.op with | .defer _=>true | _=>false)
 | _=>false
def bS(E:Env)(fn:Func)(g:Goal)(J:St->Prop):Nat->St->Prop
 | 0,s=>J s
 | n+1,.head ks fr ac=>bS E fn g J n (.code ks fr ac)
 | _+1,.leave p fr ac=>J (.leave p fr ac)
 | _+1,.code [] fr ac=>aGa E fn g J true fr ac
 | n+1,.code (k::ks) fr ac=>(match k with
  | .inB _=>bS E fn g J n (.code ks fr ac)
  | .inL b=>J (.head (.code b:: .inL b::ks) fr ac)
  | .beginR=>J (.code (.beginR::ks) fr ac)
  | .code q=>match q with
   | .skip=>bS E fn g J n (.code ks fr ac)
   | .seq a b=>bS E fn g J n (.code (.code a:: .code b::ks) fr ac)
   | .block id b=>bS E fn g J n (.code (.code b:: .inB id::ks) fr ac)
   | .loop b=>J (.head (.code b:: .inL b::ks) fr ac)
   | .exit id=>(match EB id ks with
    | some ks=>bS E fn g J n (.code ks fr ac)
    | none=>False)
   | .ret=>aGa E fn g J false fr ac
   | .rangeFunc x u as t=>J (.code (.code (.rangeFunc x u as t)::ks) fr ac)
   | .cond x a b=>(match ev fr x with
    | .bool p=>(p=true->J (.code (.code a::ks) fr ac))/\(p=false->J (.code (.code b::ks) fr ac))
    | _=>False)
   | .region id ops dr=>(match aMO ops.toList with
    | true=>J (.code (.code (.region id ops dr)::ks) fr ac)
    | false=>(match dr with
     | false=>bS E fn g J n (.mid ⟨ops.toList,false,[],ks⟩ 0 ops.toList [] fr ac)
     | true=>XH [] ops.toList λ tab=>bS E fn g J n (.mid ⟨ops.toList,true,tab,ks⟩ 0 ops.toList [] fr ac)))
   | _=>False)
 | n+1,.mid R _ [] _ fr ac=>bS E fn g J n (.code R.ks fr ac)
 | n+1,.mid R i (p::rest) br fr ac=>(match R.dr with
  | false=>(match cH R.all (ev fr) p.guard with
   | none=>False
   | some false=>(match p.dst with | none=>bS E fn g J n (.mid R (i+1) rest br fr ac) | some d=>CR fr d (.tup []) λ fr=>bS E fn g J n (.mid R (i+1) rest br fr ac))
   | some true=>bS E fn g J n (.pend R i p.dst rest br fr ac (eop E (dG E p.dst) (aM ac) (aB ac) (ev fr) p.op p.type)))
  | true=>(match cH R.all (evH R.tab R.all i fr) p.guard with
   | none=>False
   | some false=>(match p.dst with | none=>bS E fn g J n (.mid R (i+1) rest br fr ac) | some d=>CR fr d (.tup []) λ fr=>bS E fn g J n (.mid R (i+1) rest br fr ac))
   | some true=>ODL (pY E R.tab i br ac p.dst) λ e=>bS E fn g J n (.pend R i p.dst rest br fr ac (eop E (dG E p.dst) (aM ac) (aB e) (evH R.tab R.all i fr) p.op p.type))))
 | n+1,.pend R i d rest br fr ac r=>(match r with
  | .no=>False
  | .val v=>KD 4 v λ v=>bS E fn g J n (.got R i d rest br fr (aM ac) ac v)
  | .mkf f j cs=>KDL (KD 3) j λ j=>KDL (KD 3) cs λ cs=>bS E fn g J n (.got R i d rest br fr (aM ac) ac (.func f j cs))
  | .need p r=>p/\J (.pend R i d rest br fr ac r)
  | .alt p v w=>(p/\J (.got R i d rest br fr (aM ac) ac v))\/J (.got R i d rest br fr (aM ac) ac w)
  | .idx m f=>∃ x:Nat,m=(x:Int)/\J (.pend R i d rest br fr ac (f x))
  | .elem xs m f=>∃ x,xs[m]? =some x/\J (.pend R i d rest br fr ac (f x))
  | .byte l m=>∃ c,l[m]? =some c/\J (.got R i d rest br fr (aM ac) ac (.int .u8 (c.toNat:Int)))
  | .text xs=>∃ l:ax,xs=l.map ub/\(l.length:Int)<=9223372036854775807/\J (.got R i d rest br fr (aM ac) ac (.str l))
  | .find es key f=>∃ o,bR es key=o/\J (.pend R i d rest br fr ac (f o))
  | .born x v=>(match (R.dr&&blD E d) with
   | true=>False
   | false=>OD x λ x=>ODL (bM ac (aM ac) x) λ ao=>KD 4 v λ v=>bS E fn g J n (.got R i d rest br fr (aM ac) ao v))
  | .upd k x v=>(match (!R.dr||(soN E R.tab R.all i d||(uoN E R.tab R.all i d&&nd (aB (pY E R.tab i br ac d) k)))) with
   | true=>OD x λ x=>ODL (bM ac k x) λ ao=>KD 4 v λ v=>bS E fn g J n (.got R i d rest br fr (aM ac) ao v)
   | false=>False)
  | .nilq xs h=>(match (!R.dr||soN E R.tab R.all i d) with
   | true=>∀ b:Bool,(b=true->xs=[])->J (.got R i d rest br fr (aM ac) ac (.bool (if h then !b else b)))
   | false=>False)
  | .call f args=>KDL (KD 5) args λ args=>(match R.dr with
   | false=>CallG E.P f args ac (λ v ao=>J (.got R i d rest br fr (aM ac) ao v)) (aKt E g J fr)
   | true=>match blD E d with
    | true=>False
    | false=>ODL (pY E R.tab i br ac d) λ e=>CallD E.P f args (soN E R.tab R.all i d) e (aM ac) ac (λ v ao=>J (.got R i d rest br fr (aM ac) ao v)) (aKt E g J fr))
  | .pan v=>(match (!R.dr||soN E R.tab R.all i d) with
   | true=>KD 5 v λ v=>(match E.rd with | some _=>False | none=>match E.df with | []=>aDK g .pan v ac | _::_=>J (.leave (some v) fr ac))
   | false=>False))
 | n+1,.got R i d rest br fr len ac v=>KD 4 v λ v=>ODL ac λ ac=>(match d with
  | none=>bS E fn g J n (.mid R (i+1) rest (bif R.dr then born i len (iH len ac) br else br) fr ac)
  | some d=>bif wQ i rest then (match v with
    | .bool b=>(b=true->CR fr d (.bool true) λ fr=>J (.mid R (i+1) rest (bif R.dr then born i len (iH len ac) br else br) fr ac))/\
      (b=false->CR fr d (.bool false) λ fr=>J (.mid R (i+1) rest (bif R.dr then born i len (iH len ac) br else br) fr ac))
    | _=>False)
   else CR fr d v λ fr=>bS E fn g J n (.mid R (i+1) rest (bif R.dr then born i len (iH len ac) br else br) fr ac))
def ET{i n:Nat}(h:¬ i=n):Ax i n=false:=by
 cases a:Ax i n with
 | false=>rfl
 | true=>simp_all
def aC{i n:Nat}(h:Ax i n=true):i=n:=Nat.eq_of_beq_eq_true h
def aV{a b:Bool}(h:(a&&b)=true):a=true/\b=true:=by grind
def bJ(l:au):aM l=l.length:=by
 induction l with
 | nil=>rfl
 | cons x r a=>simp [aM,a]
def oB{l:au}:∀ {n:Nat},n<l.length->l[n]? =some (aB l n):=by
 induction l with
 | nil=>simp
 | cons x r a=>intro n h;cases n with
  | zero=>rfl
  | succ n=>simpa [aB] using a (n:=n) (by grind)
def bF{l:au}:∀ {n:Nat} {x:ab},aB l n=x->x≠ .dead->l[n]? =some x:=by
 induction l with
 | nil=>intro n x h a;exact absurd h.symm (by simpa [aB] using a)
 | cons y r b=>intro n x h a;cases n with
  | zero=>simpa [aB] using h
  | succ n=>simpa using b (n:=n) h a
def gH{l:au}:∀ {n:Nat} {x:ab},l[n]? =some x->aB l n=x:=by
 induction l with
 | nil=>simp
 | cons y r a=>intro n x h;cases n with
  | zero=>simpa [aB] using h
  | succ n=>exact a (n:=n) (by simp_all)
def fY{l:au}:∀ {n:Nat} (x:ab),n<l.length->bM l n x=l.set n x:=by
 induction l with
 | nil=>simp
 | cons y r a=>intro n x h;cases n with
  | zero=>rfl
  | succ n=>simp only [bM,List.set_cons_succ];grind
def NA(l:au)(x:ab):bM l l.length x=l++[x]:=by
 induction l with
 | nil=>rfl
 | cons y r a=>simp [bM,a]
def mB(n:Nat):∀ (l:ay),kR n l=l.drop n:=by
 induction n with
 | zero=>intro l;rfl
 | succ n a=>intro l;cases l with
  | nil=>rfl
  | cons c r=>simpa [kR] using a r
def jP{n:Nat}:∀ {l r:ay},lZ n l=some r->r.length=n/\∀ (i:Nat) c,r[i]? =some c->l[i]? =some c:=by
 induction n with
 | zero=>intro l r h;cases h;simp
 | succ n f=>
  intro l r h;cases l with
  | nil=>cases h
  | cons c l=>
   simp only [lZ] at h;split at h
   .rename_i g e;cases h;obtain ⟨h1,b⟩:=f e;refine ⟨by simp [h1],λ i d a=>?_⟩;cases i with
    | zero=>simpa using a
    | succ i=>simpa using b i d (by simpa using a)
   .cases h
def Z5:∀ {new l r:ay},S2 new l=some r->new.length<=l.length/\r.length=l.length/\∀ (i:Nat),r[i]? =if i<new.length then new[i]? else l[i]?:=by
 intro new;induction new with
 | nil=>intro l r h;cases h;simp
 | cons c new b=>
  intro l r h;cases l with
  | nil=>cases h
  | cons d l=>
   simp only [S2] at h;split at h
   .rename_i x e;cases h;obtain ⟨h1,a,h3⟩:=b e;refine ⟨by simp;omega,by simp [a],λ i=>?_⟩;cases i with
    | zero=>simp
    | succ i=>simpa using h3 i
   .cases h
def kL{off:Nat}:∀ {new l r:ay},nL off new l=some r->off+new.length<=l.length/\r.length=l.length/\∀ (i:Nat),r[i]? =if off<=i/\i<off+new.length then new[i-off]? else l[i]?:=by
 induction off with
 | zero=>
  intro new l r h;obtain ⟨h1,a,h3⟩:=Z5 (show S2 new l=some r by cases l<;>exact h)
  grind
 | succ n d=>
  intro new l r h;cases l with
  | nil=>cases h
  | cons c l=>
   simp only [nL] at h;split at h
   .rename_i x e;cases h;obtain ⟨h1,a,h3⟩:=d e;refine ⟨by simp;omega,by simp [a],λ i=>?_⟩;cases i with
    | zero=>simp
    | succ i=>
     simp only [Fu,h3 i];by_cases b:n<=i/\i<n+new.length
     .rw [if_pos b,if_pos ⟨by omega,by omega⟩];simp
     .rw [if_neg b,if_neg o_]
   .cases h
def xJ(l:ay):PF l=l.length:=by
 induction l with
 | nil=>rfl
 | cons c r a=>simp [PF,a]
def nH{α:Type}(l:List α):∀ (n:Nat),nth l n=l[n]?:=by
 induction l with
 | nil=>intro n;rfl
 | cons x r a=>intro n;cases n with
  | zero=>rfl
  | succ n=>simpa [nth] using a n
def gX{α:Type}{l:List α}{n:Nat}{x:α}(h:nth l n=some x):l[n]? =some x:=by rw [<-nH];exact h
def KY(a b:ay):aAj a b=a++b:=by
 induction a with
 | nil=>rfl
 | cons c r d=>simp [aAj,d]
def wK(f:aa->aa)(l:ay):dO f l=l.map f:=by
 induction l with
 | nil=>rfl
 | cons c r a=>simp [dO,a]
def lQ{n:Nat}:∀ {l:az},tJ n l=true↔n∈l
 | []=>by simp [tJ]
 | x::r=>by
  simp only [tJ,Fb,lQ (l:=r),Aw];constructor
  .rintro (h | h)
   .simp_all
   grind
  .rintro (h | h)
   .simp_all
   grind
def oI(fr:ar)(n m:Nat)(x:aa):aW (iE fr n x) m=if m=n then x else aW fr m:=by
 induction fr with
 | nil=>
  simp only [iE,aW];by_cases h:m=n
  .simp_all
  .rw [ET (λ e=>h e.symm),if_neg h];rfl
 | cons p r b=>
  obtain ⟨i,v⟩:=p;simp only [iE];cases a:Ax i n with
  | true=>
   have:=aC a;subst this;simp only [cond_true,aW];by_cases h:m=i
   .grind
   .rw [ET (λ e=>h e.symm),if_neg h];rfl
  | false=>
   simp only [cond_false,aW,b]
   grind
def bB(b o j:Nat):(⟨b,o,none⟩:Addr).add j=⟨b,o+j,none⟩:=by unfold Addr.add;simp
def eW{α:Type}{b:Bool}{x:Option α}{r:α}(h:(bif b then x else none)=some r):b=true/\x=some r:=by grind
section
variable {M:Imm} {ob:Hs} {ac:au} {w:World}
def Rep.int_inv{v:Value}{k:IntKind}{n:Int}(h:Rep M ob v (.int k n)):v= .int k n/\inR k n:=by cases h with | int _ _ h=>grind
def Rep.bool_inv{v:Value}{b:Bool}(h:Rep M ob v (.bool b)):v= .bool b:=by cases h;rfl
def Rep.str_inv{v:Value}{l:ax}(h:Rep M ob v (.str l)):v= .string ⟨l.toArray⟩/\(l.length:Int)<=9223372036854775807:=by cases h with | str _ h=>grind
def Rep.agg_inv{v:Value}{as:ay}(h:Rep M ob v (.agg as)):∃ vs:ba,v= .agg vs.toArray/\vs.length=as.length/\∀ (i:Nat) u a,vs[i]? =some u->as[i]? =some a->Rep M ob u a:=by cases h with | agg vs as hl h=>grind
def Rep.tup_inv{v:Value}{as:ay}(h:Rep M ob v (.tup as)):∃ vs:ba,v= .tuple vs.toArray/\vs.length=as.length/\∀ (i:Nat) u a,vs[i]? =some u->as[i]? =some a->Rep M ob u a:=by cases h with | tup vs as hl h=>grind
def Rep.ptr_inv{v:Value}{cs:ay}(h:Rep M ob v (.ptr cs)):∃ b o,v= .pointer (some ⟨b,o,none⟩)/\∀ (j:Nat) c,cs[j]? =some c->M b (o+j) c:=by cases h with | ptr b o cs h=>grind
def Rep.ref_inv{v:Value}{k off:Nat}(h:Rep M ob v (.ref k off)):∃ b,v= .pointer (some ⟨b,off,none⟩)/\at' ob k 0=some (.pointer (some ⟨b,0,none⟩)):=by cases h with | ref k off b h=>grind
def Rep.iface_inv{v:Value}{t:TypeId}{a:aa}(h:Rep M ob v (.iface t a)):∃ u,v= .iface t u/\Rep M ob u a:=by cases h with | iface _ v _ h=>grind
def Rep.row_inv{v:Value}{k g:Nat}(h:Rep M ob v (.row k g)):∃ a n c,v= .slice a n c/\at' ob k g=some (.slice a n c):=by cases h with | row _ _ a n c h=>grind
def Rep.untok{v:Value}{sz:Nat}{xs:ay}{t:Tk}(h:Rep M ob v (.slice sz xs t)):Rep M ob v (.slice sz xs .no)/\tK ob v t:=by
 cases h with
 | slnil sz t c=>exact ⟨.slnil sz .no trivial,c⟩
 | slemp sz t a cap c=>exact ⟨.slemp sz .no a cap trivial,c⟩
 | sl sz b o n cap xs t d e hm hz h c=>exact ⟨.sl sz b o n cap xs .no d e hm hz h trivial,c⟩
def Rep.tok{v:Value}{sz:Nat}{xs:ay}{t:Tk}(h:Rep M ob v (.slice sz xs .no))(c:tK ob v t):Rep M ob v (.slice sz xs t):=by
 cases h with
 | slnil sz _=>exact .slnil sz t c
 | slemp sz _ a cap _=>exact .slemp sz t a cap c
 | sl sz b o n cap xs _ d e hm hz h _=>exact .sl sz b o n cap xs t d e hm hz h c
def Rep.slice_pure{v:Value}{sz:Nat}{xs:ay}(h:Rep M ob v (.slice sz xs .no)):Rep M [] v (.slice sz xs .no):=by
 cases h with
 | slnil sz _=>exact .slnil sz .no trivial
 | slemp sz _ a cap _=>exact .slemp sz .no a cap trivial
 | sl sz b o n cap xs _ c d hm hz h _=>exact .sl sz b o n cap xs .no c d hm hz h trivial
def Rep.slice_inv{v:Value}{sz:Nat}{xs:ay}{t:Tk}(h:Rep M ob v (.slice sz xs t)):∃ a c,v= .slice a xs.length c/\(a=none->xs=[]/\c=0)/\(xs≠[]->xs.length<=c)/\(xs.length:Int)<=9223372036854775807:=by
 cases h with
 | slnil sz t d=>grind
 | slemp sz t a cap d=>grind
 | sl sz b o n cap xs t e f hm hz h d=>subst e;exact ⟨_,cap,rfl,λ h=>(by cases h),λ_=>f,hm⟩
def Rep.sl_inv{v:Value}{sz:Nat}{xs:ay}{t:Tk}(h:Rep M ob v (.slice sz xs t)):(v= .slice none 0 0/\xs=[])\/(∃ a cap,v= .slice (some a) 0 cap/\xs=[])\/
  ∃ b o cap,v= .slice (some ⟨b,o,none⟩) xs.length cap/\xs.length<=cap/\(xs.length:Int)<=9223372036854775807/\(∀ x∈xs,x.cells.length=sz)/\∀ (i j:Nat) x c,xs[i]? =some x->x.cells[j]? =some c->M b (o+i*sz+j) c:=by
 cases h with
 | slnil sz t d=>simp
 | slemp sz t a cap d=>exact .inr (.inl ⟨a,cap,rfl,rfl⟩)
 | sl sz b o n cap xs t e f hm hz h d=>subst e;exact .inr (.inr ⟨b,o,cap,rfl,f,hm,hz,h⟩)
def Rep.cells{v:Value}{a:aa}(h:Rep M ob v a)(m:a≠ .undef):v.cells.toList.length=a.cells.length/\∀ (i:Nat) u c,v.cells.toList[i]? =some u->a.cells[i]? =some c->Rep M ob u c:=by
 have d:∀ {v:Value} {a:aa},Rep M ob v a->v.cells= #[v]->a.cells=[a]->v.cells.toList.length=a.cells.length/\∀ (i:Nat) u c,v.cells.toList[i]? =some u->a.cells[i]? =some c->Rep M ob u c:=by
  intro v a h p y;rw [p,y];refine ⟨rfl,λ i u c m e=>?_⟩;cases i with
  | zero=>grind
  | succ i=>simp at m
 cases h with
 | undef v=>exact absurd rfl m
 | agg vs as hl h=>exact ⟨by simpa [Value.cells,aa.cells] using hl,λ i u c m e=>h i u c (by simpa [Value.cells] using m) (by simpa [aa.cells] using e)⟩
 | row k g a n c h=>exact d (.row k g a n c h) rfl rfl
 | bool b=>exact d (.bool b) rfl rfl
 | int k n r=>exact d (.int k n r) rfl rfl
 | str l hl=>exact d (.str l hl) rfl rfl
 | tup vs as hl h=>exact d (.tup vs as hl h) rfl rfl
 | ptr b o cs h=>exact d (.ptr b o cs h) rfl rfl
 | ref k off b h=>exact d (.ref k off b h) rfl rfl
 | eref k g i sz off b n c h=>exact d (.eref k g i sz off b n c h) rfl rfl
 | csl k off len sz b h hm=>exact d (.csl k off len sz b h hm) rfl rfl
 | sub k g lo len sz b n c h hl f e hm=>exact d (.sub k g lo len sz b n c h hl f e hm) rfl rfl
 | sub0 k g lo sz a A n c h hl e=>exact d (.sub0 k g lo sz a A n c h hl e) rfl rfl
 | rowc k g c a n h hm=>exact d (.rowc k g c a n h hm) rfl rfl
 | pre k g n c sz b len h e f hl hm=>exact d (.pre k g n c sz b len h e f hl hm) rfl rfl
 | mref k b h=>exact d (.mref k b h) rfl rfl
 | nilptr=>exact d .nilptr rfl rfl
 | nilslice=>exact d .nilslice rfl rfl
 | nilmap=>exact d .nilmap rfl rfl
 | nilfunc=>exact d .nilfunc rfl rfl
 | nilif=>exact d .nilif rfl rfl
 | hsl a n c=>exact d (.hsl a n c) rfl rfl
 | slnil sz t j=>exact d (.slnil sz t j) rfl rfl
 | slemp sz t a cap j=>exact d (.slemp sz t a cap j) rfl rfl
 | sl sz b o n cap xs t f e hm hz h j=>exact d (.sl sz b o n cap xs t f e hm hz h j) rfl rfl
 | func fn z cs w s x e h1 q=>exact d (.func fn z cs w s x e h1 q) rfl rfl
 | iface t v a h=>exact d (.iface t v a h) rfl rfl
def Rep.one{v:Value}{a:aa}(h:Rep M ob v a)(h1:one a=true):v.oneCell'=true:=by cases h<;>first | rfl | (simp [AW.one] at h1)
def lN{l:ay}(h:pF l=true):∀ (i:Nat) c,l[i]? =some c->one c=true:=by
 induction l with
 | nil=>simp
 | cons d r a=>
  simp only [pF,Ad] at h;intro i c b;cases i with
  | zero=>grind
  | succ i=>exact a h.2 i c (by simpa using b)
def oA{c:aa}(h:AW.one c=true):c.cells=[c]:=by cases c<;>first | rfl | cases h
def Rep.cells_one{v:Value}{a:aa}(h:Rep M ob v a)(h1:pF a.cells=true):v.cells.toList.length=a.cells.length/\(∀ u∈v.cells.toList,u.oneCell'=true)/\∀ (i:Nat) u c,v.cells.toList[i]? =some u->a.cells[i]? =some c->Rep M ob u c:=by
 have g:a≠ .undef:=λ e=>by subst e;simp [aa.cells,pF,AW.one] at h1
 obtain ⟨f,h3⟩:=h.cells g;refine ⟨f,λ u hm=>?_,h3⟩;obtain ⟨i,d⟩:=Cu hm;have b:i<a.cells.length:=by grind
 exact (h3 i u _ d (Aa b)).one (lN h1 i _ (Aa b))
end
def cO{ob:Hs}{ac:au}{k:Nat}{x:ab}{hs:ba}(h1:ac[k]? =some x)(a:ob[k]? =some hs){b:Nat}:aG ob ac k b↔x.owns=true/\b∈blk hs:=by
 constructor
 .rintro ⟨c,hs',e,f,h,g⟩
  grind
 .rintro ⟨h3,d⟩;exact ⟨x,hs,h1,h3,a,d⟩
def Mem.turn{M M':Imm}{ob:Hs}{ac:au}{w w':World}(h:Mem M ob ac w){k:Nat}{x x':ab}{hs hs':ba}(R:ac[k]? =some x)(K:ob[k]? =some hs)(hp:hs<+:hs')(hd:x= .dead->hs=[])
  (W:∀ b o y,M b o y->M' b o y) (z:∀ b o y,M' b o y->M b o y\/(x.owns=true/\b∈blk hs)\/w.heap.size<=b)
  (H:∀ b o y,M' b o y->∃ v,w'.cell? ⟨b,o,none⟩=some v/\v.oneCell'=true/\Rep M' [] v y)
  (heap:∀ b,b<w.heap.size->¬ (x.owns=true/\b∈blk hs)->w'.heap[b]? =w.heap[b]?)
  (S:w'.os=w.os) (A:w'.tape=w.tape) (C:w'.output=w.output) (s:w.heap.size<=w'.heap.size)
  (G:dJ ob (ob.set k hs')->hD M' (ob.set k hs') w' hs' x') (hb:x'.owns=true->∀ b,b∈blk hs'->((x.owns=true/\b∈blk hs)\/w.heap.size<=b)/\b<w'.heap.size) (O:x'≠ .dead:=by intro h;cases h):
  Mem M' (ob.set k hs') (ac.set k x') w'/\Ext M ob ac w M' (ob.set k hs') (ac.set k x') w'/\cK ob ac (ob.set k hs') (ac.set k x'):=by
 have V:k<ac.length:=(Ab.1 R).1;have I:k<ob.length:=(Ab.1 K).1;have u:dJ ob (ob.set k hs'):=λ i l hl=>by
  by_cases f:i=k
  .subst f;rw [K] at hl;cases hl;exact ⟨hs',Au I,hp⟩
  .exact ⟨l,by rw [Bb (λ e=>f e.symm)];exact hl,Cn _⟩
 have n:∀ {i:Nat},i≠k->(ac.set k x')[i]? =ac[i]?/\(ob.set k hs')[i]? =ob[i]?:=λ{i} f=>
  ⟨Bb (λ e=>f e.symm),Bb (λ e=>f e.symm)⟩
 have p:(ac.set k x')[k]? =some x':=Au V;have m:(ob.set k hs')[k]? =some hs':=Au I;have d:∀ {i b:Nat},aG (ob.set k hs') (ac.set k x') i b->(i≠k/\aG ob ac i b)\/(i=k/\((x.owns=true/\b∈blk hs)\/w.heap.size<=b)/\b<w'.heap.size):=λ{i b} a=>by
  by_cases f:i=k
  .subst f;have:=(cO p m).1 a;exact .inr ⟨rfl,hb this.1 b this.2⟩
  .obtain ⟨c,l,J,U,Z,e4⟩:=a;rw [(n f).1] at J;rw [(n f).2] at Z;exact .inl ⟨f,c,l,J,U,Z,e4⟩
 have r:∀ {b:Nat},x.owns=true/\b∈blk hs->aG ob ac k b:=λ a=>(cO R K).2 a;refine ⟨⟨H,by simp [h.len],λ i c F=>?_,λ i b a=>?_,λ i j b a B=>?_⟩,⟨W,λ b o y T=>?_,u,S,A,C,s,λ b B hn=>heap b B λ a=>hn k (r a),λ i b a=>?_⟩,λ i l h1 t=>⟨λ h3=>?_,λ h3 Y=>?_⟩⟩
 .by_cases f:i=k
  .subst f;rw [p] at F;cases F;exact ⟨hs',m,G u⟩
  .rw [(n f).1] at F;obtain ⟨l,hl,ho⟩:=h.obj i c F;have D:∀ b,c.owns=true->b∈blk l->¬ (x.owns=true/\b∈blk hs)/\b<w.heap.size:=λ b h1 t=>by have a:aG ob ac i b:=(cO F hl).2 ⟨h1,t⟩;exact ⟨λ hk=>f (h.inj i k b a (r hk)),h.lt i b a⟩
   refine ⟨l,by rw [(n f).2];exact hl,ho.mono W u (λ b h1 t o Q y T=>?_) (λ b c' h1 t P=>?_)⟩
   .obtain ⟨N,X⟩:=D b h1 t;rcases z b o y T with q | q | q
    .exact Q y q
    .exact N q
    .omega
   .obtain ⟨N,X⟩:=D b h1 t;rw [heap b X N];exact P
 .rcases d a with ⟨_,a⟩ | ⟨_,_,L⟩
  .exact Ew (h.lt i b a) s
  .exact L
 .rcases d a with ⟨_,a⟩ | ⟨J,a,_⟩<;>rcases d B with ⟨_,g⟩ | ⟨U,g,_⟩
  .exact h.inj i j b a g
  .rcases g with g | g
   .rw [U];exact h.inj i k b a (r g)
   .have:=h.lt i b a;omega
  .rcases a with a | a
   .rw [J];exact h.inj k j b (r a) g
   .have:=h.lt j b g;omega
  omega
 .rcases z b o y T with q | q | q
  .exact .inl q
  .exact .inr (.inr ⟨k,r q⟩)
  omega
 .rcases d a with ⟨_,a⟩ | ⟨_,a | a,_⟩
  .exact .inl ⟨i,a⟩
  .exact .inl ⟨k,r a⟩
  omega
 .have f:i≠k:=λ e=>by subst e;rw [R] at h1;rw [K] at t;cases h1;simp_all
  rw [(n f).1,(n f).2];exact ⟨h1,t⟩
 .by_cases f:i=k
  .subst f;rw [p] at Y;cases Y;rw [m];have:=G u;exact absurd rfl O
  .rw [(n f).2];exact h3▸t
def Mem.more{M M':Imm}{ob:Hs}{ac:au}{w w':World}(h:Mem M ob ac w)(t:∀ b o y,M b o y->M' b o y)(d:∀ b o y,M' b o y->M b o y\/w.heap.size<=b)
  (g:∀ b o y,M' b o y->∃ v,w'.cell? ⟨b,o,none⟩=some v/\v.oneCell'=true/\Rep M' [] v y) (heap:∀ b,b<w.heap.size->w'.heap[b]? =w.heap[b]?)
  (r:w'.os=w.os) (e:w'.tape=w.tape) (f:w'.output=w.output) (a:w.heap.size<=w'.heap.size):Mem M' ob ac w'/\Ext M ob ac w M' ob ac w':=by
 refine ⟨⟨g,h.len,λ i c p=>?_,λ i b n=>Ew (h.lt i b n) a,h.inj⟩,⟨t,λ b o y s=>?_,dJ.refl _,r,e,f,a,λ b u _=>heap b u,λ i b n=>.inl ⟨i,n⟩⟩⟩
 .obtain ⟨l,hl,x⟩:=h.obj i c p;refine ⟨l,hl,x.mono t (dJ.refl _) (λ b h1 j o m y s=>?_) (λ b z h1 j k=>?_)⟩
  .have:=h.lt i b ((cO p hl).2 ⟨h1,j⟩);rcases d b o y s with q | q
   .exact m y q
   .omega
  .rw [heap b (h.lt i b ((cO p hl).2 ⟨h1,j⟩))];exact k
 .rcases d b o y s with q | q
  .exact .inl q
  omega
def Mem.extend{M:Imm}{ob:Hs}{ac:au}{w:World}(h:Mem M ob ac w)(n:Nat):
  Mem M (ob++Aj n []) (ac++Aj n .dead) w/\Ext M ob ac w M (ob++Aj n []) (ac++Aj n .dead) w/\cK ob ac (ob++Aj n []) (ac++Aj n .dead):=by
 have part:∀ {i:Nat} {c:ab},(ac++Aj n .dead)[i]? =some c->(i<ac.length/\ac[i]? =some c)\/(ac.length<=i/\c= .dead/\i-ac.length<n):=λ{i c} f=>by
  by_cases d:i<ac.length
  .rw [Ag d] at f;grind
  .rw [Ak o_,Em] at f
   grind
 have left:∀ {i:Nat},i<ac.length->(ob++Aj n ([]:ba))[i]? =ob[i]?:=λ{i} d=>Ag (by rw [h.len];exact d)
 have g:dJ ob (ob++Aj n []):=λ i l hl=>⟨l,by rw [Ag (Ab.1 hl).1];exact hl,Cn _⟩
 have a:∀ {i b:Nat},aG (ob++Aj n []) (ac++Aj n .dead) i b->aG ob ac i b:=λ{i b} ⟨c,l,m,e2,e3,e4⟩=>by
  rcases part m with ⟨d,m⟩ | ⟨_,rfl,_⟩
  .rw [left d] at e3;exact ⟨c,l,m,e2,e3,e4⟩
  .cases e2
 refine ⟨⟨h.imm,by simp [h.len],λ i c f=>?_,λ i b k=>h.lt i b (a k),λ i j b k q=>h.inj i j b (a k) (a q)⟩,⟨λ_ _ _ h=>h,λ_ _ _ h=>.inl h,g,rfl,rfl,rfl,Bd _,λ_ _ _=>rfl,λ i b k=>.inl ⟨i,a k⟩⟩,λ i l h1 p=>?_⟩
 .rcases part f with ⟨d,f⟩ | ⟨d,rfl,o⟩
  .obtain ⟨l,hl,r⟩:=h.obj i c f;exact ⟨l,by rw [left d];exact hl,r.mono (λ_ _ _ h=>h) g (λ_ _ _ _ h=>h) (λ_ _ _ _ h=>h)⟩
  .refine ⟨[],?_,trivial⟩;rw [Ak (by rw [h.len];exact d),Em,if_pos (by rw [h.len];exact o)]
 .have d:=(Ab.1 h1).1;exact ⟨λ_=>⟨by rw [Ag d];exact h1,by rw [left d];exact p⟩,λ e _=>by rw [left d];exact e▸p⟩
def H7{sz:Nat}{xs:ay}{i j:Nat}{x c:aa}(d:xs[i]? =some x)(e:x.cells[j]? =some c)(hz:x.cells.length=sz):aH sz xs (i*sz+j)=some c:=by
 have a:j<sz:=by grind
 have h1:(i*sz+j) / sz=i:=by rw [Dd,Kr o_,Nat.div_eq_of_lt a,Fm]
 have b:(i*sz+j) % sz=j:=by rw [Dd,Nat.mul_add_mod,Gx a]
 simp [aH,h1,b,d,e]
def gB{sz:Nat}{xs:ay}{o:Nat}{c:aa}(h:aH sz xs o=some c):∃ x,xs[o / sz]? =some x/\x.cells[o % sz]? =some c:=by
 unfold aH at h;cases a:xs[o / sz]? with
 | none=>grind
 | some x=>exact ⟨x,rfl,by grind⟩
def fM{sz:Nat}{xs:ay}{q:Nat}{c:aa}(hs:0<sz)(h:aH sz xs q=some c):q<xs.length*sz:=by obtain ⟨x,a,_⟩:=gB h;exact (Dl hs).1 (Ab.1 a).1
def yX{sz:Nat}{xs:ay}{q:Nat}(hs:0<sz)(hz:∀ x∈xs,x.cells.length=sz)(h:q<xs.length*sz):∃ c,aH sz xs q=some c:=by
 have a:q / sz<xs.length:=(Dl hs).2 h;have d:xs[q / sz]? =some xs[q / sz]:=Aa a;have b:q % sz<(xs[q / sz]).cells.length:=by rw [hz _ (Bf a)];exact Fg _ hs
 exact ⟨_,by unfold aH;rw [d];exact Aa b⟩
def cN{sz:Nat}{xs ys:ay}{o:Nat}(hs:0<sz)(h:o<xs.length*sz):aH sz (xs++ys) o=aH sz xs o:=by have a:o / sz<xs.length:=(Dl hs).2 h;simp [aH,Ag a]
def cF{sz:Nat}{xs ys:ay}{o:Nat}(hs:0<sz)(h:xs.length*sz<=o):aH sz (xs++ys) o=aH sz ys (o-xs.length*sz):=by
 have b:xs.length<=o / sz:=(Ib hs).2 h;obtain ⟨q,rfl⟩:=Nat.exists_eq_add_of_le h;have h1:(xs.length*sz+q) / sz=xs.length+q / sz:=by rw [Dd,Kr hs]
 have a:(xs.length*sz+q) % sz=q % sz:=by simp
 simp only [aH,h1,a,Gm];rw [Ak o_];simp
def mZ{sz n:Nat}{xs:ay}{q:Nat}(hs:0<sz)(h:q<n*sz):aH sz (xs.take n) q=aH sz xs q:=by have a:q / sz<n:=(Dl hs).2 h;simp [aH,Bj a]
def AK{sz n:Nat}{xs:ay}{q:Nat}(hs:0<sz):aH sz (xs.drop n) q=aH sz xs (n*sz+q):=by
 have h1:(n*sz+q) / sz=n+q / sz:=by rw [Dd,Kr hs]
 have a:(n*sz+q) % sz=q % sz:=by simp
 simp [aH,h1,a,Bq]
def FQ{sz i:Nat}{xs ys:ay}(hs:0<sz)(d:i+ys.length<=xs.length){q:Nat}{c:aa}(h:aH sz (xs.take i++ys++xs.drop (i+ys.length)) q=some c):
  (i*sz<=q/\q<i*sz+ys.length*sz/\aH sz ys (q-i*sz)=some c)\/((q<i*sz\/i*sz+ys.length*sz<=q)/\aH sz xs q=some c):=by
 have hl:(xs.take i).length=i:=by simp;omega
 have a:(xs.take i++ys).length=i+ys.length:=by simp;omega
 by_cases h1:q<i*sz
 .right;refine ⟨.inl h1,?_⟩;rw [Af,cN hs (by grind),mZ hs h1] at h;exact h
 .by_cases b:q<i*sz+ys.length*sz
  .left;rw [cN hs (by rw [a,Bw];exact b),cF hs (by grind),hl] at h
   grind
  .right;refine ⟨.inr o_,?_⟩;rw [cF hs (by rw [a,Bw];omega),AK hs,a] at h;have:(i+ys.length)*sz+(q-(i+ys.length)*sz)=q:=by rw [Bw];omega
   simp_all
def fJ{α:Type}(cv vs:List α)(off:Nat)(h:off+vs.length<=cv.length):(cv.take off++vs++cv.drop (off+vs.length)).length=cv.length/\
  ∀ (i:Nat),(cv.take off++vs++cv.drop (off+vs.length))[i]? =if off<=i/\i<off+vs.length then vs[i-off]? else cv[i]?:=by
 refine ⟨by simp;omega,λ i=>?_⟩;by_cases h1:i<off
 .rw [Af,Ag q_,if_neg o_,Bj h1]
 .by_cases a:i<off+vs.length
  .rw [if_pos ⟨by omega,a⟩,Af,Ak q_,Ag q_];congr 1;simp;omega
  .rw [if_neg o_,Ak q_,Bq];congr 1;simp;omega
section
variable {M:Imm} {ob:Hs} {ac:au} {w:World}
def eG{hs:ba}{g:Nat}{v:Value}(hl:hs.length=g+1)(a:hs[g]? =some v):blk hs=KU v:=by unfold blk;rw [Lh,hl,Hv,a]
def nB{hs:ba}{v:Value}{b:Nat}(h:blk hs=v.ownBlock.toList)(e:v.ownBlock=some b):b∈blk hs:=by grind
def wG{hs:ba}{v:Value}{b:Nat}(h:blk hs=v.ownBlock.toList)(e:b∈blk hs):v.ownBlock=some b:=by grind
def fA{w:World}{e:TypeId}{sz n:Nat}{v:Value}{cv:ba}(h:w.ownsRow 0 e sz v n cv):KU v=v.ownBlock.toList:=by rcases h.2 with ⟨rfl,_⟩ | ⟨g,cap,a,rfl,_⟩<;>rfl
def bW{k g:Nat}{hs:ba}(h:ob[k]? =some hs):at' ob k g=hs[g]?:=by simp [at',h]
def Mem.rowOf(h:Mem M ob ac w){k g sz:Nat}{e:TypeId}{xs:ay}(c:ac[k]? =some (.row g sz e xs)):∃ hs v,ob[k]? =some hs/\hs.length=g+1/\hs[g]? =some v/\at' ob k g=some v/\dM M w v sz e xs/\blk hs=v.ownBlock.toList:=by obtain ⟨hs,h1,a,v,h3,b⟩:=h.obj k _ c;refine ⟨hs,v,h1,a,h3,(bW h1).trans h3,b,(eG a h3).trans ?_⟩;obtain ⟨cv,d,_⟩:=b;exact fA d
def Mem.rowTurn(h:Mem M ob ac w){k g sz:Nat}{e:TypeId}{xs:ay}(H:ac[k]? =some (.row g sz e xs)){hs:ba}{v:Value}(I:ob[k]? =some hs)(L:hs[g]? =some v)
  {w':World} {r:Nat} {hs':ba} {t:Value} {xs':ay} (hp:hs<+:hs') (m:hs'.length=r+1) (l:hs'[r]? =some t) (D:dM M w' t sz e xs')
  (heap:∀ b,b<w.heap.size->v.ownBlock≠some b->w'.heap[b]? =w.heap[b]?) (B:w'.os=w.os) (i:w'.tape=w.tape) (n:w'.output=w.output) (j:w.heap.size<=w'.heap.size)
  (O:∀ b,t.ownBlock=some b->v.ownBlock=some b\/w.heap.size<=b):
  Mem M (ob.set k hs') (ac.set k (.row r sz e xs')) w'/\Ext M ob ac w M (ob.set k hs') (ac.set k (.row r sz e xs')) w'/\cK ob ac (ob.set k hs') (ac.set k (.row r sz e xs')):=by
 obtain ⟨P,Q,C,R,J,_,s,f⟩:=h.rowOf H;rw [I] at C;cases C;rw [L] at J;cases J;obtain ⟨cv,F,_,_,_,A,_⟩:=s;obtain ⟨cv',c,_⟩:=id D;have p:∀ b o y,M b o y->v.ownBlock≠some b:=λ b o y x e=>A b e o y x;refine h.turn H I hp (λ e=>by cases e) (λ_ _ _ h=>h) (λ_ _ _ h=>.inl h) (λ b o y x=>?_) (λ b z N=>heap b z λ e=>N ⟨rfl,nB f e⟩) B i n j (λ_=>?_) (λ_ b d=>?_)
 .obtain ⟨u,G,h1,K⟩:=h.imm b o y x;exact ⟨u,(Cs (w:=w) (a:=⟨b,o,none⟩) (heap b (Ct w _ G) (p b o y x))).trans G,h1,K⟩
 .exact ⟨m,t,l,D⟩
 .have d:=wG ((eG m l).trans (fA c)) d;refine ⟨?_,(c.lt b d).2⟩;rcases O b d with q | q
  .exact .inl ⟨rfl,nB f q⟩
  omega
def fT{α:Type}{l:List α}{k:Nat}{x:α}(h:l[k]? =some x):l.set k x=l:=by
 apply Eb;intro i;by_cases a:i=k
 .subst a;rw [Au (Ab.1 h).1,h]
 .rw [Bb (λ e=>a e.symm)]
def dM.write{v:Value}{sz:Nat}{e:TypeId}{xs xs':ay}(h:dM M w v sz e xs){b n cap:Nat}(I:v= .slice (some ⟨b,0,none⟩) n cap)(hs:0<sz){p:Nat}{news:ba}(hp:p+news.length<=xs.length*sz)
  (h1:∀ u∈news,u.oneCell'=true) (hl:xs'.length=xs.length) (hz:∀ x∈xs',x.cells.length=sz)
  (K:∀ q c,aH sz xs' q=some c->(p<=q/\q<p+news.length/\∃ u,news[q-p]? =some u/\Rep M [] u c)\/((q<p\/p+news.length<=q)/\aH sz xs q=some c)):
  ∃ a,w.heap[b]? =some (.cells a e (0,0))/\p+news.length<=a.size/\dM M (w.setRow b (a.toList.take p++news++a.toList.drop (p+news.length)).toArray) v sz e xs':=by
 subst I;obtain ⟨cv,⟨R,G⟩,h3,V,Q,P,J⟩:=h;rcases G with ⟨r,_⟩ | ⟨g,t,a,r,_,o,H,L,y,O⟩
 .cases r
 cases r;have D:xs.length*sz<=a.size:=by rw [y];exact Br _ H
 have m:p+news.length<=a.toList.length:=by simp;omega
 obtain ⟨C,z⟩:=fJ a.toList news p m;have k:∀ q,q<xs.length*sz->cv[q]? =a.toList[q]?:=λ q d=>by rw [<-O,Bj d]
 refine ⟨a,o,by omega,(a.toList.take p++news++a.toList.drop (p+news.length)).take (xs.length*sz),⟨by rw [hl,Dn,C,Iw];simp;omega,.inr ⟨b,cap,_,by rw [hl],Bx _,setRow_heap w b a _ e _ o,by omega,L,?_,by rw [hl]⟩⟩,λ u f=>?_,hz,λ q c d=>?_,P,λ U N A T S l u f=>?_⟩
 .rw [Gn,C,Iw,y]
 .obtain ⟨q,d⟩:=Cu f;rw [Gg] at d;split at d
  .rename_i i;rw [z] at d;split at d
   .exact h1 u (Av d)
   .rw [<-k q i] at d;exact h3 u (Av d)
  .cases d
 .have i:=fM hs d;rw [hl] at i;rw [Bj i,z];rcases K q c d with ⟨B,s,u,f,F⟩ | ⟨B,s⟩
  .rw [if_pos ⟨B,s⟩];exact ⟨u,f,F⟩
  .rw [if_neg o_,<-k q i];exact Q q c s
 .cases N;rw [setRow_heap w b a _ e _ o] at l;cases l;have j:∀ u∈a.toList,u.oneCell'=true:=J b rfl _ _ _ o;simp only [Ba] at f;rcases f with (f | f) | f
  .exact j u (Cy f)
  .exact h1 u f
  .exact j u (Ez f)
def Mem.rowWrite{P:Program}(h:Mem M ob ac w){k g sz:Nat}{e:TypeId}{xs xs':ay}(o:ac[k]? =some (.row g sz e xs)){b n cap:Nat}(y:at' ob k g=some (.slice (some ⟨b,0,none⟩) n cap))(hs:0<sz)
  {p:Nat} {news:ba} (hp:p+news.length<=xs.length*sz) (h1:∀ u∈news,u.oneCell'=true) (hl:xs'.length=xs.length) (hz:∀ x∈xs',x.cells.length=sz)
  (A:∀ q c,aH sz xs' q=some c->(p<=q/\q<p+news.length/\∃ u,news[q-p]? =some u/\Rep M [] u c)\/((q<p\/p+news.length<=q)/\aH sz xs q=some c)):
  ∃ w',(storeCells ⟨b,p,none⟩ news).run P w= .ok () w'/\Mem M ob (ac.set k (.row g sz e xs')) w'/\Ext M ob ac w M ob (ac.set k (.row g sz e xs')) w'/\cK ob ac ob (ac.set k (.row g sz e xs')):=by
 obtain ⟨i,v,j,B,s,l,a,m⟩:=h.rowOf o;rw [y] at l;cases l;obtain ⟨d,t,D,C⟩:=a.write rfl hs hp h1 hl hz A;have hst:=run_storeCells_at P b p e news 0 d w t o_ h1;simp only [Fm] at hst;refine ⟨_,hst,?_⟩;have:=h.rowTurn (hs':=i) o j s (Cn _) B s C (λ r _ z=>setRow_other w b r _ (λ e=>z (by simp [Gl,e]))) rfl rfl rfl s_ (λ r f=>.inl f);rw [fT j] at this;exact this
end
def uY(w:World)(o:Obj):(w.alloc o).heap.size=w.heap.size+1:=by simp
structure Grown(M:Imm)(w w':World)(sz:Nat)(e:TypeId)(v:Value)(xs:ay):Prop where
 own:∃ cv,w'.ownsRow 0 e sz v xs.length cv/\(∀ u∈cv,u.oneCell'=true)/\∀ (q:Nat) c,aH sz xs q=some c->∃ u,cv[q]? =some u/\Rep M [] u c
 pos:0<sz
 hz:∀ x∈xs,x.cells.length=sz
 blk:∀ b,v.ownBlock=some b->w.heap.size<=b
 heap:∀ b,b<w.heap.size->w'.heap[b]? =w.heap[b]?
 os:w'.os=w.os
 tape:w'.tape=w.tape
 output:w'.output=w.output
 size:w.heap.size<=w'.heap.size
 oneb:TN w' v
section
variable {M:Imm} {ob:Hs} {ac:au} {w w':World} {sz:Nat} {e:TypeId} {v:Value} {xs:ay}
def fK{w:World}{n:Nat}{cv:ba}(h:w.ownsRow 0 e sz v n cv){b:Nat}(a:v.ownBlock=some b){q:Nat}{u:Value}(c:cv[q]? =some u):w.cell? ⟨b,q,none⟩=some u:=by have:=h.cells (g:=b) a q u c;rwa [bB,Bp] at this
def dI{w:World}{n:Nat}{cv:ba}(h:w.ownsRow 0 e sz v n cv):(v= .slice none 0 0/\n=0)\/∃ b cap,v= .slice (some ⟨b,0,none⟩) n cap/\v.ownBlock=some b/\n<=cap/\cap<=maxLen:=by
 rcases h.2 with h | ⟨g,cap,c,a,_,_,f,d,_⟩
 .exact .inl h
 .exact .inr ⟨g,cap,a,by rw [a];rfl,f,d⟩
def hZ(M:Imm)(v:Value)(sz:Nat)(xs:ay):Imm:=λ b o x=>M b o x\/(v.ownBlock=some b/\aH sz xs o=some x)
def kD{w:World}{cv:ba}(h:w.ownsRow 0 e sz v xs.length cv)(hz:∀ x∈xs,x.cells.length=sz){t:Tk}(a:tK ob v t):Rep (hZ M v sz xs) ob v (.slice sz xs t):=by
 rcases dI h with ⟨rfl,k⟩ | ⟨b,cap,f,m,n,g⟩
 .have:xs=[]:=Az k;subst this;exact .slnil sz t a
 .subst f;refine .sl sz b 0 xs.length cap xs t rfl n (by simp only [maxLen] at g;omega) hz (λ i j x c d l=>.inr ⟨m,?_⟩) a;rw [Bp];exact H7 d l (hz x (Av d))
def Grown.imm(g:Grown M w w' sz e v xs)(h:Mem M ob ac w):∀ b o y,hZ M v sz xs b o y->∃ u,w'.cell? ⟨b,o,none⟩=some u/\u.oneCell'=true/\Rep (hZ M v sz xs) [] u y:=by
 obtain ⟨cv,h1,f,h3⟩:=g.own;intro b o y d;rcases d with d | ⟨j,d⟩
 .obtain ⟨u,c,k,l⟩:=h.imm b o y d;exact ⟨u,(Cs (w:=w) (a:=⟨b,o,none⟩) (g.heap b (Ct w _ c))).trans c,k,l.monoM λ_ _ _ h=>.inl h⟩
 .obtain ⟨u,c,i⟩:=h3 o y d;exact ⟨u,fK h1 j c,f u (Av c),i.monoM λ_ _ _ h=>.inl h⟩
def Grown.more(g:Grown M w w' sz e v xs)(h:Mem M ob ac w):Mem (hZ M v sz xs) ob ac w'/\Ext M ob ac w (hZ M v sz xs) ob ac w':=
 h.more (λ_ _ _ h=>.inl h) (λ b o y a=>by
  rcases a with a | ⟨c,_⟩
  .grind
  .exact .inr (g.blk b c)) (g.imm h) g.heap g.os g.tape g.output g.size
def Grown.row(g:Grown M w w' sz e v xs)(h:Mem M ob ac w){k:Nat}(h1:ac[k]? =some .dead)(l:ob[k]? =some []):
  Mem M (ob.set k [v]) (ac.set k (.row 0 sz e xs)) w'/\Ext M ob ac w M (ob.set k [v]) (ac.set k (.row 0 sz e xs)) w'/\cK ob ac (ob.set k [v]) (ac.set k (.row 0 sz e xs)):=by
 obtain ⟨cv,f,j,q⟩:=g.own;refine h.turn h1 l ⟨[v],rfl⟩ (λ_=>rfl) (λ_ _ _ h=>h) (λ_ _ _ h=>.inl h) (λ b o y m=>?_) (λ b d _=>g.heap b d) g.os g.tape g.output g.size (λ_=>⟨rfl,v,rfl,cv,f,j,g.hz,q,λ b d o=>h.noImm (g.blk b d) o,g.oneb⟩) (λ_ b d=>?_)
 .obtain ⟨u,i,n,p⟩:=h.imm b o y m;exact ⟨u,(Cs (w:=w) (a:=⟨b,o,none⟩) (g.heap b (Ct w _ i))).trans i,n,p⟩
 .have c:v.ownBlock=some b:=wG (hs:=[v]) (fA f) d;exact ⟨.inr (g.blk b c),(f.lt b c).2⟩
def Grown.tail(g:Grown M w w' sz e v xs)(h:Mem M ob ac w){k:Nat}(h1:ac[k]? =some .dead)(j:ob[k]? =some []):
  Mem (hZ M v sz xs) (ob.set k [v]) (ac.set k (.tail 0 sz e)) w'/\Ext M ob ac w (hZ M v sz xs) (ob.set k [v]) (ac.set k (.tail 0 sz e)) w'/\cK ob ac (ob.set k [v]) (ac.set k (.tail 0 sz e))/\
   Rep (hZ M v sz xs) (ob.set k [v]) v (.slice sz xs (.own k 0)):=by
 obtain ⟨cv,i,m,n⟩:=g.own;have l:k<ob.length:=(Ab.1 j).1
 have a:=h.turn (M':=hZ M v sz xs) (w':=w') (x':=.tail 0 sz e) (hs':=[v]) h1 j ⟨[v],rfl⟩ (λ_=>rfl) (λ_ _ _ h=>.inl h) (λ b o y c=>by
  rcases c with c | ⟨d,_⟩
  .grind
  .exact .inr (.inr (g.blk b d))) (g.imm h) (λ b d _=>g.heap b d) g.os g.tape g.output g.size
  (λ_=>⟨rfl,v,rfl,_,cv,i,λ b d o p y c=>by
   rcases c with c | ⟨_,c⟩
   .exact h.noImm (g.blk b d) o y c
   .have:=fM g.pos c;omega⟩)
  (λ_ b d=>by
   have f:v.ownBlock=some b:=wG (hs:=[v]) (fA i) d
   exact ⟨.inr (g.blk b f),(i.lt b f).2⟩)
 refine ⟨a.1,a.2.1,a.2.2,kD i g.hz ?_⟩;show at' _ k 0=some v;rw [bW (Au l)];rfl
end
def C6(w:World):TN w (.slice none 0 0):=λ b a=>by cases a
def jT{z:Array Value}{n:Nat}(hz:z.toList.all (·.oneCell')=true):∀ u∈(Ci z n).toList,u.oneCell'=true:=by
 intro u b;simp only [Ci,Jv,Ca] at b;obtain ⟨i,d,rfl⟩:=b;have a:0<z.size:=by refine Nat.pos_of_ne_zero λ e=>?_;simp_all
 have c:i % z.size<z.size:=Fg _ a;simp_all
def pG{w:World}{cs:ba}{n c:Nat}{T:TypeId}(h:∀ u∈cs,u.oneCell'=true):TN (w.alloc (.cells cs.toArray T)) (.slice (some ⟨w.heap.size,0,none⟩) n c):=by
 intro b a d f i e u g;cases a;rw [heap_alloc_new w _] at e
 grind
def iR{P:Program}(w:World)(t G ty e:TypeId)(i:TypeInfo)(z:Value)(M:P.underlying t=some (.slice e))(N:P.info? e=some i)(hz:i.zero=some z)(hz1:z.cells.toList.all (·.oneCell')=true)
  (U:z.cells.size=i.size) (v:Value) (n:Nat) (a:ba) (d:w.ownsRow 0 e i.size v n a) (Q:∀ u∈a,u.oneCell'=true) (x:Value) (m:Nat) (news:ba) (hs:Src P i.size G x m news w)
  (L:n+m<=maxLen) (s:(n+m)*i.bytes<=140737488355328):
  ∃ K w',(Co #[t,G] ty #[v,x]).run P w= .ok K w'/\w'.ownsRow 0 e i.size K (n+m) (a++news)/\w'.os=w.os/\w'.tape=w.tape/\w'.output=w.output/\w.heap.size<=w'.heap.size/\
   ((K.ownBlock=v.ownBlock/\∀ b,v.ownBlock≠some b->w'.heap[b]? =w.heap[b]?)\/(K.ownBlock=some w.heap.size/\∀ b,b<w.heap.size->w'.heap[b]? =w.heap[b]?))/\(TN w v->TN w' K):=by
 have f:(a++news).length=(n+m)*i.size:=by rw [Ai,d.1,hs.newsLen,Bw]
 have h63':n+m<=4611686018427387904\/True:=.inr trivial
 have y:∀ (p:Nat),p<n+m->
   (w.drew.alloc (.cells ((a++news).toArray++Ci z.cells (grownCap w (n+m) p e-(n+m))) e)).ownsRow 0 e i.size
    (.slice (some ⟨w.heap.size,0,none⟩) (n+m) (grownCap w (n+m) p e)) (n+m) (a++news):=by
  intro p ho;have R:=grownCap_ge w (n+m) p e;have D:grownCap w (n+m) p e<=maxLen:=grownCap_le_maxLen w (n+m) p e L;refine ⟨f,.inr ⟨w.heap.size,_,_,rfl,Bx _,heap_alloc_new w.drew _,R,D,?_,?_⟩⟩
  .simp only [Array.size_append,Gn,size_zeroCells,U,f,<-Bw];simp_all
  .simp only [Nd];rw [<-f];exact Hn
 have r:∀ (k Y Z:Nat),TN (w.drew.alloc (.cells ((a++news).toArray++Ci z.cells k) e)) (.slice (some ⟨w.heap.size,0,none⟩) Y Z):=by
  intro k Y Z;have:(a++news).toArray++Ci z.cells k=((a++news)++(Ci z.cells k).toList).toArray:=by simp
  rw [this];refine pG (w:=w.drew) λ u c=>?_;rcases Ba.1 c with c | c
  .rcases Ba.1 c with c | c
   .exact Q u c
   .exact hs.one u c
  .exact jT hz1 u c
 have F:∀ o,w.heap.size<=(w.drew.alloc o).heap.size:=λ o=>by simp
 have I:((n+m:Nat):Int)<=9223372036854775807:=by simp only [maxLen] at L;omega
 rcases d.2 with ⟨rfl,rfl⟩ | ⟨g,cap,l,rfl,_,O,hnc,D,W,C⟩
 .have hx:a=[]:=Az (by simpa using d.1);subst hx;by_cases hm:m=0
  .subst hm;have hn:news=[]:=Az (by simpa using hs.newsLen);subst hn;refine ⟨.slice none 0 0,w,?_,Hg w 0 e i.size,rfl,rfl,rfl,Bd _,.inl ⟨rfl,λ_ _=>rfl⟩,λ h=>h⟩;rcases hs.kind with ⟨e',J⟩ | J<;>simp [Co,run_underlying M,run_underlying J,sizeOf,typeInfo,N,hs.len,hs.cells]
  .have H:=run_append_grow_src (P:=P) w t G ty e i z M N hz none 0 0 [] (by rfl) x m news hs o_ I (growslice_fits o_ s);exact ⟨_,_,H,y 0 o_,rfl,rfl,rfl,F _,.inr ⟨rfl,λ b B=>heap_alloc_old w.drew _ B⟩,λ_=>r _ _ _⟩
 .by_cases q:n+m<=cap
  .have hfit:n*i.size+news.length<=l.size:=by rw [hs.newsLen,W,<-Bw];exact Br _ q
   have hst:=run_storeCells_at P g (n*i.size) e news 0 l w O o_ hs.one;simp only [Fm] at hst;have S:(⟨g,0,none⟩:Addr).add (n*i.size)=⟨g,n*i.size,none⟩:=by rw [bB,Bp]
   have H:(Co #[t,G] ty #[.slice (some ⟨g,0,none⟩) n cap,x]).run P w= .ok (.slice (some ⟨g,0,none⟩) (n+m) cap) (w.setRow g (l.toList.take (n*i.size)++news++l.toList.drop (n*i.size+news.length)).toArray):=by rcases hs.kind with ⟨e',J⟩ | J<;>simp [Co,run_underlying M,run_underlying J,sizeOf,typeInfo,N,hs.len,q,hs.cells,S,hst]
   refine ⟨_,_,H,⟨f,.inr ⟨g,cap,_,rfl,Bx _,setRow_heap w g l _ e _ O,q,D,?_,?_⟩⟩,rfl,rfl,rfl,by simp,.inl ⟨rfl,λ b B=>setRow_other w g b _ (λ e=>B (by simp [Gl,e]))⟩,λ T b B cur' T' fz hc u c=>?_⟩
   .simp only [Gn,Ai,Dn,Eh,Iw];omega
   .rw [C,<-f];exact Hn
   .cases B;rw [setRow_heap w g l _ e _ O] at hc;cases hc;have A:∀ u∈l.toList,u.oneCell'=true:=T g rfl _ _ _ O;simp only [Ba] at c;rcases c with (c | c) | c
    .exact A u (Cy c)
    .exact hs.one u c
    .exact A u (Ez c)
  .have X:∀ (j:Nat) u,a[j]? =some u->w.cell? ((⟨g,0,none⟩:Addr).add j)=some u:=d.cells (g:=g) rfl;have V:(Cj i.size n (.slice (some ⟨g,0,none⟩) n cap)).run P w.drew= .ok a.toArray w.drew:=run_firstCells_some w.drew i.size n ⟨g,0,none⟩ n cap a d.1 q_;have H:=run_append_grow_src (P:=P) w t G ty e i z M N hz (some ⟨g,0,none⟩) n cap a V x m news hs o_ I (growslice_fits o_ s);exact ⟨_,_,H,y cap o_,rfl,rfl,rfl,F _,.inr ⟨rfl,λ b B=>heap_alloc_old w.drew _ B⟩,λ_=>r _ _ _⟩
section
variable {M:Imm} {ob:Hs} {ac:au} {w:World}
structure SrcA(P:Program)(M:Imm)(w:World)(sz:Nat)(tx:TypeId)(x:Value)(ys:ay):Prop where
 src:∃ news,Src P sz tx x ys.length news w/\∀ (q:Nat) c,aH sz ys q=some c->∃ u,news[q]? =some u/\Rep M [] u c
 hz:∀ y∈ys,y.cells.length=sz
 pre:∀ m,m<=ys.length->∃ news:ba,(Cj sz m x).run P w= .ok news.toArray w/\news.length=m*sz/\(∀ u∈news,u.oneCell'=true)/\∀ (q:Nat) c,q<m*sz->aH sz ys q=some c->∃ u,news[q]? =some u/\Rep M [] u c
def Mem.appendRow{P:Program}(h:Mem M ob ac w){t O ty e:TypeId}{i:TypeInfo}{z:Value}(ht:P.underlying t=some (.slice e))(hi:P.info? e=some i)(hz:i.zero=some z)(hz1:z.cells.toList.all (·.oneCell')=true)
  (Q:z.cells.size=i.size) (p:0<i.size) {k g:Nat} {xs ys:ay} (Y:ac[k]? =some (.row g i.size e xs)) {v x:Value} (hv:at' ob k g=some v) (hs:SrcA P M w i.size O x ys)
  (S:xs.length+ys.length<=maxLen) (m:(xs.length+ys.length)*i.bytes<=140737488355328):
  ∃ a w' ob',(Co #[t,O] ty #[v,x]).run P w= .ok a w'/\Mem M ob' (ac.set k (.row (g+1) i.size e (xs++ys))) w'/\Ext M ob ac w M ob' (ac.set k (.row (g+1) i.size e (xs++ys))) w'/\
   cK ob ac ob' (ac.set k (.row (g+1) i.size e (xs++ys)))/\Rep M ob' a (.row k (g+1)):=by
 obtain ⟨n,v0,T,Z,e3,W,J,X⟩:=h.rowOf Y;rw [hv] at W;cases W;obtain ⟨cv,L,U,o3,o4,o5,o6⟩:=J;obtain ⟨⟨news,V,s2⟩,s3⟩:=hs;obtain ⟨a,w',hr,A,R,s,F,B,d,C⟩:=iR (P:=P) w t O ty e i z ht hi hz hz1 Q v xs.length cv L U x ys.length news V S m;have f:∀ b,a.ownBlock=some b->v.ownBlock=some b\/w.heap.size<=b:=λ b H=>by
  rcases d with ⟨q,_⟩ | ⟨q,_⟩
  .exact .inl (q▸H)
  .rw [q] at H;cases H;omega
 have r:dM M w' a i.size e (xs++ys):=by
  refine ⟨cv++news,by simp;omega,λ u G=>?_,λ y I=>?_,λ q c K=>?_,λ b H o=>?_,C o6⟩
  .rcases Ba.1 G with G | G
   .exact U u G
   .exact V.one u G
  .rcases Ba.1 I with I | I
   .exact o3 y I
   .exact s3 y I
  .by_cases j:q<xs.length*i.size
   .rw [cN p j] at K;rw [Ag (by rw [L.1];exact j)];exact o4 q c K
   .rw [cF p o_] at K;rw [Ak (by rw [L.1];omega),L.1];exact s2 _ c K
  .rcases f b H with q | q
   .exact o5 b q o
   .exact h.noImm q o
 have N:(n++[a]).length=g+1+1:=by simp [Z]
 have D:(n++[a])[g+1]? =some a:=by rw [<-Z];simp
 have:=h.rowTurn (hs':=n++[a]) Y T e3 ⟨[a],rfl⟩ N D r (λ b j hn=>by
  rcases d with ⟨_,q⟩ | ⟨_,q⟩
  .exact q b hn
  .exact q b j) R s F B f
 refine ⟨a,w',_,hr,this.1,this.2.1,this.2.2,?_⟩;have hk:k<ob.length:=(Ab.1 T).1;have l:at' (ob.set k (n++[a])) k (g+1)=some a:=by rw [bW (Au hk)];exact D
 rcases dI A with ⟨q,_⟩ | ⟨b,cap,q,_⟩
 .rw [q] at l⊢;exact .row _ _ _ _ _ l
 .rw [q] at l⊢;exact .row _ _ _ _ _ l
def zS{v:Value}{sz:Nat}{xs:ay}{e:TypeId}{n:Nat}{cv:ba}(d:Rep M ob v (.slice sz xs .no))(f:w.ownsRow 0 e sz v n cv):n=xs.length:=by
 obtain ⟨a,c,rfl,h1,_⟩:=d.slice_inv;rcases dI f with ⟨q,g⟩ | ⟨b,cap,q,_⟩
 .grind
 grind
def Mem.appendTail{P:Program}(h:Mem M ob ac w){t tx ty e:TypeId}{i:TypeInfo}{z:Value}(ht:P.underlying t=some (.slice e))(hi:P.info? e=some i)(hz:i.zero=some z)(hz1:z.cells.toList.all (·.oneCell')=true)
  (hzs:z.cells.size=i.size) (B:0<i.size) {k g:Nat} {xs ys:ay} (S:ac[k]? =some (.tail g i.size e)) {v x:Value} (hv:Rep M ob v (.slice i.size xs (.own k g))) (hs:SrcA P M w i.size tx x ys)
  (h63:xs.length+ys.length<=maxLen) (K:(xs.length+ys.length)*i.bytes<=140737488355328):
  ∃ s w' M' ob',(Co #[t,tx] ty #[v,x]).run P w= .ok s w'/\Mem M' ob' (ac.set k (.tail (g+1) i.size e)) w'/\Ext M ob ac w M' ob' (ac.set k (.tail (g+1) i.size e)) w'/\
   cK ob ac ob' (ac.set k (.tail (g+1) i.size e))/\Rep M' ob' s (.slice i.size (xs++ys) (.own k (g+1))):=by
 obtain ⟨hvr,hvt⟩:=hv.untok;have hvt':at' ob k g=some v:=hvt;obtain ⟨I,W,e2,v0,e3,n,cv,C,o5⟩:=h.obj k _ S;have e4:I[g]? =some v:=by rw [<-bW W];exact hvt'
 rw [e4] at e3;cases e3;have hn:=zS hvr C;subst hn;obtain ⟨⟨news,s1,s2⟩,s3⟩:=hs
 -- the old row's cells
 have hold:(∀ x∈xs,x.cells.length=i.size)/\(∀ u∈cv,u.oneCell'=true)/\(∀ (q:Nat) c,aH i.size xs q=some c->∃ u,cv[q]? =some u/\Rep M [] u c)/\∀ b,v.ownBlock=some b->b<w.heap.size/\∀ (q:Nat) u,cv[q]? =some u->w.cell? ⟨b,q,none⟩=some u:=by
  have r:∀ b,v.ownBlock=some b->∀ (q:Nat) u,cv[q]? =some u->w.cell? ⟨b,q,none⟩=some u:=λ b d q u m=>fK C d m;cases hvr with
  | slnil sz t' Y=>
   have:cv=[]:=Az (by simpa using C.1);subst this;exact ⟨λ x S=>by simp at S,λ u m=>by simp at m,λ q c A=>by simp [aH] at A,λ b d=>⟨(C.lt b d).2,r b d⟩⟩
  | slemp sz t' a cap Y=>
   have:cv=[]:=Az (by simpa using C.1);subst this;exact ⟨λ x S=>by simp at S,λ u m=>by simp at m,λ q c A=>by simp [aH] at A,λ b d=>⟨(C.lt b d).2,r b d⟩⟩
  | sl sz b o n cap xs t' hn hc hm L hM Y=>
   have ho:o=0:=by
    rcases dI C with ⟨q,_⟩ | ⟨b',cap',q,_⟩
    .cases q
    .cases q;rfl
   subst ho;have p:∀ q,q<xs.length*i.size->∃ u c,cv[q]? =some u/\aH i.size xs q=some c/\u.oneCell'=true/\Rep M [] u c:=λ q A=>by
    obtain ⟨c,hc⟩:=yX B L A;obtain ⟨y,f,hyc⟩:=gB hc;have U:=hM _ _ y c f hyc;have hqq:0+q / i.size*i.size+q % i.size=q:=by rw [Bp,Dd];exact Fx q _
    rw [hqq] at U;obtain ⟨u,m,h1,F⟩:=h.imm b q c U;have j:q<cv.length:=by rw [C.1];exact A
    have:=r b rfl q _ (Aa j);rw [m] at this;cases this;exact ⟨_,c,Aa j,hc,h1,F⟩
   refine ⟨L,λ u m=>?_,λ q c A=>?_,λ b d=>⟨(C.lt b d).2,r b d⟩⟩
   .obtain ⟨q,A⟩:=Cu m;obtain ⟨u',c,h1,_,F,_⟩:=p q (by have:=(Ab.1 A).1;rw [C.1] at this;exact this);rw [A] at h1;cases h1;exact F
   .obtain ⟨u,c',h1,F,_,h3⟩:=p q (fM B A);rw [A] at F;cases F;exact ⟨u,h1,h3⟩
 obtain ⟨L,o2,o4,o6⟩:=hold;obtain ⟨s,w',X,l,hos,O,T,R,H,honeb⟩:=iR (P:=P) w t tx ty e i z ht hi hz hz1 hzs v xs.length cv C o2 x ys.length news s1 h63 K;have D:∀ b,s.ownBlock=some b->v.ownBlock=some b\/w.heap.size<=b:=λ b d=>by
  rcases H with ⟨q,_⟩ | ⟨q,_⟩
  .exact .inl (q▸d)
  .rw [q] at d;cases d;omega
 have G:∀ b,b<w.heap.size->v.ownBlock≠some b\/s.ownBlock≠some b->w'.heap[b]? =w.heap[b]?:=λ b d hne=>by
  rcases H with ⟨W,F⟩ | ⟨_,F⟩
  .exact F b (by rcases hne with h | h;exact h;rw [<-W];exact h)
  .exact F b d
 have hzz:∀ y∈xs++ys,y.cells.length=i.size:=λ y f=>by
  rcases Ba.1 f with f | f
  .exact L y f
  .exact s3 y f
 have N:∀ (q:Nat) c,aH i.size (xs++ys) q=some c->∃ u,(cv++news)[q]? =some u/\u.oneCell'=true/\Rep M [] u c:=λ q c A=>by
  by_cases j:q<xs.length*i.size
  .rw [cN B j] at A;obtain ⟨u,m,X⟩:=o4 q c A;exact ⟨u,by rw [Ag (by rw [C.1];exact j)];exact m,o2 u (Av m),X⟩
  .rw [cF B o_] at A;obtain ⟨u,m,X⟩:=s2 _ c A;exact ⟨u,by rw [Ak (by rw [C.1];omega),C.1];exact m,s1.one u (Av m),X⟩
 have J:blk I=v.ownBlock.toList:=(eG e2 e4).trans (fA C);have hl':(I++[s]).length=g+1+1:=by simp [e2]
 have Q:(I++[s])[g+1]? =some s:=by rw [<-e2];simp
 have Z:∀ b o y,s.ownBlock=some b->M b o y->v.ownBlock=some b/\o<xs.length*i.size:=λ b o y d f=>by
  rcases D b d with q | q
  .refine ⟨q,?_⟩;rcases Ni o (xs.length*i.size) with j | hge
   .exact j
   .exact absurd f (o5 b q o hge y)
  .exact absurd f (h.noImm q o y)
 have p:=h.turn (M':=hZ M s i.size (xs++ys)) (w':=w') (x':=.tail (g+1) i.size e) (hs':=I++[s]) S W ⟨[s],rfl⟩ (λ e=>by cases e) (λ_ _ _ h=>.inl h) (λ b o y f=>by
   rcases f with f | ⟨d,_⟩
   .exact .inl f
   .rcases D b d with q | q
    .exact .inr (.inl ⟨rfl,nB J q⟩)
    omega) (λ b o y f=>by
   rcases f with f | ⟨d,f⟩
   .obtain ⟨u,m,h1,F⟩:=h.imm b o y f;refine ⟨u,?_,h1,F.monoM λ_ _ _ h=>.inl h⟩;by_cases d:s.ownBlock=some b
    .obtain ⟨q1,q2⟩:=Z b o y d f;have j:o<cv.length:=by rw [C.1];exact q2
     have:=(o6 b q1).2 o _ (Aa j);rw [m] at this;cases this;exact fK l d (by rw [Ag j];simp)
    .exact (Cs (w:=w) (a:=⟨b,o,none⟩) (G b (Ct w _ m) (.inr d))).trans m
   .obtain ⟨u,m,h1,F⟩:=N o y f
    exact ⟨u,fK l d m,h1,F.monoM λ_ _ _ h=>.inl h⟩)
  (λ b j hn=>G b j (.inl λ e=>hn ⟨rfl,nB J e⟩)) hos O T R
  (λ_=>⟨hl',s,Q,_,cv++news,l,λ b d o ho y f=>by
   rcases f with f | ⟨_,f⟩
   .have:=(Z b o y d f).2;rw [Bw] at ho;omega
   .have:=fM B f
    rw [Ai] at this;omega⟩)
  (λ_ b d=>by
   have V:s.ownBlock=some b:=wG ((eG hl' Q).trans (fA l)) d;refine ⟨?_,(l.lt b V).2⟩;rcases D b V with q | q
   .exact .inl ⟨rfl,nB J q⟩
   omega)
 refine ⟨s,w',_,_,X,p.1,p.2.1,p.2.2,kD q_ hzz ?_⟩;show at' _ k (g+1)=some s;rw [bW (Au (Ab.1 W).1)];exact Q
def append_nil{P:Program}(h:Mem M ob ac w){t o ty e:TypeId}{i:TypeInfo}{z:Value}(y:P.underlying t=some (.slice e))(C:P.info? e=some i)(hz:i.zero=some z)(hz1:z.cells.toList.all (·.oneCell')=true)
  (p:z.cells.size=i.size) (l:0<i.size) {ys:ay} {x:Value} (hs:SrcA P M w i.size o x ys) (A:ys.length<=maxLen) (m:ys.length*i.bytes<=140737488355328):
  ∃ n w',(Co #[t,o] ty #[.slice none 0 0,x]).run P w= .ok n w'/\Grown M w w' i.size e n ys:=by
 obtain ⟨⟨news,s,B⟩,v⟩:=hs;obtain ⟨n,w',u,c,r,d,k,f,a,g⟩:=iR (P:=P) w t o ty e i z y C hz hz1 p _ 0 [] (Hg w 0 e i.size) s_ x ys.length news s o_ q_;rw [Bp,Bn] at c;refine ⟨n,w',u,⟨news,c,s.one,B⟩,l,v,λ b j=>?_,λ b j=>?_,r,d,k,f,g (C6 w)⟩
 .rcases a with ⟨q,_⟩ | ⟨q,_⟩
  .rw [q] at j;cases j
  .rw [q] at j;cases j;omega
 .rcases a with ⟨_,q⟩ | ⟨_,q⟩
  .exact q b (by simp [Gl])
  .exact q b j
end
section
variable {M:Imm} {ob:Hs} {ac:au} {w:World}
def Mem.sliceCells(h:Mem M ob ac w){sz b o:Nat}{xs:ay}(hs:0<sz)(hz:∀ x∈xs,x.cells.length=sz)
  (hm:∀ (i j:Nat) x c,xs[i]? =some x->x.cells[j]? =some c->M b (o+i*sz+j) c):
  ∃ vs:ba,vs.length=xs.length*sz/\(∀ (j:Nat) u,vs[j]? =some u->w.cell? ⟨b,o+j,none⟩=some u)/\(∀ u∈vs,u.oneCell'=true)/\
   ∀ (q:Nat) c,aH sz xs q=some c->∃ u,vs[q]? =some u/\Rep M [] u c:=by
 have key:∀ q,q<xs.length*sz->∃ u,w.cell? ⟨b,o+q,none⟩=some u/\u.oneCell'=true/\∀ c,aH sz xs q=some c->Rep M [] u c:=by
  intro q e;obtain ⟨c,n⟩:=yX hs hz e;obtain ⟨x,p,l⟩:=gB n;have r:o+q / sz*sz+q % sz=o+q:=by have:=Fx q sz;rw [Dd] at this;omega
  obtain ⟨v,a,h1,k⟩:=h.imm _ _ _ (hm _ _ _ _ p l);rw [r] at a;exact ⟨v,a,h1,λ s g=>by rw [n] at g;cases g;exact k⟩
 refine ⟨(Di (xs.length*sz)).map λ q=>(w.cell? ⟨b,o+q,none⟩).getD undef,by simp,λ j u d=>?_,λ u d=>?_,λ q c e=>?_⟩
 .simp only [Bg] at d;by_cases m:j<xs.length*sz
  .obtain ⟨v,a,_⟩:=key j m;simp [Dm m,a] at d;rw [a,d]
  .rw [Bi q_] at d;simp at d
 .simp only [Ca,Ho] at d;obtain ⟨q,e,rfl⟩:=d;obtain ⟨v,a,h1,_⟩:=key q e;simp [a,h1]
 .have f:=fM hs e;obtain ⟨v,a,_,k⟩:=key q f;exact ⟨v,by simp only [Bg,Dm f,Mq,a,Jw],k c e⟩
def CV{P:Program}{sz c m:Nat}{n:Nat}(hm:m<=0){ys:ay}:∃ news:ba,(Cj sz m (.slice none n c)).run P w= .ok news.toArray w/\news.length=m*sz/\(∀ u∈news,u.oneCell'=true)/\∀ (q:Nat) c,q<m*sz->aH sz ys q=some c->∃ u,news[q]? =some u/\Rep M [] u c:=by have:m=0:=o_;subst this;exact ⟨[],rfl,by simp,λ u b=>by simp at b,λ q c a=>by simp at a⟩
def MZ{P:Program}{sz n c m:Nat}{a:Addr}{ys:ay}{vs:ba}(hm:m*sz<=vs.length)(i:∀ (j:Nat) u,vs[j]? =some u->w.cell? (a.add j)=some u)(h1:∀ u∈vs,u.oneCell'=true)
  (h:∀ (q:Nat) c,aH sz ys q=some c->∃ u,vs[q]? =some u/\Rep M [] u c):
  ∃ news:ba,(Cj sz m (.slice (some a) n c)).run P w= .ok news.toArray w/\news.length=m*sz/\(∀ u∈news,u.oneCell'=true)/\∀ (q:Nat) c,q<m*sz->aH sz ys q=some c->∃ u,news[q]? =some u/\Rep M [] u c:=by
 have hl:(vs.take (m*sz)).length=m*sz:=by simp;omega
 have e:Cj sz m (.slice (some a) n c)=loadCells a (m*sz):=rfl
 have:=run_loadCells_list (P:=P) w a (vs.take (m*sz)) (λ j v b=>by
  rw [Gg] at b;split at b
  .exact i j v b
  .cases b)
 rw [hl] at this;refine ⟨vs.take (m*sz),by grind,hl,λ u d=>h1 u (Cy d),λ q c k f=>?_⟩;obtain ⟨u,d,g⟩:=h q c f;exact ⟨u,by rw [Bj k];exact d,g⟩
def MY{P:Program}{sz c m n:Nat}{a:Addr}(hm:m<=0){ys:ay}:∃ news:ba,(Cj sz m (.slice (some a) n c)).run P w= .ok news.toArray w/\news.length=m*sz/\(∀ u∈news,u.oneCell'=true)/\∀ (q:Nat) c,q<m*sz->aH sz ys q=some c->∃ u,news[q]? =some u/\Rep M [] u c:=by have:m=0:=o_;subst this;have e:Cj sz 0 (.slice (some a) n c)=loadCells a (0*sz):=rfl;have:=run_loadCells_list (P:=P) w a [] (λ j v b=>by simp at b);simp_all
def SrcA.ofSlice{P:Program}(h:Mem M ob ac w){sz:Nat}(hs:0<sz){k A:TypeId}(e:P.underlying k=some (.slice A)){x:Value}{ys:ay}{t:Tk}(z:Rep M ob x (.slice sz ys t)):SrcA P M w sz k x ys:=by
 cases z with
 | slnil sz t l=>exact ⟨⟨[],Src.ofNil w e 0,λ q c g=>by simp [aH] at g⟩,λ y f=>by simp at f,λ m hm=>CV hm⟩
 | slemp sz t a cap l=>exact ⟨⟨[],Src.ofSlice w e a 0 cap [] s_ (λ j u d=>by simp at d) (λ u v=>by simp at v),λ q c g=>by simp [aH] at g⟩,λ y f=>by simp at f,λ m hm=>MY hm⟩
 | sl sz b o n cap xs t s B hm hz r l=>
  subst s;obtain ⟨vs,l1,l2,i,p⟩:=h.sliceCells hs hz r;exact ⟨⟨vs,Src.ofSlice w e ⟨b,o,none⟩ _ cap vs l1 (λ j u d=>by rw [bB];exact l2 j u d) i,p⟩,hz,λ m hm=>MZ (vs:=vs) (by rw [l1];exact Br _ hm) (λ j u d=>by rw [bB];exact l2 j u d) i p⟩
def SrcA.ofRow{P:Program}(h:Mem M ob ac w){k g sz:Nat}{e:TypeId}{xs:ay}(hs:0<sz)(Q:ac[k]? =some (.row g sz e xs)){s R:TypeId}(t:P.underlying s=some (.slice R)){v:Value}(O:at' ob k g=some v)
  {lo len:Nat} (hl:lo+len<=xs.length) {x:Value} (z:∀ b n c,v= .slice (some ⟨b,0,none⟩) n c->len≠0->∃ l,x= .slice (some ⟨b,lo*sz,none⟩) len l) (C:len=0->∃ a l,x= .slice a 0 l):SrcA P M w sz s x ((xs.drop lo).take len):=by
 obtain ⟨T,X,_,_,_,D,p,_⟩:=h.rowOf Q;rw [O] at D;cases D;obtain ⟨cv,B,K,V,L,Y⟩:=p;have hz:∀ y∈(xs.drop lo).take len,y.cells.length=sz:=λ y S=>V y (Ez (Cy S));have f:((xs.drop lo).take len).length=len:=by simp;omega
 suffices hsuf:(∃ news,Src P sz s x len news w/\∀ (q:Nat) c,aH sz ((xs.drop lo).take len) q=some c->∃ u,news[q]? =some u/\Rep M [] u c)/\
   ∀ m,m<=len->∃ news:ba,(Cj sz m x).run P w= .ok news.toArray w/\news.length=m*sz/\(∀ u∈news,u.oneCell'=true)/\∀ (q:Nat) c,q<m*sz->aH sz ((xs.drop lo).take len) q=some c->∃ u,news[q]? =some u/\Rep M [] u c by
  exact ⟨by rw [f];exact hsuf.1,hz,λ m hm=>hsuf.2 m o_⟩
 by_cases H:len=0
 .subst H;obtain ⟨a,l,rfl⟩:=C rfl;cases a with
  | none=>exact ⟨⟨[],Src.ofNil w t l,λ q c A=>by simp [aH] at A⟩,λ m hm=>CV hm⟩
  | some a=>exact ⟨⟨[],Src.ofSlice w t a 0 l [] s_ (λ j u d=>by simp at d) (λ u o=>by simp at o),λ q c A=>by simp [aH] at A⟩,λ m hm=>MY hm⟩
 .rcases dI B with ⟨q,W⟩ | ⟨b,cap,q,U,_⟩
  .omega
  .obtain ⟨l,rfl⟩:=z b _ cap q H;have r:(lo+len)*sz<=cv.length:=by rw [B.1];exact Br _ hl
   have J:((cv.drop (lo*sz)).take (len*sz)).length=len*sz:=by rw [Dn,Eh];rw [Bw] at r;omega
   have F:∀ (j:Nat) u,((cv.drop (lo*sz)).take (len*sz))[j]? =some u->w.cell? ((⟨b,lo*sz,none⟩:Addr).add j)=some u:=λ j u d=>by
    rw [Gg] at d;split at d
    .rw [Bq] at d;rw [bB];exact fK B U d
    .cases d
   have I:∀ u∈(cv.drop (lo*sz)).take (len*sz),u.oneCell'=true:=λ u o=>K u (Ez (Cy o));have G:∀ (j:Nat) c,aH sz ((xs.drop lo).take len) j=some c->∃ u,((cv.drop (lo*sz)).take (len*sz))[j]? =some u/\Rep M [] u c:=λ j c d=>by have i:=fM hs d;rw [f] at i;rw [mZ hs i,AK hs] at d;obtain ⟨u,o,N⟩:=L _ c d;exact ⟨u,by rw [Bj i,Bq];exact o,N⟩
   exact ⟨⟨_,Src.ofSlice w t _ _ _ _ J F I,G⟩,λ m hm=>MZ (by rw [J];exact Br _ hm) F I G⟩
def pI(l:ax):(⟨l.toArray⟩:ByteArray).size=l.length:=by rfl
def wC(c:UInt8):Rep M ob (.int .u8 c.toNat) (ub c):=.int _ _ ⟨by simp only [cJ];omega,by simp only [bE];have:=c.toNat_lt;omega⟩
def T3(l:ax):∀ y∈l.map ub,y.cells.length=1:=λ y a=>by obtain ⟨c,_,rfl⟩:=Ca.1 a;rfl
def yW(l:ax)(q:Nat):aH 1 (l.map ub) q=(l[q]?).map ub:=by unfold aH;rw [Il,Jc,Bg];cases l[q]?<;>rfl
def SrcA.ofStr{P:Program}{g:TypeId}(h:P.underlying g=some .string)(l:ax):SrcA P M w 1 g (.string ⟨l.toArray⟩) (l.map ub):=by
 have f:∀ (q:Nat) c,aH 1 (l.map ub) q=some c->∃ b,l[q]? =some b/\c=ub b:=λ q c a=>by
  rw [yW] at a;obtain ⟨b,d,rfl⟩:=Cf.1 a
  grind
 refine ⟨⟨byteCells ⟨l.toArray⟩,?_,λ q c a=>?_⟩,T3 l,λ m hm=>⟨(l.take m).map λ b=>Ea .u8 b.toNat,?_,by grind,λ u i=>by obtain ⟨_,_,rfl⟩:=Ca.1 i;rfl,λ q c a j=>?_⟩⟩
 .have:=Src.ofString (P:=P) w h ⟨l.toArray⟩;rw [pI] at this
  grind
 .rw [yW] at a;obtain ⟨b,d,rfl⟩:=Cf.1 a;exact ⟨.int .u8 b.toNat,by simp [byteCells,d],wC b⟩
 .have e:(Cj 1 m (.string ⟨l.toArray⟩)).run P w= .ok (((⟨l.toArray⟩:ByteArray).extract 0 m).data.map λ b=>Ea .u8 b.toNat) w:=rfl;rw [e];simp
 .obtain ⟨b,d,rfl⟩:=f q c j;rw [Nat.mul_one] at a;exact ⟨.int .u8 b.toNat,by rw [Bg,Bj a,d];rfl,wC b⟩
def P2{P:Program}(h:Mem M ob ac w){t K ty e:TypeId}{i:TypeInfo}{z:Value}(C:P.underlying t=some (.slice e))(S:P.info? e=some i)(hz:i.zero=some z)(hz1:z.cells.toList.all (·.oneCell')=true)
  (Z:z.cells.size=i.size) (g:0<i.size) {xs ys:ay} {v x:Value} (hv:Rep M ob v (.slice i.size xs .full)) (hs:SrcA P M w i.size K x ys)
  (I:xs.length+ys.length<=maxLen) (m:(xs.length+ys.length)*i.bytes<=140737488355328):
  ∃ Q w',(Co #[t,K] ty #[v,x]).run P w= .ok Q w'/\((ys=[]/\Q=v/\w'=w)\/(ys≠[]/\Grown M w w' i.size e Q (xs++ys))):=by
 obtain ⟨B,⟨a,n,T⟩⟩:=hv.untok;obtain ⟨⟨news,G,s2⟩,s3⟩:=hs;obtain ⟨a',c,R,h0,h1,_⟩:=B.slice_inv;subst T;cases R;have O:((xs.length+ys.length:Nat):Int)<=9223372036854775807:=by simp only [maxLen] at I;omega
 by_cases r:ys=[]
 .subst r;refine ⟨_,w,?_,.inl ⟨rfl,rfl,rfl⟩⟩;have hn:news=[]:=Az (by simpa using G.newsLen);subst hn;have D:Src P i.size K x 0 [] w:=G;cases a with
  | none=>rcases D.kind with ⟨e',H⟩ | H<;>simp [Co,run_underlying C,run_underlying H,sizeOf,typeInfo,S,D.len,D.cells]
  | some a=>rcases D.kind with ⟨e',H⟩ | H<;>simp [Co,run_underlying C,run_underlying H,sizeOf,typeInfo,S,D.len,D.cells,storeCells]
 .have hpos':0<ys.length:=Dx.2 r
  have pre:(∀ x∈xs,x.cells.length=i.size)/\∃ d:ba,d.length=xs.length*i.size/\(Cj i.size xs.length (.slice a xs.length xs.length)).run P w.drew= .ok d.toArray w.drew/\(∀ u∈d,u.oneCell'=true)/\
    ∀ (q:Nat) c,aH i.size xs q=some c->∃ u,d[q]? =some u/\Rep M [] u c:=by
   have s:xs=[]->(∀ x∈xs,x.cells.length=i.size)/\∃ d:ba,d.length=xs.length*i.size/\(Cj i.size xs.length (.slice a xs.length xs.length)).run P w.drew= .ok d.toArray w.drew/\(∀ u∈d,u.oneCell'=true)/\
     ∀ (q:Nat) c,aH i.size xs q=some c->∃ u,d[q]? =some u/\Rep M [] u c:=by
    intro W;subst W;refine ⟨λ x W=>by simp at W,[],by simp,?_,λ u f=>by simp at f,λ q c F=>by simp [aH] at F⟩;cases a<;>simp [Cj,loadCells,loadCellsFrom]
   generalize A:Gv a xs.length xs.length=v at B;cases B with
   | slnil sz t C=>have q:=s rfl;rw [A] at q;exact q
   | slemp sz t a cap C=>have q:=s rfl;rw [A] at q;exact q
   | sl sz b o n cap xs t hn hc hm p hM C=>
    injection A with v1 v2 v3
    subst v1;obtain ⟨d,J,V,L,X⟩:=h.sliceCells g p hM;exact ⟨p,d,J,run_firstCells_some w.drew i.size _ ⟨b,o,none⟩ _ _ d J (λ j u hj=>by rw [bB];simpa using V j u hj),L,X⟩
  obtain ⟨p,d,J,V,L,X⟩:=pre;have hr:=run_append_grow_src (P:=P) w t K ty e i z C S hz a xs.length xs.length d V x ys.length news G o_ O (growslice_fits o_ m);have hge:=grownCap_ge w (xs.length+ys.length) xs.length e;have Y:grownCap w (xs.length+ys.length) xs.length e<=maxLen:=grownCap_le_maxLen w (xs.length+ys.length) xs.length e I;have l:(d++news).length=(xs.length+ys.length)*i.size:=by rw [Ai,J,G.newsLen,Bw]
  refine ⟨_,_,hr,.inr ⟨r,⟨d++news,⟨by rw [l,Ai],.inr ⟨w.heap.size,_,_,by simp,Bx _,heap_alloc_new w.drew _,by simp;omega,Y,?_,?_⟩⟩,λ u f=>?_,λ q c F=>?_⟩,g,λ y r=>?_,λ b U=>?_,λ b U=>heap_alloc_old w.drew _ U,rfl,rfl,rfl,by simp,?_⟩⟩
  .simp only [Array.size_append,Gn,size_zeroCells,Z,l,<-Bw];congr 1;omega
  .rw [Ai];simp only [Nd];rw [<-l];exact Hn
  .rcases Ba.1 f with f | f
   .exact L u f
   .exact G.one u f
  .by_cases N:q<xs.length*i.size
   .rw [cN g N] at F;rw [Ag o_];exact X q c F
   .rw [cF g o_] at F;rw [Ak o_,J];exact s2 _ c F
  .rcases Ba.1 r with r | r
   .exact p y r
   .exact s3 y r
  .simp only [Gl,Dq] at U;omega
  .have:∀ k,(d++news).toArray++Ci z.cells k=((d++news)++(Ci z.cells k).toList).toArray:=λ k=>by simp
   rw [this];refine pG (w:=w.drew) λ u f=>?_;rcases Ba.1 f with f | f
   .rcases Ba.1 f with f | f
    .exact L u f
    .exact G.one u f
   .exact jT hz1 u f
def Grown.ofAlloc{sz:Nat}{e:TypeId}{xs:ay}{cv:ba}(a:0<sz)(f:cv.length=xs.length*sz)(h1:∀ u∈cv,u.oneCell'=true)(hz:∀ x∈xs,x.cells.length=sz)(hm:xs.length<=maxLen)
  (g:∀ (q:Nat) c,aH sz xs q=some c->∃ u,cv[q]? =some u/\Rep M [] u c):Grown M w (w.alloc (.cells cv.toArray e)) sz e (.slice (some ⟨w.heap.size,0,none⟩) xs.length xs.length) xs:=by
 refine ⟨⟨cv,⟨f,.inr ⟨w.heap.size,xs.length,cv.toArray,rfl,Bx _,heap_alloc_new w _,Bd _,hm,by omega,by grind⟩⟩,h1,g⟩,a,hz,λ b d=>?_,λ b d=>heap_alloc_old w _ d,rfl,rfl,rfl,by simp,pG h1⟩;simp only [Gl,Dq] at d;omega
def Mem.bornCells(h:Mem M ob ac w){k:Nat}(h1:ac[k]? =some .dead)(f:ob[k]? =some []){cv:ba}{cs:ay}(T:TypeId)(hl:cv.length=cs.length)(c:∀ v∈cv,v.oneCell'=true)
  (j:∀ (i:Nat) v a,cv[i]? =some v->cs[i]? =some a->Rep M ob v a):
  Mem M (ob.set k [.pointer (some ⟨w.heap.size,0,none⟩)]) (ac.set k (.cells T cs)) (w.alloc (.cells cv.toArray T))/\Ext M ob ac w M (ob.set k [.pointer (some ⟨w.heap.size,0,none⟩)]) (ac.set k (.cells T cs)) (w.alloc (.cells cv.toArray T))/\
   cK ob ac (ob.set k [.pointer (some ⟨w.heap.size,0,none⟩)]) (ac.set k (.cells T cs))/\Rep M (ob.set k [.pointer (some ⟨w.heap.size,0,none⟩)]) (.pointer (some ⟨w.heap.size,0,none⟩)) (.ref k 0):=by
 have l:k<ob.length:=(Ab.1 f).1
 have:=h.turn (M':=M) (w':=w.alloc (.cells cv.toArray T)) (x':=.cells T cs) (hs':=[.pointer (some ⟨w.heap.size,0,none⟩)]) h1 f ⟨_,rfl⟩ (λ_=>rfl) (λ_ _ _ h=>h) (λ_ _ _ h=>.inl h) (λ b o y p=>by
   obtain ⟨u,g,q,r⟩:=h.imm b o y p
   exact ⟨u,(Cs (w:=w) (a:=⟨b,o,none⟩) (heap_alloc_old w _ (Ct w _ g))).trans g,q,r⟩)
  (λ b e _=>heap_alloc_old w _ e) rfl rfl rfl s_ (λ d=>⟨_,rfl,λ o=>h.noImm (Bd _) o,cv,heap_alloc_new w _,hl,c,λ i v a m n=>(j i v a m n).mono (λ_ _ _ h=>h) d⟩)
  (λ_ b e=>by
   have:w.heap.size=b:=dU.1 e
   simp;omega)
 refine ⟨this.1,this.2.1,this.2.2,.ref k 0 _ ?_⟩;rw [bW (Au l)];rfl
def Mem.bornMap(h:Mem M ob ac w){k:Nat}(h1:ac[k]? =some .dead)(f:ob[k]? =some [])(d:Bool):
  Mem M (ob.set k [.map (some w.heap.size)]) (ac.set k (.mp d [])) (w.alloc (.map #[] 0))/\Ext M ob ac w M (ob.set k [.map (some w.heap.size)]) (ac.set k (.mp d [])) (w.alloc (.map #[] 0))/\
   cK ob ac (ob.set k [.map (some w.heap.size)]) (ac.set k (.mp d []))/\Rep M (ob.set k [.map (some w.heap.size)]) (.map (some w.heap.size)) (.mref k):=by
 have m:k<ob.length:=(Ab.1 f).1
 have:=h.turn (M':=M) (w':=w.alloc (.map #[] 0)) (x':=.mp d []) (hs':=[.map (some w.heap.size)]) h1 f ⟨_,rfl⟩ (λ_=>rfl) (λ_ _ _ h=>h) (λ_ _ _ h=>.inl h) (λ b o y n=>by
   obtain ⟨u,g,p,q⟩:=h.imm b o y n
   exact ⟨u,(Cs (w:=w) (a:=⟨b,o,none⟩) (heap_alloc_old w _ (Ct w _ g))).trans g,p,q⟩)
  (λ b e _=>heap_alloc_old w _ e) rfl rfl rfl s_ (λ l=>⟨_,rfl,λ o=>h.noImm (Bd _) o,[],0,heap_alloc_new w _,rfl,λ i x y c=>by simp at c,λ i x c=>by simp at c,λ i j x y c=>by simp at c⟩)
  (λ_ b e=>by
   have:w.heap.size=b:=dU.1 e
   simp_all)
 refine ⟨this.1,this.2.1,this.2.2,.mref k _ ?_⟩;rw [bW (Au m)];rfl
def Mem.cellsTurn(h:Mem M ob ac w){k:Nat}{T:TypeId}{cs cs':ay}(q:ac[k]? =some (.cells T cs)){b:Nat}(r:at' ob k 0=some (.pointer (some ⟨b,0,none⟩))){cv':ba}(hl:cv'.length=cs'.length)(h1:∀ u∈cv',u.oneCell'=true)
  (x:∀ (i:Nat) v a,cv'[i]? =some v->cs'[i]? =some a->Rep M ob v a):
  Mem M ob (ac.set k (.cells T cs')) (w.setRow b cv'.toArray)/\Ext M ob ac w M ob (ac.set k (.cells T cs')) (w.setRow b cv'.toArray)/\cK ob ac ob (ac.set k (.cells T cs')):=by
 obtain ⟨hs,m,c,j,f,cv,t,_⟩:=h.obj k _ q;have:c=b:=by rw [bW m,j] at r;simpa using r
 subst this;have g:=fT (l:=ob) m
 have:=h.turn (M':=M) (w':=w.setRow c cv'.toArray) (x':=.cells T cs') (hs':=hs) q m (Cn _) (λ e=>by cases e) (λ_ _ _ h=>h) (λ_ _ _ h=>.inl h) (λ b o y s=>by
   obtain ⟨u,C,D,F⟩:=h.imm b o y s;have p:b≠c:=λ e=>by subst e;exact f o y s
   exact ⟨u,(Cs (w:=w) (a:=⟨b,o,none⟩) (setRow_other w c b _ p)).trans C,D,F⟩)
  (λ b _ A=>setRow_other w c b _ λ e=>A ⟨rfl,by subst e;rw [j];exact dU.2 rfl⟩) rfl rfl rfl s_ (λ n=>⟨c,j,f,cv',setRow_heap w c _ _ T _ t,hl,h1,λ i v a z B=>(x i v a z B).mono (λ_ _ _ h=>h) n⟩)
  (λ_ b d=>⟨.inl ⟨rfl,d⟩,by
   have:c=b:=by rw [j] at d;exact dU.1 d
   subst this;have:=fE t
   simp;omega⟩)
 rw [g] at this;exact this
end
section
variable {M:Imm} {ob:Hs} {ac:au} {w:World}
def bX{M':Imm}{ob':Hs}{f:aa->aa}(g:∀ v a,Rep M ob v a->Rep M' ob' v (f a)){as:ay}{vs:ba}(hl:vs.length=as.length)(h:∀ (i:Nat) v a,vs[i]? =some v->as[i]? =some a->Rep M ob v a):
  vs.length=(dO f as).length/\∀ (i:Nat) v a,vs[i]? =some v->(dO f as)[i]? =some a->Rep M' ob' v a:=by
 rw [wK];refine ⟨by grind,λ i v a e c=>?_⟩;rw [Bg] at c;obtain ⟨b,d,rfl⟩:=Cf.1 c
 grind
def xL{k g:Nat}{v:Value}{hs:ba}(h1:ob[k]? =some hs)(a:at' ob k g=some v):hs[g]? =some v:=by rw [<-bW h1];exact a
def aJT{b o n sz:Nat}{xs:ay}(k:xs.length=n)(hm:(n:Int)<=9223372036854775807)(hz:∀ x∈xs,x.cells.length=sz)(h:∀ (i j:Nat) x c,xs[i]? =some x->x.cells[j]? =some c->M b (o+i*sz+j) c)
  {lo len d:Nat} (hl:lo+len<=n) (g:len<=d) {t:Tk} (f:tK ob (.slice (some ⟨b,o+lo*sz,none⟩) len d) t):Rep M ob (.slice (some ⟨b,o+lo*sz,none⟩) len d) (.slice sz ((xs.drop lo).take len) t):=by
 refine .sl sz b _ len d _ t q_ g o_ (λ x a=>hz x (Ez (Cy a))) (λ i j x c a e=>?_) f;rw [Gg] at a;split at a
 .rw [Bq] at a;have:=h (lo+i) j x c a e;rwa [Bw,<-Kd] at this
 .cases a
def Mem.pureV(h:Mem M ob ac w):∀ (n:Nat) (v:Value) (a:aa),Rep M ob v a->Rep M [] v (ah (aB ac) n a):=by
 intro n;induction n with
 | zero=>intro v a _;exact .undef v
 | succ n u=>
  intro v a d;cases d with
  | undef v=>exact .undef v
  | bool b=>exact .bool b
  | int k n d=>exact .int k n d
  | str l hl=>exact .str l hl
  | agg vs as hl d=>
   obtain ⟨h1,f⟩:=bX (u) hl d;exact .agg vs _ h1 f
  | tup vs as hl d=>
   obtain ⟨h1,f⟩:=bX (u) hl d;exact .tup vs _ h1 f
  | ptr b o cs d=>exact .ptr b o cs d
  | ref k off b m=>
   simp only [AW.ah];split
   .rename_i cs p;obtain ⟨hs,h1,I,f,h3⟩:=h.obj k _ (bF p s_);have:=xL h1 m;rw [f] at this;simp at this;subst this;exact .ptr _ _ _ λ j c e=>by rw [mB,Bq] at e;simp_all
   .exact .undef _
  | eref k g i sz off b n c m=>exact .undef _
  | rowc k g c a n h hm=>exact .undef _
  | pre k g n c sz b len h e A hl hm=>exact .undef _
  | csl k off len sz b m hm=>
   simp only [AW.ah];split
   .rename_i cs p;cases z:Ax sz 1 with
    | false=>exact .undef _
    | true=>
     simp only [cond_true];split
     .rename_i l hl;cases J:pF l with
      | false=>exact .undef _
      | true=>
       simp only [cond_true];obtain ⟨hs,h1,I,f,h3⟩:=h.obj k _ (bF p s_);have:=xL h1 m;rw [f] at this;simp at this;subst this;obtain ⟨l1,l2⟩:=jP hl;refine .sl 1 _ off len len l .full l1 (Bd _) hm (λ x B=>?_) (λ i j x c B e=>?_) ⟨_,_,rfl⟩
       .obtain ⟨i,R⟩:=Cu B;rw [oA (lN J i x R)];rfl
       .rw [oA (lN J i x B)] at e;cases j with
        | succ j=>simp at e
        | zero=>
         simp at e;subst e;have:=l2 i x B;rw [mB,Bq] at this;have:=h3 _ x this
         grind
     .exact .undef _
   .exact .undef _
  | row k g a n c m=>
   simp only [AW.ah];split
   .rename_i y sz xs p;cases z:Ax g y with
    | false=>exact .undef _
    | true=>
     have:=aC z;subst this;simp only [cond_true];obtain ⟨hs,h1,P,f,h3⟩:=h.obj k _ (bF p s_);have:=xL h1 m
     grind
   .exact .undef _
  | sub k g lo len sz b n c m hl A e hm=>
   simp only [AW.ah];split
   .rename_i y r xs p;cases z:(Ax g y&&Ax sz r) with
    | false=>exact .undef _
    | true=>
     obtain ⟨s,C⟩:=aV z;have:=aC s;have:=aC C
     subst_vars
     simp only [cond_true];obtain ⟨hs,h1,P,f,h3⟩:=h.obj k _ (bF p s_);have:=xL h1 m;rw [f] at this;cases this;rcases h3.sl_inv with ⟨q,_⟩ | ⟨a,cap,q,C⟩ | ⟨I,V,G,q,N,L,hz,K⟩
     .cases q
     .injection q with _ q3 _
      have:len=0:=o_;subst this;rw [Im];exact .slemp _ _ _ _ trivial
     .injection q with s C q3
      injection s with s
      injection s with s q4 _
      subst s q4;have:=aJT (ob:=[]) (t:=.no) C.symm hm hz K A (show len<=c-lo by omega) trivial;rw [Bp] at this;exact this
   .exact .undef _
  | sub0 k g lo sz _ a n c m hl e=>
   simp only [AW.ah];split
   .rename_i y r xs p;cases z:(Ax g y&&Ax sz r) with
    | false=>exact .undef _
    | true=>
     simp only [cond_true,Im];cases a with
     | none=>exact .slnil _ _ trivial
     | some a=>exact .slemp _ _ _ _ trivial
   .exact .undef _
  | mref k b m=>exact .undef _
  | nilptr=>exact .nilptr
  | nilslice=>exact .nilslice
  | nilmap=>exact .nilmap
  | nilfunc=>exact .nilfunc
  | nilif=>exact .nilif
  | hsl a n c=>exact .hsl a n c
  | slnil sz t H=>exact .slnil sz .no trivial
  | slemp sz t a cap H=>exact .slemp sz .no a cap trivial
  | sl sz b o n cap xs t A e hm hz d H=>exact .sl sz b o n cap xs .no A e hm hz d trivial
  | func fn S cs U T O e F D=>
   obtain ⟨h1,f⟩:=bX (u) O F;obtain ⟨h3,Q⟩:=bX (u) e D;exact .func fn S cs _ _ h1 h3 f Q
  | iface t v a d=>exact .iface t v _ (u v a d)
def aP{k:Nat}{x y:ab}(h:ac[k]? =some x):bM ac k y=ac.set k y:=fY y (Ab.1 h).1
def oU(M:Imm)(ob:Hs)(ac:au)(w:World)(ao:au):Prop:=∃ M',Mem M' ob ao w/\Ext M ob ac w M' ob ao w/\(∀ k:Nat,ac[k]? =some .dead->ao[k]? =some .dead)/\ao.length=ac.length
def oU.refl(h:Mem M ob ac w):oU M ob ac w ac:=⟨M,h,Ext.refl _ _ _ _,λ_ h=>h,rfl⟩
def oU.trans{a b:au}(h:oU M ob ac w a)(k:∀ M',Mem M' ob a w->oU M' ob a w b):oU M ob ac w b:=by obtain ⟨f,h1,d,h3,m⟩:=h;obtain ⟨l,j,e,g,n⟩:=k f h1;exact ⟨l,j,d.trans e,λ i c=>g i (h3 i c),n.trans m⟩
def Mem.frzR(h:Mem M ob ac w)(k g:Nat):oU M ob ac w (AW.frzR ac k g):=by
 unfold AW.frzR;split
 .rename_i x sz e xs t;cases z:Ax g x with
  | false=>exact .refl h
  | true=>
   have:=aC z;subst this;simp only [cond_true];have j:=bF t s_;rw [aP j];obtain ⟨hs,v,m,F,A,D,⟨cv,n,p,C,s,G⟩,d⟩:=h.rowOf j
   have a:=h.turn (M':=hZ M v sz xs) (w':=w) (x':=.frow g sz xs) (hs':=hs) j m (Cn _) (λ e=>by cases e) (λ_ _ _ h=>.inl h) (λ b o y c=>by
     rcases c with c | ⟨l,_⟩
     .grind
     .exact .inr (.inl ⟨rfl,nB d l⟩)) (λ b o y c=>by
     rcases c with c | ⟨l,c⟩
     .obtain ⟨u,f,h1,q⟩:=h.imm b o y c;exact ⟨u,f,h1,q.monoM λ_ _ _ h=>.inl h⟩
     .obtain ⟨u,f,r⟩:=s o y c
      exact ⟨u,fK n l f,p u (Av f),r.monoM λ_ _ _ h=>.inl h⟩) (λ_ _ _=>rfl) rfl rfl rfl (Bd _)
    (λ_=>⟨v,A,kD n C trivial⟩) (λ e=>by cases e)
   rw [fT m] at a;exact ⟨_,a.1,a.2.1,λ i B=>by rw [Bb (λ e=>by grind)];exact B,by simp⟩
 .exact .refl h
def Mem.frz1(h:Mem M ob ac w)(k:Nat):oU M ob ac w (AW.frz1 ac k):=by
 unfold AW.frz1;split
 .rename_i cs x;have l:=bF x s_;rw [aP l];obtain ⟨hs,m,n,q,z,cv,D,t,B,C⟩:=h.obj k _ l;have p:cv.length=(dO (AW.ah (aB ac) 4) cs).length/\∀ (i:Nat) v a,cv[i]? =some v->(dO (AW.ah (aB ac) 4) cs)[i]? =some a->Rep M [] v a:=bX (h.pureV 4) t C
  let M':Imm:=λ b o y=>M b o y\/(b=n/\(dO (AW.ah (aB ac) 4) cs)[o]? =some y)
  have d:=h.turn (M':=M') (w':=w) (x':=.fcells (dO (AW.ah (aB ac) 4) cs)) (hs':=hs) l m (Cn _) (λ e=>by cases e) (λ_ _ _ h=>.inl h) (λ b o y f=>by
    rcases f with f | ⟨rfl,_⟩
    .exact .inl f
    .exact .inr (.inl ⟨rfl,by rw [q];exact dU.2 rfl⟩)) (λ b o y f=>by
    rcases f with f | ⟨rfl,f⟩
    .obtain ⟨u,A,h1,r⟩:=h.imm b o y f;exact ⟨u,A,h1,r.monoM λ_ _ _ h=>.inl h⟩
    .have g:o<cv.length:=by rw [p.1];exact (Ab.1 f).1
     exact ⟨cv[o],by rw [cell_of_row w b _ _ _ (0,0) D];simp [g],B _ (Bf g),(p.2 o _ y (Aa g) f).monoM λ_ _ _ h=>.inl h⟩) (λ_ _ _=>rfl) rfl rfl rfl (Bd _)
   (λ_=>⟨n,q,λ j c s=>.inr ⟨rfl,s⟩⟩) (λ e=>by cases e)
  rw [fT m] at d;exact ⟨_,d.1,d.2.1,λ i F=>by rw [Bb (λ e=>by simp_all)];exact F,by simp⟩
 .exact .refl h
def Mem.foldO{f:au->aa->au}(b:∀ (M:Imm) (ac:au) (a:aa),Mem M ob ac w->oU M ob ac w (f ac a)):∀ (l:ay) (M:Imm) (ac:au),Mem M ob ac w->oU M ob ac w (foldO f ac l)
 | [],_,_,h=>.refl h
 | c::r,M,ac,h=>(b M ac c h).trans λ M' d=>Mem.foldO b r M' _ d
def Mem.frzV:∀ (n:Nat) (M:Imm) (ac:au) (a:aa),Mem M ob ac w->oU M ob ac w (frzV n ac a):=by
 intro n;induction n with
 | zero=>intro M ac a h;exact .refl h
 | succ n d=>
  intro M ac a h;cases a
  case agg cs=>exact Mem.foldO d _ _ _ h
  case tup cs=>exact Mem.foldO d _ _ _ h
  case func fn fs cs=>exact (Mem.foldO d _ _ _ h).trans λ M' e=>Mem.foldO d _ _ _ e
  case iface t v=>exact d _ _ _ h
  case ref k off=>
   simp only [AW.frzV];split
   .exact (Mem.foldO d _ _ _ h).trans λ M' e=>e.frz1 k
   .exact .refl h
  case csl k a b c=>
   simp only [AW.frzV];split
   .exact (Mem.foldO d _ _ _ h).trans λ M' e=>e.frz1 k
   .exact .refl h
  case row k g=>exact h.frzR k g
  case sub k g a b c=>exact h.frzR k g
  all_goals exact .refl h
def Mem.frzL(l:ay)(h:Mem M ob ac w):oU M ob ac w (frzL ac l):=Mem.foldO (Mem.frzV 6) l M ac h
def Mem.frzs:∀ (l:az) (M:Imm) (ac:au),Mem M ob ac w->oU M ob ac w (aj l ac)
 | [],_,_,h=>.refl h
 | k::r,M,ac,h=>by
  unfold AW.aj;split
  .exact (h.frzR _ _).trans λ M' a=>Mem.frzs r M' _ a
  .exact (Mem.frzV 6 M ac _ h).trans λ M' a=>Mem.frzs r M' _ a
  .exact Mem.frzs r M _ h
end
def M3{k:Nat}:∀ {ks:az} {j i:Nat},pos k j ks=some i->j<=i/\ks[i-j]? =some k
 | [],j,i,h=>by cases h
 | x::r,j,i,h=>by
  simp only [pos] at h;cases a:Ax x k with
  | true=>
   simp_all
  | false=>
   rw [a] at h;obtain ⟨h1,b⟩:=M3 (ks:=r) h;refine ⟨by omega,?_⟩;rw [show i-j=(i-(j+1))+1 from by omega];simp_all
def U0{k i:Nat}{ks:az}(h:pos k 0 ks=some i):ks[i]? =some k:=by simpa using (M3 h).2
def lR{ac:au}:∀ {ks:az},jD ks ac=true->(∀ (j k:Nat),ks[j]? =some k->(aB ac k).owns=true)/\ks.Nodup
 | [],_=>⟨λ j k h=>by simp at h,Hq⟩
 | x::r,h=>by
  simp only [jD,Ad,Cw] at h;obtain ⟨⟨h1,a⟩,h3⟩:=h;obtain ⟨b,c⟩:=lR h3;refine ⟨λ j k d=>?_,Cg.2 ⟨λ hm=>?_,c⟩⟩
  .cases j with
   | zero=>grind
   | succ j=>exact b j k (by simp_all)
  .rw [lQ.2 hm] at a;cases a
def GK{l:az}(h:l.Nodup):∀ {i j b:Nat},l[i]? =some b->l[j]? =some b->i=j:=by
 induction l with
 | nil=>simp
 | cons x r d=>
  intro i j b a c;rw [Cg] at h;cases i with
  | zero=>cases j with
   | zero=>rfl
   | succ j=>simp at a c;subst a;exact absurd (Av c) h.1
  | succ i=>cases j with
   | zero=>simp at a c;subst c;exact absurd (Av a) h.1
   | succ j=>simp at a c;rw [d h.2 a c]
def eT{ac:au}{k:Nat}(h:(aB ac k).owns=true):ac[k]? =some (aB ac k):=by refine bF rfl λ e=>?_;rw [e] at h;cases h
def iU(n0 j:Nat)(o:ab)(hs:ba):ba:=
 if 0<eZ o then (if j<n0 then hs.take 1 else [])++hs.drop (eZ o) else hs
def eV(n0:Nat)(ob:Hs)(ac:au):Nat->az->Hs
 | _,[]=>[]
 | j,k::r=>iU n0 j (aB ac k) (ob.getD k [])::eV n0 ob ac (j+1) r
def gZ{n0:Nat}{ob:Hs}{ac:au}:∀ {ks:az} {j i:Nat},(eV n0 ob ac j ks)[i]? =(ks[i]?).map λ k=>iU n0 (j+i) (aB ac k) (ob.getD k [])
 | [],j,i=>by simp [eV]
 | k::r,j,i=>by
  cases i with
  | zero=>simp [eV]
  | succ i=>simp only [eV,Fu,gZ (ks:=r)];grind
def oP{n0:Nat}{ob:Hs}{ac:au}:∀ {ks:az} {j:Nat},(eV n0 ob ac j ks).length=ks.length
 | [],j=>rfl
 | k::r,j=>by simp [eV,oP (ks:=r)]
def LW{n0:Nat}{a:az}{ac:au}:∀ {ks:az} {j i:Nat},(qU n0 a ac j ks)[i]? =(ks[i]?).map λ k=>FP n0 a ac (j+i) (aB ac k)
 | [],j,i=>by simp [qU]
 | k::r,j,i=>by
  cases i with
  | zero=>simp [qU]
  | succ i=>simp only [qU,Fu,LW (ks:=r)];grind
def nR{n0:Nat}{a:az}{ac:au}:∀ {ks:az} {j:Nat},(qU n0 a ac j ks).length=ks.length
 | [],j=>rfl
 | k::r,j=>by simp [qU,nR (ks:=r)]
def V5{n0 j c g d:Nat}(h:gm n0 j c g=some d):(g=c/\d=(if j<n0 then (if c=0 then 0 else 1) else 0))\/(g≠c/\j<n0/\g=0/\d=0):=by
 unfold gm at h;have f:∀ a b:Nat,Ax a b=decide (a=b):=λ a b=>by
  by_cases e:a=b
  .simp_all
  .rw [ET e];simp [e]
 have hl:∀ a b:Nat,Ff a b=decide (a<b):=λ a b=>by
  by_cases e:a<b
  .simp_all
  .have:Ff a b=false:=by
    cases k:Ff a b with
    | false=>rfl
    | true=>simp_all;omega
   grind
 simp only [f,hl] at h;by_cases h1:g=c
 .simp only [h1,decide_true,cond_true,Dq] at h
  grind
 .simp only [h1,decide_false,cond_false] at h;by_cases i:j<n0<;>by_cases h3:g=0<;>simp [i,h3] at h;omega
def mV(n0 j g:Nat):gm n0 j g g=some (if j<n0 then (if g=0 then 0 else 1) else 0):=by
 unfold gm;simp only [Nat.beq_eq_true_eq,Nl,cond_true,Dq];by_cases a:j<n0
 .simp_all
 .have:Ff j n0=false:=by
   cases b:Ff j n0 with
   | false=>rfl
   | true=>simp_all;omega
  grind
section
variable {M:Imm} {ob:Hs} {ac:au} {w:World}
def Mem.histLen(h:Mem M ob ac w){k:Nat}{hs:ba}(d:(aB ac k).owns=true)(f:ob[k]? =some hs):hs.length=eZ (aB ac k)+1:=by
 obtain ⟨hs',e,a⟩:=h.obj k _ (eT d);rw [f] at e;cases e;cases c:aB ac k with
 | dead=>rw [c] at d;cases d
 | fcells cs=>rw [c] at d;cases d
 | frow g sz xs=>rw [c] at d;cases d
 | cells T cs=>rw [c] at a;obtain ⟨b,rfl,_⟩:=a;rfl
 | row g sz e xs=>rw [c] at a;exact a.1
 | tail g sz e=>rw [c] at a;exact a.1
 | mp i es=>rw [c] at a;obtain ⟨b,rfl,_⟩:=a;rfl
 | bun g I=>rw [c] at a;exact a.1
def xG{n0 j g b:Nat}{o:ab}{hs:ba}(hl:hs.length=eZ o+1)(d:gm n0 j (eZ o) g=some b):(iU n0 j o hs)[b]? =hs[g]?:=by
 unfold iU;rcases V5 d with ⟨rfl,rfl⟩ | ⟨h1,e,rfl,rfl⟩
 .by_cases c:0<eZ o
  .rw [if_pos c];by_cases a:j<n0
   .rw [if_pos a,if_pos a,if_neg o_,Ak q_];simp_all
   .rw [if_neg a,if_neg a];simp
  simp_all
 .have c:0<eZ o:=o_;simp_all
def yQ{n0 j:Nat}{o:ab}{hs:ba}(hl:hs.length=eZ o+1):(iU n0 j o hs).getLast? =hs.getLast?:=by
 unfold iU;by_cases b:0<eZ o
 .rw [if_pos b];rw [Na,List.getLast?_drop,if_neg o_];have a:hs≠[]:=λ e=>by grind
  rw [Kl a];rfl
 grind
def rZ{n0 j:Nat}{o:ab}{hs:ba}(hl:hs.length=eZ o+1):(iU n0 j o hs).length=(if j<n0 then (if eZ o=0 then 0 else 1) else 0)+1:=by
 unfold iU;by_cases b:0<eZ o
 .rw [if_pos b];by_cases a:j<n0
  .simp_all;omega
  .rw [if_neg a,if_neg a];simp;omega
 grind
def Mem.cutAt(h:Mem M ob ac w){n0:Nat}{ks:az}(i:jD ks ac=true){k j g c:Nat}{v:Value}(hp:pos k 0 ks=some j)(m:gm n0 j (eZ (aB ac k)) g=some c)(l:at' ob k g=some v):
  at' (eV n0 ob ac 0 ks) j c=some v:=by
 have d:=U0 hp;have f:=(lR i).1 j k d;have a:k<ob.length:=by rw [h.len];exact (Ab.1 (eT f)).1
 have b:ob[k]? =some ob[k]:=Aa a;have hl:=h.histLen f b;have e:(eV n0 ob ac 0 ks)[j]? =some (iU n0 j (aB ac k) ob[k]):=by rw [gZ,d];simp [b]
 rw [bW e,xG hl m];exact xL b l
def Mem.cvtV(h:Mem M ob ac w){n0:Nat}{ks:az}(r:jD ks ac=true):∀ (n:Nat) (v:Value) (a:aa),Rep M ob v a->Rep M (eV n0 ob ac 0 ks) v (cvtV n0 ks (aB ac) n a):=by
 intro n;induction n with
 | zero=>intro v a _;exact .undef v
 | succ n y=>
  intro v a m;have F:∀ {n0 j c x:Nat},gm n0 j c 0=some x->x=0:=λ{n0 j c x} d=>by
   rcases V5 d with ⟨e,rfl⟩ | ⟨_,_,_,rfl⟩
   .grind
   .rfl
  have tok:∀ {v:Value} {sz:Nat} {xs:ay} {t:Tk},Rep M ob v (.slice sz xs t)->Rep M (eV n0 ob ac 0 ks) v (AW.cvtV n0 ks (aB ac) (n+1) (.slice sz xs t)):=by
   intro v sz xs t m;obtain ⟨J,C⟩:=m.untok;have p:Rep M (eV n0 ob ac 0 ks) v (.slice sz xs .no):=J.slice_pure.pure;cases t with
   | no=>exact p
   | nil=>
    cases ks with
    | nil=>exact p
    | cons k ks=>exact p.tok C
   | full=>exact p.tok C
   | own k g=>
    simp only [AW.cvtV];split
    .rename_i j hp;split
     .rename_i s d;exact p.tok (show at' _ _ _=_ from h.cutAt r hp d C)
     .exact p
    .exact p
  cases m with
  | undef v=>exact .undef v
  | bool b=>exact .bool b
  | int k n m=>exact .int k n m
  | str l hl=>exact .str l hl
  | agg vs as hl m=>
   obtain ⟨h1,u⟩:=bX (y) hl m;exact .agg vs _ h1 u
  | tup vs as hl m=>
   obtain ⟨h1,u⟩:=bX (y) hl m;exact .tup vs _ h1 u
  | ptr b o cs m=>exact .ptr b o cs m
  | ref k off b f=>
   simp only [AW.cvtV];split
   .rename_i j hp;split
    .rename_i x d;have:=F d;subst this;exact .ref j off b (h.cutAt r hp d f)
    .exact .undef _
   .exact (h.pureV 1 _ _ (.ref k off b f)).pure
  | eref k g i sz off b n c f=>exact .undef _
  | rowc k g c a n h hm=>exact .undef _
  | pre k g n c sz b len h q z hl hm=>exact .undef _
  | csl k off len sz b f hm=>
   simp only [AW.cvtV];split
   .rename_i j hp;split
    .rename_i x d;have:=F d;subst this;exact .csl j off len sz b (h.cutAt r hp d f) hm
    .exact .undef _
   .exact (h.pureV 1 _ _ (.csl k off len sz b f hm)).pure
  | row k g a n c f=>
   simp only [AW.cvtV];split
   .rename_i j hp;split
    .rename_i s d;exact .row j s a n c (h.cutAt r hp d f)
    .exact .undef _
   .exact (h.pureV 1 _ _ (.row k g a n c f)).pure
  | sub k g lo len sz b n c f hl z q hm=>
   simp only [AW.cvtV];split
   .rename_i j hp;split
    .rename_i s d;exact .sub j s lo len sz b n c (h.cutAt r hp d f) hl z q hm
    .exact .undef _
   .exact (h.pureV 1 _ _ (.sub k g lo len sz b n c f hl z q hm)).pure
  | sub0 k g lo sz a G n c f hl q=>
   simp only [AW.cvtV];split
   .rename_i j hp;split
    .rename_i s d;exact .sub0 j s lo sz a G n c (h.cutAt r hp d f) hl q
    .exact .undef _
   .exact (h.pureV 1 _ _ (.sub0 k g lo sz a G n c f hl q)).pure
  | mref k b f=>
   simp only [AW.cvtV];split
   .rename_i j hp;split
    .rename_i x d;have:=F d;subst this;exact .mref j b (h.cutAt r hp d f)
    .exact .undef _
   .exact .undef _
  | nilptr=>exact .nilptr
  | nilslice=>exact .nilslice
  | nilmap=>exact .nilmap
  | nilfunc=>exact .nilfunc
  | nilif=>exact .nilif
  | hsl a n c=>exact .hsl a n c
  | slnil sz t A=>exact tok (.slnil sz t A)
  | slemp sz t a cap A=>exact tok (.slemp sz t a cap A)
  | sl sz b o n cap xs t z q hm hz m A=>exact tok (.sl sz b o n cap xs t z q hm hz m A)
  | func fn K cs N L H q D B=>
   obtain ⟨h1,u⟩:=bX (y) H D;obtain ⟨h3,I⟩:=bX (y) q B;exact .func fn K cs _ _ h1 h3 u I
  | iface t v a m=>exact .iface t v _ (y v a m)
def Mem.cvt(h:Mem M ob ac w){n0:Nat}{ks:az}(J:jD ks ac=true):
  Mem M (eV n0 ob ac 0 ks) (gG n0 ks ac) w/\(∀ j b,aG (eV n0 ob ac 0 ks) (gG n0 ks ac) j b->∃ k,ks[j]? =some k/\aG ob ac k b)/\
   (∀ j k b,ks[j]? =some k->aG ob ac k b->aG (eV n0 ob ac 0 ks) (gG n0 ks ac) j b):=by
 obtain ⟨u,U⟩:=lR J;have hist:∀ {j k:Nat},ks[j]? =some k->∃ hs,ob[k]? =some hs/\hs.length=eZ (aB ac k)+1/\(eV n0 ob ac 0 ks)[j]? =some (iU n0 j (aB ac k) hs)/\(gG n0 ks ac)[j]? =some (FP n0 ks ac j (aB ac k))/\hD M ob w hs (aB ac k):=by
  intro j k a;have L:=u j k a;obtain ⟨hs,G,D⟩:=h.obj k _ (eT L);refine ⟨hs,G,h.histLen L G,?_,?_,D⟩
  .rw [gZ,a];simp [G]
  .unfold gG;rw [LW,a];simp
 have f:∀ j o,(FP n0 ks ac j o).owns=o.owns:=λ j o=>by cases o<;>rfl
 have p:∀ j b,aG (eV n0 ob ac 0 ks) (gG n0 ks ac) j b->∃ k,ks[j]? =some k/\aG ob ac k b:=by
  rintro j b ⟨c,hs,B,R,K,H⟩;have a:∃ k,ks[j]? =some k:=by
   have:j<ks.length:=by have:=(Ab.1 B).1;unfold gG at this;rwa [nR] at this
   exact ⟨_,Aa this⟩
  obtain ⟨k,a⟩:=a;obtain ⟨hs',z,t,y,x,_⟩:=hist a;rw [x] at B;rw [y] at K;cases B;cases K;refine ⟨k,a,(cO (eT (u j k a)) z).2 ⟨by rw [<-f j];exact R,?_⟩⟩;unfold blk at H⊢;rwa [yQ t] at H
 have F:∀ j k b,ks[j]? =some k->aG ob ac k b->aG (eV n0 ob ac 0 ks) (gG n0 ks ac) j b:=by intro j k b a n;obtain ⟨hs',z,t,y,x,_⟩:=hist a;have:=(cO (eT (u j k a)) z).1 n;refine (cO x y).2 ⟨by rw [f];exact this.1,?_⟩;unfold blk;rw [yQ t];exact this.2
 refine ⟨⟨h.imm,by unfold gG;rw [oP,nR],λ j c l=>?_,λ j b n=>?_,λ i j b n C=>?_⟩,p,F⟩
 .have a:∃ k,ks[j]? =some k:=by
   have:j<ks.length:=by have:=(Ab.1 l).1;unfold gG at this;rwa [nR] at this
   exact ⟨_,Aa this⟩
  obtain ⟨k,a⟩:=a;obtain ⟨hs,z,t,y,x,m⟩:=hist a;rw [x] at l;cases l;refine ⟨_,y,?_⟩;have hl:=rZ (n0:=n0) (j:=j) t;have s:=mV n0 j (eZ (aB ac k));have d:=xG t s;cases l:aB ac k with
  | dead=>exact trivial
  | fcells cs=>have:=u j k a;rw [l] at this;cases this
  | frow g sz xs=>have:=u j k a;rw [l] at this;cases this
  | cells T cs=>
   rw [l] at m;obtain ⟨b,rfl,A,cv,q,r,P,N⟩:=m;obtain ⟨O,Q⟩:=bX (h.cvtV (n0:=n0) J 4) r N;exact ⟨b,rfl,A,cv,q,O,P,Q⟩
  | row g sz e xs=>
   rw [l] at m hl d;obtain ⟨A,v,q,r⟩:=m;simp only [FP,mV];exact ⟨hl,v,d.trans q,r⟩
  | tail g sz e=>
   rw [l] at m hl d;obtain ⟨A,v,q,r⟩:=m;simp only [FP,mV];exact ⟨hl,v,d.trans q,r⟩
  | mp V es=>
   rw [l] at m;exact m
  | bun g I=>
   rw [l] at m hl d;obtain ⟨A,v,q,r⟩:=m;simp only [FP,mV];exact ⟨hl,v,d.trans q,r⟩
 .obtain ⟨k,_,n⟩:=p j b n;exact h.lt k b n
 .obtain ⟨k,S,n⟩:=p i b n;obtain ⟨k',a,C⟩:=p j b C;have:=h.inj k k' b n C;subst this;exact GK U S a
end
def aCb(ks:az):dZ.olenN ks=ks.length:=by
 induction ks with
 | nil=>rfl
 | cons k r a=>simp [dZ.olenN,a]
def iC{ks:az}{base j k:Nat}(h:ks[j]? =some k):dZ ks base j=k:=by simp [dZ,nH,h]
def jX{ks:az}{base j:Nat}(h:ks.length<=j):dZ ks base j=base+(j-ks.length):=by simp [dZ,nH,Bi h,aCb]
def aDN{ks:az}{base:Nat}(f:ks.Nodup)(c:∀ (j k:Nat),ks[j]? =some k->k<base){i j:Nat}(h:dZ ks base i=dZ ks base j):i=j:=by
 by_cases d:i<ks.length<;>by_cases e:j<ks.length
 .have b:=Aa d;have a:=Aa e;rw [iC b,iC a] at h;rw [<-h] at a;exact GK f b a
 .have b:=Aa d;rw [iC b,jX o_] at h;have:=c i _ b;omega
 .have a:=Aa e;rw [iC a,jX o_] at h;have:=c j _ a;omega
 .rw [jX o_,jX o_] at h;omega
def ZU{ks:az}{base:Nat}{ac:au}(x:ks.Nodup)(q:∀ (j k:Nat),ks[j]? =some k->k<base):∀ (l:au) (j:Nat) (a:au),a.length=base+(j-ks.length)->
  (gJ ks base ac j l a).length=base+(j+l.length-ks.length)/\(∀ (t:Nat) o,l[t]? =some o->(gJ ks base ac j l a)[dZ ks base (j+t)]? =some (pP ks base ac (j+t) o))/\
   ∀ i,(∀ t,t<l.length->dZ ks base (j+t)≠i)->i<a.length->(gJ ks base ac j l a)[i]? =a[i]?:=by
 intro l;induction l with
 | nil=>intro j a hl;exact ⟨by simpa [gJ] using hl,λ t o h=>by simp at h,λ i _ _=>rfl⟩
 | cons o r v=>
  intro j a hl;simp only [gJ]
  have f:(bM a (dZ ks base j) (pP ks base ac j o)).length=base+(j+1-ks.length)/\(bM a (dZ ks base j) (pP ks base ac j o))[dZ ks base j]? =some (pP ks base ac j o)/\
    ∀ i,dZ ks base j≠i->i<a.length->(bM a (dZ ks base j) (pP ks base ac j o))[i]? =a[i]?:=by
   by_cases m:j<ks.length
   .have p:=Aa m;have d:=q j _ p;rw [iC p,fY _ o_];exact ⟨by simp;omega,Au o_,λ i c _=>Bb c⟩
   .rw [jX o_,<-hl,NA];exact ⟨by simp;omega,by simp,λ i _ c=>Ag c⟩
  obtain ⟨u,n,w⟩:=f;obtain ⟨A,y,s⟩:=v (j+1) _ u;have d:dZ ks base j<(bM a (dZ ks base j) (pP ks base ac j o)).length:=(Ab.1 n).1;refine ⟨by rw [A];simp;omega,λ t z g=>?_,λ i c b=>?_⟩
  .cases t with
   | zero=>
    simp at g;subst g;show (gJ ks base ac (j+1) r (bM a (dZ ks base j) (pP ks base ac j o)))[dZ ks base j]? =some (pP ks base ac j o);rw [s _ (λ t _ e=>?_) d,n];have:=aDN x q e;omega
   | succ t=>
    have:=y t z (by simpa using g);rwa [show j+1+t=j+(t+1) from by omega] at this
  .rw [s i (λ t g=>?_) (by
    by_cases m:j<ks.length
    .rw [u];rw [hl] at b;omega
    omega),w i (c 0 s_) b]
   have:=c (t+1) q_;rwa [show j+(t+1)=j+1+t from by omega] at this
def jN(ks:az)(ob a:Hs):Hs:=
 (Di ob.length).map (λ k=>match pos k 0 ks with | some j=>ob.getD k []++(a.getD j []).drop 1 | none=>ob.getD k [])++a.drop ks.length
def aBW{ks:az}(a:ks.Nodup){j k:Nat}(h:ks[j]? =some k):pos k 0 ks=some j:=by
 have b:∀ (ks:az) (j i:Nat),ks.Nodup->ks[j]? =some k->pos k i ks=some (i+j):=by
  intro ks;induction ks with
  | nil=>simp
  | cons x r d=>
   intro j i a h;rw [Cg] at a;simp only [pos];cases j with
   | zero=>simp at h;subst h;simp
   | succ j=>
    have c:r[j]? =some k:=by simpa using h
    have:¬ x=k:=λ e=>a.1 (e▸Av c);rw [ET this];simp only [cond_false];rw [d j (i+1) a.2 c]
    grind
 simpa using b ks j 0 a h
section
variable {M M':Imm} {ob obK':Hs} {ac ao:au} {w w':World}
def Mem.embAt(h:Mem M ob ac w){ks:az}(x:jD ks ac=true)(l:dJ (eV 0 ob ac 0 ks) obK'){j g:Nat}{v:Value}(m:at' obK' j g=some v):
  at' (jN ks ob obK') (dZ ks ac.length j) (jF ks ac j g)=some v:=by
 obtain ⟨u,A⟩:=lR x;have f:∃ hs,obK'[j]? =some hs/\hs[g]? =some v:=by
  unfold at' at m;cases z:obK'[j]? with
  | none=>grind
  | some hs=>rw [z] at m;exact ⟨hs,rfl,m⟩
 obtain ⟨hs,k,n⟩:=f;by_cases d:j<ks.length
 .have b:=Aa d;have r:=u j _ b;have c:ks[j]<ob.length:=by rw [h.len];exact (Ab.1 (eT r)).1
  have p:ob[ks[j]]? =some ob[ks[j]]:=Aa c;have hl:=h.histLen r p;have a:(eV 0 ob ac 0 ks)[j]? =some (iU 0 j (aB ac ks[j]) ob[ks[j]]):=by rw [gZ,b];simp [p]
  obtain ⟨hs',q,t,y⟩:=l j _ a;rw [k] at q;cases q;have s:(iU 0 j (aB ac ks[j]) ob[ks[j]]).length=1:=by rw [rZ hl];simp
  have e:(iU 0 j (aB ac ks[j]) ob[ks[j]])[0]? =ob[ks[j]][eZ (aB ac ks[j])]?:=xG hl (by rw [mV];simp);have i:(jN ks ob obK')[ks[j]]? =some (ob[ks[j]]++hs.drop 1):=by unfold jN;rw [Ag q_,Bg,Dm c];simp [aBW A b,p,k]
  rw [iC b,bW i];have o:jF ks ac j g=eZ (aB ac ks[j])+g:=by simp [jF,nH,b]
  rw [o];cases g with
  | zero=>
   rw [Fm,Ag o_,<-e,<-n,<-y,Ag o_]
  | succ g=>
   rw [Ak o_,Bq,<-n];congr 1;omega
 .have i:(jN ks ob obK')[ac.length+(j-ks.length)]? =some hs:=by unfold jN;rw [Ak (by simp;rw [h.len];omega),Bq,<-k];congr 1;simp [h.len];omega
  rw [jX o_,bW i];simpa [jF,nH,Bi (show ks.length<=j by omega)] using n
def OY{M':Imm}{obK' f:Hs}{ks:az}{base:Nat}{ac:au}(m:∀ {j g:Nat} {v:Value},at' obK' j g=some v->at' f (dZ ks base j) (jF ks ac j g)=some v)
  (A:∀ {j:Nat} {v:Value},at' obK' j 0=some v->(∃ b,v= .pointer (some ⟨b,0,none⟩))\/(∃ b,v= .map (some b))->at' f (dZ ks base j) 0=some v):
  ∀ (n:Nat) (v:Value) (a:aa),Rep M' obK' v a->Rep M' f v (embV ks base ac n a):=by
 intro n;induction n with
 | zero=>intro v a _;exact .undef v
 | succ n s=>
  intro v a d;have tok:∀ {v:Value} {sz:Nat} {xs:ay} {t:Tk},Rep M' obK' v (.slice sz xs t)->Rep M' f v (AW.embV ks base ac (n+1) (.slice sz xs t)):=by
   intro v sz xs t d;obtain ⟨D,y⟩:=d.untok;have p:Rep M' f v (.slice sz xs .no):=D.slice_pure.pure;cases t with
   | no=>exact p
   | nil=>exact p.tok y
   | full=>exact p.tok y
   | own k g=>exact p.tok (show at' _ _ _=_ from m y)
  cases d with
  | undef v=>exact .undef v
  | bool b=>exact .bool b
  | int k n d=>exact .int k n d
  | str l hl=>exact .str l hl
  | agg vs as hl d=>
   obtain ⟨h1,r⟩:=bX (s) hl d;exact .agg vs _ h1 r
  | tup vs as hl d=>
   obtain ⟨h1,r⟩:=bX (s) hl d;exact .tup vs _ h1 r
  | ptr b o cs d=>exact .ptr b o cs d
  | ref k off b e=>exact .ref _ off b (A e (.inl ⟨b,rfl⟩))
  | eref k g i sz off b n c e=>exact .undef _
  | rowc k g c a n h hm=>exact .undef _
  | pre k g n c sz b len h q w hl hm=>exact .undef _
  | csl k off len sz b e hm=>exact .csl _ off len sz b (A e (.inl ⟨b,rfl⟩)) hm
  | row k g a n c e=>exact .row _ _ a n c (m e)
  | sub k g lo len sz b n c e hl w q hm=>exact .sub _ _ lo len sz b n c (m e) hl w q hm
  | sub0 k g lo sz a G n c e hl q=>exact .sub0 _ _ lo sz a G n c (m e) hl q
  | mref k b e=>exact .mref _ b (A e (.inr ⟨b,rfl⟩))
  | nilptr=>exact .nilptr
  | nilslice=>exact .nilslice
  | nilmap=>exact .nilmap
  | nilfunc=>exact .nilfunc
  | nilif=>exact .nilif
  | hsl a n c=>exact .hsl a n c
  | slnil sz t u=>exact tok (.slnil sz t u)
  | slemp sz t a cap u=>exact tok (.slemp sz t a cap u)
  | sl sz b o n cap xs t w q hm hz d u=>exact tok (.sl sz b o n cap xs t w q hm hz d u)
  | func fn F cs I H B q z x=>
   obtain ⟨h1,r⟩:=bX (s) B z;obtain ⟨h3,C⟩:=bX (s) q x;exact .func fn F cs _ _ h1 h3 r C
  | iface t v a d=>exact .iface t v _ (s v a d)
def Mem.embV(h:Mem M ob ac w){ks:az}(x:jD ks ac=true)(m:dJ (eV 0 ob ac 0 ks) obK')(C:(eV 0 ob ac 0 ks).length=ks.length):∀ (n:Nat) (v:Value) (a:aa),Rep M' obK' v a->
  Rep M' (jN ks ob obK') v (embV ks ac.length ac n a):=by
 have J:∀ {j:Nat} {v:Value},at' obK' j 0=some v->(∃ b,v= .pointer (some ⟨b,0,none⟩))\/(∃ b,v= .map (some b))->at' (jN ks ob obK') (dZ ks ac.length j) 0=some v:=by
  intro j v r hs;have:=h.embAt x m r;by_cases s:j<ks.length
  .have z:=Aa s;have p:eZ (aB ac ks[j])=0:=by
    have D:=(lR x).1 j _ z;obtain ⟨hs',F,d⟩:=h.obj _ _ (eT D);have f:(eV 0 ob ac 0 ks)[j]? =some (iU 0 j (aB ac ks[j]) hs'):=by rw [gZ,z];simp [F]
    have hl:=h.histLen D F;have t:(iU 0 j (aB ac ks[j]) hs')[0]? =hs'[eZ (aB ac ks[j])]?:=xG hl (by rw [mV];simp);have c:at' (eV 0 ob ac 0 ks) j 0=some v:=by
     have G:(iU 0 j (aB ac ks[j]) hs').length=1:=by rw [rZ hl];simp
     have y:=Aa (l:=iU 0 j (aB ac ks[j]) hs') (i:=0) o_;generalize (iU 0 j (aB ac ks[j]) hs')[0]=u at y;have:=m.at (ob:=eV 0 ob ac 0 ks) (k:=j) (g:=0) (v:=u) (by rw [bW f];exact y);rw [r] at this;cases this;rw [bW f];exact y
    rw [bW f,t] at c;cases p:aB ac ks[j] with
    | row g sz e xs=>
     rw [p] at d c;obtain ⟨_,H,o,cv,B,_⟩:=d;simp only [eZ] at c;rw [o] at c;cases c;rcases dI B with ⟨q,_⟩ | ⟨_,_,q,_⟩<;>rcases hs with ⟨b,hs⟩ | ⟨b,hs⟩<;>(rw [q] at hs;cases hs)
    | tail g sz e=>
     rw [p] at d c;obtain ⟨_,H,o,K,cv,B,_⟩:=d;simp only [eZ] at c;rw [o] at c;cases c;rcases dI B with ⟨q,_⟩ | ⟨_,_,q,_⟩<;>rcases hs with ⟨b,hs⟩ | ⟨b,hs⟩<;>(grind)
    | bun g I=>
     rw [p] at d c;obtain ⟨_,bs,o,_⟩:=d;simp only [eZ] at c;rw [o] at c;cases c;rcases hs with ⟨b,hs⟩ | ⟨b,hs⟩<;>cases hs
    | _=>rfl
   have A:jF ks ac j 0=0:=by simp [jF,nH,z,p]
   grind
  .have A:jF ks ac j 0=0:=by simp [jF,nH,Bi (show ks.length<=j by omega)]
   grind
 exact OY (λ r=>h.embAt x m r) J
def Mem.emb(h:Mem M ob ac w){ks:az}(hk:jD ks ac=true)(s:Ext M (eV 0 ob ac 0 ks) (gG 0 ks ac) w M' obK' ao w')(h':Mem M' obK' ao w'):
  Mem M' (jN ks ob obK') (gJ ks ac.length ac 0 ao ac) w'/\Ext M ob ac w M' (jN ks ob obK') (gJ ks ac.length ac 0 ao ac) w'/\∀ (i:Nat) hs,ac[i]? =some .dead->ob[i]? =some hs->(gJ ks ac.length ac 0 ao ac)[i]? =some .dead/\(jN ks ob obK')[i]? =some hs:=by
 obtain ⟨k1,k2⟩:=lR hk;obtain ⟨c1,c2,c3⟩:=h.cvt (n0:=0) hk;have hks:∀ (j k:Nat),ks[j]? =some k->k<ac.length:=λ j k u=>(Ab.1 (eT (k1 j k u))).1;have hcl:(eV 0 ob ac 0 ks).length=ks.length:=oP;have hm:ks.length<=ao.length:=by
  rcases Fp ks.length with h0 | h0
  .omega
  .have:(eV 0 ob ac 0 ks)[ks.length-1]? =some (eV 0 ob ac 0 ks)[ks.length-1]:=Aa o_;obtain ⟨hs',e,_⟩:=s.hs _ _ this;have:=(Ab.1 e).1;rw [h'.len] at this;omega
 obtain ⟨s1,s2,s3⟩:=ZU (base:=ac.length) (ac:=ac) k2 hks ao 0 ac s_;simp only [Bp] at s1 s2 s3;have hEl:(jN ks ob obK').length=ac.length+(ao.length-ks.length):=by unfold jN;simp [h.len,h'.len]
 -- the objects dB the call:by number
 have cls:∀ {i:Nat},i<(gJ ks ac.length ac 0 ao ac).length->(∃ j,j<ao.length/\i=dZ ks ac.length j)\/(i<ac.length/\(∀ j,j<ao.length->dZ ks ac.length j≠i)):=by
  intro i C;rw [s1] at C;by_cases P:i<ac.length
  .by_cases hin:∃ j,j<ao.length/\i=dZ ks ac.length j
   .exact .inl hin
   .exact .inr ⟨P,λ j u e=>hin ⟨j,u,e.symm⟩⟩
  .refine .inl ⟨ks.length+(i-ac.length),by omega,?_⟩;rw [jX o_];omega
 have R:∀ {i:Nat},i<ac.length->(∀ j,j<ao.length->dZ ks ac.length j≠i)->(gJ ks ac.length ac 0 ao ac)[i]? =ac[i]?/\(jN ks ob obK')[i]? =ob[i]?:=by
  intro i C d;refine ⟨s3 i d C,?_⟩;have S:i<ob.length:=by rw [h.len];exact C
  have hp:pos i 0 ks=none:=by
   cases hq:pos i 0 ks with
   | none=>rfl
   | some j=>
    have:=U0 hq;exact absurd (iC this) (d j (by have:=(Ab.1 this).1;omega))
  unfold jN;rw [Ag q_,Bg,Dm S];simp [hp,Aa S]
 have Y:∀ {j:Nat} {o:ab},ao[j]? =some o->∃ hs hs',obK'[j]? =some hs/\hD M' obK' w' hs o/\(gJ ks ac.length ac 0 ao ac)[dZ ks ac.length j]? =some (pP ks ac.length ac j o)/\(jN ks ob obK')[dZ ks ac.length j]? =some hs'/\
   hs'.length=(match ks[j]? with | some k=>eZ (aB ac k) | none=>0)+hs.length/\(o.owns=true->blk hs'=blk hs)/\(∀ (g:Nat) v,hs[g]? =some v->hs'[jF ks ac j g]? =some v):=by
  intro j o u;obtain ⟨hs,F,m⟩:=h'.obj j o u;have hat:∀ (g:Nat) v,hs[g]? =some v->at' (jN ks ob obK') (dZ ks ac.length j) (jF ks ac j g)=some v:=λ g v hg=>h.embAt hk s.hs (by rw [bW F];exact hg);by_cases P:j<ks.length
  .have X:=Aa P;have Z:=k1 j _ X;have hko:ks[j]<ob.length:=by rw [h.len];exact (Ab.1 (eT Z)).1
   have hhb:ob[ks[j]]? =some ob[ks[j]]:=Aa hko;have hl:=h.histLen Z hhb;have N:(eV 0 ob ac 0 ks)[j]? =some (iU 0 j (aB ac ks[j]) ob[ks[j]]):=by rw [gZ,X];simp [hhb]
   obtain ⟨L,K,t,H⟩:=s.hs j _ N;rw [F] at K;cases K;have hc1:(iU 0 j (aB ac ks[j]) ob[ks[j]]).length=1:=by rw [rZ hl];simp
   have hpos:1<=hs.length:=by rw [<-H];simp;omega
   have eE:(jN ks ob obK')[ks[j]]? =some (ob[ks[j]]++hs.drop 1):=by unfold jN;rw [Ag q_,Bg,Dm hko];simp [aBW k2 X,hhb,F]
   refine ⟨hs,_,F,m,s2 j o u,by rw [iC X];exact eE,by rw [X];simp;omega,λ_=>?_,λ g v hg=>?_⟩
   .unfold blk;rw [Na];by_cases h2:1<hs.length
    .rw [List.getLast?_drop,if_neg o_];have d:hs≠[]:=λ e=>by subst e;simp at hpos
     rw [Kl d];rfl
    .have:hs.drop 1=[]:=Ah o_;rw [this];simp only [List.getLast?_nil,Option.none_or];have h1l:hs.length=1:=o_;have ht:t=[]:=by have:=congrArg Lk H;simp at this;exact Az o_
     subst ht;rw [Ar] at H;rw [<-H,yQ hl]
   .have:=hat g v hg;rw [iC X,bW eE] at this;exact this
  .have hjl:j<obK'.length:=(Ab.1 F).1;have eE:(jN ks ob obK')[ac.length+(j-ks.length)]? =some hs:=by unfold jN;rw [Ak (by simp;rw [h.len];omega),Bq,<-F];congr 1;simp [h.len];omega
   refine ⟨hs,hs,F,m,s2 j o u,by rw [jX o_];exact eE,by rw [Bi o_];simp,λ_=>rfl,λ g v hg=>?_⟩;simpa [jF,nH,Bi (show ks.length<=j by omega)] using hg
 have ownsE:∀ j o,(pP ks ac.length ac j o).owns=o.owns:=λ j o=>by cases o<;>rfl
 have l:∀ {i b:Nat},aG (jN ks ob obK') (gJ ks ac.length ac 0 ao ac) i b->(∃ j,i=dZ ks ac.length j/\aG obK' ao j b)\/((∀ j,j<ao.length->dZ ks ac.length j≠i)/\aG ob ac i b):=by
  rintro i b ⟨c,hs,K,H,e3,e4⟩;rcases cls (Ab.1 K).1 with ⟨j,u,rfl⟩ | ⟨C,d⟩
  .obtain ⟨D,L,g1,A,g3,g4,_,g5,_⟩:=Y (Aa u);rw [g3] at K;rw [g4] at e3;cases K;cases e3;rw [ownsE] at H;exact .inl ⟨j,rfl,(cO (Aa u) g1).2 ⟨H,by rw [<-g5 H];exact e4⟩⟩
  .obtain ⟨o1,o2⟩:=R C d;rw [o1] at K;rw [o2] at e3;exact .inr ⟨d,c,hs,K,H,e3,e4⟩
 have hle:dJ ob (jN ks ob obK'):=by
  intro i hs C;have S:=(Ab.1 C).1;cases hq:pos i 0 ks with
  | none=>
   refine ⟨hs,?_,Cn _⟩;unfold jN;rw [Ag q_,Bg,Dm S];simp [hq,C]
  | some j=>
   refine ⟨hs++(obK'.getD j []).drop 1,?_,⟨_,rfl⟩⟩;unfold jN;rw [Ag q_,Bg,Dm S];simp [hq,C]
 have f:∀ {i b:Nat},(∀ j,j<ao.length->dZ ks ac.length j≠i)->aG ob ac i b->(∀ j,¬ aG (eV 0 ob ac 0 ks) (gG 0 ks ac) j b)/\b<w.heap.size:=by intro i b d n;refine ⟨λ j u=>?_,h.lt i b n⟩;obtain ⟨k,hk',ha'⟩:=c2 j b u;have:=h.inj i k b n ha';subst this;exact d j (by have:=(Ab.1 hk').1;omega) (iC hk')
 refine ⟨⟨h'.imm,by rw [hEl,s1],λ i c r=>?_,λ i b n=>?_,λ i i' b n hb=>?_⟩,⟨s.imm,λ b o y hy=>?_,hle,s.os,s.tape,s.output,s.size,λ b hb hn=>s.keep b hb λ j u=>?_,λ i b n=>?_⟩,λ i hs hd F=>?_⟩
 .rcases cls (Ab.1 r).1 with ⟨j,u,rfl⟩ | ⟨C,d⟩
  .obtain ⟨D,L,g1,A,g3,g4,g5,g6,g7⟩:=Y (Aa u);rw [g3] at r;cases r;refine ⟨L,g4,?_⟩;have one0:∀ {p:Value},D=[p]->D.length=1->(match ks[j]? with | some k=>eZ (aB ac k) | none=>0)=0\/True:=λ_ _=>.inr trivial;have single:∀ {b:Nat} {p:Value},D=[p]->((∃ q,p= .pointer (some ⟨q,0,none⟩))\/(∃ q,p= .map (some q)))->L=[p]:=by
    intro b p e hp;have hcur:(match ks[j]? with | some k=>eZ (aB ac k) | none=>0)=0:=by
     cases hq:ks[j]? with
     | none=>rfl
     | some k=>
      have G:=g7 0 p (by rw [e];rfl);have Z:=k1 j k hq;obtain ⟨W,hhk,m⟩:=h.obj k _ (eT Z);have hl:=h.histLen Z hhk;have N:(eV 0 ob ac 0 ks)[j]? =some (iU 0 j (aB ac k) W):=by rw [gZ,hq];simp [hhk]
      obtain ⟨hs3,K,t,H⟩:=s.hs j _ N;rw [g1] at K;cases K;have hc1:(iU 0 j (aB ac k) W).length=1:=by rw [rZ hl];simp
      have hc0:(iU 0 j (aB ac k) W)[0]? =W[eZ (aB ac k)]?:=xG hl (by rw [mV];simp);have a:W[eZ (aB ac k)]? =some p:=by
       rw [<-hc0];have:D[0]? =some p:=by rw [e];rfl
       rw [<-H,Ag o_] at this;exact this
      show eZ (aB ac k)=0;cases r:aB ac k with
      | row g sz e xs=>
       rw [r] at m a;obtain ⟨_,v',z,cv,J,_⟩:=m;simp only [eZ] at a;rw [z] at a;cases a;rcases dI J with ⟨q,_⟩ | ⟨_,_,q,_⟩<;>rcases hp with ⟨b,hp⟩ | ⟨b,hp⟩<;>(rw [q] at hp;cases hp)
      | tail g sz e=>
       rw [r] at m a;obtain ⟨_,v',z,n',cv,J,_⟩:=m;simp only [eZ] at a;rw [z] at a;cases a;rcases dI J with ⟨q,_⟩ | ⟨_,_,q,_⟩<;>rcases hp with ⟨b,hp⟩ | ⟨b,hp⟩<;>(rw [q] at hp;cases hp)
      | bun g I=>
       rw [r] at m a;obtain ⟨_,bs,z,_⟩:=m;simp only [eZ] at a;rw [z] at a;cases a;rcases hp with ⟨b,hp⟩ | ⟨b,hp⟩<;>cases hp
      | _=>rfl
    rw [hcur,e] at g5;have G:=g7 0 p (by rw [e];rfl);have hG:jF ks ac j 0=0:=by unfold jF;rw [nH];omega
    rw [hG] at G
    match L,g5,G with
    | [x],_,G=>simp at G;rw [G]
   have B:∀ g,D.length=g+1->L.length=jF ks ac j g+1:=λ g hg=>by
    rw [g5,hg];unfold jF;rw [nH];cases ks[j]? with
    | none=>simp
    | some k=>simp;omega
   cases r:ao[j] with
   | dead=>exact trivial
   | cells T cs=>
    rw [r] at A;obtain ⟨b,rfl,U,cv,z,J,a4,a5⟩:=A;obtain ⟨m1,m2⟩:=bX (h.embV (M':=M') hk s.hs hcl 4) J a5;exact ⟨b,single (b:=b) rfl (.inl ⟨b,rfl⟩),U,cv,z,m1,a4,m2⟩
   | fcells cs=>
    rw [r] at A;obtain ⟨b,rfl,U⟩:=A;exact ⟨b,single (b:=b) rfl (.inl ⟨b,rfl⟩),U⟩
   | row g sz e xs=>
    rw [r] at A;obtain ⟨U,v,z,J⟩:=A;exact ⟨B g U,v,g7 g v z,J⟩
   | frow g sz xs=>
    rw [r] at A;obtain ⟨v,z,J⟩:=A;exact ⟨v,g7 g v z,J⟩
   | tail g sz e=>
    rw [r] at A;obtain ⟨U,v,z,J⟩:=A;exact ⟨B g U,v,g7 g v z,J⟩
   | mp ag es=>
    rw [r] at A;obtain ⟨b,rfl,U,z⟩:=A;exact ⟨b,single (b:=b) rfl (.inr ⟨b,rfl⟩),U,z⟩
   | bun g I=>
    rw [r] at A;obtain ⟨U,v,z,J⟩:=A;exact ⟨B g U,v,g7 g _ z,J⟩
  .obtain ⟨o1,o2⟩:=R C d;rw [o1] at r;obtain ⟨hs,F,m⟩:=h.obj i c r;refine ⟨hs,by rw [o2];exact F,m.mono s.imm hle (λ b p1 p2 o hno y hy=>?_) (λ b c' p1 p2 hc'=>?_)⟩
   .obtain ⟨n1,n2⟩:=f d ((cO r F).2 ⟨p1,p2⟩);rcases s.new b o y hy with q | q | ⟨j,q⟩
    .exact hno y q
    .omega
    .exact n1 j q
   .obtain ⟨n1,n2⟩:=f d ((cO r F).2 ⟨p1,p2⟩);rw [s.keep b n2 n1];exact hc'
 .rcases l n with ⟨j,_,n⟩ | ⟨_,n⟩
  .exact h'.lt j b n
  .exact Ew (h.lt i b n) s.size
 .have Q:∀ {i j:Nat},(∀ j,j<ao.length->dZ ks ac.length j≠i)->aG ob ac i b->aG obK' ao j b->False:=by
   intro i j d n hb;obtain ⟨n1,n2⟩:=f d n;rcases s.fresh j b hb with ⟨j',q⟩ | q
   .exact n1 j' q
   .omega
  rcases l n with ⟨j,K,O⟩ | ⟨d,O⟩<;>rcases l hb with ⟨j',H,V⟩ | ⟨hne',V⟩
  .rw [K,H,h'.inj j j' b O V]
  .exact (Q hne' V O).elim
  .exact (Q d O V).elim
  .exact h.inj i i' b O V
 .rcases s.new b o y hy with q | q | ⟨j,q⟩
  .exact .inl q
  .omega
  .obtain ⟨k,_,n⟩:=c2 j b q;exact .inr (.inr ⟨k,n⟩)
 .obtain ⟨k,_,n⟩:=c2 j b u;exact hn k n
 .rcases l n with ⟨j,_,n⟩ | ⟨_,n⟩
  .rcases s.fresh j b n with ⟨j',q⟩ | q
   .obtain ⟨k,_,ha'⟩:=c2 j' b q;exact .inl ⟨k,ha'⟩
   omega
  .exact .inl ⟨i,n⟩
 .have C:=(Ab.1 hd).1;have d:∀ j,j<ao.length->dZ ks ac.length j≠i:=by
   intro j u e;by_cases P:j<ks.length
   .have X:=Aa P;rw [iC X] at e;have Z:=k1 j _ X;rw [e,gH hd] at Z;cases Z
   .rw [jX o_] at e;omega
  obtain ⟨o1,o2⟩:=R C d;rw [o1,o2];exact ⟨hd,F⟩
end
section
variable {M M':Imm} {ob ob':Hs} {ac obs1 obs1' ao:au} {w w':World}
def TL(obs1 ac:au):Prop:=obs1.length=ac.length/\∀ (k:Nat),obs1[k]? =ac[k]?\/obs1[k]? =some .dead
def TL.alive(h:TL obs1 ac){k b:Nat}(e:aG ob obs1 k b):aG ob ac k b:=by
 obtain ⟨c,hs,a,d,g,f⟩:=e;rcases h.2 k with q | q
 .rw [q] at a;exact ⟨c,hs,a,d,g,f⟩
 .rw [q] at a;cases a;cases d
def Mem.weak(h:Mem M ob ac w)(a:TL obs1 ac):Mem M ob obs1 w:=by
 refine ⟨h.imm,h.len.trans a.1.symm,λ k c d=>?_,λ k b f=>h.lt k b (a.alive f),λ i j b f g=>h.inj i j b (a.alive f) (a.alive g)⟩;rcases a.2 k with q | q
 .rw [q] at d;exact h.obj k c d
 .rw [q] at d;cases d;have e:k<ob.length:=by rw [h.len,<-a.1];grind
  exact ⟨ob[k],Aa e,trivial⟩
def Mem.revive(h:Mem M ob ac w)(x:TL obs1 ac)(d:Ext M ob obs1 w M' ob' obs1' w')(hs:cK ob obs1 ob' obs1')(A:Mem M' ob' obs1' w')(hl:ao.length=obs1'.length)
  (F:∀ (k:Nat) c,ao[k]? =some c->obs1'[k]? =some c\/(obs1[k]? =some .dead/\(∃ hs,ob[k]? =some hs/\hs≠[])/\ac[k]? =some c)):
  Mem M' ob' ao w'/\Ext M ob ac w M' ob' ao w'/\cK ob ac ob' ao:=by
 have a:∀ {k b:Nat},aG ob' ao k b->aG ob' obs1' k b\/(obs1[k]? =some .dead/\aG ob ac k b):=by
  rintro k b ⟨c,hs',s,D,R,Q⟩;rcases F k c s with q | ⟨n,⟨g,m,C⟩,z⟩
  .exact .inl ⟨c,hs',q,D,R,Q⟩
  .have:=((hs k g n m).1 C).2;rw [R] at this;cases this;exact .inr ⟨n,c,hs',z,D,m,Q⟩
 have f:∀ {k b:Nat},obs1[k]? =some .dead->aG ob ac k b->∀ j,¬ aG ob obs1 j b:=by intro k b T e j B;have:=h.inj k j b e (x.alive B);subst this;obtain ⟨c,_,s,D,_⟩:=B;rw [T] at s;cases s;cases D
 refine ⟨⟨A.imm,A.len.trans hl.symm,λ k c V=>?_,λ k b e=>?_,λ i j b e J=>?_⟩,⟨d.imm,λ b o y N=>?_,d.hs,d.os,d.tape,d.output,d.size,λ b J U=>d.keep b J λ j B=>U j (x.alive B),λ k b e=>?_⟩,λ k hs' h1 O=>⟨λ h3=>?_,λ h3 X=>?_⟩⟩
 .rcases F k c V with q | ⟨n,⟨g,m,C⟩,z⟩
  .exact A.obj k c q
  .obtain ⟨W,s,K⟩:=h.obj k c z;rw [m] at s;cases s;refine ⟨g,((hs k g n m).1 C).2,K.mono d.imm d.hs (λ b L G o I y N=>?_) (λ b c' L G H=>?_)⟩
   .have e:aG ob ac k b:=(cO z m).2 ⟨L,G⟩;rcases d.new b o y N with q | q | ⟨j,q⟩
    .exact I y q
    .have:=h.lt k b e;omega
    .exact f n e j q
   .have e:aG ob ac k b:=(cO z m).2 ⟨L,G⟩;rw [d.keep b (h.lt k b e) (f n e)];exact H
 .rcases a e with q | ⟨_,q⟩
  .exact A.lt k b q
  .exact Ew (h.lt k b q) d.size
 .have l:∀ {i j:Nat},aG ob' obs1' i b->obs1[j]? =some .dead->aG ob ac j b->False:=λ{i j} p q r=>by
   rcases d.fresh i b p with ⟨Z,t⟩ | t
   .exact f q r Z t
   .have:=h.lt j b r;omega
  rcases a e with q | ⟨n,q⟩<;>rcases a J with r | ⟨Y,r⟩
  .exact A.inj i j b q r
  .exact (l q Y r).elim
  .exact (l r n q).elim
  .exact h.inj i j b q r
 .rcases d.new b o y N with q | q | ⟨j,q⟩
  .exact .inl q
  .omega
  .exact .inr (.inr ⟨j,x.alive q⟩)
 .rcases a e with q | ⟨_,q⟩
  .rcases d.fresh k b q with ⟨j,t⟩ | t
   .exact .inl ⟨j,x.alive t⟩
   omega
  .exact .inl ⟨k,q⟩
 .have v:obs1[k]? =some .dead:=by
   rcases x.2 k with q | q
   .grind
   .exact q
  obtain ⟨P,S⟩:=(hs k hs' v O).1 h3;refine ⟨?_,S⟩;have u:k<ao.length:=by rw [hl];exact (Ab.1 P).1
  rcases F k _ (Aa u) with q | ⟨_,_,q⟩
  .rw [P] at q;rw [Aa u,<-q]
  .rw [h1] at q;rw [Aa u,<-q]
 .have v:obs1[k]? =some .dead:=by
   rcases x.2 k with q | q
   .grind
   .exact q
  rcases F k _ X with q | ⟨_,⟨g,m,C⟩,_⟩
  .exact (hs k hs' v O).2 h3 q
  grind
end
def aK(P:Program)(t:TypeId):Bool:=match P.underlying t with | some (.struct _) | some (.array _ _)=>true | _=>false
def oV(P:Program):List Field->List (Nat×Nat×Bool)->Prop
 | [],[]=>True
 | f::fs,(off,sz,ag)::r=>f.offset=off/\(P.info? f.type).map (·.size)=some sz/\(P.underlying f.type).isSome=true/\aK P f.type=ag/\oV P fs r
 | _,_=>False
def vC(P:Program)(t:Nat)(a:Bool)(size:Nat):TK->Prop
 | .int k=>P.underlying t=some (.int k)/\a=false/\size=1
 | .bool=>P.underlying t=some .bool/\a=false/\size=1
 | .str=>P.underlying t=some .string/\a=false/\size=1
 | .strct g=>(∃ c,P.underlying t=some (.struct c)/\oV P c.toList g)/\a=true
 | .arr n b h=>(∃ e,P.underlying t=some (.array n e)/\(P.info? e).map (·.size)=some b/\(P.underlying e).isSome=true/\aK P e=h)/\a=true
 | .slc e b j=>(P.underlying t=some (.slice e)/\∃ i z,P.info? e=some i/\i.size=b/\i.bytes=j/\i.zero=some z/\z.cells.size=b/\z.cells.toList.all (·.oneCell')=true)/\a=false/\size=1
 | .ptr e=>P.underlying t=some (.pointer e)/\a=false/\size=1
 | .iface=>(∃ f,P.underlying t=some (.interface f))/\a=false/\size=1
 | .mp k e=>P.underlying t=some (.map k e)/\a=false/\size=1
 | .other=>(∃ d,P.underlying t=some d/\(∀ f,d≠ .interface f))/\aK P t=a
structure TIOK(P:Program)(t:Nat)(ti:TI):Prop where
 info:∃ i z,P.info? t=some i/\i.size=ti.size/\i.zero=some z/\z.cells.size=ti.size/\Rep (λ_ _ _=>False) [] z ti.zero/\z.cells.toList.all (·.oneCell')=true/\ti.zero≠ .undef
 kind:vC P t ti.agg ti.size ti.kind
def aLY(P:Program)(t n:Nat):Prop:=∀ (w:World) (x y:Operand) (xs ys:ay) (vs us:ba) (c:Bool),ceq xs ys=some c->xs.length=n->
 cA (λ_ _ _=>False) [] vs xs->cA (λ_ _ _=>False) [] us ys->
 (∀ op,(eqGuard op t x y (.agg vs.toArray) (.agg us.toArray)).run P w= .ok () w)/\(Op.equal t (.agg vs.toArray) (.agg us.toArray)).run P w= .ok c w
def LA(P:Program)(t n:Nat):Prop:=∀ (w:World) (a b:aw),a.length=n->b.length=n->(Op.equal t (fR true a) (fR true b)).run P w= .ok (decide (a=b)) w/\∀ c,(Hr c 10000 t (fR true a)).run P w= .ok () w
def TO(P:Program)(t n:Nat):Prop:=aLY P t n/\LA P t n
structure ae(E:Env):Prop where
 mix:E.P.follows .mixedOrders=true
 tab:∀ t ti,cW E.T t=some ti->TIOK E.P t ti
 mth:∀ t name g,aCv E.mt t name=some g->∀ v w,(method (E.P.types.size+Made.depth) t v name).run E.P w= .ok (g,v) w
 fl:∀ t,0<A2 E.fl t->TO E.P t (A2 E.fl t)
def vC.isAgg{P:Program}{t:Nat}{g:Bool}{size:Nat}{k:TK}(h:vC P t g size k):(P.underlying t).isSome=true/\aK P t=g:=by
 cases k with
 | strct j=>obtain ⟨⟨f,h1,_⟩,c⟩:=h;simp [aK,h1,c]
 | arr n i l=>obtain ⟨⟨f,h1,_⟩,c⟩:=h;simp [aK,h1,c]
 | slc e a b=>obtain ⟨⟨h1,_⟩,c,_⟩:=h;simp [aK,h1,c]
 | iface=>obtain ⟨⟨m,h1⟩,c,_⟩:=h;simp [aK,h1,c]
 | other=>obtain ⟨⟨d,h1,_⟩,c⟩:=h;grind
 | _=>obtain ⟨h1,c,_⟩:=h;simp [aK,h1,c]
def xP{P:Program}{t:Nat}(h:(P.underlying t).isSome=true)(w:World):(isAgg t).run P w= .ok (aK P t) w:=by obtain ⟨d,a⟩:=Da.1 h;unfold isAgg;simp only [Bh,run_underlying a,Aq,aK,a];cases d<;>rfl
def af{P:Program}{t:Nat}{s:Nat}(h:(P.info? t).map (·.size)=some s)(w:World):(sizeOf t).run P w= .ok s w:=by obtain ⟨i,a,rfl⟩:=Cf.1 h;simp [sizeOf,typeInfo,a]
def TIOK.size?{P:Program}{t:Nat}{a:TI}(h:TIOK P t a):(P.info? t).map (·.size)=some a.size:=by
 obtain ⟨i,z,c,b,_⟩:=h.info
 grind
def oV.get{P:Program}:∀ {a:List Field} {b:List (Nat×Nat×Bool)},oV P a b->∀ {i:Nat} {off sz:Nat} {c:Bool},nth b i=some (off,sz,c)->
  ∃ f,a[i]? =some f/\f.offset=off/\(P.info? f.type).map (·.size)=some sz/\(P.underlying f.type).isSome=true/\aK P f.type=c
 | [],[],_,i,_,_,_,hn=>by cases i<;>cases hn
 | [],_::_,h,_,_,_,_,_=>h.elim
 | _::_,[],h,_,_,_,_,_=>h.elim
 | f::a,(off',sz',ag')::b,h,i,off,sz,c,hn=>by
  obtain ⟨h1,e,h3,j,d⟩:=h;cases i with
  | zero=>cases hn;exact ⟨f,rfl,h1,e,h3,j⟩
  | succ i=>
   obtain ⟨g,k,r⟩:=d.get (show nth b i=_ from hn);exact ⟨g,by simp;omega,r⟩
def kA{M:Imm}{ob:Hs}{z:Value}{a:aa}(h:Rep (λ_ _ _=>False) [] z a):Rep M ob z a:=h.mono (λ_ _ _ h=>h.elim) (DY ob)
def Sd(VS:aa->au->Prop)(CS:Fn->ay->Prop)(PS:aa->Prop)(ac:au)(base:Nat):OR->Prop
 | .no=>True
 | .val v=>VS v ac
 | .mkf fn d cs=>VS (.func fn d cs) ac
 | .need p r=>p->Sd VS CS PS ac base r
 | .alt p v w=>(p->VS v ac)/\VS w ac
 | .idx n f=>∀ i:Nat,n=(i:Int)->Sd VS CS PS ac base (f i)
 | .elem xs i f=>∀ x,xs[i]? =some x->Sd VS CS PS ac base (f x)
 | .byte l i=>∀ c,l[i]? =some c->VS (.int .u8 (c.toNat:Int)) ac
 | .text xs=>∀ l:ax,xs=l.map ub->(l.length:Int)<=9223372036854775807->VS (.str l) ac
 | .find es key f=>Sd VS CS PS ac base (f (bR es key))
 | .born x v=>VS v (bM ac base x)
 | .upd k x v=>VS v (bM ac k x)
 | .nilq xs a=>∃ b:Bool,(b=true->xs=[])/\VS (.bool (if a then !b else b)) ac
 | .call f args=>CS f args
 | .pan v=>PS v
def Sd.mono{VS g:aa->au->Prop}{CS j:Fn->ay->Prop}{PS d:aa->Prop}{ac:au}{base:Nat}(h1:∀ v o,VS v o->g v o)(e:∀ f a,CS f a->j f a)(h3:∀ v,PS v->d v):
  ∀ {r:OR},Sd VS CS PS ac base r->Sd g j d ac base r
 | .no,_=>trivial
 | .val v,h=>h1 _ _ h
 | .mkf fn fs cs,h=>h1 _ _ h
 | .need p r,h=>λ hp=>Sd.mono h1 e h3 (h hp)
 | .alt p v w,h=>⟨λ hp=>h1 _ _ (h.1 hp),h1 _ _ h.2⟩
 | .idx n f,h=>λ i t=>Sd.mono h1 e h3 (h i t)
 | .elem xs i f,h=>λ x q=>Sd.mono h1 e h3 (h x q)
 | .byte l i,h=>λ c s=>h1 _ _ (h c s)
 | .text xs,h=>λ l hl m=>h1 _ _ (h l hl m)
 | .find es key f,h=>Sd.mono (r:=f (bR es key)) h1 e h3 h
 | .born x v,h=>h1 _ _ h
 | .upd k x v,h=>h1 _ _ h
 | .nilq xs neg,⟨b,m,h⟩=>⟨b,m,h1 _ _ h⟩
 | .call f args,h=>e _ _ h
 | .pan v,h=>h3 _ h
def PV(P:Program)(M:Imm)(ob:Hs)(w:World)(s:Sem Value)(ac:au)(v:aa)(o:au):Prop:=o=ac/\∃ u,s.run P w= .ok u w/\Rep M ob u v
abbrev PS0(P:Program)(M:Imm)(ob:Hs)(w:World)(s:Sem Value)(ac:au)(base:Nat)(r:OR):Prop:=Sd (PV P M ob w s ac) (λ_ _=>False) (λ_=>False) ac base r
def PS0.bind{P:Program}{M:Imm}{ob:Hs}{w:World}{s:Sem Value}{ac:au}{base:Nat}{f:aa->aa}(a:∀ v u,Rep M ob u v->Rep M ob u (f v)):∀ {r:OR},PS0 P M ob w s ac base r->PS0 P M ob w s ac base (r.bind λ v=>.val (f v))
 | .no,_=>trivial
 | .val v,⟨h1,u,h2,h3⟩=>⟨h1,u,h2,a _ _ h3⟩
 | .mkf fn fs cs,_=>trivial
 | .need p r,h=>λ hp=>PS0.bind a (r:=r) (h hp)
 | .alt p v w,_=>trivial
 | .idx n f',h=>λ i b=>PS0.bind a (r:=f' i) (h i b)
 | .elem xs i f',h=>λ x c=>PS0.bind a (r:=f' x) (h x c)
 | .byte l i,_=>trivial
 | .text xs,_=>trivial
 | .find es key f',_=>trivial
 | .born x v,_=>trivial
 | .upd k x v,_=>trivial
 | .nilq xs neg,_=>trivial
 | .call f' args,_=>trivial
 | .pan v,_=>trivial
structure VS1(P:Program)(ρv:Operand->Value)(op:Op)(ty:TypeId)(M:Imm)(ob:Hs)(ac:au)(w:World)(v:aa)(ao:au)(u:Value)(w':World)(M':Imm)(ob':Hs):Prop where
 run:∀ d pos after g,(execOp ρv ⟨d,op,ty,pos,after,g⟩).run P w= .ok (.value u) w'\/((execOp ρv ⟨d,op,ty,pos,after,g⟩).run P w= .ok .skip w'/\u=undef)
 ext:Ext M ob ac w M' ob' ao w'
 mem:Mem M' ob' ao w'
 still:cK ob ac ob' ao
 rep:Rep M' ob' u v
def VS(P:Program)(ρv:Operand->Value)(op:Op)(ty:TypeId)(M:Imm)(ob:Hs)(ac:au)(w:World)(v:aa)(ao:au):Prop:=∃ u w' M' ob',VS1 P ρv op ty M ob ac w v ao u w' M' ob'
def CS(P:Program)(ρv:Operand->Value)(op:Op)(ty:TypeId)(M:Imm)(ob:Hs)(w:World)(f:Fn)(args:ay):Prop:=
 ∃ b:ba,cA M ob b args/\∀ d pos a g,(execOp ρv ⟨d,op,ty,pos,a,g⟩).run P w=(ES f b.toArray).run P w
def PS(P:Program)(ρv:Operand->Value)(op:Op)(ty:TypeId)(M:Imm)(w:World)(v:aa):Prop:=
 ∃ u,(∀ d pos a g,(execOp ρv ⟨d,op,ty,pos,a,g⟩).run P w= .halt (.panic u) w)/\Rep M [] u v
abbrev cB(P:Program)(ρv:Operand->Value)(op:Op)(ty:TypeId)(M:Imm)(ob:Hs)(ac:au)(w:World)(base:Nat)(r:OR):Prop:=
 Sd (VS P ρv op ty M ob ac w) (CS P ρv op ty M ob w) (PS P ρv op ty M w) ac base r
def cB.pv{P:Program}{ρv:Operand->Value}{op:Op}{ty:TypeId}{M:Imm}{ob:Hs}{ac:au}{w:World}{base:Nat}{r:OR}{s:Sem Value}(hm:Mem M ob ac w)
  (c:∀ d pos a g,execOp ρv ⟨d,op,ty,pos,a,g⟩=(s >>= λ v=>Pure.pure (.value v))) (h:PS0 P M ob w s ac base r):cB P ρv op ty M ob ac w base r:=
 Sd.mono (λ v o ⟨h1,u,b,h3⟩=>⟨u,w,M,ob,λ d pos a g=>.inl (by simp_all),h1▸Ext.refl _ _ _ _,h1▸hm,h1▸cK.refl _ _,h3⟩) (λ_ _ h=>h.elim) (λ_ h=>h.elim) h
def Y9{k:IntKind}{n:Int}(h:aHl k n=true):inR k n:=by
 unfold aHl at h;split at h
 .rename_i m;have:=Ck h;rw [show Int.ofNat m=(m:Int) from rfl];constructor
  .cases k<;>simp only [cJ]<;>omega
  .cases k<;>simp only [aJc,bE] at * <;>omega
 .rename_i m;have:m<aCK k:=by simp_all
  constructor
  .cases k<;>simp only [aCK,cJ] at * <;>omega
  .cases k<;>simp only [bE]<;>omega
def aG1(l:ax):aCB l=l.length:=by
 induction l with
 | nil=>rfl
 | cons c r a=>simp [aCB,a]
def kB{k:IntKind}{n:Int}(h:inR k n):k.wrap n=n:=by unfold inR cJ bE at h;unfold IntKind.wrap;cases k<;>simp only [IntKind.bits,IntKind.signed] at * <;>simp at * <;>omega
def kH(k:IntKind)(n:Int):inR k (k.wrap n):=by unfold inR cJ bE IntKind.wrap;cases k<;>simp only [IntKind.bits,IntKind.signed]<;>simp<;>(try split)<;>omega
def aCR{k:IntKind}{x y:Int}(h:inR k x):inR k (x.tmod y):=by
 obtain ⟨h1,g⟩:=h;have f:cJ k<=0:=by cases k<;>decide
 have c:0<=bE k:=by cases k<;>decide
 by_cases d:0<=x
 .have a:=Int.tmod_nonneg y d;have b:x.tmod y<=x:=by have:=Int.natAbs_tmod x y;have:=Md x.natAbs y.natAbs;omega
  exact ⟨by omega,by omega⟩
 .have e:x.tmod y= -((-x).tmod y):=by simp
  have a:=Int.tmod_nonneg y (show 0<= -x by omega);have b:(-x).tmod y<= -x:=by have:=Int.natAbs_tmod (-x) y;have:=Md (-x).natAbs y.natAbs;omega
  exact ⟨by omega,by omega⟩
def aCS{k:IntKind}{x:Int}(p:Nat)(h:inR k x):inR k (x.fdiv (2 ^ p)):=by
 obtain ⟨h1,d⟩:=h;have c:cJ k<=0:=by cases k<;>decide
 have b:0<=bE k:=by cases k<;>decide
 have hp:(0:Int)<2 ^ p:=Int.pow_pos d_;have a:(1:Int)<=2 ^ p:=o_;rw [Dz _ o_];generalize (2:Int) ^ p=q at hp a;constructor
 .refine Int.le_ediv_of_mul_le hp ?_;have:cJ k*q<=cJ k*1:=Int.mul_le_mul_of_nonpos_left c a;omega
 .refine Int.ediv_le_of_le_mul hp ?_;have:bE k*1<=bE k*q:=Km a b;omega
def wP{k k':IntKind}(h:aCN k k'=true):k=k':=by cases k<;>cases k'<;>first | rfl | cases h
def sdc{VS:aa->au->Prop}{CS:Fn->ay->Prop}{PS:aa->Prop}{ac:au}{base:Nat}{b:Bool}{r:OR}(h:b=true->Sd VS CS PS ac base r):Sd VS CS PS ac base (bif b then r else .no):=by
 cases b with
 | true=>exact h rfl
 | false=>exact trivial
section
variable {P:Program} {E:Env} {M:Imm} {ob:Hs} {ac:au} {w:World} {base:Nat}
def oO(v:Value):Rep M ob v (aIt v):=by
 unfold aIt;split
 .exact .bool _
 .rename_i k n;cases h:aHl k n with
  | true=>exact .int _ _ (Y9 h)
  | false=>exact .undef _
 .rename_i s;cases h:Fv (aCB s.data.toList) 1000000 with
  | true=>
   have:=Ck h;rw [aG1] at this;obtain ⟨⟨l⟩⟩:=s;exact .str l (by grind)
  | false=>exact .undef _
 .exact .nilslice
 .exact .nilptr
 .exact .nilmap
 .exact .nilfunc
 .exact .nilif
 .exact .undef _
def EH{op:BinOp}{t:TypeId}{k:IntKind}{x y n:Int}(a:(binOp op t (.int k x) (.int k y)).run P w= .ok (.int k (k.wrap n)) w):
  PS0 P M ob w (binOp op t (.int k x) (.int k y)) ac base (EI k n):=
 ⟨λ hp=>⟨rfl,_,by rw [a,kB hp],.int _ _ hp⟩,rfl,_,a,.int _ _ (kH _ _)⟩
def aLq{op:BinOp}{t:TypeId}{k:IntKind}{x y:Int}(h:inR k x):PS0 P M ob w (binOp op t (.int k x) (.int k y)) ac base (aNj op k x y):=by
 have c:∀ {op:BinOp} {n:Int},(binOp op t (.int k x) (.int k y)).run P w= .ok (.int k n) w->inR k n->PS0 P M ob w (binOp op t (.int k x) (.int k y)) ac base (.val (.int k n)):=λ h1 g=>⟨rfl,_,h1,.int _ _ g⟩
 have a:∀ {op:BinOp} {b:Bool},(binOp op t (.int k x) (.int k y)).run P w= .ok (.bool b) w->PS0 P M ob w (binOp op t (.int k x) (.int k y)) ac base (.val (.bool b)):=λ h1=>⟨rfl,_,h1,.bool _⟩
 have d:∀ op,inR k (dL op k x y):=λ op=>by unfold dL;cases op<;>exact kH _ _
 cases op with
 | add=>exact EH (by rw [binOp_add];rfl)
 | sub=>exact EH (by rw [binOp_sub];rfl)
 | mul=>exact EH (by rw [binOp_mul];rfl)
 | quo=>
  intro f;have e:(binOp .quo t (.int k x) (.int k y)).run P w= .ok (.int k (k.wrap (x.tdiv y))) w:=by rw [binOp_quo];simp only [Op.intDiv,if_neg f];rfl
  exact ⟨λ hp=>⟨rfl,_,by rw [e,kB hp],.int _ _ hp⟩,rfl,_,e,.int _ _ (kH _ _)⟩
 | rem=>
  intro f;exact c (by rw [binOp_rem];simp only [Op.intDiv,if_neg f];rfl) (aCR h)
 | and=>exact c (by rw [binOp_and];rfl) (d .and)
 | or=>exact c (by rw [binOp_or];rfl) (d .or)
 | xor=>exact c (by rw [binOp_xor];rfl) (d .xor)
 | andNot=>exact c (by rw [binOp_andNot];rfl) (d .andNot)
 | shl=>exact trivial
 | shr=>exact trivial
 | eql=>exact a (by rw [binOp_eql];rfl)
 | neq=>exact a (by rw [binOp_neq];rfl)
 | lss=>exact a (by rw [binOp_lss];rfl)
 | leq=>exact a (by rw [binOp_leq];rfl)
 | gtr=>exact a (by rw [binOp_gtr];rfl)
 | geq=>exact a (by rw [binOp_geq];rfl)
def dQ(l:ax):(⟨l.toArray⟩:ByteArray).toList=l:=by simp
def RG(l:ax)(i j:Nat):(⟨l.toArray⟩:ByteArray).extract i j=⟨((l.take j).drop i).toArray⟩:=by
 have h:=Lib.extract_data ⟨l.toArray⟩ i j;have:((⟨l.toArray⟩:ByteArray).extract i j).data=((l.take j).drop i).toArray:=by rw [<-Array.toList_inj,h];simp [List.drop_take]
 cases a:(⟨l.toArray⟩:ByteArray).extract i j with
 | mk d=>grind
def xK{M':Imm}{ob':Hs}:∀ {xs ys:ay} {c:Bool},ceq xs ys=some c->∀ {vs:ba},cA M ob vs xs->cA M' ob' vs xs:=by
 intro xs;induction xs with
 | nil=>intro ys c _ vs h;exact ⟨h.1,λ i v a _ j=>by simp at j⟩
 | cons x xs g=>
  intro ys c h vs d;cases ys with
  | nil=>cases x<;>cases h
  | cons y ys=>
   cases x with
   | int k a=>
    cases y with
    | int k' b=>
     simp only [ceq] at h;obtain ⟨_,n⟩:=eW h;cases m:ceq xs ys with
     | none=>grind
     | some o=>
      match vs,d with
      | [],d=>exact absurd d.1 s_
      | v::vs,d=>
       have l:=g m (vs:=vs) ⟨by simpa using d.1,λ i u b e f=>d.2 (i+1) u b (by grind) q_⟩;refine ⟨by simpa using d.1,λ i u b e f=>?_⟩;cases i with
       | zero=>
        simp at e f;subst e f;have:=(d.2 0 v _ rfl rfl).int_inv;rw [this.1];exact .int _ _ this.2
       | succ i=>exact l.2 i u b (by simpa using e) (by simpa using f)
    | _=>cases h
   | _=>cases h
def PJ:∀ {xs ys:ay} {c:Bool},ceq xs ys=some c->∃ f,ceq ys xs=some f:=by
 intro xs;induction xs with
 | nil=>intro ys c h;cases ys with
  | nil=>grind
  | cons y ys=>cases h
 | cons x xs j=>
  intro ys c h;cases ys with
  | nil=>cases x<;>cases h
  | cons y ys=>
   cases x with
   | int k a=>
    cases y with
    | int k' b=>
     simp only [ceq] at h;obtain ⟨e,l⟩:=eW h;have:=wP e;subst this;cases i:ceq xs ys with
     | none=>grind
     | some f=>
      obtain ⟨d,g⟩:=j i;exact ⟨(b==a)&&d,by simp only [ceq,e,cond_true,g]⟩
    | _=>cases h
   | _=>cases h
def xQ{P:Program}{w:World}{t e:TypeId}{a:Addr}{j:TypeInfo}(d:Nat)(h:P.underlying t=some (.pointer e))(b:P.info? e=some j):(Op.equalIn (d+1) t (.pointer (some a)) (.pointer (some a))).run P w= .ok true w:=by by_cases hz:j.size=0<;>simp [Op.equalIn,run_underlying h,sizeOf,typeInfo,b,hz,run_sameAddr_same]
def aKT{P:Program}{t e:TypeId}(h:P.underlying t=some (.pointer e)):P.underlying t=some (.pointer (P.pointee t)):=by simp [Program.pointee,h]
abbrev KO(op:BinOp)(t:TypeId)(x y:Operand)(vx vy:Value):Sem Value:=eqGuard op t x y vx vy >>= λ_=>binOp op t vx vy
def aI8{s s':Sem Value}(h:∀ {r},s'.run P w=r->s.run P w=r){r:OR}(k:PS0 P M ob w s' ac base r):PS0 P M ob w s ac base r:=
 Sd.mono (λ_ _ ⟨h1,u,a,h3⟩=>⟨h1,u,h a,h3⟩) (λ_ _ h=>h) (λ_ h=>h) k
def aB5{op:BinOp}{t:TypeId}{x y:Operand}{b a:Value}{c:Bool}(h1:∀ op,eqGuard op t x y b a=Pure.pure ())(d:∀ op,op= .eql\/op= .neq->binOp op t b a=(Op.equal t b a >>= λ r=>Pure.pure (.bool (if op= .eql then r else !r))))
  (h3:(Op.equal t b a).run P w= .ok c w):PS0 P M ob w (KO op t x y b a) ac base (wH op c):=by
 unfold wH;split
 .refine ⟨rfl,.bool c,?_,.bool c⟩;simp only [KO,h1,d _ (.inl rfl)];simp only [Bh,Bz,Aq,h3,if_true]
 .refine ⟨rfl,.bool (!c),?_,.bool _⟩;simp only [KO,h1,d _ (.inr rfl)];simp only [Bh,Bz,Aq,h3];rfl
 .exact trivial
def aKv{op:BinOp}{t:TypeId}{x y:Operand}{b a:Value}{c:Bool}{xs:ay}(h1:∀ op,eqGuard op t x y b a=Pure.pure ())(e:∀ op,op= .eql\/op= .neq->binOp op t b a=(Op.equal t b a >>= λ r=>Pure.pure (.bool (if op= .eql then r else !r))))
  (h3:(Op.equal t b a).run P w= .ok c w) (d:c=true->xs=[]):PS0 P M ob w (KO op t x y b a) ac base (aKw op xs):=by
 have:=aB5 (M:=M) (ob:=ob) (ac:=ac) (base:=base) (op:=op) h1 e h3;unfold aKw;unfold wH at this;split
 .exact ⟨c,d,this⟩
 .exact ⟨c,d,this⟩
 .exact trivial
def rC{P:Program}(w:World)(d:Nat)(t u:TypeId)(x:Value)(h:P.underlying t=some (.interface (P.methodsAt t))):(Op.equalIn (d+1) t .nilIface (.iface u x)).run P w= .ok false w:=by simp [Op.equalIn,run_underlying h]
def aLt(hE:ae E){og:Nat->ab}{op:BinOp}{t:TypeId}{x y:Operand}{u v:Value}{a b:aa}(l:Rep M ob u a)(m:Rep M ob v b):PS0 E.P M ob w (KO op t x y u v) ac base (aLu E og (isC x||isC y) op t a b):=by
 unfold aLu;split
 .rename_i k x' k' F;obtain ⟨rfl,K⟩:=l.int_inv;obtain ⟨rfl,Z⟩:=m.int_inv;have C:∀ op,(eqGuard op t x y (.int k x') (.int k' F))=Pure.pure ():=λ op=>by cases op<;>rfl
  refine aI8 (s':=binOp op t (.int k x') (.int k' F)) (λ h=>by grind) ?_;split
  .intro S;have e:(binOp .shl t (.int k x') (.int k' F)).run E.P w= .ok (.int k (k.wrap (x'*2 ^ min F.toNat k.bits))) w:=by rw [binOp_shl];simp only [Op.shift];simp;omega
   refine ⟨λ⟨J,N⟩=>⟨rfl,_,?_,.int _ _ N⟩,rfl,_,e,.int _ _ (kH _ _)⟩;rw [e,Gr J,kB N]
  .rintro ⟨S,J⟩;refine ⟨rfl,_,?_,.int _ _ (aCS _ K)⟩;rw [binOp_shr];simp only [Op.shift];rw [if_neg o_,Gr J];rfl
  .refine sdc λ f=>?_;have:=wP f;subst this;exact aLq K
 .rename_i l1 l2;obtain ⟨rfl,K⟩:=l.str_inv;obtain ⟨rfl,Z⟩:=m.str_inv;have C:∀ op,(eqGuard op t x y (.string ⟨l1.toArray⟩) (.string ⟨l2.toArray⟩))=Pure.pure ():=λ op=>by cases op<;>rfl
  refine aI8 (s':=binOp op t (.string ⟨l1.toArray⟩) (.string ⟨l2.toArray⟩)) (λ h=>by grind) ?_;split
  .intro S;refine ⟨rfl,.string ⟨(l1++l2).toArray⟩,?_,.str _ (by grind)⟩;rw [binOp_string_add];rw [run_string_add_sum w _ _ (by rw [pI,pI];omega),ByteArray.mk_append_mk]
  .exact ⟨rfl,_,by rw [binOp_string_eql,dQ,dQ];rfl,.bool _⟩
  .exact ⟨rfl,_,by rw [binOp_string_neq,dQ,dQ];rfl,.bool _⟩
  .exact ⟨rfl,_,by rw [binOp_string_lss,dQ,dQ];rfl,.bool _⟩
  .exact ⟨rfl,_,by rw [binOp_string_leq,dQ,dQ];rfl,.bool _⟩
  .exact ⟨rfl,_,by rw [binOp_string_gtr,dQ,dQ];rfl,.bool _⟩
  .exact ⟨rfl,_,by rw [binOp_string_geq,dQ,dQ];rfl,.bool _⟩
  .exact trivial
 .rename_i xs ys;refine sdc λ C=>?_;obtain ⟨X,G⟩:=aV C;have Q:0<A2 E.fl t:=by simp_all
  have q:=aC G;rw [xJ] at q;obtain ⟨vs,rfl,hl,O⟩:=l.agg_inv;obtain ⟨us,rfl,A,D⟩:=m.agg_inv;split
  .rename_i c i;obtain ⟨V,s⟩:=PJ i;obtain ⟨H,I⟩:=(hE.fl t Q).1 w x y _ _ vs us c i q (xK i ⟨hl,O⟩) (xK s ⟨A,D⟩);refine ⟨rfl,.bool c,?_,.bool c⟩;simp only [KO,Bh,H,Aq,binOp,I,Bz]
  .rename_i c i;obtain ⟨V,s⟩:=PJ i;obtain ⟨H,I⟩:=(hE.fl t Q).1 w x y _ _ vs us c i q (xK i ⟨hl,O⟩) (xK s ⟨A,D⟩);refine ⟨rfl,.bool (!c),?_,.bool _⟩;simp only [KO,Bh,H,Aq,binOp,I,Bz]
  .exact trivial
 .split
  .exact trivial
  .rename_i n T;have d:=(hE.tab t n T).kind
   have two:∀ {u v:Value},(∀ op,eqGuard op t x y u v=Pure.pure ())->(∀ op,op= .eql\/op= .neq->binOp op t u v=(Op.equal t u v >>= λ r=>Pure.pure (.bool (if op= .eql then r else !r))))->
     ∀ {c:Bool},(Op.equal t u v).run E.P w= .ok c w->PS0 E.P M ob w (KO op t x y u v) ac base (wH op c):=λ h1 z _ h3=>aB5 h1 z h3
   split
   .have f:=‹n.kind=TK.bool›;rw [f] at d;obtain rfl:=l.bool_inv;obtain rfl:=m.bool_inv;exact two (λ op=>by cases op<;>rfl) (λ op g=>by rcases g with rfl | rfl<;>rfl) (run_equal_bool w t _ _ d.1)
   .have f:=‹n.kind=TK.slc _ _ _›;rw [f] at d;have:=l.untok.2;obtain rfl:u= .slice none 0 0:=this;cases m;exact two (λ op=>by cases op<;>rfl) (λ op g=>by rcases g with rfl | rfl<;>rfl) (run_equal_slice_nil w t _ none 0 0 d.1.1)
   .have f:=‹n.kind=TK.slc _ _ _›;rw [f] at d;cases l;cases m;exact two (λ op=>by cases op<;>rfl) (λ op g=>by rcases g with rfl | rfl<;>rfl) (run_equal_slice_nil w t _ none 0 0 d.1.1)
   .have f:=‹n.kind=TK.slc _ _ _›;rw [f] at d;obtain ⟨a,c,rfl,Y,_⟩:=l.slice_inv;cases m;exact aKv (λ op=>by cases op<;>rfl) (λ op g=>by rcases g with rfl | rfl<;>rfl) (run_equal_slice_nil w t _ a _ c d.1.1) (λ e=>(Y (by cases a<;>first | rfl | cases e)).1)
   .have f:=‹n.kind=TK.ptr _›;rw [f] at d;cases l;cases m;exact two (λ op=>by cases op<;>rfl) (λ op g=>by rcases g with rfl | rfl<;>rfl) (run_equal_pointer_nil w t _ (aKT d.1))
   .have f:=‹n.kind=TK.ptr _›;rw [f] at d;obtain ⟨b,rfl,_⟩:=l.ref_inv;cases m;exact two (λ op=>by cases op<;>rfl) (λ op g=>by rcases g with rfl | rfl<;>rfl) (run_equal_pointer_nil w t _ (aKT d.1))
   .have f:=‹n.kind=TK.ptr _›;rw [f] at d;obtain ⟨b,o,rfl,_⟩:=l.ptr_inv;cases m;exact two (λ op=>by cases op<;>rfl) (λ op g=>by rcases g with rfl | rfl<;>rfl) (run_equal_pointer_nil w t _ (aKT d.1))
   .have f:=‹n.kind=TK.ptr _›;rw [f] at d;split
    .rename_i tj L;refine sdc λ C=>?_;obtain ⟨h1,z⟩:=aV C;have h1:=aC h1;have z:=aC z;subst h1 z;obtain ⟨b,rfl,W⟩:=l.ref_inv;obtain ⟨b',rfl,B⟩:=m.ref_inv;rw [W] at B;cases B;obtain ⟨j,U,_⟩:=Cf.1 (hE.tab _ tj L).size?;refine two (λ op=>by cases op<;>rfl) (λ op g=>by rcases g with rfl | rfl<;>rfl) (c:=true) ?_;exact xQ 9999 d.1 U
    .exact trivial
   .have f:=‹n.kind=TK.iface›;rw [f] at d;obtain ⟨R,p⟩:=d.1;cases l;cases m;refine sdc λ hl=>two (λ op=>?_) (λ op g=>by rcases g with rfl | rfl<;>rfl) (run_equal_nil_nil w t (by simp only [Program.methodsAt,p]));cases op<;>first | rfl | (cases x<;>first | rfl | (cases y<;>first | rfl | cases hl))
   .have f:=‹n.kind=TK.iface›;rw [f] at d;obtain ⟨R,p⟩:=d.1;cases l;cases m;exact two (λ op=>by cases op<;>rfl) (λ op g=>by rcases g with rfl | rfl<;>rfl) (run_equal_held_nil w t _ _ (by simp only [Program.methodsAt,p]))
   .have f:=‹n.kind=TK.iface›;rw [f] at d;obtain ⟨R,p⟩:=d.1;cases l;cases m;exact two (λ op=>by cases op<;>rfl) (λ op g=>by rcases g with rfl | rfl<;>rfl) (rC w 9999 t _ _ (by simp only [Program.methodsAt,p]))
   .exact trivial
end
end Go.AW
