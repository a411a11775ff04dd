/- Part 1 of what the statement rests on. -/
import Derived.WalkKit
import Derived.WalkLawsBesides
import Derived.RangeFuncLeaves
import Derived.OrdersIn
import Derived.TacticsIn
import Derived.Deep.AppendSrc
import Derived.Lib.Strings
import Derived.LaidEql
set_option linter.all false
open Array renaming getElem?_eq_some_iff->Fi,length_toList->Jc,toList_append->Ng,toList_map->Kc
open Bool renaming and_eq_true->Af,not_eq_true'->Df,or_eq_true->Fl
open Go.Builtin renaming append_->Cx,firstCells->Cs,zeroCells->Cp
open Go.Instr renaming checkKey->Ia
open Go.Region renaming binds->Jv
open Go.Result renaming andThen_ok->Au
open Go.Sem renaming run_bind->Bk,run_pure->Ci
open Go.Value renaming int->Ej,ownBlock->Gt,slice->Hc
open Go.World renaming block_lt_of_cell?->Cz,cell?_of_block->Cy,ownsRow_nil->Hp
open Int renaming fdiv_eq_ediv_of_nonneg->Ei,mul_le_mul_of_nonneg_left->Kv
open List renaming append_assoc->Ag,append_nil->Ar,cons_append->Bu,drop_eq_nil_of_le->Ab,eq_nil_of_length_eq_zero->Bc,ext_getElem?->Ek,getElem?_append_left->Ah,getElem?_append_right->Al,getElem?_cons_succ->Gc,getElem?_drop->Ca,getElem?_eq_getElem->Ac,getElem?_eq_none->Bm,getElem?_eq_some_iff->Ad,getElem?_map->Bi,getElem?_of_mem->Da,getElem?_range->Dr,getElem?_replicate->Fe,getElem?_set_ne->Bf,getElem?_set_self->Ay,getElem?_take->Gp,getElem?_take_of_lt->Bn,getElem_mem->Ax,getLast?_append->Nc,getLast?_eq_getElem?->Ln,getLast?_eq_some_getLast->Ku,length->Ko,length_append->Ai,length_drop->Ew,length_pos_iff->Eg,length_take->Dw,map_cons->Bj,mem_append->Bd,mem_cons->Aw,mem_map->Ce,mem_of_getElem?->Az,mem_of_mem_drop->Fj,mem_of_mem_take->Di,mem_range->Hx,nil_append->Bp,nodup_cons->Cl,nodup_nil->Hz,prefix_refl->Cw,range->Du,replicate->Aj,size_toArray->Gv,take_left->Hw,take_zero->Ix
open Nat renaming add_assoc->Kk,add_mul->Cg,add_sub_cancel->Ie,add_sub_cancel_left->Gu,add_zero->Fx,beq->Ba,beq_refl->Nm,ble->Gd,blt->Fp,div_add_mod->Gg,div_lt_iff_lt_mul->Dv,div_one->Iw,eq_zero_or_pos->Fz,le_div_iff_mul_le->Il,le_of_ble_eq_true->Cu,le_refl->Bh,le_trans->Dh,lor->Nl,lt_of_lt_of_le->Fh,lt_or_ge->Nj,min_eq_left->Gy,mod_eq_of_lt->Hf,mod_le->Mi,mod_lt->Fq,mod_one->Ji,mul_add_div->Ky,mul_comm->Dn,mul_le_mul_right->Cc,zero_add->Bx,zero_le->Ch
open Option renaming getD_some->Kd,isSome_iff_exists->Dl,map_eq_some_iff->Co,map_some->Ms
open Option.some renaming injEq->Dy
namespace Go.AW
open Go.RowKit
abbrev _root_.aw:=List UInt8
abbrev _root_.ax:=List Int
abbrev _root_.az:=List Nat
abbrev _root_.ba:=List Value
abbrev _root_.bg:=List Oper
def _root_.o_{P:Prop}(h:P:=by omega):P:=h
def _root_.d_{P:Prop}(h:P:=by decide):P:=h
def _root_.s_{P:Prop}(h:P:=by simp):P:=h
def _root_.q_{P:Prop}(h:P:=by simp;omega):P:=h
def dA:IntKind->Int
 | .i8=> -128 | .i16=> -32768 | .i32=> -2147483648 | .i64=> -9223372036854775808 | _=>0
def bN:IntKind->Int
 | .i8=>127 | .i16=>32767 | .i32=>2147483647 | .i64=>9223372036854775807
 | .u8=>255 | .u16=>65535 | .u32=>4294967295 | .u64=>18446744073709551615
def inR(k:IntKind)(n:Int):Prop:=dA k<=n/\n<=bN k
inductive Tk where
 | no | nil | full | own (k g:Nat)
inductive aa where
 | undef
 | bool (b:Bool)
 | int (k:IntKind) (n:Int)
 | str (l:aw)
 | slice (sz:Nat) (xs:List aa) (t:Tk)
 | agg (cs:List aa)
 | tup (vs:List aa)
 | ptr (cs:List aa)
 | ref (k off:Nat)
 | eref (k g i sz off:Nat)
 | csl (k off len sz:Nat)
 | row (k g:Nat)
 | sub (k g lo len sz:Nat)
 | rowc (k g c:Nat)
 | pre (k g n c sz:Nat)
 | mref (k:Nat)
 | nilptr | nilslice | nilmap | nilfunc | nilif
 | hsl (a:Option Addr) (n c:Nat)
 | func (fn:Fn) (first caps:List aa)
 | iface (t:TypeId) (v:aa)
abbrev _root_.ay:=List aa
abbrev _root_.ar:=List (Nat×aa)
def aa.cells:aa->ay
 | .agg cs=>cs
 | v=>[v]
abbrev Imm:=Nat->Nat->aa->Prop
def NoM(M:Imm)(b o:Nat):Prop:=∀ x,¬ M b o x
abbrev Hs:=List ba
def at'(ob:Hs)(k g:Nat):Option Value:=(ob[k]?).bind λ hs=>hs[g]?
def dY(ob ob':Hs):Prop:=∀ (k:Nat) hs,ob[k]? =some hs->∃ hs',ob'[k]? =some hs'/\hs<+:hs'
def dY.refl(ob:Hs):dY ob ob:=λ_ hs h=>⟨hs,h,Cw _⟩
def dY.trans{a b c:Hs}(h:dY a b)(k:dY b c):dY a c:=λ i hs e=>by obtain ⟨h1,d,f⟩:=h i hs e;obtain ⟨g,l,j⟩:=k i h1 d;exact ⟨g,l,f.trans j⟩
def dY.at{ob ob':Hs}(h:dY ob ob'){k g:Nat}{v:Value}(a:at' ob k g=some v):at' ob' k g=some v:=by
 unfold at' at *
 cases b:ob[k]? with
 | none=>grind
 | some hs=>
  rw [b] at a;obtain ⟨hs',e,p⟩:=h k hs b;rw [e];simp only [Option.bind_some] at a⊢;obtain ⟨t,rfl⟩:=p;rw [Ah (Ad.1 a).1];exact a
def xY(ob:Hs)(v:Value):Tk->Prop
 | .no=>True
 | .nil=>v= .slice none 0 0
 | .full=>∃ a n,v= .slice a n n
 | .own k g=>at' ob k g=some v
def xY.mono{ob ob':Hs}(a:dY ob ob'){v:Value}{t:Tk}(h:xY ob v t):xY ob' v t:=by
 cases t with
 | own k g=>exact a.at h
 | _=>exact h
inductive Rep(M:Imm)(ob:Hs):Value->aa->Prop
 | undef (v):Rep M ob v .undef
 | bool (b):Rep M ob (.bool b) (.bool b)
 | int (k n) (h:inR k n):Rep M ob (.int k n) (.int k n)
 | str (l:aw) (h:(l.length:Int)<=9223372036854775807):Rep M ob (.string ⟨l.toArray⟩) (.str l)
 | agg (vs:ba) (as:ay) (hl:vs.length=as.length) (h:∀ (i:Nat) v a,vs[i]? =some v->as[i]? =some a->Rep M ob v a):Rep M ob (.agg vs.toArray) (.agg as)
 | tup (vs:ba) (as:ay) (hl:vs.length=as.length) (h:∀ (i:Nat) v a,vs[i]? =some v->as[i]? =some a->Rep M ob v a):Rep M ob (.tuple vs.toArray) (.tup as)
 | ptr (b o:Nat) (cs:ay) (h:∀ (j:Nat) c,cs[j]? =some c->M b (o+j) c):Rep M ob (.pointer (some ⟨b,o,none⟩)) (.ptr cs)
 | ref (k off b:Nat) (h:at' ob k 0=some (.pointer (some ⟨b,0,none⟩))):Rep M ob (.pointer (some ⟨b,off,none⟩)) (.ref k off)
 | eref (k g i sz off b n c:Nat) (h:at' ob k g=some (.slice (some ⟨b,0,none⟩) n c)):Rep M ob (.pointer (some ⟨b,i*sz+off,none⟩)) (.eref k g i sz off)
 | csl (k off len sz b:Nat) (h:at' ob k 0=some (.pointer (some ⟨b,0,none⟩))) (hm:(len:Int)<=9223372036854775807):Rep M ob (.slice (some ⟨b,off,none⟩) len len) (.csl k off len sz)
 | row (k g:Nat) (a:Option Addr) (n c:Nat) (h:at' ob k g=some (.slice a n c)):Rep M ob (.slice a n c) (.row k g)
 | sub (k g lo len sz b n c:Nat) (h:at' ob k g=some (.slice (some ⟨b,0,none⟩) n c)) (hl:lo<c) (hn:lo+len<=n) (hc:n<=c) (hm:(n:Int)<=9223372036854775807):Rep M ob (.slice (some ⟨b,lo*sz,none⟩) len (c-lo)) (.sub k g lo len sz)
 | sub0 (k g lo sz:Nat) (a a':Option Addr) (n c:Nat) (h:at' ob k g=some (.slice a n c)) (hl:lo=n) (hc:n=c):Rep M ob (.slice a' 0 0) (.sub k g lo 0 sz)
 | rowc (k g c:Nat) (a:Option Addr) (n:Nat) (h:at' ob k g=some (.slice a n c)) (hm:(c:Int)<=9223372036854775807):Rep M ob (.slice a n c) (.rowc k g c)
 | pre (k g n c sz b len:Nat) (h:at' ob k g=some (.slice (some ⟨b,0,none⟩) len c)) (hc:0<c) (hn:n<=len) (hl:len<=c) (hm:(c:Int)<=9223372036854775807):Rep M ob (.slice (some ⟨b,0,none⟩) n c) (.pre k g n c sz)
 | mref (k b:Nat) (h:at' ob k 0=some (.map (some b))):Rep M ob (.map (some b)) (.mref k)
 | nilptr:Rep M ob (.pointer none) .nilptr
 | nilslice:Rep M ob (.slice none 0 0) .nilslice
 | nilmap:Rep M ob (.map none) .nilmap
 | nilfunc:Rep M ob .nilFunc .nilfunc
 | nilif:Rep M ob .nilIface .nilif
 | hsl (a:Option Addr) (n c:Nat):Rep M ob (.slice a n c) (.hsl a n c)
 | slnil (sz:Nat) (t:Tk) (ht:xY ob (.slice none 0 0) t):Rep M ob (.slice none 0 0) (.slice sz [] t)
 | slemp (sz:Nat) (t:Tk) (a:Addr) (cap:Nat) (ht:xY ob (.slice (some a) 0 cap) t):Rep M ob (.slice (some a) 0 cap) (.slice sz [] t)
 | sl (sz b o n cap:Nat) (xs:ay) (t:Tk) (hn:xs.length=n) (hc:n<=cap) (hm:(n:Int)<=9223372036854775807) (hz:∀ x∈xs,x.cells.length=sz)
   (h:∀ (i j:Nat) x c,xs[i]? =some x->x.cells[j]? =some c->M b (o+i*sz+j) c) (ht:xY ob (.slice (some ⟨b,o,none⟩) n cap) t):Rep M ob (.slice (some ⟨b,o,none⟩) n cap) (.slice sz xs t)
 | func (fn:Fn) (fs cs:ba) (fa ca:ay) (hf:fs.length=fa.length) (hc:cs.length=ca.length)
   (h1:∀ (i:Nat) v a,fs[i]? =some v->fa[i]? =some a->Rep M ob v a) (h2:∀ (i:Nat) v a,cs[i]? =some v->ca[i]? =some a->Rep M ob v a):
   Rep M ob (.func fn fs.toArray cs.toArray) (.func fn fa ca)
 | iface (t:TypeId) (v:Value) (a:aa) (h:Rep M ob v a):Rep M ob (.iface t v) (.iface t a)
def Rep.mono{M M':Imm}{ob ob':Hs}(s:∀ b o x,M b o x->M' b o x)(d:dY ob ob'){v:Value}{a:aa}(h:Rep M ob v a):Rep M' ob' v a:=by
 induction h with
 | undef v=>exact .undef v
 | bool b=>exact .bool b
 | int k n h=>exact .int k n h
 | str l h=>exact .str l h
 | agg vs as hl _ p=>exact .agg vs as hl p
 | tup vs as hl _ p=>exact .tup vs as hl p
 | ptr b o cs h=>exact .ptr b o cs λ j c e=>s _ _ _ (h j c e)
 | ref k off b h=>exact .ref k off b (d.at h)
 | eref k g i sz off b n c h=>exact .eref k g i sz off b n c (d.at h)
 | csl k off len sz b h hm=>exact .csl k off len sz b (d.at h) hm
 | row k g a n c h=>exact .row k g a n c (d.at h)
 | sub k g lo len sz b n c h hl m e hm=>exact .sub k g lo len sz b n c (d.at h) hl m e hm
 | sub0 k g lo sz a A n c h hl e=>exact .sub0 k g lo sz a A n c (d.at h) hl e
 | rowc k g c a n h hm=>exact .rowc k g c a n (d.at h) hm
 | pre k g n c sz b len h e m hl hm=>exact .pre k g n c sz b len (d.at h) e m hl hm
 | mref k b h=>exact .mref k b (d.at h)
 | nilptr=>exact .nilptr
 | nilslice=>exact .nilslice
 | nilmap=>exact .nilmap
 | nilfunc=>exact .nilfunc
 | nilif=>exact .nilif
 | hsl a n c=>exact .hsl a n c
 | slnil sz t f=>exact .slnil sz t (f.mono d)
 | slemp sz t a cap f=>exact .slemp sz t a cap (f.mono d)
 | sl sz b o n cap xs t m e hm hz h f=>exact .sl sz b o n cap xs t m e hm hz (λ i j x c y u=>s _ _ _ (h i j x c y u)) (f.mono d)
 | func fn z cs w C B e _ _ r q=>exact .func fn z cs w C B e r q
 | iface t v a _ p=>exact .iface t v a p
def IE(ob:Hs):dY [] ob:=λ k hs h=>by simp at h
def Rep.pure{M:Imm}{ob:Hs}{v:Value}{a:aa}(h:Rep M [] v a):Rep M ob v a:=h.mono (λ_ _ _ h=>h) (IE ob)
def Rep.monoM{M M':Imm}{ob:Hs}{v:Value}{a:aa}(h:Rep M ob v a)(c:∀ b o x,M b o x->M' b o x):Rep M' ob v a:=h.mono c (dY.refl _)
structure BInv where
 inv:Imm->az->World->Prop
 mono:∀ {M M':Imm} {bs:az} {w w':World},(∀ b o x,M b o x->M' b o x)->(∀ b,b∈bs->∀ o,NoM M b o->NoM M' b o)->(∀ b c,b∈bs->w.heap[b]? =some c->w'.heap[b]? =some c)->inv M bs w->inv M' bs w'
def H8:Obj->Bool
 | .deferred _=>true
 | _=>false
def fC(bs:az):Value:=.tuple (bs.map λ b=>Value.map (some b)).toArray
inductive ab where
 | dead
 | cells (T:TypeId) (cs:ay)
 | fcells (cs:ay)
 | row (g sz:Nat) (e:TypeId) (xs:ay)
 | frow (g sz:Nat) (xs:ay)
 | tail (g sz:Nat) (e:TypeId)
 | mp (ag:Bool) (es:List (ax×aa))
 | bun (g:Nat) (I:BInv)
abbrev _root_.au:=List ab
def aNs:Value->Option Nat
 | .map (some b)=>some b
 | _=>none
def P4:Value->az
 | .pointer (some a)=>[a.block]
 | .slice (some a) _ _=>[a.block]
 | .map (some b)=>[b]
 | .tuple vs=>vs.toList.filterMap aNs
 | _=>[]
def blk(hs:ba):az:=match hs.getLast? with | some v=>P4 v | none=>[]
def FX{hs:ba}{bs:az}(h:hs.getLast? =some (fC bs)):blk hs=bs:=by
 unfold blk;rw [h];show (bs.map λ b=>Value.map (some b)).filterMap aNs=bs;clear h;induction bs with
 | nil=>rfl
 | cons b r a=>simp only [Bj,List.filterMap_cons,aNs,a]
def eX{b c:Nat}:b∈([c]:az)↔c=b:=by grind
def ab.owns:ab->Bool
 | .dead | .fcells _ | .frow _ _ _=>false
 | _=>true
def aP(sz:Nat)(xs:ay)(q:Nat):Option aa:=(xs[q / sz]?).bind λ x=>x.cells[q % sz]?
def YT(w:World)(v:Value):Prop:=∀ b,v.ownBlock=some b->∀ a T c,w.heap[b]? =some (.cells a T c)->∀ u∈a.toList,u.oneCell'=true
def eP(M:Imm)(w:World)(v:Value)(sz:Nat)(e:TypeId)(xs:ay):Prop:=
 ∃ cv,w.ownsRow 0 e sz v xs.length cv/\(∀ u∈cv,u.oneCell'=true)/\(∀ x∈xs,x.cells.length=sz)/\
  (∀ (q:Nat) c,aP sz xs q=some c->∃ u,cv[q]? =some u/\Rep M [] u c)/\(∀ b,v.ownBlock=some b->∀ o,NoM M b o)/\YT w v
def iJ(a:Bool)(l:ax):Value:=if a then .agg (l.map (Ej .i64)).toArray else .int .i64 (l.headD 0)
def aC4(M:Imm)(w:World)(b:Nat)(d:Bool)(es:List (ax×aa)):Prop:=
 ∃ (c:List MapEntry) (a:Nat),w.heap[b]? =some (.map c.toArray a)/\c.length=es.length/\(∀ (i:Nat) x y,c[i]? =some x->es[i]? =some y->x.key=iJ d y.1/\(d=false->y.1.length=1)/\Rep M [] x.val y.2)/\
  (∀ (i:Nat) x,c[i]? =some x->x.born<a)/\∀ (i j:Nat) x y,c[i]? =some x->c[j]? =some y->x.born=y.born->i=j
def jT(M:Imm)(ob:Hs)(w:World)(hs:ba):ab->Prop
 | .dead=>True
 | .cells T cs=>∃ b,hs=[.pointer (some ⟨b,0,none⟩)]/\(∀ o,NoM M b o)/\∃ (cv:ba),w.heap[b]? =some (.cells cv.toArray T (0,0))/\cv.length=cs.length/\(∀ v∈cv,v.oneCell'=true)/\
   ∀ (i:Nat) v a,cv[i]? =some v->cs[i]? =some a->Rep M ob v a
 | .fcells cs=>∃ b,hs=[.pointer (some ⟨b,0,none⟩)]/\∀ (j:Nat) c,cs[j]? =some c->M b j c
 | .row g sz e xs=>hs.length=g+1/\∃ v,hs[g]? =some v/\eP M w v sz e xs
 | .frow g sz xs=>∃ v,hs[g]? =some v/\Rep M [] v (.slice sz xs .no)
 | .tail g sz e=>hs.length=g+1/\∃ v,hs[g]? =some v/\∃ n cv,w.ownsRow 0 e sz v n cv/\∀ b,v.ownBlock=some b->∀ o,n*sz<=o->NoM M b o
 | .mp d es=>∃ b,hs=[.map (some b)]/\(∀ o,NoM M b o)/\aC4 M w b d es
 | .bun g I=>hs.length=g+1/\∃ bs,hs[g]? =some (fC bs)/\(∀ b,b∈bs->∃ o,w.heap[b]? =some o/\H8 o=false)/\I.inv M bs w
def aM(ob:Hs)(ac:au)(k b:Nat):Prop:=∃ c hs,ac[k]? =some c/\c.owns=true/\ob[k]? =some hs/\b∈blk hs
structure Mem(M:Imm)(ob:Hs)(ac:au)(w:World):Prop where
 imm:∀ b o x,M b o x->∃ v,w.cell? ⟨b,o,none⟩=some v/\v.oneCell'=true/\Rep M [] v x
 len:ob.length=ac.length
 obj:∀ (k:Nat) c,ac[k]? =some c->∃ hs,ob[k]? =some hs/\jT M ob w hs c
 lt:∀ k b,aM ob ac k b->b<w.heap.size
 inj:∀ k k' b,aM ob ac k b->aM ob ac k' b->k=k'
structure Ext(M:Imm)(ob:Hs)(ac:au)(w:World)(M':Imm)(ob':Hs)(ao:au)(w':World):Prop where
 imm:∀ b o x,M b o x->M' b o x
 new:∀ b o x,M' b o x->M b o x\/w.heap.size<=b\/∃ k,aM ob ac k b
 hs:dY ob ob'
 os:w'.os=w.os
 tape:w'.tape=w.tape
 output:w'.output=w.output
 size:w.heap.size<=w'.heap.size
 keep:∀ b,b<w.heap.size->(∀ k,¬ aM ob ac k b)->w'.heap[b]? =w.heap[b]?
 fresh:∀ k b,aM ob' ao k b->(∃ k',aM ob ac k' b)\/w.heap.size<=b
def Ext.refl(M:Imm)(ob:Hs)(ac:au)(w:World):Ext M ob ac w M ob ac w where
 imm _ _ _ h:=h
 new _ _ _ h:=.inl h
 hs:=dY.refl _
 os:=rfl
 tape:=rfl
 output:=rfl
 size:=Bh _
 keep _ _ _:=rfl
 fresh k _ h:=.inl ⟨k,h⟩
def Ext.trans{M M1 M2:Imm}{ob ob1 ob2:Hs}{ac obs1 obs2:au}{w w1 w2:World}(h:Ext M ob ac w M1 ob1 obs1 w1)(k:Ext M1 ob1 obs1 w1 M2 ob2 obs2 w2):
  Ext M ob ac w M2 ob2 obs2 w2 where
 imm b o x hx:=k.imm _ _ _ (h.imm _ _ _ hx)
 new b o x hx:=by
  rcases k.new b o x hx with h1 | h1 | ⟨i,hi⟩
  .exact h.new b o x h1
  .exact .inr (.inl (Dh h.size h1))
  .rcases h.fresh i b hi with h2 | h2
   .grind
   omega
 hs:=h.hs.trans k.hs
 os:=k.os.trans h.os
 tape:=k.tape.trans h.tape
 output:=k.output.trans h.output
 size:=Dh h.size k.size
 keep b hb ho:=by
  rw [<-h.keep b hb ho];refine k.keep b (Fh hb h.size) λ i hi=>?_;rcases h.fresh i b hi with ⟨j,hj⟩ | h2
  .grind
  .omega
 fresh i b hi:=by
  rcases k.fresh i b hi with ⟨j,hj⟩ | h1
  .exact h.fresh j b hj
  .exact .inr (Dh h.size h1)
def dB(ob:Hs)(ac:au)(ob':Hs)(ao:au):Prop:=∀ (k:Nat) hs,ac[k]? =some .dead->ob[k]? =some hs->
 (hs≠[]->ao[k]? =some .dead/\ob'[k]? =some hs)/\(hs=[]->ao[k]? =some .dead->ob'[k]? =some [])
def dB.refl(ob:Hs)(ac:au):dB ob ac ob ac:=λ_ _ h1 a=>⟨λ_=>⟨h1,a⟩,λ e _=>e▸a⟩
def gL{w:World}{b:Nat}{x:Obj}(a:w.heap[b]? =some x):b<w.heap.size:=(Fi.1 a).1
def eP.mono{M M':Imm}{w w':World}{v:Value}{sz:Nat}{e:TypeId}{xs:ay}(h:eP M w v sz e xs)(z:∀ b o x,M b o x->M' b o x)
  (s:∀ b,v.ownBlock=some b->(∀ o,NoM M b o)->∀ o,NoM M' b o) (l:∀ b c,v.ownBlock=some b->w.heap[b]? =some c->w'.heap[b]? =some c):eP M' w' v sz e xs:=by
 obtain ⟨cv,⟨h1,f⟩,h3,p,n,m,B⟩:=h;refine ⟨cv,⟨h1,?_⟩,h3,p,λ q c j=>?_,λ b e=>s b e (m b e),λ b e d T C j=>?_⟩
 .rcases f with f | ⟨g,cap,d,a,y,i,r⟩
  .exact .inl f
  .exact .inr ⟨g,cap,d,a,y,l g _ (by rw [a];rfl) i,r⟩
 .obtain ⟨u,A,t⟩:=n q c j;exact ⟨u,A,t.monoM z⟩
 .rcases f with ⟨rfl,_⟩ | ⟨g,cap,k,a,_,i,_⟩
  .cases e
  .rw [a] at e;cases e;have:=l g _ (by rw [a];rfl) i;rw [j] at this;cases this;exact B g (by rw [a];rfl) _ _ _ i
def jT.mono{M M':Imm}{ob ob':Hs}{w w':World}{hs:ba}{x:ab}(h:jT M ob w hs x)(s:∀ b o x,M b o x->M' b o x)(B:dY ob ob')
  (t:∀ b,x.owns=true->b∈blk hs->∀ o,NoM M b o->NoM M' b o) (q:∀ b c,x.owns=true->b∈blk hs->w.heap[b]? =some c->w'.heap[b]? =some c):jT M' ob' w' hs x:=by
 have f:∀ {g:Nat} {v:Value},hs.length=g+1->hs[g]? =some v->blk hs=P4 v:=λ{g v} hl C=>by unfold blk;rw [Ln,hl,Ie,C]
 have u:∀ {v:Value} {b:Nat},v.ownBlock=some b->b∈P4 v:=λ{v b} h=>by
  unfold Gt at h;split at h
  .cases h;simp [P4]
  .cases h
 have k:∀ {v:Value} {b:Nat},blk hs=P4 v->v.ownBlock=some b->b∈blk hs:=λ{v b} h1 d=>by rw [h1];exact u d
 cases x with
 | dead=>trivial
 | cells T cs=>
  obtain ⟨b,rfl,h1,cv,d,h3,m,p⟩:=h;exact ⟨b,rfl,λ o=>t b rfl (eX.2 rfl) o (h1 o),cv,q b _ rfl (eX.2 rfl) d,h3,m,λ i v a C N=>(p i v a C N).mono s B⟩
 | fcells cs=>
  obtain ⟨b,rfl,h1⟩:=h;exact ⟨b,rfl,λ j c J=>s _ _ _ (h1 j c J)⟩
 | row g sz e xs=>
  obtain ⟨h1,v,d,h3⟩:=h;exact ⟨h1,v,d,h3.mono s (λ b e D o=>t b rfl (k (f h1 d) e) o (D o)) (λ b c e=>q b c rfl (k (f h1 d) e))⟩
 | frow g sz xs=>
  obtain ⟨v,h1,d⟩:=h;exact ⟨v,h1,d.monoM s⟩
 | tail g sz e=>
  obtain ⟨h1,v,d,n,cv,⟨h3,m⟩,p⟩:=h;refine ⟨h1,v,d,n,cv,⟨h3,?_⟩,λ b e o B=>t b rfl (k (f h1 d) e) o (p b e o B)⟩;rcases m with m | ⟨g',cap,F,G,K,L,r⟩
  .exact .inl m
  .exact .inr ⟨g',cap,F,G,K,q g' _ rfl (k (f h1 d) (by rw [G];rfl)) L,r⟩
 | mp P es=>
  obtain ⟨b,rfl,h1,O,cl,d,h3,m,p⟩:=h;exact ⟨b,rfl,λ o=>t b rfl (eX.2 rfl) o (h1 o),O,cl,q b _ rfl (eX.2 rfl) d,h3,λ i x y z A=>⟨(m i x y z A).1,(m i x y z A).2.1,(m i x y z A).2.2.monoM s⟩,p⟩
 | bun g I=>
  obtain ⟨h1,bs,d,h3,m⟩:=h;have e:blk hs=bs:=by rw [<-FX (hs:=[fC bs]) rfl];exact f h1 d
  refine ⟨h1,bs,d,λ b l=>?_,I.mono s (λ b l=>t b rfl (by rw [e];exact l)) (λ b c l=>q b c rfl (by rw [e];exact l)) m⟩;obtain ⟨o,p,H⟩:=h3 b l;exact ⟨o,q b _ rfl (by rw [e];exact l) p,H⟩
def Mem.same{M:Imm}{ob:Hs}{ac:au}{w w':World}(h:Mem M ob ac w)(hs:w.heap.size<=w'.heap.size)
  (j:∀ b,b<w.heap.size->w'.heap[b]? =w.heap[b]?):Mem M ob ac w':=by
 refine ⟨λ b o x l=>?_,h.len,λ k c d=>?_,λ k b e=>Fh (h.lt k b e) hs,h.inj⟩
 .obtain ⟨v,i,m⟩:=h.imm b o x l;exact ⟨v,(Cy (w:=w) (a:=⟨b,o,none⟩) (j b (Cz w _ i))).trans i,m⟩
 .obtain ⟨hs',f,g⟩:=h.obj k c d;exact ⟨hs',f,g.mono (λ_ _ _ h=>h) (dY.refl _) (λ_ _ _ _ h=>h) (λ b c _ _ d=>(j b (gL d)).trans d)⟩
def Mem.noImm{M:Imm}{ob:Hs}{ac:au}{w:World}(h:Mem M ob ac w){b:Nat}(d:w.heap.size<=b)(o:Nat):NoM M b o:=by
 intro x c;obtain ⟨v,a,_⟩:=h.imm b o x c;have:=Cz w _ a
 grind
inductive TK where
 | int (k:IntKind) | bool | str | strct (fs:List (Nat×Nat×Bool)) | arr (n esz:Nat) (eagg:Bool) | slc (e esz ebytes:Nat) | ptr (e:Nat) | iface | mp (k e:Nat) | other
structure TI where
 kind:TK
 size:Nat
 agg:Bool
 zero:aa
abbrev Tab:=List (Nat×TI)
def dL:Tab->Nat->Option TI
 | [],_=>none
 | (i,x)::r,n=>bif Ba i n then some x else dL r n
abbrev aHL:=List (Nat×String×Nat)
def aFo:aHL->Nat->String->Option Nat
 | [],_,_=>none
 | (i,s,f)::r,n,m=>bif (Ba i n&&s==m) then some f else aFo r n m
structure Env where
 P:Program
 T:Tab
 mt:aHL
 fl:List (Nat×Nat)
 own:az
 rws:az
 bl:az
 df:List (Nat×ay)
 rd:Option Nat:=none
def xT(n:Nat):az->Bool
 | []=>false
 | x::r=>Ba x n||xT n r
def bG:ar->Nat->aa
 | [],_=>.undef
 | (i,v)::r,n=>bif Ba i n then v else bG r n
def kC:ar->Nat->aa->ar
 | [],n,x=>[(n,x)]
 | (i,v)::r,n,x=>bif Ba i n then (n,x)::r else (i,v)::kC r n x
def aB:au->Nat->ab
 | [],_=>.dead
 | x::_,0=>x
 | _::r,n+1=>aB r n
def bX:au->Nat->ab->au
 | [],0,y=>[y]
 | [],n+1,y=>.dead::bX [] n y
 | _::r,0,y=>y::r
 | x::r,n+1,y=>x::bX r n y
def aR:au->Nat
 | []=>0
 | _::r=>aR r+1
def nS:Nat->ay->ay
 | 0,l=>l
 | _+1,[]=>[]
 | n+1,_::l=>nS n l
def oV:Nat->ay->Option ay
 | 0,_=>some []
 | _+1,[]=>none
 | n+1,c::l=>match oV n l with | some r=>some (c::r) | none=>none
def YB:ay->ay->Option ay
 | [],l=>some l
 | _::_,[]=>none
 | c::r,_::l=>match YB r l with | some x=>some (c::x) | none=>none
def qO:Nat->ay->ay->Option ay
 | 0,new,l=>YB new l
 | _+1,_,[]=>none
 | n+1,new,c::l=>match qO n new l with | some x=>some (c::x) | none=>none
def UK:ay->Nat
 | []=>0
 | _::r=>UK r+1
def nth{α:Type}:List α->Nat->Option α
 | [],_=>none
 | x::_,0=>some x
 | _::r,n+1=>nth r n
def aCX:ay->ay->ay
 | [],l=>l
 | c::r,l=>c::aCX r l
def eQ(f:aa->aa):ay->ay
 | []=>[]
 | c::r=>f c::eQ f r
def aLT:IntKind->Nat
 | .i8=>127 | .i16=>32767 | .i32=>2147483647 | .i64=>9223372036854775807
 | .u8=>255 | .u16=>65535 | .u32=>4294967295 | .u64=>18446744073709551615
def aFF:IntKind->Nat
 | .i8=>128 | .i16=>32768 | .i32=>2147483648 | .i64=>9223372036854775808 | _=>0
def aJ4(k:IntKind):Int->Bool
 | .ofNat m=>Gd m (aLT k)
 | .negSucc m=>Fp m (aFF k)
def aFv:aw->Nat
 | []=>0
 | _::r=>aFv r+1
def aLa:Value->aa
 | .bool b=>.bool b
 | .int k n=>bif aJ4 k n then .int k n else .undef
 | .string s=>bif Gd (aFv s.data.toList) 1000000 then .str s.data.toList else .undef
 | .slice none 0 0=>.nilslice
 | .pointer none=>.nilptr
 | .map none=>.nilmap
 | .nilFunc=>.nilfunc
 | .nilIface=>.nilif
 | _=>.undef
def ev(fr:ar):Operand->aa
 | .tmp t=>bG fr t
 | .const v=>aLa v
 | .func f=>.func (.func f) [] []
 | .global _=>.undef
def one:aa->Bool
 | .undef | .agg _ | .tup _=>false
 | _=>true
def sW:ay->Bool
 | []=>true
 | c::r=>one c&&sW r
def HT:aa->Bool
 | .undef=>false
 | _=>true
def ah(og:Nat->ab):Nat->aa->aa
 | 0,_=>.undef
 | n+1,v=>match v with
  | .slice sz xs _=>.slice sz xs .no
  | .agg cs=>.agg (eQ (ah og n) cs)
  | .tup cs=>.tup (eQ (ah og n) cs)
  | .func fn a cs=>.func fn (eQ (ah og n) a) (eQ (ah og n) cs)
  | .iface t v=>.iface t (ah og n v)
  | .ref k off=>(match og k with | .fcells cs=>.ptr (nS off cs) | _=>.undef)
  | .csl k off len sz=>(match og k with | .fcells cs=>bif Ba sz 1 then (match oV len (nS off cs) with | some l=>bif sW l then .slice 1 l .full else .undef | none=>.undef) else .undef | _=>.undef)
  | .row k g=>(match og k with | .frow g' sz xs=>bif Ba g g' then .slice sz xs .no else .undef | _=>.undef)
  | .sub k g lo len sz=>(match og k with | .frow g' sz' xs=>bif Ba g g'&&Ba sz sz' then .slice sz ((xs.drop lo).take len) .no else .undef | _=>.undef)
  | .eref _ _ _ _ _=>.undef
  | .rowc _ _ _=>.undef
  | .pre _ _ _ _ _=>.undef
  | .mref _=>.undef
  | v=>v
def foldO(f:au->aa->au):au->ay->au
 | ac,[]=>ac
 | ac,c::r=>foldO f (f ac c) r
def frz1(ac:au)(k:Nat):au:=match aB ac k with
 | .cells _ cs=>bX ac k (.fcells (eQ (ah (aB ac) 4) cs))
 | _=>ac
def frzR(ac:au)(k g:Nat):au:=match aB ac k with
 | .row g' sz _ xs=>bif Ba g g' then bX ac k (.frow g sz xs) else ac
 | _=>ac
def frzV:Nat->au->aa->au
 | 0,ac,_=>ac
 | n+1,ac,v=>match v with
  | .agg cs=>foldO (frzV n) ac cs
  | .tup cs=>foldO (frzV n) ac cs
  | .func _ a cs=>foldO (frzV n) (foldO (frzV n) ac a) cs
  | .iface _ v=>frzV n ac v
  | .ref k _=>(match aB ac k with | .cells _ cs=>frz1 (foldO (frzV n) ac cs) k | _=>ac)
  | .csl k _ _ _=>(match aB ac k with | .cells _ cs=>frz1 (foldO (frzV n) ac cs) k | _=>ac)
  | .row k g=>frzR ac k g
  | .sub k g _ _ _=>frzR ac k g
  | _=>ac
def frzL(ac:au)(l:ay):au:=foldO (frzV 6) ac l
def aj:az->au->au
 | [],ac=>ac
 | k::r,ac=>aj r (match aB ac k with
  | .row g _ _ _=>frzR ac k g
  | .cells _ _=>frzV 6 ac (.ref k 0)
  | _=>ac)
inductive OR where
 | no
 | val (v:aa)
 | mkf (fn:Fn) (fs cs:ay)
 | need (p:Prop) (r:OR)
 | alt (p:Prop) (v w:aa)
 | idx (n:Int) (k:Nat->OR)
 | elem (xs:ay) (i:Nat) (k:aa->OR)
 | byte (l:aw) (i:Nat)
 | text (xs:ay)
 | find (es:List (ax×aa)) (key:ax) (k:Option aa->OR)
 | born (x:ab) (v:aa)
 | upd (k:Nat) (x:ab) (v:aa)
 | nilq (xs:ay) (neg:Bool)
 | call (f:Fn) (args:ay)
 | pan (v:aa)
def OR.bind:OR->(aa->OR)->OR
 | .val v,k=>k v
 | .need p r,k=>.need p (r.bind k)
 | .elem xs i f,k=>.elem xs i λ x=>(f x).bind k
 | .idx n f,k=>.idx n λ i=>(f i).bind k
 | _,_=>.no
def eG:BinOp->IntKind->Int->Int->Int
 | op,k,x,y=>
  let a:=BitVec.ofInt k.bits x
  let b:=BitVec.ofInt k.bits y
  match op with
  | .and=>k.wrap (a &&& b).toNat
  | .or=>k.wrap (a ||| b).toNat
  | .xor=>k.wrap (a ^^^ b).toNat
  | _=>k.wrap (a &&& ~~~b).toNat
def I7(k:IntKind)(n:Int):OR:=.alt (inR k n) (.int k n) (.int k (k.wrap n))
def aFI:IntKind->IntKind->Bool
 | .i8,.i8 | .i16,.i16 | .i32,.i32 | .i64,.i64 | .u8,.u8 | .u16,.u16 | .u32,.u32 | .u64,.u64=>true
 | _,_=>false
def aPQ(op:BinOp)(k:IntKind)(x y:Int):OR:=
 match op with
 | .add=>I7 k (x+y)
 | .sub=>I7 k (x-y)
 | .mul=>I7 k (x*y)
 | .quo=>.need (y≠0) (.alt (inR k (x.tdiv y)) (.int k (x.tdiv y)) (.int k (k.wrap (x.tdiv y))))
 | .rem=>.need (y≠0) (.val (.int k (x.tmod y)))
 | .and=>.val (.int k (eG .and k x y))
 | .or=>.val (.int k (eG .or k x y))
 | .xor=>.val (.int k (eG .xor k x y))
 | .andNot=>.val (.int k (eG .andNot k x y))
 | .eql=>.val (.bool (x==y))
 | .neq=>.val (.bool (x !=y))
 | .lss=>.val (.bool (decide (x<y)))
 | .leq=>.val (.bool (decide (x<=y)))
 | .gtr=>.val (.bool (decide (y<x)))
 | .geq=>.val (.bool (decide (y<=x)))
 | _=>.no
def ceq:ay->ay->Option Bool
 | [],[]=>some true
 | .int k a::r,.int k' b::s=>bif aFI k k' then (match ceq r s with | some c=>some ((a==b)&&c) | none=>none) else none
 | _,_=>none
def EZ:List (Nat×Nat)->Nat->Nat
 | [],_=>0
 | (i,n)::r,t=>bif Ba i t then n else EZ r t
def A1(op:BinOp)(c:Bool):OR:=
 match op with
 | .eql=>.val (.bool c)
 | .neq=>.val (.bool (!c))
 | _=>.no
def aNf(op:BinOp)(xs:ay):OR:=
 match op with
 | .eql=>.nilq xs false
 | .neq=>.nilq xs true
 | _=>.no
def isC:Operand->Bool
 | .const _=>true
 | _=>false
def aOc(E:Env)(og:Nat->ab)(d:Bool)(op:BinOp)(t:Nat)(a b:aa):OR:=
 match a,b with
 | .int k x,.int k' y=>
  (match op with
  | .shl=>.need (0<=y) (.alt (y.toNat<=k.bits/\inR k (x*2 ^ y.toNat)) (.int k (x*2 ^ y.toNat)) (.int k (k.wrap (x*2 ^ (min y.toNat k.bits)))))
  | .shr=>.need (0<=y/\y.toNat<=k.bits) (.val (.int k (x.fdiv (2 ^ y.toNat))))
  | op=>bif aFI k k' then aPQ op k x y else .no)
 | .str x,.str y=>
  (match op with
  | .add=>.need (((x.length+y.length:Nat):Int)<=9223372036854775807) (.val (.str (x++y)))
  | .eql=>.val (.bool (x==y))
  | .neq=>.val (.bool (!(x==y)))
  | .lss=>.val (.bool (Op.bytesLess x y))
  | .leq=>.val (.bool (Op.bytesLess x y||x==y))
  | .gtr=>.val (.bool (!(Op.bytesLess x y||x==y)))
  | .geq=>.val (.bool (!Op.bytesLess x y))
  | _=>.no)
 | .agg xs,.agg ys=>
  bif Fp 0 (EZ E.fl t)&&Ba (UK xs) (EZ E.fl t) then
   (match op,ceq xs ys with
   | .eql,some c=>.val (.bool c)
   | .neq,some c=>.val (.bool (!c))
   | _,_=>.no)
  else .no
 | a,b=>match dL E.T t with
  | none=>.no
  | some f=>match f.kind,a,b with
   | .bool,.bool x,.bool y=>A1 op (x==y)
   | .slc _ _ _,.slice _ _ .nil,.nilslice=>A1 op true
   | .slc _ _ _,.nilslice,.nilslice=>A1 op true
   | .slc _ _ _,.slice _ xs _,.nilslice=>aNf op xs
   | .ptr _,.nilptr,.nilptr=>A1 op true
   | .ptr _,.ref _ _,.nilptr=>A1 op false
   | .ptr _,.ptr _,.nilptr=>A1 op false
   | .ptr e,.ref k o,.ref k' o'=>(match dL E.T e with
    | some _=>bif Ba k k'&&Ba o o' then A1 op true else .no
    | none=>.no)
   | .iface,.nilif,.nilif=>bif d then A1 op true else .no
   | .iface,.iface _ _,.nilif=>A1 op false
   | .iface,.nilif,.iface _ _=>A1 op false
   | _,_,_=>.no
def mk(a:TI)(l:ay):Option aa:=
 bif a.agg then some (.agg l) else match l with
  | [c]=>some c
  | _=>none
def fin(a:TI)(l:Option ay):OR:=
 match l with
 | none=>.no
 | some l=>match mk a l with
  | none=>.no
  | some v=>.val v
def aA3(E:Env)(og:Nat->ab)(t:Nat)(a:aa):OR:=
 match dL E.T t with
 | none=>.no
 | some b=>match a with
  | .ptr cs=>fin b (oV b.size cs)
  | .ref k off=>(match og k with
   | .cells _ cs=>fin b (oV b.size (nS off cs))
   | .fcells cs=>fin b (oV b.size (nS off cs))
   | _=>.no)
  | .eref k g i sz off=>(match og k with
   | .row g' c _ xs=>bif Ba g g'&&Ba sz c then .elem xs i λ x=>fin b (oV b.size (nS off x.cells)) else .no
   | _=>.no)
  | _=>.no
def aLS:ay->aa
 | [c]=>c
 | _=>.undef
def aMZ(x:aa)(cs:ay):aa:=
 match x with
 | .agg _=>.agg cs
 | _=>aLS cs
def XF(E:Env)(og:Nat->ab)(t:Nat)(a v:aa):OR:=
 match dL E.T t with
 | none=>.no
 | some c=>
  bif sW v.cells&&Ba (UK v.cells) c.size then
   match a with
   | .ref k off=>(match og k with
    | .cells T cs=>(match qO off v.cells cs with
     | some cs=>.upd k (.cells T cs) .undef
     | none=>.no)
    | _=>.no)
   | .eref k g i sz off=>(match og k with
    | .row g' b e xs=>
     bif ((Ba g g'&&Ba sz b)&&Gd 1 sz)&&sW (ah og 4 v).cells then
            (bif Ba off 0&&Ba c.size sz then .need (i<xs.length) (.upd k (.row g sz e (xs.set i (ah og 4 v))) .undef)
            else .elem xs i λ x=>match qO off (ah og 4 v).cells x.cells with
             | some cs=>.upd k (.row g sz e (xs.set i (aMZ x cs))) .undef
             | none=>.no)
     else .no
    | _=>.no)
   | _=>.no
  else .no
def XT(E:Env)(s:Nat)(a:aa)(f:Nat):OR:=
 match dL E.T s with
 | some {kind:=.strct fs,..}=>(match nth fs f with
  | none=>.no
  | some (off,sz,ag)=>match a with
   | .agg cs=>(match oV sz (nS off cs) with
    | none=>.no
    | some l=>bif ag then .val (.agg l) else match l with
     | [c]=>.val c
     | _=>.no)
   | _=>.no)
 | _=>.no
def zH(E:Env)(s:Nat)(a:aa)(f:Nat):OR:=
 match dL E.T s with
 | some {kind:=.strct fs,..}=>(match nth fs f with
  | none=>.no
  | some (off,sz,_)=>
   bif Ba sz 0 then .no else
   match a with
   | .ptr cs=>.val (.ptr (nS off cs))
   | .ref k x=>.val (.ref k (x+off))
   | .eref k g i z x=>.val (.eref k g i z (x+off))
   | _=>.no)
 | _=>.no
def zG(E:Env)(og:Nat->ab)(t:Nat)(a i:aa):OR:=
 match dL E.T t,i with
 | some ti,.int _ n=>(match ti.kind with
  | .slc _ b _=>(match a with
   | .slice sz xs _=>bif Ba sz b then .idx n λ i=>.elem xs i λ x=>.val (.ptr x.cells) else .no
   | .row k g=>(match og k with
    | .row g' sz _ xs=>bif Ba g g'&&Ba sz b then .idx n λ i=>.need (i<xs.length) (.val (.eref k g i sz 0)) else .no
    | .frow g' sz xs=>bif Ba g g'&&Ba sz b then .idx n λ i=>.elem xs i λ x=>.val (.ptr x.cells) else .no
    | _=>.no)
   | .sub k g lo len sz=>(match og k with
    | .row g' c _ _=>bif (Ba g g'&&Ba sz c)&&Ba sz b then .idx n λ i=>.need (i<len) (.val (.eref k g (lo+i) sz 0)) else .no
    | _=>.no)
   | _=>.no)
  | .arr len b _=>(match a with
   | .ref k off=>.need (0<=n/\n.toNat<len) (.val (.ref k (off+n.toNat*b)))
   | .ptr cs=>.need (0<=n/\n.toNat<len) (.val (.ptr (nS (n.toNat*b) cs)))
   | _=>.no)
  | _=>.no)
 | _,_=>.no
def XS(E:Env)(t:Nat)(a i:aa):OR:=
 match a,i with
 | .str l,.int _ n=>(match dL E.T t with
  | some {kind:=.str,..}=>.idx n λ i=>.byte l i
  | _=>.no)
 | .agg cs,.int _ n=>(match dL E.T t with
  | some {kind:=.arr len esz ag,..}=>(match oV esz (nS (n.toNat*esz) cs) with
   | some l=>bif ag then .need (0<=n/\n<len) (.val (.agg l)) else (match l with | [c]=>.need (0<=n/\n<len) (.val c) | _=>.no)
   | none=>.no)
  | _=>.no)
 | _,_=>.no
def I4(place:Nat->Option (Nat×Nat)):ay->ar->Option ay
 | cs,[]=>some cs
 | cs,(i,v)::r=>match place i with
  | none=>none
  | some (off,sz)=>bif HT v&&Ba (UK v.cells) sz then (match qO off v.cells cs with | some cs=>I4 place cs r | none=>none) else none
def XV(E:Env)(t:Nat)(a:ar):OR:=
 match dL E.T t with
 | some b=>(match b.kind,b.zero with
  | .strct fs,.agg z=>(match I4 (λ i=>(nth fs i).map λ f=>(f.1,f.2.1)) z a with
   | some cs=>.val (.agg cs)
   | none=>.no)
  | .arr _ esz _,.agg z=>(match I4 (λ i=>some (i*esz,esz)) z a with
   | some cs=>.val (.agg cs)
   | none=>.no)
  | _,_=>.no)
 | _=>.no
def tN(hint base sz:Nat)(e:TypeId)(xs:ay):OR:=
 match hint with
 | 2=>.born (.row 0 sz e xs) (.row base 0)
 | _=>.born (.tail 0 sz e) (.slice sz xs (.own base 0))
def I5(og:Nat->ab)(a:Nat):Nat->ar->Option ay
 | _,[]=>some []
 | n,(i,v)::r=>(λ v=>bif Ba i n&&Ba (UK v.cells) a&&sW v.cells then (match I5 og a (n+1) r with | some l=>some (v::l) | none=>none) else none) (ah og 4 v)
def aES:ar->Nat
 | []=>0
 | _::r=>aES r+1
def pW(E:Env)(hint base:Nat)(og:Nat->ab)(t len:Nat)(a:ar):OR:=
 match dL E.T t with
 | some {kind:=.slc e esz _,..}=>
  bif Ba (aES a) len&&Gd (len*esz) 1000&&Gd 1 esz then
   match I5 og esz 0 a with
   | some xs=>(match hint with | 0=>.val (.slice esz xs .full) | h=>tN h base esz e xs)
   | none=>.no
  else .no
 | _=>.no
def evL(ρ:Operand->aa):List (Nat×Operand)->ar
 | []=>[]
 | (i,x)::r=>(i,ρ x)::evL ρ r
def evO(ρ:Operand->aa):List Operand->ay
 | []=>[]
 | x::r=>ρ x::evO ρ r
def bnd:Option aa->(Option Nat->OR)->OR
 | none,k=>k none
 | some (.int _ n),k=>.idx n λ i=>k (some i)
 | some _,_=>.no
def XG(E:Env)(og:Nat->ab)(t:Nat)(a:aa)(lo b d:Option aa):OR:=
 match dL E.T t with
 | none=>.no
 | some f=>match a with
  | .str l=>(match f.kind,d with
   | .str,none=>bnd lo λ lo=>bnd b λ b=>match lo,b with
    | none,none=>.val (.str l)
    | some x,none=>.need (x<=l.length) (.val (.str (l.drop x)))
    | none,some y=>.need (y<=l.length) (.val (.str (l.take y)))
    | some x,some y=>.need (x<=y/\y<=l.length) (.val (.str ((l.take y).drop x)))
   | _,_=>.no)
  | .slice sz xs _=>(match f.kind with
   | .slc _ c _=>bif Ba sz c then
     (bnd lo λ lo=>bnd b λ b=>bnd d λ d=>match d with
     | none=>(match lo,b with
            | none,none=>.val (.slice sz xs .no)
            | some x,none=>.need (x<=xs.length) (.val (.slice sz (xs.drop x) .no))
            | none,some y=>.need (y<=xs.length) (.val (.slice sz (xs.take y) .no))
            | some x,some y=>.need (x<=y/\y<=xs.length) (.val (.slice sz ((xs.take y).drop x) .no)))
     | some m=>(match lo,b with
            | none,some y=>.need (y<=xs.length/\m=y) (.val (.slice sz (xs.take y) .full))
            | _,_=>.no))
    else .no
   | _=>.no)
  | .row k g=>(match f.kind,d,og k with
   | .slc _ c _,none,.row g' sz _ xs=>bif Ba g g'&&Ba sz c then
     (bnd lo λ lo=>bnd b λ b=>match lo,b with
     | none,none=>.val (.row k g)
     | some x,none=>.need (x<=xs.length) (.val (.sub k g x (xs.length-x) sz))
     | none,some y=>.need (y<=xs.length) (.val (.sub k g 0 y sz))
     | some x,some y=>.need (x<=y/\y<=xs.length) (.val (.sub k g x (y-x) sz)))
    else .no
   | _,_,_=>.no)
  | .sub k g e len sz=>(match f.kind,d,og k with
   | .slc _ c _,none,.row g' sz' _ xs=>bif (Ba g g'&&Ba sz sz')&&Ba sz c then
     (bnd lo λ lo=>bnd b λ b=>match lo,b with
     | none,none=>.val (.sub k g e len sz)
     | some x,none=>.need (x<=len) (.val (.sub k g (e+x) (len-x) sz))
     | none,some y=>.need (e+y<=xs.length) (.val (.sub k g e y sz))
     | some x,some y=>.need (x<=y/\e+y<=xs.length) (.val (.sub k g (e+x) (y-x) sz)))
    else .no
   | _,_,_=>.no)
  | .ref k off=>(match f.kind,lo,b,d with
   | .arr len c _,none,none,none=>.need ((len:Int)<=9223372036854775807) (.val (.csl k off len c))
   | _,_,_,_=>.no)
  | .ptr cs=>(match f.kind,lo,b,d with
   | .arr len 1 false,none,none,none=>(match oV len cs with
    | some l=>bif sW l then .need ((len:Int)<=9223372036854775807) (.val (.slice 1 l .full)) else .no
    | none=>.no)
   | _,_,_,_=>.no)
  | _=>.no
def ub(c:UInt8):aa:=.int .u8 c.toNat
def aIu(og:Nat->ab):aa->Option (Nat×ay)
 | .slice sz xs _=>some (sz,xs)
 | .row k g=>(match og k with
  | .row g' sz _ xs=>bif Ba g g' then some (sz,xs) else none
  | .frow g' sz xs=>bif Ba g g' then some (sz,xs) else none
  | _=>none)
 | .sub k g lo len sz=>(match og k with
  | .row g' a _ xs=>bif Ba g g'&&Ba sz a then some (sz,(xs.drop lo).take len) else none
  | _=>none)
 | _=>none
def aDY(E:Env)(og:Nat->ab)(a b:Nat)(x:aa):Option ay:=
 match x with
 | .str l=>(match dL E.T b with | some {kind:=.str,..}=>bif Ba a 1 then some (l.map ub) else none | _=>none)
 | .nilslice=>(match dL E.T b with | some {kind:=.slc _ _ _,..}=>some [] | _=>none)
 | x=>match dL E.T b,aIu og x with
  | some {kind:=.slc _ _ _,..},some (sz,xs)=>bif Ba sz a then some xs else none
  | _,_=>none
def aGO(E:Env)(og:Nat->ab)(s d:Nat)(a:aa):OR:=
 match dL E.T s,dL E.T d with
 | some ts,some td=>(match td.kind,a with
  | .int k,.int _ n=>.alt (inR k n) (.int k n) (.int k (k.wrap n))
  | .str,.str l=>(match ts.kind with | .str=>.val (.str l) | _=>.no)
  | .slc e 1 _,.str l=>(match ts.kind,dL E.T e with
   | .str,some {kind:=.int .u8,..}=>.val (.slice 1 (l.map ub) .no)
   | _,_=>.no)
  | .str,a=>(match ts.kind,aIu og a with
   | .slc e 1 _,some (1,xs)=>(match dL E.T e with
    | some {kind:=.int .u8,..}=>.text xs
    | _=>.no)
   | _,_=>.no)
  | _,_=>.no)
 | _,_=>.no
def aN7(E:Env)(og:Nat->ab)(t:Nat)(a:aa):OR:=
 match dL E.T t with
 | none=>.no
 | some b=>match b.kind,a with
  | .str,.str l=>.val (.int .i64 l.length)
  | .slc _ _ _,.slice _ xs _=>.val (.int .i64 xs.length)
  | .slc _ _ _,.nilslice=>.val (.int .i64 0)
  | .slc _ _ _,.csl _ _ len _=>.val (.int .i64 len)
  | .slc _ _ _,.hsl _ n _=>.need ((n:Int)<=9223372036854775807) (.val (.int .i64 n))
  | .slc _ _ _,.row k g=>(match og k with
   | .row g' _ _ xs=>bif Ba g g' then .val (.int .i64 xs.length) else .no
   | .frow g' _ xs=>bif Ba g g' then .val (.int .i64 xs.length) else .no
   | _=>.no)
  | .slc _ _ _,.sub _ _ _ len _=>.val (.int .i64 len)
  | .arr n _ _,_=>.need ((n:Int)<=9223372036854775807) (.val (.int .i64 n))
  | _,_=>.no
def EY(n a:Nat):Prop:=n<=maxLen/\n*a<=140737488355328
def xL(E:Env)(hint base:Nat)(og:Nat->ab)(t c:Nat)(s x:aa):OR:=
 match dL E.T t with
 | some {kind:=.slc e esz eb,..}=>
  bif Gd 1 esz then
   match aDY E og esz c x with
   | none=>.no
   | some ys=>(match s with
    | .slice sz xs tk=>(match tk with
     | .own k g=>(match og k with
      | .tail g' a b=>bif ((Ba g g'&&Ba sz a)&&Ba sz esz)&&Ba e b then .need (EY (xs.length+ys.length) eb) (.upd k (.tail (g+1) esz e) (.slice esz (xs++ys) (.own k (g+1)))) else .no
      | _=>.no)
     | .nil=>bif Ba sz esz then .need (EY ys.length eb) (tN hint base esz e ys) else .no
     | .full=>bif Ba sz esz then .need (EY (xs.length+ys.length) eb) (match hint with | 0=>.val (.slice esz (xs++ys) .no) | 3=>.need (ys=[]) (.val (.slice esz xs .full)) | h=>.need (ys≠[]) (tN h base esz e (xs++ys))) else .no
     | .no=>.no)
    | .nilslice=>.need (EY ys.length eb) (tN hint base esz e ys)
    | .row k g=>(match og k with
     | .row g' sz b xs=>bif (Ba g g'&&Ba sz esz)&&Ba e b then .need (EY (xs.length+ys.length) eb) (.upd k (.row (g+1) sz e (xs++ys)) (.row k (g+1))) else .no
     | _=>.no)
    | .sub k g lo len sz=>(match og k with
     | .row g' a b xs=>bif ((Ba g g'&&Ba sz a)&&Ba sz esz)&&Ba e b then
       .need (lo+len+ys.length<=xs.length) (.upd k (.row g sz e (xs.take (lo+len)++ys++xs.drop (lo+len+ys.length))) (.sub k g lo (len+ys.length) sz)) else .no
     | _=>.no)
    | _=>.no)
  else .no
 | _=>.no
def aGN(E:Env)(og:Nat->ab)(t c:Nat)(d x:aa):OR:=
 match dL E.T t with
 | some {kind:=.slc e esz _,..}=>
  bif Gd 1 esz then
   match aDY E og esz c x with
   | none=>.no
   | some ys=>(match d with
    | .row k g=>(match og k with
     | .row g' sz b xs=>bif Ba g g'&&Ba sz esz then .upd k (.row g sz b (ys.take xs.length++xs.drop ys.length)) (.int .i64 (min ys.length xs.length:Nat)) else .no
     | _=>.no)
    | .sub k g lo len sz=>(match og k with
     | .row g' a b xs=>bif (Ba g g'&&Ba sz a)&&Ba sz esz then
       .upd k (.row g sz b (xs.take lo++ys.take len++xs.drop (lo+min ys.length len))) (.int .i64 (min ys.length len:Nat)) else .no
     | _=>.no)
    | _=>.no)
  else .no
 | _=>.no
def XU(E:Env)(og:Nat->ab)(t:Nat)(d:aa):OR:=
 match dL E.T t with
 | some {kind:=.slc e esz _,..}=>(match dL E.T e with
  | some b=>bif Gd 1 esz&&HT (ah (λ_=>.dead) 4 b.zero) then (match d with
   | .sub k g lo len sz=>(match og k with
    | .row g' a c xs=>bif (Ba g g'&&Ba sz a)&&Ba sz esz then
            .upd k (.row g sz c (xs.take lo++Aj len (ah (λ_=>.dead) 4 b.zero)++xs.drop (lo+len))) (.tup []) else .no
    | _=>.no)
   | _=>.no) else .no
  | none=>.no)
 | _=>.no
def aA1(E:Env)(hint base:Nat)(t:Nat)(n c:aa):OR:=
 match dL E.T t,n,c with
 | some {kind:=.slc e esz f,..},.int _ a,.int _ b=>(match dL E.T e with
  | some d=>bif Gd 1 esz&&HT (ah (λ_=>.dead) 4 d.zero) then
    .idx a λ i=>.need (a=b/\(f:Int)*b<=281474976710656/\i<=maxLen) (.born (.row 0 esz e (Aj i (ah (λ_=>.dead) 4 d.zero))) (.row base 0))
   else .no
  | none=>.no)
 | _,_,_=>.no
def S9:ay->Option ax
 | []=>some []
 | .int .i64 n::r=>(match S9 r with | some l=>some (n::l) | none=>none)
 | _=>none
def LZ(E:Env)(k:Nat)(a:Bool)(v:aa):Option ax:=
 match a with
 | false=>(match dL E.T k with
  | some {kind:=.int .i64,..}=>(match v with | .int .i64 n=>some [n] | _=>none)
  | _=>none)
 | true=>(match dL E.T k with
  | some _=>(match v with
   | .agg cs=>(match S9 cs with
    | some l=>bif Fp 0 (EZ E.fl k)&&Ba (UK cs) (EZ E.fl k) then some l else none
    | none=>none)
   | _=>none)
  | none=>none)
def cG:List (ax×aa)->ax->Option aa
 | [],_=>none
 | (k,v)::r,x=>if k=x then some v else cG r x
def oJ:List (ax×aa)->ax->aa->List (ax×aa)
 | [],x,y=>[(x,y)]
 | (k,v)::r,x,y=>if k=x then (x,y)::r else (k,v)::oJ r x y
def KH:List (ax×aa)->ax->List (ax×aa)
 | [],_=>[]
 | (k,v)::r,x=>if k=x then r else (k,v)::KH r x
def FN(a:Bool)(es:List (ax×aa))(key:ax)(r:OR):OR:=
 match a with
 | false=>r
 | true=>.need (∀ p∈es,p.1.length=key.length) r
def PO(E:Env)(og:Nat->ab)(t:Nat)(m k:aa)(ok:Bool):OR:=
 match dL E.T t,m with
 | some {kind:=.mp kt e,..},.mref j=>(match dL E.T e,og j with
  | some te,.mp ag es=>(match LZ E kt ag k with
   | some key=>FN ag es key (.find es key λ o=>match o with
    | some v=>.val (bif ok then .tup [v,.bool true] else v)
    | none=>.val (bif ok then .tup [te.zero,.bool false] else te.zero))
   | none=>.no)
  | _,_=>.no)
 | _,_=>.no
def XR(E:Env)(og:Nat->ab)(t:Nat)(m k v:aa):OR:=
 match dL E.T t,m with
 | some {kind:=.mp kt _,..},.mref j=>(match og j with
  | .mp a es=>(match LZ E kt a k with
   | some key=>(λ v=>bif HT v then FN a es key (.upd j (.mp a (oJ es key v)) .undef) else .no) (ah og 4 v)
   | none=>.no)
  | _=>.no)
 | _,_=>.no
def PN(E:Env)(og:Nat->ab)(t:Nat)(m k:aa):OR:=
 match dL E.T t,m with
 | some {kind:=.mp kt _,..},.mref j=>(match og j with
  | .mp a es=>(match LZ E kt a k with
   | some key=>FN a es key (.upd j (.mp a (KH es key)) (.tup []))
   | none=>.no)
  | _=>.no)
 | _,_=>.no
def GC(E:Env)(ty:Nat):aa->aa
 | .nilslice=>(match dL E.T ty with | some {kind:=.slc _ esz _,..}=>.slice esz [] .nil | _=>.nilslice)
 | v=>v
def oS(E:Env)(hint base:Nat)(og:Nat->ab)(ρ:Operand->aa)(op:Op)(ty:TypeId):OR:=
 match op with
 | .move x=>.val (ρ x)
 | .assign x=>(match hint with
  | 0=>.val (GC E ty (ρ x))
  | h=>match GC E ty (ρ x) with
   | .slice p xs t=>(match t with
    | .nil=>(match xs with
          | []=>(match dL E.T ty with | some {kind:=.slc e esz' _,..}=>bif Ba p esz'&&Gd 1 p then tN h base p e [] else .no | _=>.no)
          | _::_=>.no)
    | t=>.val (.slice p xs t))
   | v=>.val v)
 | .pick c a b=>(match ρ c with
  | .bool true=>.val (ρ a)
  | .bool false=>.val (ρ b)
  | _=>.no)
 | .alloc t=>(match dL E.T t with
  | some j=>bif sW j.zero.cells then .born (.cells t j.zero.cells) (.ref base 0) else .no
  | none=>.no)
 | .box t x=>(λ v=>bif sW v.cells then .born (.cells t v.cells) (.ref base 0) else .no) (ρ x)
 | .build t w=>XV E t (evL ρ w.toList)
 | .buildSlice t n w=>pW E hint base og t n (evL ρ w.toList)
 | .load t a=>(aA3 E og t (ρ a)).bind λ v=>.val (GC E t v)
 | .store t a x=>XF E og t (ρ a) (GC E t (ρ x))
 | .nilCheck x=>(match ρ x with
  | .ref k off=>.val (.ref k off)
  | .eref k g i sz off=>.val (.eref k g i sz off)
  | .ptr cs=>.val (.ptr cs)
  | .func (.func f) o cs=>.val (.func (.func f) o cs)
  | .func (.yield f) o cs=>.val (.func (.yield f) o cs)
  | .iface t v=>.val (.iface t v)
  | _=>.no)
 | .binOp op t x y _=>aOc E og (isC x||isC y) op t (ρ x) (ρ y)
 | .unOp op _ x=>(match op,ρ x with
  | .not,.bool b=>.val (.bool (!b))
  | .neg,.int k n=>I7 k (0-n)
  | .xor,.int k n=>.val (.int k (eG .xor k (if k.signed then -1 else k.max) n))
  | _,_=>.no)
 | .convert s d x=>aGO E og s d (ρ x)
 | .makeSlice t n c=>aA1 E hint base t (ρ n) (ρ c)
 | .makeInterface t x=>(match dL E.T t with
  | some j=>(match j.kind with | .iface=>.no | _=>.val (.iface t (ρ x)))
  | none=>.no)
 | .makeFunc fn o cs=>.mkf fn (evO ρ o.toList) (evO ρ cs.toList)
 | .slice t x lo z A=>XG E og t (ρ x) (lo.map ρ) (z.map ρ) (A.map ρ)
 | .fieldAddr t x f=>zH E t (ρ x) f
 | .field t x f=>(XT E t (ρ x) f).bind λ v=>.val (GC E ty v)
 | .indexAddr t x i=>zG E og t (ρ x) (ρ i)
 | .index t x i=>XS E t (ρ x) (ρ i)
 | .extract x i=>(match ρ x with
  | .tup vs=>(match nth vs i with | some v=>.val v | none=>.no)
  | _=>.no)
 | .panic x=>(match ρ x with
  | .iface t v=>(λ v=>bif HT v then .pan (.iface t v) else .no) (ah og 3 v)
  | _=>.no)
 | .typeAssert x _ t ok=>(match dL E.T t,ρ x with
  | some j,.iface u v=>(match j.kind with
   | .iface=>.no
   | _=>bif Ba u t then .val (bif ok then .tup [v,.bool true] else v) else (bif ok then .val (.tup [j.zero,.bool false]) else .no))
  | some j,.nilif=>(match j.kind with
   | .iface=>.no
   | _=>bif ok then .val (.tup [j.zero,.bool false]) else .no)
  | _,_=>.no)
 | .makeMap t none=>(match dL E.T t with
  | some {kind:=.mp k _,..}=>(match dL E.T k with
   | some tk=>.born (.mp tk.agg []) (.mref base)
   | none=>.no)
  | _=>.no)
 | .lookup t m k ok=>PO E og t (ρ m) (ρ k) ok
 | .mapUpdate t m k v=>XR E og t (ρ m) (ρ k) (ρ v)
 | .call c=>(match c.callee with
  | .value f=>(match ρ f with
   | .func (.func g) o cs=>.call (.func g) (aCX (aCX o (evO ρ c.args.toList)) cs)
   | .func (.yield l) o _=>.call (.yield l) (aCX o (evO ρ c.args.toList))
   | _=>.no)
  | .invoke r q=>(match ρ r with
   | .iface t v=>(match aFo E.mt t q with
    | some g=>.call (.func g) (v::evO ρ c.args.toList)
    | none=>.no)
   | _=>.no)
  | .builtin b=>(match b,c.args.toList,c.argTypes.toList with
   | .len,[x],[t]=>aN7 E og t (ρ x)
   | .min,[x,y],_=>(match ρ x,ρ y with | .int k a,.int k' b=>bif aFI k k' then .val (.int k (min a b)) else .no | _,_=>.no)
   | .max,[x,y],_=>(match ρ x,ρ y with | .int k a,.int k' b=>bif aFI k k' then .val (.int k (max a b)) else .no | _,_=>.no)
   | .append,[x,y],[t,t2]=>xL E hint base og t t2 (ρ x) (ρ y)
   | .copy,[x,y],[t,t2]=>aGN E og t t2 (ρ x) (ρ y)
   | .clear,[x],[t]=>XU E og t (ρ x)
   | .delete,[m,k],[t,_]=>PN E og t (ρ m) (ρ k)
   | _,_,_=>.no))
 | _=>.no
def nrm:aa->aa
 | .rowc k g _=>.row k g
 | .pre k g n _ sz=>.sub k g 0 n sz
 | v=>v
def aOa(E:Env)(hint:Nat)(og:Nat->ab)(t k g c:Nat)(h:aa):OR:=
 match dL E.T t,og k,h with
 | some {kind:=.slc _ esz _,..},.row g' sz e xs,.int _ n=>bif (Ba g g'&&Ba sz esz)&&Gd 1 sz then
   .idx n λ y=>(match hint with
    | 0=>.need (y<=xs.length/\0<c) (.val (.pre k g y c sz))
    | _=>.need (xs.length<=y/\y<=c) (.upd k (.row (g+1) sz e (xs++Aj (y-xs.length) (.agg (Aj sz .undef)))) (.row k (g+1))))
  else .no
 | _,_,_=>.no
def aGM(E:Env)(og:Nat->ab)(t k g:Nat)(l h m:aa):OR:=
 match dL E.T t,og k,l,h,m with
 | some {kind:=.slc _ esz _,..},.row g' sz _ xs,.int _ a,.int _ b,.int _ c=>bif Ba g g'&&Ba sz esz then
   .idx a λ x=>.idx b λ y=>.idx c λ z=>.need ((x<=y/\y<=z)/\z<=xs.length) (.val .undef)
  else .no
 | _,_,_,_,_=>.no
def aAY(E:Env)(base:Nat)(og:Nat->ab)(t k g n c sz:Nat)(m:aa):OR:=
 match dL E.T t,og k,m with
 | some {kind:=.slc e esz eb,..},.row g' sz' e' xs,.int .i64 a=>(match dL E.T e with
  | some b=>bif ((Ba g g'&&Ba sz sz')&&(Ba sz esz&&Ba e e'))&&(Gd 1 esz&&HT (ah (λ_=>.dead) 4 b.zero)) then
    .idx a λ y=>.need (c<n+y/\EY (n+y) eb) (.born (.row 0 esz e (xs.take n++Aj y (ah (λ_=>.dead) 4 b.zero))) (.row base 0))
   else .no
  | none=>.no)
 | _,_,_=>.no
def nW(E:Env)(hint base:Nat)(og:Nat->ab)(ρ:Operand->aa)(op:Op):Option OR:=
 match op with
 | .move x=>some (.val (ρ x))
 | .assign x=>(match ρ x with
  | .rowc k g c=>some (.val (.rowc k g c))
  | _=>none)
 | .slice t x none (some h) none=>(match ρ x with
  | .rowc k g c=>some (aOa E hint og t k g c (ρ h))
  | _=>none)
 | .slice t x (some l) (some h) (some m)=>(match ρ x with
  | .row k g=>some (aGM E og t k g (ρ l) (ρ h) (ρ m))
  | _=>none)
 | .call c=>(match c.callee with
  | .builtin .cap=>(match c.args.toList,c.argTypes.toList with
   | [x],[t]=>(match ρ x,dL E.T t with
    | .rowc _ _ n,some {kind:=.slc _ _ _,..}=>some (.val (.int .i64 n))
    | _,_=>none)
   | _,_=>none)
  | .builtin .append=>(match c.args.toList,c.argTypes.toList with
   | [x,y],[t,t2]=>(match ρ x,dL E.T t2 with
    | .pre k g n c sz,some {kind:=.int _,..}=>some (aAY E base og t k g n c sz (ρ y))
    | _,_=>none)
   | _,_=>none)
  | _=>none)
 | _=>none
def eop(E:Env)(hint base:Nat)(og:Nat->ab)(ρ:Operand->aa)(op:Op)(ty:TypeId):OR:=
 match nW E hint base og ρ op with
 | some r=>r
 | none=>oS E hint base og (λ x=>nrm (ρ x)) op ty
def KDL(f:aa->(aa->Prop)->Prop):ay->(ay->Prop)->Prop
 | [],k=>k []
 | c::r,k=>f c λ c=>KDL f r λ r=>k (c::r)
def KD:Nat->aa->(aa->Prop)->Prop
 | 0,v,k=>k v
 | n+1,v,k=>match v with
  | .undef=>k .undef
  | .bool b=>k (.bool b)
  | .int i n=>k (.int i n)
  | .str l=>k (.str l)
  | .slice sz xs t=>(match t with | .no=>k (.slice sz xs .no) | .nil=>k (.slice sz xs .nil) | .full=>k (.slice sz xs .full) | .own a b=>k (.slice sz xs (.own a b)))
  | .agg cs=>KDL (KD n) cs λ cs=>k (.agg cs)
  | .tup cs=>KDL (KD n) cs λ cs=>k (.tup cs)
  | .ptr cs=>k (.ptr cs)
  | .ref a b=>k (.ref a b)
  | .eref a b c d e=>k (.eref a b c d e)
  | .csl a b c d=>k (.csl a b c d)
  | .row a b=>k (.row a b)
  | .sub a b c d e=>k (.sub a b c d e)
  | .rowc a b c=>k (.rowc a b c)
  | .pre a b c d e=>k (.pre a b c d e)
  | .mref a=>k (.mref a)
  | .nilptr=>k .nilptr
  | .nilslice=>k .nilslice
  | .nilmap=>k .nilmap
  | .nilfunc=>k .nilfunc
  | .nilif=>k .nilif
  | .hsl a n c=>k (.hsl a n c)
  | .func fn f cs=>k (.func fn f cs)
  | .iface t v=>KD n v λ v=>k (.iface t v)
def QD{f:aa->(aa->Prop)->Prop}(a:∀ v k,f v k=k v)(l:ay):∀ (k:ay->Prop),KDL f l k=k l:=by
 induction l with
 | nil=>intro k;rfl
 | cons c r b=>intro k;simp only [KDL,a,b]
def qD(n:Nat):∀ (v:aa) (k:aa->Prop),KD n v k=k v:=by
 induction n with
 | zero=>intro v k;rfl
 | succ n a=>
  intro v k;cases v<;>simp only [KD,QD a,a]
  grind
def OD(x:ab)(k:ab->Prop):Prop:=
 match x with
 | .dead=>k .dead
 | .cells T cs=>KDL (KD 3) cs λ cs=>k (.cells T cs)
 | .fcells cs=>KDL (KD 3) cs λ cs=>k (.fcells cs)
 | .row g sz e xs=>k (.row g sz e xs)
 | .frow g sz xs=>k (.frow g sz xs)
 | .tail g sz e=>k (.tail g sz e)
 | .mp a es=>k (.mp a es)
 | .bun g I=>k (.bun g I)
def aHK(x:ab)(k:ab->Prop):OD x k=k x:=by cases x<;>simp only [OD,QD (qD 3)]
def ODL:au->(au->Prop)->Prop
 | [],k=>k []
 | c::r,k=>OD c λ c=>ODL r λ r=>k (c::r)
def wO(l:au):∀ (k:au->Prop),ODL l k=k l:=by
 induction l with
 | nil=>intro k;rfl
 | cons c r a=>intro k;simp only [ODL,aHK,a]
def HC:ar->Nat->aa->(ar->Prop)->Prop
 | [],n,x,k=>k [(n,x)]
 | (i,v)::r,n,x,k=>bif Ba i n then k ((n,x)::r) else HC r n x λ r=>k ((i,v)::r)
def pP(l:ar)(n:Nat)(x:aa):∀ (k:ar->Prop),HC l n x k=k (kC l n x):=by
 induction l with
 | nil=>intro k;rfl
 | cons c r a=>intro k;obtain ⟨i,v⟩:=c;simp only [HC,kC,a];grind
def pos(k:Nat):Nat->az->Option Nat
 | _,[]=>none
 | j,x::r=>bif Ba x k then some j else pos k (j+1) r
def fZ:ab->Nat
 | .row g _ _ _=>g
 | .tail g _ _=>g
 | .bun g _=>g
 | _=>0
def gm(n0 j a g:Nat):Option Nat:=
 bif Ba g a then some (bif Fp j n0 then (bif Ba a 0 then 0 else 1) else 0) else (bif Fp j n0&&Ba g 0 then some 0 else none)
def cvtV(n0:Nat)(ks:az)(og:Nat->ab):Nat->aa->aa
 | 0,_=>.undef
 | n+1,v=>match v with
  | .slice sz xs t=>(match t with
   | .full=>.slice sz xs .full
   | .nil=>(match ks with | []=>.slice sz xs .no | _::_=>.slice sz xs .nil)
   | .own k g=>(match pos k 0 ks with
    | some j=>(match gm n0 j (fZ (og k)) g with | some g=>.slice sz xs (.own j g) | none=>.slice sz xs .no)
    | none=>.slice sz xs .no)
   | _=>.slice sz xs .no)
  | .agg cs=>.agg (eQ (cvtV n0 ks og n) cs)
  | .tup cs=>.tup (eQ (cvtV n0 ks og n) cs)
  | .func fn a cs=>.func fn (eQ (cvtV n0 ks og n) a) (eQ (cvtV n0 ks og n) cs)
  | .iface t v=>.iface t (cvtV n0 ks og n v)
  | .ref k off=>(match pos k 0 ks with
   | some j=>(match gm n0 j (fZ (og k)) 0 with | some _=>.ref j off | none=>.undef)
   | none=>ah og 1 (.ref k off))
  | .csl k off len sz=>(match pos k 0 ks with
   | some j=>(match gm n0 j (fZ (og k)) 0 with | some _=>.csl j off len sz | none=>.undef)
   | none=>ah og 1 (.csl k off len sz))
  | .row k g=>(match pos k 0 ks with
   | some j=>(match gm n0 j (fZ (og k)) g with | some g=>.row j g | none=>.undef)
   | none=>ah og 1 (.row k g))
  | .sub k g lo len sz=>(match pos k 0 ks with
   | some j=>(match gm n0 j (fZ (og k)) g with | some g=>.sub j g lo len sz | none=>.undef)
   | none=>ah og 1 (.sub k g lo len sz))
  | .mref k=>(match pos k 0 ks with | some j=>(match gm n0 j (fZ (og k)) 0 with | some _=>.mref j | none=>.undef) | none=>.undef)
  | .eref _ _ _ _ _=>.undef
  | .rowc _ _ _=>.undef
  | .pre _ _ _ _ _=>.undef
  | v=>v
def KP(n0:Nat)(ks:az)(ac:au)(j:Nat):ab->ab
 | .cells T cs=>.cells T (eQ (cvtV n0 ks (aB ac) 4) cs)
 | .row g sz e xs=>.row (match gm n0 j g g with | some g=>g | none=>0) sz e xs
 | .tail g sz e=>.tail (match gm n0 j g g with | some g=>g | none=>0) sz e
 | .bun g I=>.bun (match gm n0 j g g with | some g=>g | none=>0) I
 | o=>o
def vG(n0:Nat)(ks:az)(ac:au):Nat->az->au
 | _,[]=>[]
 | j,k::r=>KP n0 ks ac j (aB ac k)::vG n0 ks ac (j+1) r
def gQ(n0:Nat)(ks:az)(ac:au):au:=vG n0 ks ac 0 ks
def jQ:az->au->Bool
 | [],_=>true
 | k::r,ac=>(aB ac k).owns&& !xT k r&&jQ r ac
def upto:Nat->Nat->az
 | _,0=>[]
 | j,n+1=>j::upto (j+1) n
def fY:Nat->Nat->az->Bool
 | 0,_,_=>true
 | n+1,j,k::r=>Ba k j&&fY n (j+1) r
 | _+1,_,[]=>false
def fA(ks:az)(base j:Nat):Nat:=match nth ks j with | some k=>k | none=>base+(j-(olenN ks))
where olenN:az->Nat
 | []=>0
 | _::r=>olenN r+1
def lP(ks:az)(ac:au)(j g:Nat):Nat:=match nth ks j with | some k=>fZ (aB ac k)+g | none=>g
def embV(ks:az)(base:Nat)(ac:au):Nat->aa->aa
 | 0,_=>.undef
 | n+1,v=>match v with
  | .slice sz xs t=>(match t with
   | .own j g=>.slice sz xs (.own (fA ks base j) (lP ks ac j g))
   | t=>.slice sz xs t)
  | .agg cs=>.agg (eQ (embV ks base ac n) cs)
  | .tup cs=>.tup (eQ (embV ks base ac n) cs)
  | .func fn a cs=>.func fn (eQ (embV ks base ac n) a) (eQ (embV ks base ac n) cs)
  | .iface t v=>.iface t (embV ks base ac n v)
  | .ref j off=>.ref (fA ks base j) off
  | .csl j off len sz=>.csl (fA ks base j) off len sz
  | .row j g=>.row (fA ks base j) (lP ks ac j g)
  | .sub j g lo len sz=>.sub (fA ks base j) (lP ks ac j g) lo len sz
  | .mref j=>.mref (fA ks base j)
  | .eref _ _ _ _ _=>.undef
  | .rowc _ _ _=>.undef
  | .pre _ _ _ _ _=>.undef
  | v=>v
def tK(ks:az)(base:Nat)(ac:au)(j:Nat):ab->ab
 | .cells T cs=>.cells T (eQ (embV ks base ac 4) cs)
 | .row g sz e xs=>.row (lP ks ac j g) sz e xs
 | .frow g sz xs=>.frow (lP ks ac j g) sz xs
 | .tail g sz e=>.tail (lP ks ac j g) sz e
 | .bun g I=>.bun (lP ks ac j g) I
 | o=>o
def jH(ks:az)(base:Nat)(ac:au):Nat->au->au->au
 | _,[],l=>l
 | j,o::r,l=>jH ks base ac (j+1) r (bX l (fA ks base j) (tK ks base ac j o))
inductive Res where
 | ret (a:aa)
 | pan (a:aa)
def wP(M:Imm)(ob:Hs):Ending->Res->Prop
 | .returned v,.ret a=>Rep M ob v a
 | .panicked ch,.pan a=>∃ v,ch=[{v,recovered:=false}]/\Rep M ob v a
 | _,_=>False
def cM(M:Imm)(ob:Hs)(vs:ba)(as:ay):Prop:=
 vs.length=as.length/\∀ (i:Nat) v a,vs[i]? =some v->as[i]? =some a->Rep M ob v a
def lO(P:Program)(f:FuncId)(a:Array Value)(w:World)(R:Ending->World->Prop):Prop:=
 ((callFunc f a).run P w= .ok (.enter f a) w/\Calls P f a w R)\/∃ u w',(callFunc f a).run P w= .ok (.value u) w'/\R (.returned u) w'
def aC3(P:Program)(l:Nat)(b:Array Value)(w:World)(R:Ending->World->Prop):Prop:=
 ∃ f tmps as a,(Instr.yield l b).run P w= .ok (.round l f tmps as a) w/\RoundIn Fence.wide 0 P l f tmps as a w R
def JJ:Fn->Array Value->Sem Next
 | .func f,va=>callFunc f va
 | .yield l,va=>Instr.yield l va
 | _,va=>callFunc 0 va
@[reducible] def cX(P:Program)(f:Fn)(va:Array Value)(w:World)(R:Ending->World->Prop):Prop:=
 match f with
 | .func f=>lO P f va w R
 | .yield l=>aC3 P l va w R
 | _=>False
def bT(P:Program)(f:Fn)(args:ay)(ac:au)(r:Res)(ao:au):Prop:=
 ∀ M ob w a,Mem M ob ac w->cM M ob a args->
  cX P f a.toArray w λ e w'=>∃ M' ob',Ext M ob ac w M' ob' ao w'/\Mem M' ob' ao w'/\wP M' ob' e r
abbrev aA(P:Program)(f:FuncId)(args:ay)(ac:au)(r:Res)(ao:au):Prop:=bT P (.func f) args ac r ao
inductive CallG(P:Program)(f:Fn)(args:ay)(ac:au)(K:aa->au->Prop)(Kp:aa->au->Prop):Prop
 | pure (r:aa) (new:au) (h:bT P f (eQ (cvtV 0 [] (aB (frzL ac args)) 5) args) [] (.ret r) new) (k:K (embV [] (aR ac) (frzL ac args) 5 r) (jH [] (aR ac) (frzL ac args) 0 new (frzL ac args)))
 | eff (fz ks:az) (r:aa) (ao:au) (hk:jQ ks (aj fz ac)=true) (h:bT P f (eQ (cvtV 0 ks (aB (aj fz ac)) 5) args) (gQ 0 ks (aj fz ac)) (.ret r) ao)
   (k:K (embV ks (aR (aj fz ac)) (aj fz ac) 5 r) (jH ks (aR (aj fz ac)) (aj fz ac) 0 ao (aj fz ac)))
 | effp (fz ks:az) (r:aa) (ao:au) (hk:jQ ks (aj fz ac)=true) (h:bT P f (eQ (cvtV 0 ks (aB (aj fz ac)) 5) args) (gQ 0 ks (aj fz ac)) (.pan r) ao)
   (k:Kp (embV ks (aR (aj fz ac)) (aj fz ac) 5 r) (jH ks (aR (aj fz ac)) (aj fz ac) 0 ao (aj fz ac)))
 | pan (r:aa) (h:bT P f (eQ (cvtV 0 [] (aB (frzL ac args)) 5) args) [] (.pan r) []) (k:Kp r (frzL ac args))
inductive CallD(P:Program)(f:Fn)(args:ay)(so:Bool)(seen:au)(base:Nat)(ac:au)(K:aa->au->Prop)(Kp:aa->au->Prop):Prop
 | pure (r:aa) (new:au) (h:bT P f (eQ (cvtV 0 [] (aB seen) 5) args) [] (.ret r) new) (k:K (embV [] base seen 5 r) (jH [] base seen 0 new ac)):CallD P f args so seen base ac K Kp
 | sole (h:so=true) (h:CallG P f args ac K Kp):CallD P f args so seen base ac K Kp
 | look (ks:az) (r:aa) (ao:au) (hk:jQ ks seen=true) (hl:ao.length=ks.length) (h:bT P f (eQ (cvtV 0 ks (aB seen) 5) args) (gQ 0 ks seen) (.ret r) ao) (hi:∀ b,jH ks b seen 0 ao seen=seen) (hz:∀ b,embV ks b seen 5 r=r) (k:K r ac):CallD P f args so seen base ac K Kp
def orF(P:Program)(ac:au)(K:aa->au->Prop)(Kp:aa->au->Prop):OR->Prop
 | .no=>False
 | .val v=>K v ac
 | .mkf fn d cs=>K (.func fn d cs) ac
 | .need p r=>p/\orF P ac K Kp r
 | .alt p v w=>(p/\K v ac)\/K w ac
 | .idx n f=>∃ i:Nat,n=(i:Int)/\orF P ac K Kp (f i)
 | .elem xs i f=>∃ x,xs[i]? =some x/\orF P ac K Kp (f x)
 | .byte l i=>∃ c,l[i]? =some c/\K (.int .u8 (c.toNat:Int)) ac
 | .text xs=>∃ l:aw,xs=l.map ub/\(l.length:Int)<=9223372036854775807/\K (.str l) ac
 | .find es key f=>∃ o,cG es key=o/\orF P ac K Kp (f o)
 | .born x v=>K v (bX ac (aR ac) x)
 | .upd k x v=>K v (bX ac k x)
 | .nilq xs a=>∀ b:Bool,(b=true->xs=[])->K (.bool (if a then !b else b)) ac
 | .call f args=>CallG P f args ac K Kp
 | .pan v=>Kp v ac
def nd:ab->Bool
 | .dead=>false
 | _=>true
def orD(P:Program)(d e bl:Bool)(a ac:au)(base:Nat)(K:aa->au->Prop)(Kp:aa->au->Prop):OR->Prop
 | .val v=>K v ac
 | .mkf fn h cs=>K (.func fn h cs) ac
 | .need p r=>p/\orD P d e bl a ac base K Kp r
 | .alt p v w=>(p/\K v ac)\/K w ac
 | .idx n f=>∃ i:Nat,n=(i:Int)/\orD P d e bl a ac base K Kp (f i)
 | .elem xs i f=>∃ x,xs[i]? =some x/\orD P d e bl a ac base K Kp (f x)
 | .byte l i=>∃ c,l[i]? =some c/\K (.int .u8 (c.toNat:Int)) ac
 | .text xs=>∃ l:aw,xs=l.map ub/\(l.length:Int)<=9223372036854775807/\K (.str l) ac
 | .find es key f=>∃ o,cG es key=o/\orD P d e bl a ac base K Kp (f o)
 | .born x v=>(match bl with | true=>False | false=>K v (bX ac base x))
 | .upd k x v=>(match (d||(e&&nd (aB a k))) with | true=>K v (bX ac k x) | false=>False)
 | .nilq xs g=>(match d with | true=>∀ b:Bool,(b=true->xs=[])->K (.bool (if g then !b else b)) ac | false=>False)
 | .call f args=>(match bl with | true=>False | false=>CallD P f args d a base ac K Kp)
 | .pan v=>(match d with | true=>Kp v ac | false=>False)
 | .no=>False
def cY(all:bg)(ρ:Operand->aa)(g:Option (Nat×Bool)):Option Bool:=
 match g with
 | none=>some true
 | some (j,want)=>match nth all j with
  | some p=>match p.dst with
   | some d=>match ρ (.tmp d) with
    | .bool b=>some (b==want)
    | .tup []=>some false
    | _=>none
   | none=>none
  | none=>none
def BC(n:Nat):bg->Bool
 | []=>false
 | o::r=>(match o.guard with | some (j,_)=>Ba j n | none=>false)||BC n r
def gK(E:Env):Option Nat->Nat
 | none=>0
 | some d=>bif xT d E.own then (bif xT d E.rws then 3 else 1) else bif xT d E.rws then 2 else 0
def oE(fr:ar):Option Nat->aa->ar
 | none,_=>fr
 | some d,v=>kC fr d v
def wrP(rest:bg)(n:Nat)(d:Option Nat)(fr:ar)(v:aa)(k:ar->Prop):Prop:=
 match d with
 | none=>k fr
 | some d=>bif BC n rest then (match v with
   | .bool b=>(b=true->k (kC fr d (.bool true)))/\(b=false->k (kC fr d (.bool false)))
   | _=>False)
  else k (kC fr d v)
def fX(E:Env)(all:bg)(K:ar->au->Prop)(Kp:(Nat->aa)->aa->au->Prop):Nat->bg->ar->au->Prop
 | _,[],fr,ac=>K fr ac
 | n,p::rest,fr,ac=>match cY all (ev fr) p.guard with
  | none=>False
  | some false=>fX E all K Kp (n+1) rest (oE fr p.dst (.tup [])) ac
  | some true=>orF E.P ac (λ v ac=>wrP rest n p.dst fr v λ fr=>fX E all K Kp (n+1) rest fr ac) (Kp (bG fr))
    (eop E (gK E p.dst) (aR ac) (aB ac) (ev fr) p.op p.type)
def kD(p:Oper):az:=(p.after.toList.filter (Jv .any)).map (·.on)
def dH(m i:Nat):Bool:=Ba (Nat.land (Nat.shiftRight m i) 1) 1
def dM:az->Nat->Nat
 | [],_=>0
 | x::_,0=>x
 | _::r,n+1=>dM r n
def lV(tab:az):az->Nat
 | []=>0
 | i::r=>Nl (Nl (Nat.shiftLeft 1 i) (dM tab i)) (lV tab r)
def lN:az->bg->az
 | tab,[]=>tab
 | tab,p::r=>lN (tab++[lV tab (kD p)]) r
def aPd(n:Nat)(k:Nat->Prop):Prop:=match n with | 0=>k 0 | m+1=>k (m+1)
def aJs(n:Nat)(k:Nat->Prop):aPd n k=k n:=by cases n<;>rfl
def ZO:az->Nat->(az->Prop)->Prop
 | [],m,k=>k [m]
 | x::r,m,k=>ZO r m λ r=>k (x::r)
def aD2(l:az)(m:Nat):∀ (k:az->Prop),ZO l m k=k (l++[m]):=by
 induction l with
 | nil=>intro k;rfl
 | cons x r a=>intro k;simp only [ZO,a,Bu]
def aBj:az->bg->(az->Prop)->Prop
 | tab,[],k=>k tab
 | tab,p::r,k=>aPd (lV tab (kD p)) λ m=>ZO tab m λ tab=>aBj tab r k
def aHu(l:bg):∀ (tab:az) (k:az->Prop),aBj tab l k=k (lN tab l):=by
 induction l with
 | nil=>intro tab k;rfl
 | cons p r a=>intro tab k;simp only [aBj,lN,aJs,aD2,a]
def loose(tab:az)(i j:Nat):Bool:=!Ba i j&& !dH (dM tab j) i&& !dH (dM tab i) j
def TG(tab:az)(j t:Nat):Nat->bg->Bool
 | _,[]=>false
 | i,p::r=>(match p.dst with | some d=>Ba d t&&loose tab i j | none=>false)||TG tab j t (i+1) r
def evH(tab:az)(all:bg)(j:Nat)(fr:ar):Operand->aa
 | .tmp t=>bif TG tab j t 0 all then .undef else bG fr t
 | x=>ev fr x
def uK:az->au->au
 | [],ac=>ac
 | k::r,ac=>uK r (bX ac k .dead)
def KL(tab:az)(j:Nat):List (Nat×Nat)->az
 | []=>[]
 | (i,k)::r=>bif dH (dM tab j) i then KL tab j r else k::KL tab j r
def sole(tab:az)(j:Nat):Nat->bg->Bool
 | _,[]=>true
 | i,_::r=>!loose tab i j&&sole tab j (i+1) r
def blD(E:Env):Option Nat->Bool
 | none=>false
 | some d=>xT d E.bl
def LC(E:Env)(tab:az)(j:Nat):Nat->bg->Bool
 | _,[]=>true
 | i,p::r=>(!loose tab i j||blD E p.dst)&&LC E tab j (i+1) r
def soN(E:Env)(tab:az)(all:bg)(n:Nat)(d:Option Nat):Bool:=sole tab n 0 all&& !blD E d
def uoN(E:Env)(tab:az)(all:bg)(n:Nat)(d:Option Nat):Bool:=LC E tab n 0 all&& !blD E d
def tX(E:Env)(tab:az)(n:Nat)(br:List (Nat×Nat))(ac:au)(d:Option Nat):au:=bif blD E d then [] else uK (KL tab n br) ac
def born(j base:Nat):au->List (Nat×Nat)->List (Nat×Nat)
 | [],br=>br
 | _::r,br=>(j,base)::born j (base+1) r br
def kL:Nat->au->au
 | 0,l=>l
 | _+1,[]=>[]
 | n+1,_::l=>kL n l
def lK(E:Env)(all:bg)(tab:az)(K:ar->au->Prop)(Kp:(Nat->aa)->aa->au->Prop):Nat->bg->List (Nat×Nat)->ar->au->Prop
 | _,[],_,fr,ac=>K fr ac
 | n,p::rest,br,fr,ac=>
  match cY all (evH tab all n fr) p.guard with
  | none=>False
  | some false=>lK E all tab K Kp (n+1) rest br (oE fr p.dst (.tup [])) ac
  | some true=>orD E.P (soN E tab all n p.dst) (uoN E tab all n p.dst) (blD E p.dst) (tX E tab n br ac p.dst) ac (aR ac) (λ v ao=>wrP rest n p.dst fr v λ fr=>lK E all tab K Kp (n+1) rest (born n (aR ac) (kL (aR ac) ao) br) fr ao) (Kp (bG fr))
     (eop E (gK E p.dst) (aR ac) (aB (tX E tab n br ac p.dst)) (evH tab all n fr) p.op p.type)
inductive KI where
 | code (c:Code) | inB (id:Nat) | inL (c:Code) | beginR
abbrev _root_.bh:=List KI
def IS(id:Nat):bh->Option bh
 | []=>none
 | .inB i::r=>bif Ba i id then some r else IS id r
 | _::r=>IS id r
inductive Goal where
 | pure (r:Res)
 | full (n0:Nat) (r:Res) (ao:au)
 | keep (n0:Nat) (r:Res) (ao:au)
def aMX(E:Env)(ac:au)(fr:ar):ResultVar->Option aa
 | .tmp t=>some (bG fr t)
 | .cell t ty=>match dL E.T ty,bG fr t with
  | some ti,.ref k off=>match aB ac k with
   | .cells _ cs=>match oV ti.size (nS off cs) with | some l=>mk ti l | none=>none
   | _=>none
  | _,_=>none
def aEp(E:Env)(ac:au)(fr:ar):List ResultVar->Option ay
 | []=>some []
 | r::rs=>match aMX E ac fr r,aEp E ac fr rs with
  | some v,some vs=>some (v::vs)
  | _,_=>none
def aEq(E:Env)(ac:au)(a:List ResultVar)(fr:ar):Option aa:=
 match aEp E ac fr a with
 | some [v]=>some v
 | some vs=>some (.tup vs)
 | none=>none
def aP9(n:Nat):Tk->Bool
 | .own k _=>Fp k n
 | _=>true
def JM(f:aa->Bool):ay->Bool
 | []=>true
 | c::r=>f c&&JM f r
def bel(n:Nat):Nat->aa->Bool
 | 0,_=>false
 | m+1,a=>match a with
  | .slice _ _ t=>aP9 n t
  | .agg cs=>JM (bel n m) cs
  | .tup cs=>JM (bel n m) cs
  | .ref k _=>Fp k n
  | .eref k _ _ _ _=>Fp k n
  | .csl k _ _ _=>Fp k n
  | .row k _=>Fp k n
  | .sub k _ _ _ _=>Fp k n
  | .rowc k _ _=>Fp k n
  | .pre k _ _ _ _=>Fp k n
  | .mref k=>Fp k n
  | .func _ b cs=>JM (bel n m) b&&JM (bel n m) cs
  | .iface _ v=>bel n m v
  | _=>true
def KR(n:Nat):au->Bool
 | []=>true
 | .cells _ cs::r=>JM (bel n 5) cs&&KR n r
 | _::r=>KR n r
def aHs(n:Nat):ar->Bool
 | []=>true
 | (_,v)::r=>bel n 5 v&&aHs n r
def rO:Nat->au->au
 | 0,_=>[]
 | _+1,[]=>[]
 | n+1,x::r=>x::rO n r
def T5(g:Goal)(a:aa->Res)(v:aa)(ac:au):Prop:=
 match g with
 | .pure r=>a (cvtV 0 [] (aB (frzL ac [v])) 5 v)=r
 | .full n0 r ao=>∃ b ks,(jQ ks (aj b ac)=true/\fY n0 0 ks=true)/\a (cvtV n0 ks (aB (aj b ac)) 5 v)=r/\gQ n0 ks (aj b ac)=ao
 | .keep n0 r ao=>(bel n0 5 v=true/\KR n0 (rO n0 ac)=true)/\a v=r/\rO n0 ac=ao
def Goal.n0:Goal->Nat
 | .pure _=>0
 | .full n _ _=>n
 | .keep n _ _=>n
def eK(fn:Func):Code:=fn.body.getD .skip
def GU:Nat->Code->bh->bh ⊕ Nat
 | n,.seq a b,ks=>match GU n a (.code b::ks) with | .inl r=>.inl r | .inr n=>GU n b ks
 | n,.cond _ a b,ks=>match GU n a ks with | .inl r=>.inl r | .inr n=>GU n b ks
 | n,.block id b,ks=>GU n b (.inB id::ks)
 | 0,.loop b,ks=>.inl (.code b:: .inL b::ks)
 | n+1,.loop b,ks=>GU n b (.inL b::ks)
 | n,_,_=>.inr n
def stk(fn:Func)(n:Nat):bh:=match GU n (eK fn) [] with | .inl r=>r | .inr _=>[]
def frA:Nat->ay->ar
 | _,[]=>[]
 | n,a::r=>(n,a)::frA (n+1) r
def lC:az->ar->ar
 | [],_=>[]
 | t::r,fr=>(t,bG fr t)::lC r fr
structure RI where
 all:bg
 dr:Bool
 tab:az
 ks:bh
inductive St where
 | code (ks:bh) (fr:ar) (ac:au)
 | head (ks:bh) (fr:ar) (ac:au)
 | mid (R:RI) (n:Nat) (rest:bg) (br:List (Nat×Nat)) (fr:ar) (ac:au)
 | pend (R:RI) (n:Nat) (d:Option Nat) (rest:bg) (br:List (Nat×Nat)) (fr:ar) (ac:au) (r:OR)
 | got (R:RI) (n:Nat) (d:Option Nat) (rest:bg) (br:List (Nat×Nat)) (fr:ar) (len:Nat) (ac:au) (v:aa)
 | leave (p:Option aa) (fr:ar) (ac:au)
def aGE(g:Goal)(a:aa->Res)(v:aa)(ac:au):Prop:=
 match g with
 | .pure r=>KD 5 (cvtV 0 [] (aB (frzL ac [v])) 5 v) λ y=>a y=r
 | .full n0 r ao=>∃ b ks,(jQ ks (aj b ac)=true/\fY n0 0 ks=true)/\KD 5 (cvtV n0 ks (aB (aj b ac)) 5 v) λ y=>ODL (gQ n0 ks (aj b ac)) λ os=>a y=r/\os=ao
 | .keep n0 r ao=>(bel n0 5 v=true/\KR n0 (rO n0 ac)=true)/\ODL (rO n0 ac) λ os=>a v=r/\os=ao
def PK(g:Goal)(a:aa->Res)(v:aa)(ac:au):aGE g a v ac=T5 g a v ac:=by cases g<;>simp only [aGE,T5,qD,wO]
def aNc(E:Env)(g:Goal)(J:St->Prop)(fr:ar)(v:aa)(ac:au):Prop:=match E.rd with
 | some _=>False
 | none=>match E.df with
  | []=>T5 g .pan v ac
  | _::_=>J (.leave (some v) fr ac)
def aIW(E:Env)(fn:Func)(g:Goal)(J:St->Prop)(b:Bool)(fr:ar)(ac:au):Prop:=match E.rd with
 | some _=>aGE g .ret (.bool b) ac
 | none=>match E.df with
  | []=>(match aEq E ac fn.results.toList fr with | some v=>KD 5 v λ v=>aGE g .ret v ac | none=>False)
  | _::_=>J (.leave none fr ac)
def aPl:bg->Bool
 | [p]=>(match p.op with | .defer _=>true | _=>false)
 | _=>false
def cH(E:Env)(fn:Func)(g:Goal)(J:St->Prop):Nat->St->Prop
 | 0,s=>J s
 | n+1,.head ks fr ac=>cH E fn g J n (.code ks fr ac)
 | _+1,.leave p fr ac=>J (.leave p fr ac)
 | _+1,.code [] fr ac=>aIW E fn g J true fr ac
 | n+1,.code (k::ks) fr ac=>(match k with
  | .inB _=>cH E fn g J n (.code ks fr ac)
  | .inL b=>J (.head (.code b:: .inL b::ks) fr ac)
  | .beginR=>J (.code (.beginR::ks) fr ac)
  | .code q=>match q with
   | .skip=>cH E fn g J n (.code ks fr ac)
   | .seq a b=>cH E fn g J n (.code (.code a:: .code b::ks) fr ac)
   | .block id b=>cH E fn g J n (.code (.code b:: .inB id::ks) fr ac)
   | .loop b=>J (.head (.code b:: .inL b::ks) fr ac)
   | .exit id=>(match IS id ks with
    | some ks=>cH E fn g J n (.code ks fr ac)
    | none=>False)
   | .ret=>aIW E fn g J false fr ac
   | .rangeFunc x u as t=>J (.code (.code (.rangeFunc x u as t)::ks) fr ac)
   | .cond x a b=>(match ev fr x with
    | .bool p=>(p=true->J (.code (.code a::ks) fr ac))/\(p=false->J (.code (.code b::ks) fr ac))
    | _=>False)
   | .region id ops dr=>(match aPl ops.toList with
    | true=>J (.code (.code (.region id ops dr)::ks) fr ac)
    | false=>(match dr with
     | false=>cH E fn g J n (.mid ⟨ops.toList,false,[],ks⟩ 0 ops.toList [] fr ac)
     | true=>aBj [] ops.toList λ tab=>cH E fn g J n (.mid ⟨ops.toList,true,tab,ks⟩ 0 ops.toList [] fr ac)))
   | _=>False)
 | n+1,.mid R _ [] _ fr ac=>cH E fn g J n (.code R.ks fr ac)
 | n+1,.mid R i (p::rest) br fr ac=>(match R.dr with
  | false=>(match cY R.all (ev fr) p.guard with
   | none=>False
   | some false=>(match p.dst with | none=>cH E fn g J n (.mid R (i+1) rest br fr ac) | some d=>HC fr d (.tup []) λ fr=>cH E fn g J n (.mid R (i+1) rest br fr ac))
   | some true=>cH E fn g J n (.pend R i p.dst rest br fr ac (eop E (gK E p.dst) (aR ac) (aB ac) (ev fr) p.op p.type)))
  | true=>(match cY R.all (evH R.tab R.all i fr) p.guard with
   | none=>False
   | some false=>(match p.dst with | none=>cH E fn g J n (.mid R (i+1) rest br fr ac) | some d=>HC fr d (.tup []) λ fr=>cH E fn g J n (.mid R (i+1) rest br fr ac))
   | some true=>ODL (tX E R.tab i br ac p.dst) λ e=>cH E fn g J n (.pend R i p.dst rest br fr ac (eop E (gK E p.dst) (aR ac) (aB e) (evH R.tab R.all i fr) p.op p.type))))
 | n+1,.pend R i d rest br fr ac r=>(match r with
  | .no=>False
  | .val v=>KD 4 v λ v=>cH E fn g J n (.got R i d rest br fr (aR ac) ac v)
  | .mkf f h cs=>KDL (KD 3) h λ h=>KDL (KD 3) cs λ cs=>cH E fn g J n (.got R i d rest br fr (aR ac) ac (.func f h cs))
  | .need p r=>p/\J (.pend R i d rest br fr ac r)
  | .alt p v w=>(p/\J (.got R i d rest br fr (aR ac) ac v))\/J (.got R i d rest br fr (aR ac) ac w)
  | .idx m f=>∃ x:Nat,m=(x:Int)/\J (.pend R i d rest br fr ac (f x))
  | .elem xs m f=>∃ x,xs[m]? =some x/\J (.pend R i d rest br fr ac (f x))
  | .byte l m=>∃ c,l[m]? =some c/\J (.got R i d rest br fr (aR ac) ac (.int .u8 (c.toNat:Int)))
  | .text xs=>∃ l:aw,xs=l.map ub/\(l.length:Int)<=9223372036854775807/\J (.got R i d rest br fr (aR ac) ac (.str l))
  | .find es key f=>∃ o,cG es key=o/\J (.pend R i d rest br fr ac (f o))
  | .born x v=>(match (R.dr&&blD E d) with
   | true=>False
   | false=>OD x λ x=>ODL (bX ac (aR ac) x) λ ao=>KD 4 v λ v=>cH E fn g J n (.got R i d rest br fr (aR ac) ao v))
  | .upd k x v=>(match (!R.dr||(soN E R.tab R.all i d||(uoN E R.tab R.all i d&&nd (aB (tX E R.tab i br ac d) k)))) with
   | true=>OD x λ x=>ODL (bX ac k x) λ ao=>KD 4 v λ v=>cH E fn g J n (.got R i d rest br fr (aR ac) ao v)
   | false=>False)
  | .nilq xs j=>(match (!R.dr||soN E R.tab R.all i d) with
   | true=>∀ b:Bool,(b=true->xs=[])->J (.got R i d rest br fr (aR ac) ac (.bool (if j then !b else b)))
   | false=>False)
  | .call f args=>KDL (KD 5) args λ args=>(match R.dr with
   | false=>CallG E.P f args ac (λ v ao=>J (.got R i d rest br fr (aR ac) ao v)) (aNc E g J fr)
   | true=>match blD E d with
    | true=>False
    | false=>ODL (tX E R.tab i br ac d) λ e=>CallD E.P f args (soN E R.tab R.all i d) e (aR ac) ac (λ v ao=>J (.got R i d rest br fr (aR ac) ao v)) (aNc E g J fr))
  | .pan v=>(match (!R.dr||soN E R.tab R.all i d) with
   | true=>KD 5 v λ v=>(match E.rd with | some _=>False | none=>match E.df with | []=>aGE g .pan v ac | _::_=>J (.leave (some v) fr ac))
   | false=>False))
 | n+1,.got R i d rest br fr len ac v=>KD 4 v λ v=>ODL ac λ ac=>(match d with
  | none=>cH E fn g J n (.mid R (i+1) rest (bif R.dr then born i len (kL len ac) br else br) fr ac)
  | some d=>bif BC i rest then (match v with
    | .bool b=>(b=true->HC fr d (.bool true) λ fr=>J (.mid R (i+1) rest (bif R.dr then born i len (kL len ac) br else br) fr ac))/\
      (b=false->HC fr d (.bool false) λ fr=>J (.mid R (i+1) rest (bif R.dr then born i len (kL len ac) br else br) fr ac))
    | _=>False)
   else HC fr d v λ fr=>cH E fn g J n (.mid R (i+1) rest (bif R.dr then born i len (kL len ac) br else br) fr ac))
def JK{i n:Nat}(h:¬ i=n):Ba i n=false:=by
 cases a:Ba i n with
 | false=>rfl
 | true=>simp_all
def aE{i n:Nat}(h:Ba i n=true):i=n:=Nat.eq_of_beq_eq_true h
def bD{a b:Bool}(h:(a&&b)=true):a=true/\b=true:=by grind
def bW(l:au):aR l=l.length:=by
 induction l with
 | nil=>rfl
 | cons x r a=>simp [aR,a]
def rS{l:au}:∀ {n:Nat},n<l.length->l[n]? =some (aB l n):=by
 induction l with
 | nil=>simp
 | cons x r a=>intro n h;cases n with
  | zero=>rfl
  | succ n=>simpa [aB] using a (n:=n) (by grind)
def bP{l:au}:∀ {n:Nat} {x:ab},aB l n=x->x≠ .dead->l[n]? =some x:=by
 induction l with
 | nil=>intro n x h a;exact absurd h.symm (by simpa [aB] using a)
 | cons y r b=>intro n x h a;cases n with
  | zero=>simpa [aB] using h
  | succ n=>simpa using b (n:=n) h a
def jF{l:au}:∀ {n:Nat} {x:ab},l[n]? =some x->aB l n=x:=by
 induction l with
 | nil=>simp
 | cons y r a=>intro n x h;cases n with
  | zero=>simpa [aB] using h
  | succ n=>exact a (n:=n) (by simp_all)
def iR{l:au}:∀ {n:Nat} (x:ab),n<l.length->bX l n x=l.set n x:=by
 induction l with
 | nil=>simp
 | cons y r a=>intro n x h;cases n with
  | zero=>rfl
  | succ n=>simp only [bX,List.set_cons_succ];grind
def SA(l:au)(x:ab):bX l l.length x=l++[x]:=by
 induction l with
 | nil=>rfl
 | cons y r a=>simp [bX,a]
def oX(n:Nat):∀ (l:ay),nS n l=l.drop n:=by
 induction n with
 | zero=>intro l;rfl
 | succ n a=>intro l;cases l with
  | nil=>rfl
  | cons c r=>simpa [nS] using a r
def mJ{n:Nat}:∀ {l r:ay},oV n l=some r->r.length=n/\∀ (i:Nat) c,r[i]? =some c->l[i]? =some c:=by
 induction n with
 | zero=>intro l r h;cases h;simp
 | succ n e=>
  intro l r h;cases l with
  | nil=>cases h
  | cons c l=>
   simp only [oV] at h;split at h
   .rename_i f a;cases h;obtain ⟨h1,b⟩:=e a;refine ⟨by simp [h1],λ i d hd=>?_⟩;cases i with
    | zero=>simpa using hd
    | succ i=>simpa using b i d (by simpa using hd)
   .cases h
def aCJ:∀ {new l r:ay},YB new l=some r->new.length<=l.length/\r.length=l.length/\∀ (i:Nat),r[i]? =if i<new.length then new[i]? else l[i]?:=by
 intro new;induction new with
 | nil=>intro l r h;cases h;simp
 | cons c new b=>
  intro l r h;cases l with
  | nil=>cases h
  | cons d l=>
   simp only [YB] at h;split at h
   .rename_i x e;cases h;obtain ⟨h1,a,h3⟩:=b e;refine ⟨by simp;omega,by simp [a],λ i=>?_⟩;cases i with
    | zero=>simp
    | succ i=>simpa using h3 i
   .cases h
def nI{off:Nat}:∀ {new l r:ay},qO off new l=some r->off+new.length<=l.length/\r.length=l.length/\∀ (i:Nat),r[i]? =if off<=i/\i<off+new.length then new[i-off]? else l[i]?:=by
 induction off with
 | zero=>
  intro new l r h;obtain ⟨h1,a,h3⟩:=aCJ (show YB new l=some r by cases l<;>exact h)
  grind
 | succ n d=>
  intro new l r h;cases l with
  | nil=>cases h
  | cons c l=>
   simp only [qO] at h;split at h
   .rename_i x e;cases h;obtain ⟨h1,a,h3⟩:=d e;refine ⟨by simp;omega,by simp [a],λ i=>?_⟩;cases i with
    | zero=>simp
    | succ i=>
     simp only [Gc,h3 i];by_cases b:n<=i/\i<n+new.length
     .rw [if_pos b,if_pos ⟨by omega,by omega⟩];simp
     .rw [if_neg b,if_neg o_]
   .cases h
def B5(l:ay):UK l=l.length:=by
 induction l with
 | nil=>rfl
 | cons c r a=>simp [UK,a]
def qK{α:Type}(l:List α):∀ (n:Nat),nth l n=l[n]?:=by
 induction l with
 | nil=>intro n;rfl
 | cons x r a=>intro n;cases n with
  | zero=>rfl
  | succ n=>simpa [nth] using a n
def oH{α:Type}{l:List α}{n:Nat}{x:α}(h:nth l n=some x):l[n]? =some x:=by rw [<-qK];exact h
def P7(a b:ay):aCX a b=a++b:=by
 induction a with
 | nil=>rfl
 | cons c r d=>simp [aCX,d]
def A5(f:aa->aa)(l:ay):eQ f l=l.map f:=by
 induction l with
 | nil=>rfl
 | cons c r a=>simp [eQ,a]
def oK{n:Nat}:∀ {l:az},xT n l=true↔n∈l
 | []=>by simp [xT]
 | x::r=>by
  simp only [xT,Fl,oK (l:=r),Aw];constructor
  .rintro (h | h)
   .simp_all
   grind
  .rintro (h | h)
   .simp_all
   grind
def xH(fr:ar)(n m:Nat)(x:aa):bG (kC fr n x) m=if m=n then x else bG fr m:=by
 induction fr with
 | nil=>
  simp only [kC,bG];by_cases h:m=n
  .simp_all
  .rw [JK (λ e=>h e.symm),if_neg h];rfl
 | cons p r b=>
  obtain ⟨i,v⟩:=p;simp only [kC];cases a:Ba i n with
  | true=>
   have:=aE a;subst this;simp only [cond_true,bG];by_cases h:m=i
   .grind
   .rw [JK (λ e=>h e.symm),if_neg h];rfl
  | false=>
   simp only [cond_false,bG,b]
   grind
def bK(b o j:Nat):(⟨b,o,none⟩:Addr).add j=⟨b,o+j,none⟩:=by unfold Addr.add;simp
def fW{α:Type}{b:Bool}{x:Option α}{r:α}(h:(bif b then x else none)=some r):b=true/\x=some r:=by grind
section
variable {M:Imm} {ob:Hs} {ac:au} {w:World}
def Rep.int_inv{v:Value}{k:IntKind}{n:Int}(h:Rep M ob v (.int k n)):v= .int k n/\inR k n:=by cases h with | int _ _ h=>grind
def Rep.bool_inv{v:Value}{b:Bool}(h:Rep M ob v (.bool b)):v= .bool b:=by cases h;rfl
def Rep.str_inv{v:Value}{l:aw}(h:Rep M ob v (.str l)):v= .string ⟨l.toArray⟩/\(l.length:Int)<=9223372036854775807:=by cases h with | str _ h=>grind
def Rep.agg_inv{v:Value}{as:ay}(h:Rep M ob v (.agg as)):∃ vs:ba,v= .agg vs.toArray/\vs.length=as.length/\∀ (i:Nat) u a,vs[i]? =some u->as[i]? =some a->Rep M ob u a:=by cases h with | agg vs as hl h=>grind
def Rep.tup_inv{v:Value}{as:ay}(h:Rep M ob v (.tup as)):∃ vs:ba,v= .tuple vs.toArray/\vs.length=as.length/\∀ (i:Nat) u a,vs[i]? =some u->as[i]? =some a->Rep M ob u a:=by cases h with | tup vs as hl h=>grind
def Rep.ptr_inv{v:Value}{cs:ay}(h:Rep M ob v (.ptr cs)):∃ b o,v= .pointer (some ⟨b,o,none⟩)/\∀ (j:Nat) c,cs[j]? =some c->M b (o+j) c:=by cases h with | ptr b o cs h=>grind
def Rep.ref_inv{v:Value}{k off:Nat}(h:Rep M ob v (.ref k off)):∃ b,v= .pointer (some ⟨b,off,none⟩)/\at' ob k 0=some (.pointer (some ⟨b,0,none⟩)):=by cases h with | ref k off b h=>grind
def Rep.iface_inv{v:Value}{t:TypeId}{a:aa}(h:Rep M ob v (.iface t a)):∃ u,v= .iface t u/\Rep M ob u a:=by cases h with | iface _ v _ h=>grind
def Rep.row_inv{v:Value}{k g:Nat}(h:Rep M ob v (.row k g)):∃ a n c,v= .slice a n c/\at' ob k g=some (.slice a n c):=by cases h with | row _ _ a n c h=>grind
def Rep.untok{v:Value}{sz:Nat}{xs:ay}{t:Tk}(h:Rep M ob v (.slice sz xs t)):Rep M ob v (.slice sz xs .no)/\xY ob v t:=by
 cases h with
 | slnil sz t c=>exact ⟨.slnil sz .no trivial,c⟩
 | slemp sz t a cap c=>exact ⟨.slemp sz .no a cap trivial,c⟩
 | sl sz b o n cap xs t e d hm hz h c=>exact ⟨.sl sz b o n cap xs .no e d hm hz h trivial,c⟩
def Rep.tok{v:Value}{sz:Nat}{xs:ay}{t:Tk}(h:Rep M ob v (.slice sz xs .no))(c:xY ob v t):Rep M ob v (.slice sz xs t):=by
 cases h with
 | slnil sz _=>exact .slnil sz t c
 | slemp sz _ a cap _=>exact .slemp sz t a cap c
 | sl sz b o n cap xs _ e d hm hz h _=>exact .sl sz b o n cap xs t e d hm hz h c
def Rep.slice_pure{v:Value}{sz:Nat}{xs:ay}(h:Rep M ob v (.slice sz xs .no)):Rep M [] v (.slice sz xs .no):=by
 cases h with
 | slnil sz _=>exact .slnil sz .no trivial
 | slemp sz _ a cap _=>exact .slemp sz .no a cap trivial
 | sl sz b o n cap xs _ d c hm hz h _=>exact .sl sz b o n cap xs .no d c hm hz h trivial
def Rep.slice_inv{v:Value}{sz:Nat}{xs:ay}{t:Tk}(h:Rep M ob v (.slice sz xs t)):∃ a c,v= .slice a xs.length c/\(a=none->xs=[]/\c=0)/\(xs≠[]->xs.length<=c)/\(xs.length:Int)<=9223372036854775807:=by
 cases h with
 | slnil sz t d=>grind
 | slemp sz t a cap d=>grind
 | sl sz b o n cap xs t f e hm hz h d=>subst f;exact ⟨_,cap,rfl,λ h=>(by cases h),λ_=>e,hm⟩
def Rep.sl_inv{v:Value}{sz:Nat}{xs:ay}{t:Tk}(h:Rep M ob v (.slice sz xs t)):(v= .slice none 0 0/\xs=[])\/(∃ a cap,v= .slice (some a) 0 cap/\xs=[])\/
  ∃ b o cap,v= .slice (some ⟨b,o,none⟩) xs.length cap/\xs.length<=cap/\(xs.length:Int)<=9223372036854775807/\(∀ x∈xs,x.cells.length=sz)/\∀ (i j:Nat) x c,xs[i]? =some x->x.cells[j]? =some c->M b (o+i*sz+j) c:=by
 cases h with
 | slnil sz t d=>simp
 | slemp sz t a cap d=>exact .inr (.inl ⟨a,cap,rfl,rfl⟩)
 | sl sz b o n cap xs t f e hm hz h d=>subst f;exact .inr (.inr ⟨b,o,cap,rfl,e,hm,hz,h⟩)
def Rep.cells{v:Value}{a:aa}(h:Rep M ob v a)(m:a≠ .undef):v.cells.toList.length=a.cells.length/\∀ (i:Nat) u c,v.cells.toList[i]? =some u->a.cells[i]? =some c->Rep M ob u c:=by
 have d:∀ {v:Value} {a:aa},Rep M ob v a->v.cells= #[v]->a.cells=[a]->v.cells.toList.length=a.cells.length/\∀ (i:Nat) u c,v.cells.toList[i]? =some u->a.cells[i]? =some c->Rep M ob u c:=by
  intro v a h p z;rw [p,z];refine ⟨rfl,λ i u c m e=>?_⟩;cases i with
  | zero=>grind
  | succ i=>simp at m
 cases h with
 | undef v=>exact absurd rfl m
 | agg vs as hl h=>exact ⟨by simpa [Value.cells,aa.cells] using hl,λ i u c m e=>h i u c (by simpa [Value.cells] using m) (by simpa [aa.cells] using e)⟩
 | row k g a n c h=>exact d (.row k g a n c h) rfl rfl
 | bool b=>exact d (.bool b) rfl rfl
 | int k n w=>exact d (.int k n w) rfl rfl
 | str l hl=>exact d (.str l hl) rfl rfl
 | tup vs as hl h=>exact d (.tup vs as hl h) rfl rfl
 | ptr b o cs h=>exact d (.ptr b o cs h) rfl rfl
 | ref k off b h=>exact d (.ref k off b h) rfl rfl
 | eref k g i sz off b n c h=>exact d (.eref k g i sz off b n c h) rfl rfl
 | csl k off len sz b h hm=>exact d (.csl k off len sz b h hm) rfl rfl
 | sub k g lo len sz b n c h hl j e hm=>exact d (.sub k g lo len sz b n c h hl j e hm) rfl rfl
 | sub0 k g lo sz a s n c h hl e=>exact d (.sub0 k g lo sz a s n c h hl e) rfl rfl
 | rowc k g c a n h hm=>exact d (.rowc k g c a n h hm) rfl rfl
 | pre k g n c sz b len h e j hl hm=>exact d (.pre k g n c sz b len h e j hl hm) rfl rfl
 | mref k b h=>exact d (.mref k b h) rfl rfl
 | nilptr=>exact d .nilptr rfl rfl
 | nilslice=>exact d .nilslice rfl rfl
 | nilmap=>exact d .nilmap rfl rfl
 | nilfunc=>exact d .nilfunc rfl rfl
 | nilif=>exact d .nilif rfl rfl
 | hsl a n c=>exact d (.hsl a n c) rfl rfl
 | slnil sz t f=>exact d (.slnil sz t f) rfl rfl
 | slemp sz t a cap f=>exact d (.slemp sz t a cap f) rfl rfl
 | sl sz b o n cap xs t j e hm hz h f=>exact d (.sl sz b o n cap xs t j e hm hz h f) rfl rfl
 | func fn r cs q A y e h1 x=>exact d (.func fn r cs q A y e h1 x) rfl rfl
 | iface t v a h=>exact d (.iface t v a h) rfl rfl
def Rep.one{v:Value}{a:aa}(h:Rep M ob v a)(h1:one a=true):v.oneCell'=true:=by cases h<;>first | rfl | (simp [AW.one] at h1)
def oG{l:ay}(h:sW l=true):∀ (i:Nat) c,l[i]? =some c->one c=true:=by
 induction l with
 | nil=>simp
 | cons d r b=>
  simp only [sW,Af] at h;intro i c a;cases i with
  | zero=>grind
  | succ i=>exact b h.2 i c (by simpa using a)
def rQ{c:aa}(h:AW.one c=true):c.cells=[c]:=by cases c<;>first | rfl | cases h
def Rep.cells_one{v:Value}{a:aa}(h:Rep M ob v a)(h1:sW a.cells=true):v.cells.toList.length=a.cells.length/\(∀ u∈v.cells.toList,u.oneCell'=true)/\∀ (i:Nat) u c,v.cells.toList[i]? =some u->a.cells[i]? =some c->Rep M ob u c:=by
 have g:a≠ .undef:=λ e=>by subst e;simp [aa.cells,sW,AW.one] at h1
 obtain ⟨f,h3⟩:=h.cells g;refine ⟨f,λ u hm=>?_,h3⟩;obtain ⟨i,d⟩:=Da hm;have b:i<a.cells.length:=by grind
 exact (h3 i u _ d (Ac b)).one (oG h1 i _ (Ac b))
end
def dG{ob:Hs}{ac:au}{k:Nat}{x:ab}{hs:ba}(h1:ac[k]? =some x)(a:ob[k]? =some hs){b:Nat}:aM ob ac k b↔x.owns=true/\b∈blk hs:=by
 constructor
 .rintro ⟨c,hs',e,h,f,g⟩
  grind
 .rintro ⟨h3,d⟩;exact ⟨x,hs,h1,h3,a,d⟩
def Mem.turn{M M':Imm}{ob:Hs}{ac:au}{w w':World}(h:Mem M ob ac w){k:Nat}{x x':ab}{hs hs':ba}(L:ac[k]? =some x)(K:ob[k]? =some hs)(hp:hs<+:hs')(hd:x= .dead->hs=[])
  (Z:∀ b o y,M b o y->M' b o y) (z:∀ b o y,M' b o y->M b o y\/(x.owns=true/\b∈blk hs)\/w.heap.size<=b)
  (G:∀ b o y,M' b o y->∃ v,w'.cell? ⟨b,o,none⟩=some v/\v.oneCell'=true/\Rep M' [] v y)
  (heap:∀ b,b<w.heap.size->¬ (x.owns=true/\b∈blk hs)->w'.heap[b]? =w.heap[b]?)
  (T:w'.os=w.os) (B:w'.tape=w.tape) (H:w'.output=w.output) (s:w.heap.size<=w'.heap.size)
  (I:dY ob (ob.set k hs')->jT M' (ob.set k hs') w' hs' x') (hb:x'.owns=true->∀ b,b∈blk hs'->((x.owns=true/\b∈blk hs)\/w.heap.size<=b)/\b<w'.heap.size) (V:x'≠ .dead:=by intro h;cases h):
  Mem M' (ob.set k hs') (ac.set k x') w'/\Ext M ob ac w M' (ob.set k hs') (ac.set k x') w'/\dB ob ac (ob.set k hs') (ac.set k x'):=by
 have N:k<ac.length:=(Ad.1 L).1;have D:k<ob.length:=(Ad.1 K).1;have t:dY ob (ob.set k hs'):=λ i l hl=>by
  by_cases f:i=k
  .subst f;rw [K] at hl;cases hl;exact ⟨hs',Ay D,hp⟩
  .exact ⟨l,by rw [Bf (λ e=>f e.symm)];exact hl,Cw _⟩
 have m:∀ {i:Nat},i≠k->(ac.set k x')[i]? =ac[i]?/\(ob.set k hs')[i]? =ob[i]?:=λ{i} f=>
  ⟨Bf (λ e=>f e.symm),Bf (λ e=>f e.symm)⟩
 have n:(ac.set k x')[k]? =some x':=Ay N;have p:(ob.set k hs')[k]? =some hs':=Ay D;have d:∀ {i b:Nat},aM (ob.set k hs') (ac.set k x') i b->(i≠k/\aM ob ac i b)\/(i=k/\((x.owns=true/\b∈blk hs)\/w.heap.size<=b)/\b<w'.heap.size):=λ{i b} a=>by
  by_cases f:i=k
  .subst f;have:=(dG n p).1 a;exact .inr ⟨rfl,hb this.1 b this.2⟩
  .obtain ⟨c,l,J,S,Y,e4⟩:=a;rw [(m f).1] at J;rw [(m f).2] at Y;exact .inl ⟨f,c,l,J,S,Y,e4⟩
 have r:∀ {b:Nat},x.owns=true/\b∈blk hs->aM ob ac k b:=λ a=>(dG L K).2 a;refine ⟨⟨G,by simp [h.len],λ i c C=>?_,λ i b a=>?_,λ i j b a A=>?_⟩,⟨Z,λ b o y O=>?_,t,T,B,H,s,λ b A hn=>heap b A λ a=>hn k (r a),λ i b a=>?_⟩,λ i l h1 u=>⟨λ h3=>?_,λ h3 X=>?_⟩⟩
 .by_cases f:i=k
  .subst f;rw [n] at C;cases C;exact ⟨hs',p,I t⟩
  .rw [(m f).1] at C;obtain ⟨l,hl,ho⟩:=h.obj i c C;have F:∀ b,c.owns=true->b∈blk l->¬ (x.owns=true/\b∈blk hs)/\b<w.heap.size:=λ b h1 u=>by have a:aM ob ac i b:=(dG C hl).2 ⟨h1,u⟩;exact ⟨λ hk=>f (h.inj i k b a (r hk)),h.lt i b a⟩
   refine ⟨l,by rw [(m f).2];exact hl,ho.mono Z t (λ b h1 u o R y O=>?_) (λ b c' h1 u U=>?_)⟩
   .obtain ⟨P,W⟩:=F b h1 u;rcases z b o y O with q | q | q
    .exact R y q
    .exact P q
    .omega
   .obtain ⟨P,W⟩:=F b h1 u;rw [heap b W P];exact U
 .rcases d a with ⟨_,a⟩ | ⟨_,_,Q⟩
  .exact Fh (h.lt i b a) s
  .exact Q
 .rcases d a with ⟨_,a⟩ | ⟨J,a,_⟩<;>rcases d A with ⟨_,g⟩ | ⟨S,g,_⟩
  .exact h.inj i j b a g
  .rcases g with g | g
   .rw [S];exact h.inj i k b a (r g)
   .have:=h.lt i b a;omega
  .rcases a with a | a
   .rw [J];exact h.inj k j b (r a) g
   .have:=h.lt j b g;omega
  omega
 .rcases z b o y O with q | q | q
  .exact .inl q
  .exact .inr (.inr ⟨k,r q⟩)
  omega
 .rcases d a with ⟨_,a⟩ | ⟨_,a | a,_⟩
  .exact .inl ⟨i,a⟩
  .exact .inl ⟨k,r a⟩
  omega
 .have f:i≠k:=λ e=>by subst e;rw [L] at h1;rw [K] at u;cases h1;simp_all
  rw [(m f).1,(m f).2];exact ⟨h1,u⟩
 .by_cases f:i=k
  .subst f;rw [n] at X;cases X;rw [p];have:=I t;exact absurd rfl V
  .rw [(m f).2];exact h3▸u
def Mem.more{M M':Imm}{ob:Hs}{ac:au}{w w':World}(h:Mem M ob ac w)(t:∀ b o y,M b o y->M' b o y)(d:∀ b o y,M' b o y->M b o y\/w.heap.size<=b)
  (f:∀ b o y,M' b o y->∃ v,w'.cell? ⟨b,o,none⟩=some v/\v.oneCell'=true/\Rep M' [] v y) (heap:∀ b,b<w.heap.size->w'.heap[b]? =w.heap[b]?)
  (r:w'.os=w.os) (e:w'.tape=w.tape) (g:w'.output=w.output) (a:w.heap.size<=w'.heap.size):Mem M' ob ac w'/\Ext M ob ac w M' ob ac w':=by
 refine ⟨⟨f,h.len,λ i c j=>?_,λ i b p=>Fh (h.lt i b p) a,h.inj⟩,⟨t,λ b o y k=>?_,dY.refl _,r,e,g,a,λ b x _=>heap b x,λ i b p=>.inl ⟨i,p⟩⟩⟩
 .obtain ⟨l,hl,u⟩:=h.obj i c j;refine ⟨l,hl,u.mono t (dY.refl _) (λ b h1 m o n y k=>?_) (λ b z h1 m s=>?_)⟩
  .have:=h.lt i b ((dG j hl).2 ⟨h1,m⟩);rcases d b o y k with q | q
   .exact n y q
   .omega
  .rw [heap b (h.lt i b ((dG j hl).2 ⟨h1,m⟩))];exact s
 .rcases d b o y k with q | q
  .exact .inl q
  omega
def Mem.extend{M:Imm}{ob:Hs}{ac:au}{w:World}(h:Mem M ob ac w)(n:Nat):
  Mem M (ob++Aj n []) (ac++Aj n .dead) w/\Ext M ob ac w M (ob++Aj n []) (ac++Aj n .dead) w/\dB ob ac (ob++Aj n []) (ac++Aj n .dead):=by
 have part:∀ {i:Nat} {c:ab},(ac++Aj n .dead)[i]? =some c->(i<ac.length/\ac[i]? =some c)\/(ac.length<=i/\c= .dead/\i-ac.length<n):=λ{i c} f=>by
  by_cases d:i<ac.length
  .rw [Ah d] at f;grind
  .rw [Al o_,Fe] at f
   grind
 have left:∀ {i:Nat},i<ac.length->(ob++Aj n ([]:ba))[i]? =ob[i]?:=λ{i} d=>Ah (by rw [h.len];exact d)
 have g:dY ob (ob++Aj n []):=λ i l hl=>⟨l,by rw [Ah (Ad.1 hl).1];exact hl,Cw _⟩
 have a:∀ {i b:Nat},aM (ob++Aj n []) (ac++Aj n .dead) i b->aM ob ac i b:=λ{i b} ⟨c,l,m,e2,e3,e4⟩=>by
  rcases part m with ⟨d,m⟩ | ⟨_,rfl,_⟩
  .rw [left d] at e3;exact ⟨c,l,m,e2,e3,e4⟩
  .cases e2
 refine ⟨⟨h.imm,by simp [h.len],λ i c f=>?_,λ i b k=>h.lt i b (a k),λ i j b k r=>h.inj i j b (a k) (a r)⟩,⟨λ_ _ _ h=>h,λ_ _ _ h=>.inl h,g,rfl,rfl,rfl,Bh _,λ_ _ _=>rfl,λ i b k=>.inl ⟨i,a k⟩⟩,λ i l h1 p=>?_⟩
 .rcases part f with ⟨d,f⟩ | ⟨d,rfl,o⟩
  .obtain ⟨l,hl,q⟩:=h.obj i c f;exact ⟨l,by rw [left d];exact hl,q.mono (λ_ _ _ h=>h) g (λ_ _ _ _ h=>h) (λ_ _ _ _ h=>h)⟩
  .refine ⟨[],?_,trivial⟩;rw [Al (by rw [h.len];exact d),Fe,if_pos (by rw [h.len];exact o)]
 .have d:=(Ad.1 h1).1;exact ⟨λ_=>⟨by rw [Ah d];exact h1,by rw [left d];exact p⟩,λ e _=>by rw [left d];exact e▸p⟩
def NB{sz:Nat}{xs:ay}{i j:Nat}{x c:aa}(e:xs[i]? =some x)(d:x.cells[j]? =some c)(hz:x.cells.length=sz):aP sz xs (i*sz+j)=some c:=by
 have a:j<sz:=by grind
 have h1:(i*sz+j) / sz=i:=by rw [Dn,Ky o_,Nat.div_eq_of_lt a,Fx]
 have b:(i*sz+j) % sz=j:=by rw [Dn,Nat.mul_add_mod,Hf a]
 simp [aP,h1,b,e,d]
def iW{sz:Nat}{xs:ay}{o:Nat}{c:aa}(h:aP sz xs o=some c):∃ x,xs[o / sz]? =some x/\x.cells[o % sz]? =some c:=by
 unfold aP at h;cases a:xs[o / sz]? with
 | none=>grind
 | some x=>exact ⟨x,rfl,by grind⟩
def hC{sz:Nat}{xs:ay}{q:Nat}{c:aa}(hs:0<sz)(h:aP sz xs q=some c):q<xs.length*sz:=by obtain ⟨x,a,_⟩:=iW h;exact (Dv hs).1 (Ad.1 a).1
def DQ{sz:Nat}{xs:ay}{q:Nat}(hs:0<sz)(hz:∀ x∈xs,x.cells.length=sz)(h:q<xs.length*sz):∃ c,aP sz xs q=some c:=by
 have a:q / sz<xs.length:=(Dv hs).2 h;have d:xs[q / sz]? =some xs[q / sz]:=Ac a;have b:q % sz<(xs[q / sz]).cells.length:=by rw [hz _ (Ax a)];exact Fq _ hs
 exact ⟨_,by unfold aP;rw [d];exact Ac b⟩
def dD{sz:Nat}{xs ys:ay}{o:Nat}(hs:0<sz)(h:o<xs.length*sz):aP sz (xs++ys) o=aP sz xs o:=by have a:o / sz<xs.length:=(Dv hs).2 h;simp [aP,Ah a]
def cW{sz:Nat}{xs ys:ay}{o:Nat}(hs:0<sz)(h:xs.length*sz<=o):aP sz (xs++ys) o=aP sz ys (o-xs.length*sz):=by
 have b:xs.length<=o / sz:=(Il hs).2 h;obtain ⟨q,rfl⟩:=Nat.exists_eq_add_of_le h;have h1:(xs.length*sz+q) / sz=xs.length+q / sz:=by rw [Dn,Ky hs]
 have a:(xs.length*sz+q) % sz=q % sz:=by simp
 simp only [aP,h1,a,Gu];rw [Al o_];simp
def pZ{sz n:Nat}{xs:ay}{q:Nat}(hs:0<sz)(h:q<n*sz):aP sz (xs.take n) q=aP sz xs q:=by have a:q / sz<n:=(Dv hs).2 h;simp [aP,Bn a]
def EE{sz n:Nat}{xs:ay}{q:Nat}(hs:0<sz):aP sz (xs.drop n) q=aP sz xs (n*sz+q):=by
 have h1:(n*sz+q) / sz=n+q / sz:=by rw [Dn,Ky hs]
 have a:(n*sz+q) % sz=q % sz:=by simp
 simp [aP,h1,a,Ca]
def KQ{sz i:Nat}{xs ys:ay}(hs:0<sz)(d:i+ys.length<=xs.length){q:Nat}{c:aa}(h:aP sz (xs.take i++ys++xs.drop (i+ys.length)) q=some c):
  (i*sz<=q/\q<i*sz+ys.length*sz/\aP sz ys (q-i*sz)=some c)\/((q<i*sz\/i*sz+ys.length*sz<=q)/\aP sz xs q=some c):=by
 have hl:(xs.take i).length=i:=by simp;omega
 have a:(xs.take i++ys).length=i+ys.length:=by simp;omega
 by_cases h1:q<i*sz
 .right;refine ⟨.inl h1,?_⟩;rw [Ag,dD hs (by grind),pZ hs h1] at h;exact h
 .by_cases b:q<i*sz+ys.length*sz
  .left;rw [dD hs (by rw [a,Cg];exact b),cW hs (by grind),hl] at h
   grind
  .right;refine ⟨.inr o_,?_⟩;rw [cW hs (by rw [a,Cg];omega),EE hs,a] at h;have:(i+ys.length)*sz+(q-(i+ys.length)*sz)=q:=by rw [Cg];omega
   simp_all
def gU{α:Type}(cv vs:List α)(off:Nat)(h:off+vs.length<=cv.length):(cv.take off++vs++cv.drop (off+vs.length)).length=cv.length/\
  ∀ (i:Nat),(cv.take off++vs++cv.drop (off+vs.length))[i]? =if off<=i/\i<off+vs.length then vs[i-off]? else cv[i]?:=by
 refine ⟨by simp;omega,λ i=>?_⟩;by_cases h1:i<off
 .rw [Ag,Ah q_,if_neg o_,Bn h1]
 .by_cases a:i<off+vs.length
  .rw [if_pos ⟨by omega,a⟩,Ag,Al q_,Ah q_];congr 1;simp;omega
  .rw [if_neg o_,Al q_,Ca];congr 1;simp;omega
section
variable {M:Imm} {ob:Hs} {ac:au} {w:World}
def fF{hs:ba}{g:Nat}{v:Value}(hl:hs.length=g+1)(a:hs[g]? =some v):blk hs=P4 v:=by unfold blk;rw [Ln,hl,Ie,a]
def qB{hs:ba}{v:Value}{b:Nat}(h:blk hs=v.ownBlock.toList)(e:v.ownBlock=some b):b∈blk hs:=by grind
def A0{hs:ba}{v:Value}{b:Nat}(h:blk hs=v.ownBlock.toList)(e:b∈blk hs):v.ownBlock=some b:=by grind
def gE{w:World}{e:TypeId}{sz n:Nat}{v:Value}{cv:ba}(h:w.ownsRow 0 e sz v n cv):P4 v=v.ownBlock.toList:=by rcases h.2 with ⟨rfl,_⟩ | ⟨g,cap,a,rfl,_⟩<;>rfl
def cL{k g:Nat}{hs:ba}(h:ob[k]? =some hs):at' ob k g=hs[g]?:=by simp [at',h]
def Mem.rowOf(h:Mem M ob ac w){k g sz:Nat}{e:TypeId}{xs:ay}(d:ac[k]? =some (.row g sz e xs)):∃ hs v,ob[k]? =some hs/\hs.length=g+1/\hs[g]? =some v/\at' ob k g=some v/\eP M w v sz e xs/\blk hs=v.ownBlock.toList:=by obtain ⟨hs,h1,a,v,h3,b⟩:=h.obj k _ d;refine ⟨hs,v,h1,a,h3,(cL h1).trans h3,b,(fF a h3).trans ?_⟩;obtain ⟨cv,c,_⟩:=b;exact gE c
def Mem.rowTurn(h:Mem M ob ac w){k g sz:Nat}{e:TypeId}{xs:ay}(D:ac[k]? =some (.row g sz e xs)){hs:ba}{v:Value}(G:ob[k]? =some hs)(L:hs[g]? =some v)
  {w':World} {g':Nat} {hs':ba} {t:Value} {xs':ay} (hp:hs<+:hs') (l:hs'.length=g'+1) (n:hs'[g']? =some t) (F:eP M w' t sz e xs')
  (heap:∀ b,b<w.heap.size->v.ownBlock≠some b->w'.heap[b]? =w.heap[b]?) (A:w'.os=w.os) (j:w'.tape=w.tape) (p:w'.output=w.output) (i:w.heap.size<=w'.heap.size)
  (N:∀ b,t.ownBlock=some b->v.ownBlock=some b\/w.heap.size<=b):
  Mem M (ob.set k hs') (ac.set k (.row g' sz e xs')) w'/\Ext M ob ac w M (ob.set k hs') (ac.set k (.row g' sz e xs')) w'/\dB ob ac (ob.set k hs') (ac.set k (.row g' sz e xs')):=by
 obtain ⟨J,P,B,Q,H,_,m,f⟩:=h.rowOf D;rw [G] at B;cases B;rw [L] at H;cases H;obtain ⟨cv,C,_,_,_,z,_⟩:=m;obtain ⟨cv',c,_⟩:=id F;have r:∀ b o y,M b o y->v.ownBlock≠some b:=λ b o y s e=>z b e o y s;refine h.turn D G hp (λ e=>by cases e) (λ_ _ _ h=>h) (λ_ _ _ h=>.inl h) (λ b o y s=>?_) (λ b x K=>heap b x λ e=>K ⟨rfl,qB f e⟩) A j p i (λ_=>?_) (λ_ b d=>?_)
 .obtain ⟨u,I,h1,O⟩:=h.imm b o y s;exact ⟨u,(Cy (w:=w) (a:=⟨b,o,none⟩) (heap b (Cz w _ I) (r b o y s))).trans I,h1,O⟩
 .exact ⟨l,t,n,F⟩
 .have d:=A0 ((fF l n).trans (gE c)) d;refine ⟨?_,(c.lt b d).2⟩;rcases N b d with q | q
  .exact .inl ⟨rfl,qB f q⟩
  omega
def iM{α:Type}{l:List α}{k:Nat}{x:α}(h:l[k]? =some x):l.set k x=l:=by
 apply Ek;intro i;by_cases a:i=k
 .subst a;rw [Ay (Ad.1 h).1,h]
 .rw [Bf (λ e=>a e.symm)]
def eP.write{v:Value}{sz:Nat}{e:TypeId}{xs xs':ay}(h:eP M w v sz e xs){b n cap:Nat}(K:v= .slice (some ⟨b,0,none⟩) n cap)(hs:0<sz){p:Nat}{news:ba}(hp:p+news.length<=xs.length*sz)
  (h1:∀ u∈news,u.oneCell'=true) (hl:xs'.length=xs.length) (hz:∀ x∈xs',x.cells.length=sz)
  (G:∀ q c,aP sz xs' q=some c->(p<=q/\q<p+news.length/\∃ u,news[q-p]? =some u/\Rep M [] u c)\/((q<p\/p+news.length<=q)/\aP sz xs q=some c)):
  ∃ a,w.heap[b]? =some (.cells a e (0,0))/\p+news.length<=a.size/\eP M (w.setRow b (a.toList.take p++news++a.toList.drop (p+news.length)).toArray) v sz e xs':=by
 subst K;obtain ⟨cv,⟨U,I⟩,h3,S,F,D,Q⟩:=h;rcases I with ⟨r,_⟩ | ⟨g,B,a,r,_,o,P,L,y,J⟩
 .cases r
 cases r;have H:xs.length*sz<=a.size:=by rw [y];exact Cc _ P
 have k:p+news.length<=a.toList.length:=by simp;omega
 obtain ⟨A,C⟩:=gU a.toList news p k;have l:∀ q,q<xs.length*sz->cv[q]? =a.toList[q]?:=λ q d=>by rw [<-J,Bn d]
 refine ⟨a,o,by omega,(a.toList.take p++news++a.toList.drop (p+news.length)).take (xs.length*sz),⟨by rw [hl,Dw,A,Jc];simp;omega,.inr ⟨b,cap,_,by rw [hl],Ch _,setRow_heap w b a _ e _ o,by omega,L,?_,by rw [hl]⟩⟩,λ u f=>?_,hz,λ q c d=>?_,D,λ R N z T V m u f=>?_⟩
 .rw [Gv,A,Jc,y]
 .obtain ⟨q,d⟩:=Da f;rw [Gp] at d;split at d
  .rename_i i;rw [C] at d;split at d
   .exact h1 u (Az d)
   .rw [<-l q i] at d;exact h3 u (Az d)
  .cases d
 .have i:=hC hs d;rw [hl] at i;rw [Bn i,C];rcases G q c d with ⟨t,s,u,f,O⟩ | ⟨t,s⟩
  .rw [if_pos ⟨t,s⟩];exact ⟨u,f,O⟩
  .rw [if_neg o_,<-l q i];exact F q c s
 .cases N;rw [setRow_heap w b a _ e _ o] at m;cases m;have j:∀ u∈a.toList,u.oneCell'=true:=Q b rfl _ _ _ o;simp only [Bd] at f;rcases f with (f | f) | f
  .exact j u (Di f)
  .exact h1 u f
  .exact j u (Fj f)
def Mem.rowWrite{P:Program}(h:Mem M ob ac w){k g sz:Nat}{e:TypeId}{xs xs':ay}(m:ac[k]? =some (.row g sz e xs)){b n cap:Nat}(A:at' ob k g=some (.slice (some ⟨b,0,none⟩) n cap))(hs:0<sz)
  {p:Nat} {news:ba} (hp:p+news.length<=xs.length*sz) (h1:∀ u∈news,u.oneCell'=true) (hl:xs'.length=xs.length) (hz:∀ x∈xs',x.cells.length=sz)
  (t:∀ q c,aP sz xs' q=some c->(p<=q/\q<p+news.length/\∃ u,news[q-p]? =some u/\Rep M [] u c)\/((q<p\/p+news.length<=q)/\aP sz xs q=some c)):
  ∃ w',(storeCells ⟨b,p,none⟩ news).run P w= .ok () w'/\Mem M ob (ac.set k (.row g sz e xs')) w'/\Ext M ob ac w M ob (ac.set k (.row g sz e xs')) w'/\dB ob ac ob (ac.set k (.row g sz e xs')):=by
 obtain ⟨f,v,j,B,s,r,a,l⟩:=h.rowOf m;rw [A] at r;cases r;obtain ⟨i,C,D,y⟩:=a.write rfl hs hp h1 hl hz t;have hst:=run_storeCells_at P b p e news 0 i w C o_ h1;simp only [Fx] at hst;refine ⟨_,hst,?_⟩;have:=h.rowTurn (hs':=f) m j s (Cw _) B s y (λ o _ z=>setRow_other w b o _ (λ e=>z (by simp [Gt,e]))) rfl rfl rfl s_ (λ o d=>.inl d);rw [iM j] at this;exact this
end
def zO(w:World)(o:Obj):(w.alloc o).heap.size=w.heap.size+1:=by simp
structure Grown(M:Imm)(w w':World)(sz:Nat)(e:TypeId)(v:Value)(xs:ay):Prop where
 own:∃ cv,w'.ownsRow 0 e sz v xs.length cv/\(∀ u∈cv,u.oneCell'=true)/\∀ (q:Nat) c,aP sz xs q=some c->∃ u,cv[q]? =some u/\Rep M [] u c
 pos:0<sz
 hz:∀ x∈xs,x.cells.length=sz
 blk:∀ b,v.ownBlock=some b->w.heap.size<=b
 heap:∀ b,b<w.heap.size->w'.heap[b]? =w.heap[b]?
 os:w'.os=w.os
 tape:w'.tape=w.tape
 output:w'.output=w.output
 size:w.heap.size<=w'.heap.size
 oneb:YT w' v
section
variable {M:Imm} {ob:Hs} {ac:au} {w w':World} {sz:Nat} {e:TypeId} {v:Value} {xs:ay}
def gX{w:World}{n:Nat}{cv:ba}(h:w.ownsRow 0 e sz v n cv){b:Nat}(a:v.ownBlock=some b){q:Nat}{u:Value}(c:cv[q]? =some u):w.cell? ⟨b,q,none⟩=some u:=by have:=h.cells (g:=b) a q u c;rwa [bK,Bx] at this
def dX{w:World}{n:Nat}{cv:ba}(h:w.ownsRow 0 e sz v n cv):(v= .slice none 0 0/\n=0)\/∃ b cap,v= .slice (some ⟨b,0,none⟩) n cap/\v.ownBlock=some b/\n<=cap/\cap<=maxLen:=by
 rcases h.2 with h | ⟨g,cap,c,a,_,_,d,f,_⟩
 .exact .inl h
 .exact .inr ⟨g,cap,a,by rw [a];rfl,d,f⟩
def jU(M:Imm)(v:Value)(sz:Nat)(xs:ay):Imm:=λ b o x=>M b o x\/(v.ownBlock=some b/\aP sz xs o=some x)
def mY{w:World}{cv:ba}(h:w.ownsRow 0 e sz v xs.length cv)(hz:∀ x∈xs,x.cells.length=sz){t:Tk}(d:xY ob v t):Rep (jU M v sz xs) ob v (.slice sz xs t):=by
 rcases dX h with ⟨rfl,k⟩ | ⟨b,cap,f,m,n,l⟩
 .have:xs=[]:=Bc k;subst this;exact .slnil sz t d
 .subst f;refine .sl sz b 0 xs.length cap xs t rfl n (by simp only [maxLen] at l;omega) hz (λ i j x c a g=>.inr ⟨m,?_⟩) d;rw [Bx];exact NB a g (hz x (Az a))
def Grown.imm(g:Grown M w w' sz e v xs)(h:Mem M ob ac w):∀ b o y,jU M v sz xs b o y->∃ u,w'.cell? ⟨b,o,none⟩=some u/\u.oneCell'=true/\Rep (jU M v sz xs) [] u y:=by
 obtain ⟨cv,h1,l,h3⟩:=g.own;intro b o y c;rcases c with c | ⟨j,c⟩
 .obtain ⟨u,d,i,f⟩:=h.imm b o y c;exact ⟨u,(Cy (w:=w) (a:=⟨b,o,none⟩) (g.heap b (Cz w _ d))).trans d,i,f.monoM λ_ _ _ h=>.inl h⟩
 .obtain ⟨u,d,k⟩:=h3 o y c;exact ⟨u,gX h1 j d,l u (Az d),k.monoM λ_ _ _ h=>.inl h⟩
def Grown.more(g:Grown M w w' sz e v xs)(h:Mem M ob ac w):Mem (jU M v sz xs) ob ac w'/\Ext M ob ac w (jU M v sz xs) ob ac w':=
 h.more (λ_ _ _ h=>.inl h) (λ b o y a=>by
  rcases a with a | ⟨c,_⟩
  .grind
  .exact .inr (g.blk b c)) (g.imm h) g.heap g.os g.tape g.output g.size
def Grown.row(g:Grown M w w' sz e v xs)(h:Mem M ob ac w){k:Nat}(h1:ac[k]? =some .dead)(q:ob[k]? =some []):
  Mem M (ob.set k [v]) (ac.set k (.row 0 sz e xs)) w'/\Ext M ob ac w M (ob.set k [v]) (ac.set k (.row 0 sz e xs)) w'/\dB ob ac (ob.set k [v]) (ac.set k (.row 0 sz e xs)):=by
 obtain ⟨cv,f,p,n⟩:=g.own;refine h.turn h1 q ⟨[v],rfl⟩ (λ_=>rfl) (λ_ _ _ h=>h) (λ_ _ _ h=>.inl h) (λ b o y l=>?_) (λ b d _=>g.heap b d) g.os g.tape g.output g.size (λ_=>⟨rfl,v,rfl,cv,f,p,g.hz,n,λ b d o=>h.noImm (g.blk b d) o,g.oneb⟩) (λ_ b d=>?_)
 .obtain ⟨u,i,m,j⟩:=h.imm b o y l;exact ⟨u,(Cy (w:=w) (a:=⟨b,o,none⟩) (g.heap b (Cz w _ i))).trans i,m,j⟩
 .have c:v.ownBlock=some b:=A0 (hs:=[v]) (gE f) d;exact ⟨.inr (g.blk b c),(f.lt b c).2⟩
def Grown.tail(g:Grown M w w' sz e v xs)(h:Mem M ob ac w){k:Nat}(h1:ac[k]? =some .dead)(j:ob[k]? =some []):
  Mem (jU M v sz xs) (ob.set k [v]) (ac.set k (.tail 0 sz e)) w'/\Ext M ob ac w (jU M v sz xs) (ob.set k [v]) (ac.set k (.tail 0 sz e)) w'/\dB ob ac (ob.set k [v]) (ac.set k (.tail 0 sz e))/\
   Rep (jU M v sz xs) (ob.set k [v]) v (.slice sz xs (.own k 0)):=by
 obtain ⟨cv,i,p,n⟩:=g.own;have l:k<ob.length:=(Ad.1 j).1
 have a:=h.turn (M':=jU M v sz xs) (w':=w') (x':=.tail 0 sz e) (hs':=[v]) h1 j ⟨[v],rfl⟩ (λ_=>rfl) (λ_ _ _ h=>.inl h) (λ b o y c=>by
  rcases c with c | ⟨d,_⟩
  .grind
  .exact .inr (.inr (g.blk b d))) (g.imm h) (λ b d _=>g.heap b d) g.os g.tape g.output g.size
  (λ_=>⟨rfl,v,rfl,_,cv,i,λ b d o m y c=>by
   rcases c with c | ⟨_,c⟩
   .exact h.noImm (g.blk b d) o y c
   .have:=hC g.pos c;omega⟩)
  (λ_ b d=>by
   have f:v.ownBlock=some b:=A0 (hs:=[v]) (gE i) d
   exact ⟨.inr (g.blk b f),(i.lt b f).2⟩)
 refine ⟨a.1,a.2.1,a.2.2,mY i g.hz ?_⟩;show at' _ k 0=some v;rw [cL (Ay l)];rfl
end
def HP(w:World):YT w (.slice none 0 0):=λ b a=>by cases a
def mN{z:Array Value}{n:Nat}(hz:z.toList.all (·.oneCell')=true):∀ u∈(Cp z n).toList,u.oneCell'=true:=by
 intro u b;simp only [Cp,Kc,Ce] at b;obtain ⟨i,d,rfl⟩:=b;have a:0<z.size:=by refine Nat.pos_of_ne_zero λ e=>?_;simp_all
 have c:i % z.size<z.size:=Fq _ a;simp_all
def sX{w:World}{cs:ba}{n c:Nat}{T:TypeId}(h:∀ u∈cs,u.oneCell'=true):YT (w.alloc (.cells cs.toArray T)) (.slice (some ⟨w.heap.size,0,none⟩) n c):=by
 intro b a d f g e u i;cases a;rw [heap_alloc_new w _] at e
 grind
def kV{P:Program}(w:World)(t I ty e:TypeId)(i:TypeInfo)(z:Value)(N:P.underlying t=some (.slice e))(O:P.info? e=some i)(hz:i.zero=some z)(hz1:z.cells.toList.all (·.oneCell')=true)
  (U:z.cells.size=i.size) (v:Value) (n:Nat) (a:ba) (d:w.ownsRow 0 e i.size v n a) (X:∀ u∈a,u.oneCell'=true) (x:Value) (m:Nat) (news:ba) (hs:Src P i.size I x m news w)
  (K:n+m<=maxLen) (s:(n+m)*i.bytes<=140737488355328):
  ∃ L w',(Cx #[t,I] ty #[v,x]).run P w= .ok L w'/\w'.ownsRow 0 e i.size L (n+m) (a++news)/\w'.os=w.os/\w'.tape=w.tape/\w'.output=w.output/\w.heap.size<=w'.heap.size/\
   ((L.ownBlock=v.ownBlock/\∀ b,v.ownBlock≠some b->w'.heap[b]? =w.heap[b]?)\/(L.ownBlock=some w.heap.size/\∀ b,b<w.heap.size->w'.heap[b]? =w.heap[b]?))/\(YT w v->YT w' L):=by
 have f:(a++news).length=(n+m)*i.size:=by rw [Ai,d.1,hs.newsLen,Cg]
 have h63':n+m<=4611686018427387904\/True:=.inr trivial
 have y:∀ (p:Nat),p<n+m->
   (w.drew.alloc (.cells ((a++news).toArray++Cp z.cells (grownCap w (n+m) p e-(n+m))) e)).ownsRow 0 e i.size
    (.slice (some ⟨w.heap.size,0,none⟩) (n+m) (grownCap w (n+m) p e)) (n+m) (a++news):=by
  intro p ho;have Q:=grownCap_ge w (n+m) p e;have B:grownCap w (n+m) p e<=maxLen:=grownCap_le_maxLen w (n+m) p e K;refine ⟨f,.inr ⟨w.heap.size,_,_,rfl,Ch _,heap_alloc_new w.drew _,Q,B,?_,?_⟩⟩
  .simp only [Array.size_append,Gv,size_zeroCells,U,f,<-Cg];simp_all
  .simp only [Ng];rw [<-f];exact Hw
 have r:∀ (k n' Y:Nat),YT (w.drew.alloc (.cells ((a++news).toArray++Cp z.cells k) e)) (.slice (some ⟨w.heap.size,0,none⟩) n' Y):=by
  intro k n' Y;have:(a++news).toArray++Cp z.cells k=((a++news)++(Cp z.cells k).toList).toArray:=by simp
  rw [this];refine sX (w:=w.drew) λ u c=>?_;rcases Bd.1 c with c | c
  .rcases Bd.1 c with c | c
   .exact X u c
   .exact hs.one u c
  .exact mN hz1 u c
 have F:∀ o,w.heap.size<=(w.drew.alloc o).heap.size:=λ o=>by simp
 have G:((n+m:Nat):Int)<=9223372036854775807:=by simp only [maxLen] at K;omega
 rcases d.2 with ⟨rfl,rfl⟩ | ⟨g,cap,q,rfl,_,M,hnc,B,S,D⟩
 .have hx:a=[]:=Bc (by simpa using d.1);subst hx;by_cases hm:m=0
  .subst hm;have hn:news=[]:=Bc (by simpa using hs.newsLen);subst hn;refine ⟨.slice none 0 0,w,?_,Hp w 0 e i.size,rfl,rfl,rfl,Bh _,.inl ⟨rfl,λ_ _=>rfl⟩,λ h=>h⟩;rcases hs.kind with ⟨e',H⟩ | H<;>simp [Cx,run_underlying N,run_underlying H,sizeOf,typeInfo,O,hs.len,hs.cells]
  .have J:=run_append_grow_src (P:=P) w t I ty e i z N O hz none 0 0 [] (by rfl) x m news hs o_ G (growslice_fits o_ s);exact ⟨_,_,J,y 0 o_,rfl,rfl,rfl,F _,.inr ⟨rfl,λ b C=>heap_alloc_old w.drew _ C⟩,λ_=>r _ _ _⟩
 .by_cases l:n+m<=cap
  .have hfit:n*i.size+news.length<=q.size:=by rw [hs.newsLen,S,<-Cg];exact Cc _ l
   have hst:=run_storeCells_at P g (n*i.size) e news 0 q w M o_ hs.one;simp only [Fx] at hst;have T:(⟨g,0,none⟩:Addr).add (n*i.size)=⟨g,n*i.size,none⟩:=by rw [bK,Bx]
   have J:(Cx #[t,I] ty #[.slice (some ⟨g,0,none⟩) n cap,x]).run P w= .ok (.slice (some ⟨g,0,none⟩) (n+m) cap) (w.setRow g (q.toList.take (n*i.size)++news++q.toList.drop (n*i.size+news.length)).toArray):=by rcases hs.kind with ⟨e',H⟩ | H<;>simp [Cx,run_underlying N,run_underlying H,sizeOf,typeInfo,O,hs.len,l,hs.cells,T,hst]
   refine ⟨_,_,J,⟨f,.inr ⟨g,cap,_,rfl,Ch _,setRow_heap w g q _ e _ M,l,B,?_,?_⟩⟩,rfl,rfl,rfl,by simp,.inl ⟨rfl,λ b C=>setRow_other w g b _ (λ e=>C (by simp [Gt,e]))⟩,λ W b C cur' T' fz Z u c=>?_⟩
   .simp only [Gv,Ai,Dw,Ew,Jc];omega
   .rw [D,<-f];exact Hw
   .cases C;rw [setRow_heap w g q _ e _ M] at Z;cases Z;have A:∀ u∈q.toList,u.oneCell'=true:=W g rfl _ _ _ M;simp only [Bd] at c;rcases c with (c | c) | c
    .exact A u (Di c)
    .exact hs.one u c
    .exact A u (Fj c)
  .have V:∀ (j:Nat) u,a[j]? =some u->w.cell? ((⟨g,0,none⟩:Addr).add j)=some u:=d.cells (g:=g) rfl;have R:(Cs i.size n (.slice (some ⟨g,0,none⟩) n cap)).run P w.drew= .ok a.toArray w.drew:=run_firstCells_some w.drew i.size n ⟨g,0,none⟩ n cap a d.1 q_;have J:=run_append_grow_src (P:=P) w t I ty e i z N O hz (some ⟨g,0,none⟩) n cap a R x m news hs o_ G (growslice_fits o_ s);exact ⟨_,_,J,y cap o_,rfl,rfl,rfl,F _,.inr ⟨rfl,λ b C=>heap_alloc_old w.drew _ C⟩,λ_=>r _ _ _⟩
section
variable {M:Imm} {ob:Hs} {ac:au} {w:World}
structure SrcA(P:Program)(M:Imm)(w:World)(sz:Nat)(tx:TypeId)(x:Value)(ys:ay):Prop where
 src:∃ news,Src P sz tx x ys.length news w/\∀ (q:Nat) c,aP sz ys q=some c->∃ u,news[q]? =some u/\Rep M [] u c
 hz:∀ y∈ys,y.cells.length=sz
 pre:∀ m,m<=ys.length->∃ news:ba,(Cs sz m x).run P w= .ok news.toArray w/\news.length=m*sz/\(∀ u∈news,u.oneCell'=true)/\∀ (q:Nat) c,q<m*sz->aP sz ys q=some c->∃ u,news[q]? =some u/\Rep M [] u c
def Mem.appendRow{P:Program}(h:Mem M ob ac w){t O ty e:TypeId}{i:TypeInfo}{z:Value}(ht:P.underlying t=some (.slice e))(hi:P.info? e=some i)(hz:i.zero=some z)(hz1:z.cells.toList.all (·.oneCell')=true)
  (Q:z.cells.size=i.size) (p:0<i.size) {k g:Nat} {xs ys:ay} (V:ac[k]? =some (.row g i.size e xs)) {v x:Value} (hv:at' ob k g=some v) (hs:SrcA P M w i.size O x ys)
  (R:xs.length+ys.length<=maxLen) (l:(xs.length+ys.length)*i.bytes<=140737488355328):
  ∃ a w' ob',(Cx #[t,O] ty #[v,x]).run P w= .ok a w'/\Mem M ob' (ac.set k (.row (g+1) i.size e (xs++ys))) w'/\Ext M ob ac w M ob' (ac.set k (.row (g+1) i.size e (xs++ys))) w'/\
   dB ob ac ob' (ac.set k (.row (g+1) i.size e (xs++ys)))/\Rep M ob' a (.row k (g+1)):=by
 obtain ⟨m,v0,T,Y,e3,X,D,U⟩:=h.rowOf V;rw [hv] at X;cases X;obtain ⟨cv,K,W,o3,o4,o5,o6⟩:=D;obtain ⟨⟨news,Z,s2⟩,s3⟩:=hs;obtain ⟨a,w',hr,A,S,B,H,s,d,C⟩:=kV (P:=P) w t O ty e i z ht hi hz hz1 Q v xs.length cv K W x ys.length news Z R l;have f:∀ b,a.ownBlock=some b->v.ownBlock=some b\/w.heap.size<=b:=λ b G=>by
  rcases d with ⟨q,_⟩ | ⟨q,_⟩
  .exact .inl (q▸G)
  .rw [q] at G;cases G;omega
 have r:eP M w' a i.size e (xs++ys):=by
  refine ⟨cv++news,by simp;omega,λ u J=>?_,λ y F=>?_,λ q c L=>?_,λ b G o=>?_,C o6⟩
  .rcases Bd.1 J with J | J
   .exact W u J
   .exact Z.one u J
  .rcases Bd.1 F with F | F
   .exact o3 y F
   .exact s3 y F
  .by_cases n:q<xs.length*i.size
   .rw [dD p n] at L;rw [Ah (by rw [K.1];exact n)];exact o4 q c L
   .rw [cW p o_] at L;rw [Al (by rw [K.1];omega),K.1];exact s2 _ c L
  .rcases f b G with q | q
   .exact o5 b q o
   .exact h.noImm q o
 have N:(m++[a]).length=g+1+1:=by simp [Y]
 have I:(m++[a])[g+1]? =some a:=by rw [<-Y];simp
 have:=h.rowTurn (hs':=m++[a]) V T e3 ⟨[a],rfl⟩ N I r (λ b n hn=>by
  rcases d with ⟨_,q⟩ | ⟨_,q⟩
  .exact q b hn
  .exact q b n) S B H s f
 refine ⟨a,w',_,hr,this.1,this.2.1,this.2.2,?_⟩;have hk:k<ob.length:=(Ad.1 T).1;have j:at' (ob.set k (m++[a])) k (g+1)=some a:=by rw [cL (Ay hk)];exact I
 rcases dX A with ⟨q,_⟩ | ⟨b,cap,q,_⟩
 .rw [q] at j⊢;exact .row _ _ _ _ _ j
 .rw [q] at j⊢;exact .row _ _ _ _ _ j
def D4{v:Value}{sz:Nat}{xs:ay}{e:TypeId}{n:Nat}{cv:ba}(f:Rep M ob v (.slice sz xs .no))(d:w.ownsRow 0 e sz v n cv):n=xs.length:=by
 obtain ⟨a,c,rfl,h1,_⟩:=f.slice_inv;rcases dX d with ⟨q,g⟩ | ⟨b,cap,q,_⟩
 .grind
 grind
def Mem.appendTail{P:Program}(h:Mem M ob ac w){t tx ty e:TypeId}{i:TypeInfo}{z:Value}(ht:P.underlying t=some (.slice e))(hi:P.info? e=some i)(hz:i.zero=some z)(hz1:z.cells.toList.all (·.oneCell')=true)
  (hzs:z.cells.size=i.size) (B:0<i.size) {k g:Nat} {xs ys:ay} (S:ac[k]? =some (.tail g i.size e)) {v x:Value} (hv:Rep M ob v (.slice i.size xs (.own k g))) (hs:SrcA P M w i.size tx x ys)
  (h63:xs.length+ys.length<=maxLen) (L:(xs.length+ys.length)*i.bytes<=140737488355328):
  ∃ s w' M' ob',(Cx #[t,tx] ty #[v,x]).run P w= .ok s w'/\Mem M' ob' (ac.set k (.tail (g+1) i.size e)) w'/\Ext M ob ac w M' ob' (ac.set k (.tail (g+1) i.size e)) w'/\
   dB ob ac ob' (ac.set k (.tail (g+1) i.size e))/\Rep M' ob' s (.slice i.size (xs++ys) (.own k (g+1))):=by
 obtain ⟨T,hvt⟩:=hv.untok;have U:at' ob k g=some v:=hvt;obtain ⟨G,Y,e2,v0,e3,n,cv,C,o5⟩:=h.obj k _ S;have e4:G[g]? =some v:=by rw [<-cL Y];exact U
 rw [e4] at e3;cases e3;have hn:=D4 T C;subst hn;obtain ⟨⟨news,s1,s2⟩,s3⟩:=hs
 -- the old row's cells
 have Z:(∀ x∈xs,x.cells.length=i.size)/\(∀ u∈cv,u.oneCell'=true)/\(∀ (q:Nat) c,aP i.size xs q=some c->∃ u,cv[q]? =some u/\Rep M [] u c)/\∀ b,v.ownBlock=some b->b<w.heap.size/\∀ (q:Nat) u,cv[q]? =some u->w.cell? ⟨b,q,none⟩=some u:=by
  have r:∀ b,v.ownBlock=some b->∀ (q:Nat) u,cv[q]? =some u->w.cell? ⟨b,q,none⟩=some u:=λ b d q u m=>gX C d m;cases T with
  | slnil sz t' ht'=>
   have:cv=[]:=Bc (by simpa using C.1);subst this;exact ⟨λ x S=>by simp at S,λ u m=>by simp at m,λ q c A=>by simp [aP] at A,λ b d=>⟨(C.lt b d).2,r b d⟩⟩
  | slemp sz t' a cap ht'=>
   have:cv=[]:=Bc (by simpa using C.1);subst this;exact ⟨λ x S=>by simp at S,λ u m=>by simp at m,λ q c A=>by simp [aP] at A,λ b d=>⟨(C.lt b d).2,r b d⟩⟩
  | sl sz b o n cap xs t' hn hc hm K hM ht'=>
   have ho:o=0:=by
    rcases dX C with ⟨q,_⟩ | ⟨b',cap',q,_⟩
    .cases q
    .cases q;rfl
   subst ho;have p:∀ q,q<xs.length*i.size->∃ u c,cv[q]? =some u/\aP i.size xs q=some c/\u.oneCell'=true/\Rep M [] u c:=λ q A=>by
    obtain ⟨c,hc⟩:=DQ B K A;obtain ⟨y,f,hyc⟩:=iW hc;have W:=hM _ _ y c f hyc;have hqq:0+q / i.size*i.size+q % i.size=q:=by rw [Bx,Dn];exact Gg q _
    rw [hqq] at W;obtain ⟨u,m,h1,F⟩:=h.imm b q c W;have j:q<cv.length:=by rw [C.1];exact A
    have:=r b rfl q _ (Ac j);rw [m] at this;cases this;exact ⟨_,c,Ac j,hc,h1,F⟩
   refine ⟨K,λ u m=>?_,λ q c A=>?_,λ b d=>⟨(C.lt b d).2,r b d⟩⟩
   .obtain ⟨q,A⟩:=Da m;obtain ⟨u',c,h1,_,F,_⟩:=p q (by have:=(Ad.1 A).1;rw [C.1] at this;exact this);rw [A] at h1;cases h1;exact F
   .obtain ⟨u,c',h1,F,_,h3⟩:=p q (hC B A);rw [A] at F;cases F;exact ⟨u,h1,h3⟩
 obtain ⟨K,o2,o4,o6⟩:=Z;obtain ⟨s,w',hr,l,hos,Q,X,R,J,honeb⟩:=kV (P:=P) w t tx ty e i z ht hi hz hz1 hzs v xs.length cv C o2 x ys.length news s1 h63 L;have D:∀ b,s.ownBlock=some b->v.ownBlock=some b\/w.heap.size<=b:=λ b d=>by
  rcases J with ⟨q,_⟩ | ⟨q,_⟩
  .exact .inl (q▸d)
  .rw [q] at d;cases d;omega
 have H:∀ b,b<w.heap.size->v.ownBlock≠some b\/s.ownBlock≠some b->w'.heap[b]? =w.heap[b]?:=λ b d hne=>by
  rcases J with ⟨Y,F⟩ | ⟨_,F⟩
  .exact F b (by rcases hne with h | h;exact h;rw [<-Y];exact h)
  .exact F b d
 have hzz:∀ y∈xs++ys,y.cells.length=i.size:=λ y f=>by
  rcases Bd.1 f with f | f
  .exact K y f
  .exact s3 y f
 have N:∀ (q:Nat) c,aP i.size (xs++ys) q=some c->∃ u,(cv++news)[q]? =some u/\u.oneCell'=true/\Rep M [] u c:=λ q c A=>by
  by_cases j:q<xs.length*i.size
  .rw [dD B j] at A;obtain ⟨u,m,hr⟩:=o4 q c A;exact ⟨u,by rw [Ah (by rw [C.1];exact j)];exact m,o2 u (Az m),hr⟩
  .rw [cW B o_] at A;obtain ⟨u,m,hr⟩:=s2 _ c A;exact ⟨u,by rw [Al (by rw [C.1];omega),C.1];exact m,s1.one u (Az m),hr⟩
 have I:blk G=v.ownBlock.toList:=(fF e2 e4).trans (gE C);have hl':(G++[s]).length=g+1+1:=by simp [e2]
 have O:(G++[s])[g+1]? =some s:=by rw [<-e2];simp
 have V:∀ b o y,s.ownBlock=some b->M b o y->v.ownBlock=some b/\o<xs.length*i.size:=λ b o y d f=>by
  rcases D b d with q | q
  .refine ⟨q,?_⟩;rcases Nj o (xs.length*i.size) with j | hge
   .exact j
   .exact absurd f (o5 b q o hge y)
  .exact absurd f (h.noImm q o y)
 have p:=h.turn (M':=jU M s i.size (xs++ys)) (w':=w') (x':=.tail (g+1) i.size e) (hs':=G++[s]) S Y ⟨[s],rfl⟩ (λ e=>by cases e) (λ_ _ _ h=>.inl h) (λ b o y f=>by
   rcases f with f | ⟨d,_⟩
   .exact .inl f
   .rcases D b d with q | q
    .exact .inr (.inl ⟨rfl,qB I q⟩)
    omega) (λ b o y f=>by
   rcases f with f | ⟨d,f⟩
   .obtain ⟨u,m,h1,F⟩:=h.imm b o y f;refine ⟨u,?_,h1,F.monoM λ_ _ _ h=>.inl h⟩;by_cases d:s.ownBlock=some b
    .obtain ⟨q1,q2⟩:=V b o y d f;have j:o<cv.length:=by rw [C.1];exact q2
     have:=(o6 b q1).2 o _ (Ac j);rw [m] at this;cases this;exact gX l d (by rw [Ah j];simp)
    .exact (Cy (w:=w) (a:=⟨b,o,none⟩) (H b (Cz w _ m) (.inr d))).trans m
   .obtain ⟨u,m,h1,F⟩:=N o y f
    exact ⟨u,gX l d m,h1,F.monoM λ_ _ _ h=>.inl h⟩)
  (λ b j hn=>H b j (.inl λ e=>hn ⟨rfl,qB I e⟩)) hos Q X R
  (λ_=>⟨hl',s,O,_,cv++news,l,λ b d o ho y f=>by
   rcases f with f | ⟨_,f⟩
   .have:=(V b o y d f).2;rw [Cg] at ho;omega
   .have:=hC B f
    rw [Ai] at this;omega⟩)
  (λ_ b d=>by
   have hb':s.ownBlock=some b:=A0 ((fF hl' O).trans (gE l)) d;refine ⟨?_,(l.lt b hb').2⟩;rcases D b hb' with q | q
   .exact .inl ⟨rfl,qB I q⟩
   omega)
 refine ⟨s,w',_,_,hr,p.1,p.2.1,p.2.2,mY q_ hzz ?_⟩;show at' _ k (g+1)=some s;rw [cL (Ay (Ad.1 Y).1)];exact O
def append_nil{P:Program}(h:Mem M ob ac w){t o ty e:TypeId}{i:TypeInfo}{z:Value}(v:P.underlying t=some (.slice e))(y:P.info? e=some i)(hz:i.zero=some z)(hz1:z.cells.toList.all (·.oneCell')=true)
  (p:z.cells.size=i.size) (k:0<i.size) {ys:ay} {x:Value} (hs:SrcA P M w i.size o x ys) (C:ys.length<=maxLen) (m:ys.length*i.bytes<=140737488355328):
  ∃ n w',(Cx #[t,o] ty #[.slice none 0 0,x]).run P w= .ok n w'/\Grown M w w' i.size e n ys:=by
 obtain ⟨⟨news,s,u⟩,A⟩:=hs;obtain ⟨n,w',B,c,r,f,l,d,a,g⟩:=kV (P:=P) w t o ty e i z v y hz hz1 p _ 0 [] (Hp w 0 e i.size) s_ x ys.length news s o_ q_;rw [Bx,Bp] at c;refine ⟨n,w',B,⟨news,c,s.one,u⟩,k,A,λ b j=>?_,λ b j=>?_,r,f,l,d,g (HP w)⟩
 .rcases a with ⟨q,_⟩ | ⟨q,_⟩
  .rw [q] at j;cases j
  .rw [q] at j;cases j;omega
 .rcases a with ⟨_,q⟩ | ⟨_,q⟩
  .exact q b (by simp [Gt])
  .exact q b j
end
section
variable {M:Imm} {ob:Hs} {ac:au} {w:World}
def Mem.sliceCells(h:Mem M ob ac w){sz b o:Nat}{xs:ay}(hs:0<sz)(hz:∀ x∈xs,x.cells.length=sz)
  (hm:∀ (i j:Nat) x c,xs[i]? =some x->x.cells[j]? =some c->M b (o+i*sz+j) c):
  ∃ vs:ba,vs.length=xs.length*sz/\(∀ (j:Nat) u,vs[j]? =some u->w.cell? ⟨b,o+j,none⟩=some u)/\(∀ u∈vs,u.oneCell'=true)/\
   ∀ (q:Nat) c,aP sz xs q=some c->∃ u,vs[q]? =some u/\Rep M [] u c:=by
 have key:∀ q,q<xs.length*sz->∃ u,w.cell? ⟨b,o+q,none⟩=some u/\u.oneCell'=true/\∀ c,aP sz xs q=some c->Rep M [] u c:=by
  intro q e;obtain ⟨c,n⟩:=DQ hs hz e;obtain ⟨x,p,k⟩:=iW n;have r:o+q / sz*sz+q % sz=o+q:=by have:=Gg q sz;rw [Dn] at this;omega
  obtain ⟨v,a,h1,l⟩:=h.imm _ _ _ (hm _ _ _ _ p k);rw [r] at a;exact ⟨v,a,h1,λ s g=>by rw [n] at g;cases g;exact l⟩
 refine ⟨(Du (xs.length*sz)).map λ q=>(w.cell? ⟨b,o+q,none⟩).getD undef,by simp,λ j u d=>?_,λ u d=>?_,λ q c e=>?_⟩
 .simp only [Bi] at d;by_cases m:j<xs.length*sz
  .obtain ⟨v,a,_⟩:=key j m;simp [Dr m,a] at d;rw [a,d]
  .rw [Bm q_] at d;simp at d
 .simp only [Ce,Hx] at d;obtain ⟨q,e,rfl⟩:=d;obtain ⟨v,a,h1,_⟩:=key q e;simp [a,h1]
 .have f:=hC hs e;obtain ⟨v,a,_,l⟩:=key q f;exact ⟨v,by simp only [Bi,Dr f,Ms,a,Kd],l c e⟩
def HF{P:Program}{sz c m:Nat}{n:Nat}(hm:m<=0){ys:ay}:∃ news:ba,(Cs sz m (.slice none n c)).run P w= .ok news.toArray w/\news.length=m*sz/\(∀ u∈news,u.oneCell'=true)/\∀ (q:Nat) c,q<m*sz->aP sz ys q=some c->∃ u,news[q]? =some u/\Rep M [] u c:=by have:m=0:=o_;subst this;exact ⟨[],rfl,by simp,λ u b=>by simp at b,λ q c a=>by simp at a⟩
def R1{P:Program}{sz n c m:Nat}{a:Addr}{ys:ay}{vs:ba}(hm:m*sz<=vs.length)(h:∀ (j:Nat) u,vs[j]? =some u->w.cell? (a.add j)=some u)(h1:∀ u∈vs,u.oneCell'=true)
  (i:∀ (q:Nat) c,aP sz ys q=some c->∃ u,vs[q]? =some u/\Rep M [] u c):
  ∃ news:ba,(Cs sz m (.slice (some a) n c)).run P w= .ok news.toArray w/\news.length=m*sz/\(∀ u∈news,u.oneCell'=true)/\∀ (q:Nat) c,q<m*sz->aP sz ys q=some c->∃ u,news[q]? =some u/\Rep M [] u c:=by
 have hl:(vs.take (m*sz)).length=m*sz:=by simp;omega
 have e:Cs sz m (.slice (some a) n c)=loadCells a (m*sz):=rfl
 have:=run_loadCells_list (P:=P) w a (vs.take (m*sz)) (λ j v b=>by
  rw [Gp] at b;split at b
  .exact h j v b
  .cases b)
 rw [hl] at this;refine ⟨vs.take (m*sz),by grind,hl,λ u f=>h1 u (Di f),λ q c k g=>?_⟩;obtain ⟨u,f,d⟩:=i q c g;exact ⟨u,by rw [Bn k];exact f,d⟩
def R0{P:Program}{sz c m n:Nat}{a:Addr}(hm:m<=0){ys:ay}:∃ news:ba,(Cs sz m (.slice (some a) n c)).run P w= .ok news.toArray w/\news.length=m*sz/\(∀ u∈news,u.oneCell'=true)/\∀ (q:Nat) c,q<m*sz->aP sz ys q=some c->∃ u,news[q]? =some u/\Rep M [] u c:=by have:m=0:=o_;subst this;have e:Cs sz 0 (.slice (some a) n c)=loadCells a (0*sz):=rfl;have:=run_loadCells_list (P:=P) w a [] (λ j v b=>by simp at b);simp_all
def SrcA.ofSlice{P:Program}(h:Mem M ob ac w){sz:Nat}(hs:0<sz){k v:TypeId}(f:P.underlying k=some (.slice v)){x:Value}{ys:ay}{t:Tk}(r:Rep M ob x (.slice sz ys t)):SrcA P M w sz k x ys:=by
 cases r with
 | slnil sz t i=>exact ⟨⟨[],Src.ofNil w f 0,λ q c g=>by simp [aP] at g⟩,λ y e=>by simp at e,λ m hm=>HF hm⟩
 | slemp sz t a cap i=>exact ⟨⟨[],Src.ofSlice w f a 0 cap [] s_ (λ j u d=>by simp at d) (λ u A=>by simp at A),λ q c g=>by simp [aP] at g⟩,λ y e=>by simp at e,λ m hm=>R0 hm⟩
 | sl sz b o n cap xs t s B hm hz z i=>
  subst s;obtain ⟨vs,l1,l2,p,l⟩:=h.sliceCells hs hz z;exact ⟨⟨vs,Src.ofSlice w f ⟨b,o,none⟩ _ cap vs l1 (λ j u d=>by rw [bK];exact l2 j u d) p,l⟩,hz,λ m hm=>R1 (vs:=vs) (by rw [l1];exact Cc _ hm) (λ j u d=>by rw [bK];exact l2 j u d) p l⟩
def SrcA.ofRow{P:Program}(h:Mem M ob ac w){k g sz:Nat}{e:TypeId}{xs:ay}(hs:0<sz)(K:ac[k]? =some (.row g sz e xs)){t Q:TypeId}(s:P.underlying t=some (.slice Q)){v:Value}(O:at' ob k g=some v)
  {lo len:Nat} (hl:lo+len<=xs.length) {x:Value} (C:∀ b n c,v= .slice (some ⟨b,0,none⟩) n c->len≠0->∃ i,x= .slice (some ⟨b,lo*sz,none⟩) len i) (z:len=0->∃ a i,x= .slice a 0 i):SrcA P M w sz t x ((xs.drop lo).take len):=by
 obtain ⟨L,W,_,_,_,H,o,_⟩:=h.rowOf K;rw [O] at H;cases H;obtain ⟨cv,r,S,R,U,Y⟩:=o;have hz:∀ y∈(xs.drop lo).take len,y.cells.length=sz:=λ y N=>R y (Fj (Di N));have f:((xs.drop lo).take len).length=len:=by simp;omega
 suffices hsuf:(∃ news,Src P sz t x len news w/\∀ (q:Nat) c,aP sz ((xs.drop lo).take len) q=some c->∃ u,news[q]? =some u/\Rep M [] u c)/\
   ∀ m,m<=len->∃ news:ba,(Cs sz m x).run P w= .ok news.toArray w/\news.length=m*sz/\(∀ u∈news,u.oneCell'=true)/\∀ (q:Nat) c,q<m*sz->aP sz ((xs.drop lo).take len) q=some c->∃ u,news[q]? =some u/\Rep M [] u c by
  exact ⟨by rw [f];exact hsuf.1,hz,λ m hm=>hsuf.2 m o_⟩
 by_cases D:len=0
 .subst D;obtain ⟨a,i,rfl⟩:=z rfl;cases a with
  | none=>exact ⟨⟨[],Src.ofNil w s i,λ q c A=>by simp [aP] at A⟩,λ m hm=>HF hm⟩
  | some a=>exact ⟨⟨[],Src.ofSlice w s a 0 i [] s_ (λ j u d=>by simp at d) (λ u p=>by simp at p),λ q c A=>by simp [aP] at A⟩,λ m hm=>R0 hm⟩
 .rcases dX r with ⟨q,X⟩ | ⟨b,cap,q,V,_⟩
  .omega
  .obtain ⟨i,rfl⟩:=C b _ cap q D;have B:(lo+len)*sz<=cv.length:=by rw [r.1];exact Cc _ hl
   have J:((cv.drop (lo*sz)).take (len*sz)).length=len*sz:=by rw [Dw,Ew];rw [Cg] at B;omega
   have I:∀ (j:Nat) u,((cv.drop (lo*sz)).take (len*sz))[j]? =some u->w.cell? ((⟨b,lo*sz,none⟩:Addr).add j)=some u:=λ j u d=>by
    rw [Gp] at d;split at d
    .rw [Ca] at d;rw [bK];exact gX r V d
    .cases d
   have G:∀ u∈(cv.drop (lo*sz)).take (len*sz),u.oneCell'=true:=λ u p=>S u (Fj (Di p));have F:∀ (j:Nat) c,aP sz ((xs.drop lo).take len) j=some c->∃ u,((cv.drop (lo*sz)).take (len*sz))[j]? =some u/\Rep M [] u c:=λ j c d=>by have l:=hC hs d;rw [f] at l;rw [pZ hs l,EE hs] at d;obtain ⟨u,p,T⟩:=U _ c d;exact ⟨u,by rw [Bn l,Ca];exact p,T⟩
   exact ⟨⟨_,Src.ofSlice w s _ _ _ _ J I G,F⟩,λ m hm=>R1 (by rw [J];exact Cc _ hm) I G F⟩
def tD(l:aw):(⟨l.toArray⟩:ByteArray).size=l.length:=by rfl
def AV(c:UInt8):Rep M ob (.int .u8 c.toNat) (ub c):=.int _ _ ⟨by simp only [dA];omega,by simp only [bN];have:=c.toNat_lt;omega⟩
def Y8(l:aw):∀ y∈l.map ub,y.cells.length=1:=λ y a=>by obtain ⟨c,_,rfl⟩:=Ce.1 a;rfl
def DP(l:aw)(q:Nat):aP 1 (l.map ub) q=(l[q]?).map ub:=by unfold aP;rw [Iw,Ji,Bi];cases l[q]?<;>rfl
def SrcA.ofStr{P:Program}{g:TypeId}(h:P.underlying g=some .string)(l:aw):SrcA P M w 1 g (.string ⟨l.toArray⟩) (l.map ub):=by
 have f:∀ (q:Nat) c,aP 1 (l.map ub) q=some c->∃ b,l[q]? =some b/\c=ub b:=λ q c a=>by
  rw [DP] at a;obtain ⟨b,d,rfl⟩:=Co.1 a
  grind
 refine ⟨⟨byteCells ⟨l.toArray⟩,?_,λ q c a=>?_⟩,Y8 l,λ m hm=>⟨(l.take m).map λ b=>Ej .u8 b.toNat,?_,by grind,λ u j=>by obtain ⟨_,_,rfl⟩:=Ce.1 j;rfl,λ q c a i=>?_⟩⟩
 .have:=Src.ofString (P:=P) w h ⟨l.toArray⟩;rw [tD] at this
  grind
 .rw [DP] at a;obtain ⟨b,d,rfl⟩:=Co.1 a;exact ⟨.int .u8 b.toNat,by simp [byteCells,d],AV b⟩
 .have e:(Cs 1 m (.string ⟨l.toArray⟩)).run P w= .ok (((⟨l.toArray⟩:ByteArray).extract 0 m).data.map λ b=>Ej .u8 b.toNat) w:=rfl;rw [e];simp
 .obtain ⟨b,d,rfl⟩:=f q c i;rw [Nat.mul_one] at a;exact ⟨.int .u8 b.toNat,by rw [Bi,Bn a,d];rfl,AV b⟩
def U4{P:Program}(h:Mem M ob ac w){t K ty e:TypeId}{i:TypeInfo}{z:Value}(C:P.underlying t=some (.slice e))(R:P.info? e=some i)(hz:i.zero=some z)(hz1:z.cells.toList.all (·.oneCell')=true)
  (S:z.cells.size=i.size) (g:0<i.size) {xs ys:ay} {v x:Value} (hv:Rep M ob v (.slice i.size xs .full)) (hs:SrcA P M w i.size K x ys)
  (H:xs.length+ys.length<=maxLen) (p:(xs.length+ys.length)*i.bytes<=140737488355328):
  ∃ O w',(Cx #[t,K] ty #[v,x]).run P w= .ok O w'/\((ys=[]/\O=v/\w'=w)\/(ys≠[]/\Grown M w w' i.size e O (xs++ys))):=by
 obtain ⟨A,⟨a,n,T⟩⟩:=hv.untok;obtain ⟨⟨news,G,s2⟩,s3⟩:=hs;obtain ⟨a',c,Y,h0,h1,_⟩:=A.slice_inv;subst T;cases Y;have X:((xs.length+ys.length:Nat):Int)<=9223372036854775807:=by simp only [maxLen] at H;omega
 by_cases r:ys=[]
 .subst r;refine ⟨_,w,?_,.inl ⟨rfl,rfl,rfl⟩⟩;have hn:news=[]:=Bc (by simpa using G.newsLen);subst hn;have D:Src P i.size K x 0 [] w:=G;cases a with
  | none=>rcases D.kind with ⟨e',J⟩ | J<;>simp [Cx,run_underlying C,run_underlying J,sizeOf,typeInfo,R,D.len,D.cells]
  | some a=>rcases D.kind with ⟨e',J⟩ | J<;>simp [Cx,run_underlying C,run_underlying J,sizeOf,typeInfo,R,D.len,D.cells,storeCells]
 .have Q:0<ys.length:=Eg.2 r
  have pre:(∀ x∈xs,x.cells.length=i.size)/\∃ d:ba,d.length=xs.length*i.size/\(Cs i.size xs.length (.slice a xs.length xs.length)).run P w.drew= .ok d.toArray w.drew/\(∀ u∈d,u.oneCell'=true)/\
    ∀ (q:Nat) c,aP i.size xs q=some c->∃ u,d[q]? =some u/\Rep M [] u c:=by
   have s:xs=[]->(∀ x∈xs,x.cells.length=i.size)/\∃ d:ba,d.length=xs.length*i.size/\(Cs i.size xs.length (.slice a xs.length xs.length)).run P w.drew= .ok d.toArray w.drew/\(∀ u∈d,u.oneCell'=true)/\
     ∀ (q:Nat) c,aP i.size xs q=some c->∃ u,d[q]? =some u/\Rep M [] u c:=by
    intro U;subst U;refine ⟨λ x U=>by simp at U,[],by simp,?_,λ u f=>by simp at f,λ q c F=>by simp [aP] at F⟩;cases a<;>simp [Cs,loadCells,loadCellsFrom]
   generalize B:Hc a xs.length xs.length=v at A;cases A with
   | slnil sz t C=>have q:=s rfl;rw [B] at q;exact q
   | slemp sz t a cap C=>have q:=s rfl;rw [B] at q;exact q
   | sl sz b o n cap xs t hn hc hm m hM C=>
    injection B with v1 v2 v3
    subst v1;obtain ⟨d,I,N,L,W⟩:=h.sliceCells g m hM;exact ⟨m,d,I,run_firstCells_some w.drew i.size _ ⟨b,o,none⟩ _ _ d I (λ j u hj=>by rw [bK];simpa using N j u hj),L,W⟩
  obtain ⟨m,d,I,N,L,W⟩:=pre;have hr:=run_append_grow_src (P:=P) w t K ty e i z C R hz a xs.length xs.length d N x ys.length news G o_ X (growslice_fits o_ p);have hge:=grownCap_ge w (xs.length+ys.length) xs.length e;have V:grownCap w (xs.length+ys.length) xs.length e<=maxLen:=grownCap_le_maxLen w (xs.length+ys.length) xs.length e H;have l:(d++news).length=(xs.length+ys.length)*i.size:=by rw [Ai,I,G.newsLen,Cg]
  refine ⟨_,_,hr,.inr ⟨r,⟨d++news,⟨by rw [l,Ai],.inr ⟨w.heap.size,_,_,by simp,Ch _,heap_alloc_new w.drew _,by simp;omega,V,?_,?_⟩⟩,λ u f=>?_,λ q c F=>?_⟩,g,λ y r=>?_,λ b Z=>?_,λ b Z=>heap_alloc_old w.drew _ Z,rfl,rfl,rfl,by simp,?_⟩⟩
  .simp only [Array.size_append,Gv,size_zeroCells,S,l,<-Cg];congr 1;omega
  .rw [Ai];simp only [Ng];rw [<-l];exact Hw
  .rcases Bd.1 f with f | f
   .exact L u f
   .exact G.one u f
  .by_cases hlt:q<xs.length*i.size
   .rw [dD g hlt] at F;rw [Ah o_];exact W q c F
   .rw [cW g o_] at F;rw [Al o_,I];exact s2 _ c F
  .rcases Bd.1 r with r | r
   .exact m y r
   .exact s3 y r
  .simp only [Gt,Dy] at Z;omega
  .have:∀ k,(d++news).toArray++Cp z.cells k=((d++news)++(Cp z.cells k).toList).toArray:=λ k=>by simp
   rw [this];refine sX (w:=w.drew) λ u f=>?_;rcases Bd.1 f with f | f
   .rcases Bd.1 f with f | f
    .exact L u f
    .exact G.one u f
   .exact mN hz1 u f
def Grown.ofAlloc{sz:Nat}{e:TypeId}{xs:ay}{cv:ba}(a:0<sz)(f:cv.length=xs.length*sz)(h1:∀ u∈cv,u.oneCell'=true)(hz:∀ x∈xs,x.cells.length=sz)(hm:xs.length<=maxLen)
  (g:∀ (q:Nat) c,aP sz xs q=some c->∃ u,cv[q]? =some u/\Rep M [] u c):Grown M w (w.alloc (.cells cv.toArray e)) sz e (.slice (some ⟨w.heap.size,0,none⟩) xs.length xs.length) xs:=by
 refine ⟨⟨cv,⟨f,.inr ⟨w.heap.size,xs.length,cv.toArray,rfl,Ch _,heap_alloc_new w _,Bh _,hm,by omega,by grind⟩⟩,h1,g⟩,a,hz,λ b d=>?_,λ b d=>heap_alloc_old w _ d,rfl,rfl,rfl,by simp,sX h1⟩;simp only [Gt,Dy] at d;omega
def Mem.bornCells(h:Mem M ob ac w){k:Nat}(h1:ac[k]? =some .dead)(f:ob[k]? =some []){cv:ba}{cs:ay}(T:TypeId)(hl:cv.length=cs.length)(c:∀ v∈cv,v.oneCell'=true)
  (q:∀ (i:Nat) v a,cv[i]? =some v->cs[i]? =some a->Rep M ob v a):
  Mem M (ob.set k [.pointer (some ⟨w.heap.size,0,none⟩)]) (ac.set k (.cells T cs)) (w.alloc (.cells cv.toArray T))/\Ext M ob ac w M (ob.set k [.pointer (some ⟨w.heap.size,0,none⟩)]) (ac.set k (.cells T cs)) (w.alloc (.cells cv.toArray T))/\
   dB ob ac (ob.set k [.pointer (some ⟨w.heap.size,0,none⟩)]) (ac.set k (.cells T cs))/\Rep M (ob.set k [.pointer (some ⟨w.heap.size,0,none⟩)]) (.pointer (some ⟨w.heap.size,0,none⟩)) (.ref k 0):=by
 have m:k<ob.length:=(Ad.1 f).1
 have:=h.turn (M':=M) (w':=w.alloc (.cells cv.toArray T)) (x':=.cells T cs) (hs':=[.pointer (some ⟨w.heap.size,0,none⟩)]) h1 f ⟨_,rfl⟩ (λ_=>rfl) (λ_ _ _ h=>h) (λ_ _ _ h=>.inl h) (λ b o y l=>by
   obtain ⟨u,g,n,j⟩:=h.imm b o y l
   exact ⟨u,(Cy (w:=w) (a:=⟨b,o,none⟩) (heap_alloc_old w _ (Cz w _ g))).trans g,n,j⟩)
  (λ b e _=>heap_alloc_old w _ e) rfl rfl rfl s_ (λ d=>⟨_,rfl,λ o=>h.noImm (Bh _) o,cv,heap_alloc_new w _,hl,c,λ i v a p r=>(q i v a p r).mono (λ_ _ _ h=>h) d⟩)
  (λ_ b e=>by
   have:w.heap.size=b:=eX.1 e
   simp;omega)
 refine ⟨this.1,this.2.1,this.2.2,.ref k 0 _ ?_⟩;rw [cL (Ay m)];rfl
def Mem.bornMap(h:Mem M ob ac w){k:Nat}(h1:ac[k]? =some .dead)(f:ob[k]? =some [])(d:Bool):
  Mem M (ob.set k [.map (some w.heap.size)]) (ac.set k (.mp d [])) (w.alloc (.map #[] 0))/\Ext M ob ac w M (ob.set k [.map (some w.heap.size)]) (ac.set k (.mp d [])) (w.alloc (.map #[] 0))/\
   dB ob ac (ob.set k [.map (some w.heap.size)]) (ac.set k (.mp d []))/\Rep M (ob.set k [.map (some w.heap.size)]) (.map (some w.heap.size)) (.mref k):=by
 have q:k<ob.length:=(Ad.1 f).1
 have:=h.turn (M':=M) (w':=w.alloc (.map #[] 0)) (x':=.mp d []) (hs':=[.map (some w.heap.size)]) h1 f ⟨_,rfl⟩ (λ_=>rfl) (λ_ _ _ h=>h) (λ_ _ _ h=>.inl h) (λ b o y n=>by
   obtain ⟨u,g,p,l⟩:=h.imm b o y n
   exact ⟨u,(Cy (w:=w) (a:=⟨b,o,none⟩) (heap_alloc_old w _ (Cz w _ g))).trans g,p,l⟩)
  (λ b e _=>heap_alloc_old w _ e) rfl rfl rfl s_ (λ m=>⟨_,rfl,λ o=>h.noImm (Bh _) o,[],0,heap_alloc_new w _,rfl,λ i x y c=>by simp at c,λ i x c=>by simp at c,λ i j x y c=>by simp at c⟩)
  (λ_ b e=>by
   have:w.heap.size=b:=eX.1 e
   simp_all)
 refine ⟨this.1,this.2.1,this.2.2,.mref k _ ?_⟩;rw [cL (Ay q)];rfl
def Mem.cellsTurn(h:Mem M ob ac w){k:Nat}{T:TypeId}{cs cs':ay}(q:ac[k]? =some (.cells T cs)){b:Nat}(s:at' ob k 0=some (.pointer (some ⟨b,0,none⟩))){cv':ba}(hl:cv'.length=cs'.length)(h1:∀ u∈cv',u.oneCell'=true)
  (C:∀ (i:Nat) v a,cv'[i]? =some v->cs'[i]? =some a->Rep M ob v a):
  Mem M ob (ac.set k (.cells T cs')) (w.setRow b cv'.toArray)/\Ext M ob ac w M ob (ac.set k (.cells T cs')) (w.setRow b cv'.toArray)/\dB ob ac ob (ac.set k (.cells T cs')):=by
 obtain ⟨hs,m,c,j,f,cv,t,_⟩:=h.obj k _ q;have:c=b:=by rw [cL m,j] at s;simpa using s
 subst this;have g:=iM (l:=ob) m
 have:=h.turn (M':=M) (w':=w.setRow c cv'.toArray) (x':=.cells T cs') (hs':=hs) q m (Cw _) (λ e=>by cases e) (λ_ _ _ h=>h) (λ_ _ _ h=>.inl h) (λ b o y r=>by
   obtain ⟨u,F,z,x⟩:=h.imm b o y r;have p:b≠c:=λ e=>by subst e;exact f o y r
   exact ⟨u,(Cy (w:=w) (a:=⟨b,o,none⟩) (setRow_other w c b _ p)).trans F,z,x⟩)
  (λ b _ A=>setRow_other w c b _ λ e=>A ⟨rfl,by subst e;rw [j];exact eX.2 rfl⟩) rfl rfl rfl s_ (λ n=>⟨c,j,f,cv',setRow_heap w c _ _ T _ t,hl,h1,λ i v a B D=>(C i v a B D).mono (λ_ _ _ h=>h) n⟩)
  (λ_ b d=>⟨.inl ⟨rfl,d⟩,by
   have:c=b:=by rw [j] at d;exact eX.1 d
   subst this;have:=gL t
   simp;omega⟩)
 rw [g] at this;exact this
end
section
variable {M:Imm} {ob:Hs} {ac:au} {w:World}
def cP{M':Imm}{ob':Hs}{f:aa->aa}(e:∀ v a,Rep M ob v a->Rep M' ob' v (f a)){as:ay}{vs:ba}(hl:vs.length=as.length)(h:∀ (i:Nat) v a,vs[i]? =some v->as[i]? =some a->Rep M ob v a):
  vs.length=(eQ f as).length/\∀ (i:Nat) v a,vs[i]? =some v->(eQ f as)[i]? =some a->Rep M' ob' v a:=by
 rw [A5];refine ⟨by grind,λ i v a g c=>?_⟩;rw [Bi] at c;obtain ⟨b,d,rfl⟩:=Co.1 c
 grind
def B7{k g:Nat}{v:Value}{hs:ba}(h1:ob[k]? =some hs)(a:at' ob k g=some v):hs[g]? =some v:=by rw [<-cL h1];exact a
def aMD{b o n sz:Nat}{xs:ay}(k:xs.length=n)(hm:(n:Int)<=9223372036854775807)(hz:∀ x∈xs,x.cells.length=sz)(h:∀ (i j:Nat) x c,xs[i]? =some x->x.cells[j]? =some c->M b (o+i*sz+j) c)
  {lo len d:Nat} (hl:lo+len<=n) (f:len<=d) {t:Tk} (g:xY ob (.slice (some ⟨b,o+lo*sz,none⟩) len d) t):Rep M ob (.slice (some ⟨b,o+lo*sz,none⟩) len d) (.slice sz ((xs.drop lo).take len) t):=by
 refine .sl sz b _ len d _ t q_ f o_ (λ x a=>hz x (Fj (Di a))) (λ i j x c a e=>?_) g;rw [Gp] at a;split at a
 .rw [Ca] at a;have:=h (lo+i) j x c a e;rwa [Cg,<-Kk] at this
 .cases a
def Mem.pureV(h:Mem M ob ac w):∀ (n:Nat) (v:Value) (a:aa),Rep M ob v a->Rep M [] v (ah (aB ac) n a):=by
 intro n;induction n with
 | zero=>intro v a _;exact .undef v
 | succ n y=>
  intro v a e;cases e with
  | undef v=>exact .undef v
  | bool b=>exact .bool b
  | int k n e=>exact .int k n e
  | str l hl=>exact .str l hl
  | agg vs as hl e=>
   obtain ⟨h1,f⟩:=cP (y) hl e;exact .agg vs _ h1 f
  | tup vs as hl e=>
   obtain ⟨h1,f⟩:=cP (y) hl e;exact .tup vs _ h1 f
  | ptr b o cs e=>exact .ptr b o cs e
  | ref k off b m=>
   simp only [AW.ah];split
   .rename_i cs p;obtain ⟨hs,h1,F,f,h3⟩:=h.obj k _ (bP p s_);have:=B7 h1 m;rw [f] at this;simp at this;subst this;exact .ptr _ _ _ λ j c d=>by rw [oX,Ca] at d;simp_all
   .exact .undef _
  | eref k g i sz off b n c m=>exact .undef _
  | rowc k g c a n h hm=>exact .undef _
  | pre k g n c sz b len h d A hl hm=>exact .undef _
  | csl k off len sz b m hm=>
   simp only [AW.ah];split
   .rename_i cs p;cases u:Ba sz 1 with
    | false=>exact .undef _
    | true=>
     simp only [cond_true];split
     .rename_i l hl;cases H:sW l with
      | false=>exact .undef _
      | true=>
       simp only [cond_true];obtain ⟨hs,h1,F,f,h3⟩:=h.obj k _ (bP p s_);have:=B7 h1 m;rw [f] at this;simp at this;subst this;obtain ⟨l1,l2⟩:=mJ hl;refine .sl 1 _ off len len l .full l1 (Bh _) hm (λ x z=>?_) (λ i j x c z d=>?_) ⟨_,_,rfl⟩
       .obtain ⟨i,J⟩:=Da z;rw [rQ (oG H i x J)];rfl
       .rw [rQ (oG H i x z)] at d;cases j with
        | succ j=>simp at d
        | zero=>
         simp at d;subst d;have:=l2 i x z;rw [oX,Ca] at this;have:=h3 _ x this
         grind
     .exact .undef _
   .exact .undef _
  | row k g a n c m=>
   simp only [AW.ah];split
   .rename_i g' sz xs p;cases u:Ba g g' with
    | false=>exact .undef _
    | true=>
     have:=aE u;subst this;simp only [cond_true];obtain ⟨hs,h1,R,f,h3⟩:=h.obj k _ (bP p s_);have:=B7 h1 m
     grind
   .exact .undef _
  | sub k g lo len sz b n c m hl A d hm=>
   simp only [AW.ah];split
   .rename_i g' s xs p;cases u:(Ba g g'&&Ba sz s) with
    | false=>exact .undef _
    | true=>
     obtain ⟨r,B⟩:=bD u;have:=aE r;have:=aE B
     subst_vars
     simp only [cond_true];obtain ⟨hs,h1,R,f,h3⟩:=h.obj k _ (bP p s_);have:=B7 h1 m;rw [f] at this;cases this;rcases h3.sl_inv with ⟨q,_⟩ | ⟨a,cap,q,B⟩ | ⟨F,S,I,q,P,N,hz,Q⟩
     .cases q
     .injection q with _ q3 _
      have:len=0:=o_;subst this;rw [Ix];exact .slemp _ _ _ _ trivial
     .injection q with r B q3
      injection r with r
      injection r with r q4 _
      subst r q4;have:=aMD (ob:=[]) (t:=.no) B.symm hm hz Q A (show len<=c-lo by omega) trivial;rw [Bx] at this;exact this
   .exact .undef _
  | sub0 k g lo sz _ a n c m hl d=>
   simp only [AW.ah];split
   .rename_i g' s xs p;cases u:(Ba g g'&&Ba sz s) with
    | false=>exact .undef _
    | true=>
     simp only [cond_true,Ix];cases a with
     | none=>exact .slnil _ _ trivial
     | some a=>exact .slemp _ _ _ _ trivial
   .exact .undef _
  | mref k b m=>exact .undef _
  | nilptr=>exact .nilptr
  | nilslice=>exact .nilslice
  | nilmap=>exact .nilmap
  | nilfunc=>exact .nilfunc
  | nilif=>exact .nilif
  | hsl a n c=>exact .hsl a n c
  | slnil sz t G=>exact .slnil sz .no trivial
  | slemp sz t a cap G=>exact .slemp sz .no a cap trivial
  | sl sz b o n cap xs t A d hm hz e G=>exact .sl sz b o n cap xs .no A d hm hz e trivial
  | func fn K cs T U O d D C=>
   obtain ⟨h1,f⟩:=cP (y) O D;obtain ⟨h3,L⟩:=cP (y) d C;exact .func fn K cs _ _ h1 h3 f L
  | iface t v a e=>exact .iface t v _ (y v a e)
def aU{k:Nat}{x y:ab}(h:ac[k]? =some x):bX ac k y=ac.set k y:=iR y (Ad.1 h).1
def sL(M:Imm)(ob:Hs)(ac:au)(w:World)(ao:au):Prop:=∃ M',Mem M' ob ao w/\Ext M ob ac w M' ob ao w/\(∀ k:Nat,ac[k]? =some .dead->ao[k]? =some .dead)/\ao.length=ac.length
def sL.refl(h:Mem M ob ac w):sL M ob ac w ac:=⟨M,h,Ext.refl _ _ _ _,λ_ h=>h,rfl⟩
def sL.trans{a b:au}(h:sL M ob ac w a)(k:∀ M',Mem M' ob a w->sL M' ob a w b):sL M ob ac w b:=by obtain ⟨m,h1,j,h3,l⟩:=h;obtain ⟨e,d,c,g,n⟩:=k m h1;exact ⟨e,d,j.trans c,λ i f=>g i (h3 i f),n.trans l⟩
def Mem.frzR(h:Mem M ob ac w)(k g:Nat):sL M ob ac w (AW.frzR ac k g):=by
 unfold AW.frzR;split
 .rename_i g' sz e xs q;cases A:Ba g g' with
  | false=>exact .refl h
  | true=>
   have:=aE A;subst this;simp only [cond_true];have j:=bP q s_;rw [aU j];obtain ⟨hs,v,m,F,B,D,⟨cv,n,t,r,x,C⟩,d⟩:=h.rowOf j
   have a:=h.turn (M':=jU M v sz xs) (w':=w) (x':=.frow g sz xs) (hs':=hs) j m (Cw _) (λ e=>by cases e) (λ_ _ _ h=>.inl h) (λ b o y c=>by
     rcases c with c | ⟨l,_⟩
     .grind
     .exact .inr (.inl ⟨rfl,qB d l⟩)) (λ b o y c=>by
     rcases c with c | ⟨l,c⟩
     .obtain ⟨u,f,h1,z⟩:=h.imm b o y c;exact ⟨u,f,h1,z.monoM λ_ _ _ h=>.inl h⟩
     .obtain ⟨u,f,s⟩:=x o y c
      exact ⟨u,gX n l f,t u (Az f),s.monoM λ_ _ _ h=>.inl h⟩) (λ_ _ _=>rfl) rfl rfl rfl (Bh _)
    (λ_=>⟨v,B,mY n r trivial⟩) (λ e=>by cases e)
   rw [iM m] at a;exact ⟨_,a.1,a.2.1,λ i p=>by rw [Bf (λ e=>by grind)];exact p,by simp⟩
 .exact .refl h
def Mem.frz1(h:Mem M ob ac w)(k:Nat):sL M ob ac w (AW.frz1 ac k):=by
 unfold AW.frz1;split
 .rename_i cs x;have l:=bP x s_;rw [aU l];obtain ⟨hs,m,p,q,C,cv,D,B,z,s⟩:=h.obj k _ l;have n:cv.length=(eQ (AW.ah (aB ac) 4) cs).length/\∀ (i:Nat) v a,cv[i]? =some v->(eQ (AW.ah (aB ac) 4) cs)[i]? =some a->Rep M [] v a:=cP (h.pureV 4) B s
  let M':Imm:=λ b o y=>M b o y\/(b=p/\(eQ (AW.ah (aB ac) 4) cs)[o]? =some y)
  have d:=h.turn (M':=M') (w':=w) (x':=.fcells (eQ (AW.ah (aB ac) 4) cs)) (hs':=hs) l m (Cw _) (λ e=>by cases e) (λ_ _ _ h=>.inl h) (λ b o y f=>by
    rcases f with f | ⟨rfl,_⟩
    .exact .inl f
    .exact .inr (.inl ⟨rfl,by rw [q];exact eX.2 rfl⟩)) (λ b o y f=>by
    rcases f with f | ⟨rfl,f⟩
    .obtain ⟨u,F,h1,A⟩:=h.imm b o y f;exact ⟨u,F,h1,A.monoM λ_ _ _ h=>.inl h⟩
    .have g:o<cv.length:=by rw [n.1];exact (Ad.1 f).1
     exact ⟨cv[o],by rw [cell_of_row w b _ _ _ (0,0) D];simp [g],z _ (Ax g),(n.2 o _ y (Ac g) f).monoM λ_ _ _ h=>.inl h⟩) (λ_ _ _=>rfl) rfl rfl rfl (Bh _)
   (λ_=>⟨p,q,λ j c r=>.inr ⟨rfl,r⟩⟩) (λ e=>by cases e)
  rw [iM m] at d;exact ⟨_,d.1,d.2.1,λ i t=>by rw [Bf (λ e=>by simp_all)];exact t,by simp⟩
 .exact .refl h
def Mem.foldO{f:au->aa->au}(b:∀ (M:Imm) (ac:au) (a:aa),Mem M ob ac w->sL M ob ac w (f ac a)):∀ (l:ay) (M:Imm) (ac:au),Mem M ob ac w->sL M ob ac w (foldO f ac l)
 | [],_,_,h=>.refl h
 | c::r,M,ac,h=>(b M ac c h).trans λ M' d=>Mem.foldO b r M' _ d
def Mem.frzV:∀ (n:Nat) (M:Imm) (ac:au) (a:aa),Mem M ob ac w->sL M ob ac w (frzV n ac a):=by
 intro n;induction n with
 | zero=>intro M ac a h;exact .refl h
 | succ n d=>
  intro M ac a h;cases a
  case agg cs=>exact Mem.foldO d _ _ _ h
  case tup cs=>exact Mem.foldO d _ _ _ h
  case func fn fs cs=>exact (Mem.foldO d _ _ _ h).trans λ M' e=>Mem.foldO d _ _ _ e
  case iface t v=>exact d _ _ _ h
  case ref k off=>
   simp only [AW.frzV];split
   .exact (Mem.foldO d _ _ _ h).trans λ M' e=>e.frz1 k
   .exact .refl h
  case csl k a b c=>
   simp only [AW.frzV];split
   .exact (Mem.foldO d _ _ _ h).trans λ M' e=>e.frz1 k
   .exact .refl h
  case row k g=>exact h.frzR k g
  case sub k g a b c=>exact h.frzR k g
  all_goals exact .refl h
def Mem.frzL(l:ay)(h:Mem M ob ac w):sL M ob ac w (frzL ac l):=Mem.foldO (Mem.frzV 6) l M ac h
def Mem.frzs:∀ (l:az) (M:Imm) (ac:au),Mem M ob ac w->sL M ob ac w (aj l ac)
 | [],_,_,h=>.refl h
 | k::r,M,ac,h=>by
  unfold AW.aj;split
  .exact (h.frzR _ _).trans λ M' a=>Mem.frzs r M' _ a
  .exact (Mem.frzV 6 M ac _ h).trans λ M' a=>Mem.frzs r M' _ a
  .exact Mem.frzs r M _ h
end
def R3{k:Nat}:∀ {ks:az} {j i:Nat},pos k j ks=some i->j<=i/\ks[i-j]? =some k
 | [],j,i,h=>by cases h
 | x::r,j,i,h=>by
  simp only [pos] at h;cases a:Ba x k with
  | true=>
   simp_all
  | false=>
   rw [a] at h;obtain ⟨h1,b⟩:=R3 (ks:=r) h;refine ⟨by omega,?_⟩;rw [show i-j=(i-(j+1))+1 from by omega];simp_all
def Z6{k i:Nat}{ks:az}(h:pos k 0 ks=some i):ks[i]? =some k:=by simpa using (R3 h).2
def oL{ac:au}:∀ {ks:az},jQ ks ac=true->(∀ (j k:Nat),ks[j]? =some k->(aB ac k).owns=true)/\ks.Nodup
 | [],_=>⟨λ j k h=>by simp at h,Hz⟩
 | x::r,h=>by
  simp only [jQ,Af,Df] at h;obtain ⟨⟨h1,a⟩,h3⟩:=h;obtain ⟨c,b⟩:=oL h3;refine ⟨λ j k d=>?_,Cl.2 ⟨λ hm=>?_,b⟩⟩
  .cases j with
   | zero=>grind
   | succ j=>exact c j k (by simp_all)
  .rw [oK.2 hm] at a;cases a
def LK{l:az}(h:l.Nodup):∀ {i j b:Nat},l[i]? =some b->l[j]? =some b->i=j:=by
 induction l with
 | nil=>simp
 | cons x r d=>
  intro i j b a c;rw [Cl] at h;cases i with
  | zero=>cases j with
   | zero=>rfl
   | succ j=>simp at a c;subst a;exact absurd (Az c) h.1
  | succ i=>cases j with
   | zero=>simp at a c;subst c;exact absurd (Az a) h.1
   | succ j=>simp at a c;rw [d h.2 a c]
def fS{ac:au}{k:Nat}(h:(aB ac k).owns=true):ac[k]? =some (aB ac k):=by refine bP rfl λ e=>?_;rw [e] at h;cases h
def lI(n0 j:Nat)(o:ab)(hs:ba):ba:=
 if 0<fZ o then (if j<n0 then hs.take 1 else [])++hs.drop (fZ o) else hs
def fV(n0:Nat)(ob:Hs)(ac:au):Nat->az->Hs
 | _,[]=>[]
 | j,k::r=>lI n0 j (aB ac k) (ob.getD k [])::fV n0 ob ac (j+1) r
def jS{n0:Nat}{ob:Hs}{ac:au}:∀ {ks:az} {j i:Nat},(fV n0 ob ac j ks)[i]? =(ks[i]?).map λ k=>lI n0 (j+i) (aB ac k) (ob.getD k [])
 | [],j,i=>by simp [fV]
 | k::r,j,i=>by
  cases i with
  | zero=>simp [fV]
  | succ i=>simp only [fV,Gc,jS (ks:=r)];grind
def sG{n0:Nat}{ob:Hs}{ac:au}:∀ {ks:az} {j:Nat},(fV n0 ob ac j ks).length=ks.length
 | [],j=>rfl
 | k::r,j=>by simp [fV,sG (ks:=r)]
def QY{n0:Nat}{a:az}{ac:au}:∀ {ks:az} {j i:Nat},(vG n0 a ac j ks)[i]? =(ks[i]?).map λ k=>KP n0 a ac (j+i) (aB ac k)
 | [],j,i=>by simp [vG]
 | k::r,j,i=>by
  cases i with
  | zero=>simp [vG]
  | succ i=>simp only [vG,Gc,QY (ks:=r)];grind
def rA{n0:Nat}{a:az}{ac:au}:∀ {ks:az} {j:Nat},(vG n0 a ac j ks).length=ks.length
 | [],j=>rfl
 | k::r,j=>by simp [vG,rA (ks:=r)]
def aAD{n0 j c g g':Nat}(h:gm n0 j c g=some g'):(g=c/\g'=(if j<n0 then (if c=0 then 0 else 1) else 0))\/(g≠c/\j<n0/\g=0/\g'=0):=by
 unfold gm at h;have d:∀ a b:Nat,Ba a b=decide (a=b):=λ a b=>by
  by_cases e:a=b
  .simp_all
  .rw [JK e];simp [e]
 have hl:∀ a b:Nat,Fp a b=decide (a<b):=λ a b=>by
  by_cases e:a<b
  .simp_all
  .have:Fp a b=false:=by
    cases i:Fp a b with
    | false=>rfl
    | true=>simp_all;omega
   grind
 simp only [d,hl] at h;by_cases h1:g=c
 .simp only [h1,decide_true,cond_true,Dy] at h
  grind
 .simp only [h1,decide_false,cond_false] at h;by_cases f:j<n0<;>by_cases h3:g=0<;>simp [f,h3] at h;omega
def pS(n0 j g:Nat):gm n0 j g g=some (if j<n0 then (if g=0 then 0 else 1) else 0):=by
 unfold gm;simp only [Nat.beq_eq_true_eq,Nm,cond_true,Dy];by_cases b:j<n0
 .simp_all
 .have:Fp j n0=false:=by
   cases a:Fp j n0 with
   | false=>rfl
   | true=>simp_all;omega
  grind
section
variable {M:Imm} {ob:Hs} {ac:au} {w:World}
def Mem.histLen(h:Mem M ob ac w){k:Nat}{hs:ba}(d:(aB ac k).owns=true)(f:ob[k]? =some hs):hs.length=fZ (aB ac k)+1:=by
 obtain ⟨hs',e,a⟩:=h.obj k _ (fS d);rw [f] at e;cases e;cases c:aB ac k with
 | dead=>rw [c] at d;cases d
 | fcells cs=>rw [c] at d;cases d
 | frow g sz xs=>rw [c] at d;cases d
 | cells T cs=>rw [c] at a;obtain ⟨b,rfl,_⟩:=a;rfl
 | row g sz e xs=>rw [c] at a;exact a.1
 | tail g sz e=>rw [c] at a;exact a.1
 | mp i es=>rw [c] at a;obtain ⟨b,rfl,_⟩:=a;rfl
 | bun g I=>rw [c] at a;exact a.1
def B2{n0 j g g':Nat}{o:ab}{hs:ba}(hl:hs.length=fZ o+1)(c:gm n0 j (fZ o) g=some g'):(lI n0 j o hs)[g']? =hs[g]?:=by
 unfold lI;rcases aAD c with ⟨rfl,rfl⟩ | ⟨h1,d,rfl,rfl⟩
 .by_cases b:0<fZ o
  .rw [if_pos b];by_cases a:j<n0
   .rw [if_pos a,if_pos a,if_neg o_,Al q_];simp_all
   .rw [if_neg a,if_neg a];simp
  simp_all
 .have b:0<fZ o:=o_;simp_all
def DL{n0 j:Nat}{o:ab}{hs:ba}(hl:hs.length=fZ o+1):(lI n0 j o hs).getLast? =hs.getLast?:=by
 unfold lI;by_cases b:0<fZ o
 .rw [if_pos b];rw [Nc,List.getLast?_drop,if_neg o_];have a:hs≠[]:=λ e=>by grind
  rw [Ku a];rfl
 grind
def wJ{n0 j:Nat}{o:ab}{hs:ba}(hl:hs.length=fZ o+1):(lI n0 j o hs).length=(if j<n0 then (if fZ o=0 then 0 else 1) else 0)+1:=by
 unfold lI;by_cases b:0<fZ o
 .rw [if_pos b];by_cases a:j<n0
  .simp_all;omega
  .rw [if_neg a,if_neg a];simp;omega
 grind
def Mem.cutAt(h:Mem M ob ac w){n0:Nat}{ks:az}(i:jQ ks ac=true){k j g g':Nat}{v:Value}(hp:pos k 0 ks=some j)(f:gm n0 j (fZ (aB ac k)) g=some g')(l:at' ob k g=some v):
  at' (fV n0 ob ac 0 ks) j g'=some v:=by
 have c:=Z6 hp;have d:=(oL i).1 j k c;have a:k<ob.length:=by rw [h.len];exact (Ad.1 (fS d)).1
 have b:ob[k]? =some ob[k]:=Ac a;have hl:=h.histLen d b;have e:(fV n0 ob ac 0 ks)[j]? =some (lI n0 j (aB ac k) ob[k]):=by rw [jS,c];simp [b]
 rw [cL e,B2 hl f];exact B7 b l
def Mem.cvtV(h:Mem M ob ac w){n0:Nat}{ks:az}(r:jQ ks ac=true):∀ (n:Nat) (v:Value) (a:aa),Rep M ob v a->Rep M (fV n0 ob ac 0 ks) v (cvtV n0 ks (aB ac) n a):=by
 intro n;induction n with
 | zero=>intro v a _;exact .undef v
 | succ n z=>
  intro v a m;have B:∀ {n0 j c x:Nat},gm n0 j c 0=some x->x=0:=λ{n0 j c x} d=>by
   rcases aAD d with ⟨e,rfl⟩ | ⟨_,_,_,rfl⟩
   .grind
   .rfl
  have tok:∀ {v:Value} {sz:Nat} {xs:ay} {t:Tk},Rep M ob v (.slice sz xs t)->Rep M (fV n0 ob ac 0 ks) v (AW.cvtV n0 ks (aB ac) (n+1) (.slice sz xs t)):=by
   intro v sz xs t m;obtain ⟨J,A⟩:=m.untok;have p:Rep M (fV n0 ob ac 0 ks) v (.slice sz xs .no):=J.slice_pure.pure;cases t with
   | no=>exact p
   | nil=>
    cases ks with
    | nil=>exact p
    | cons k ks=>exact p.tok A
   | full=>exact p.tok A
   | own k g=>
    simp only [AW.cvtV];split
    .rename_i j hp;split
     .rename_i g' d;exact p.tok (show at' _ _ _=_ from h.cutAt r hp d A)
     .exact p
    .exact p
  cases m with
  | undef v=>exact .undef v
  | bool b=>exact .bool b
  | int k n m=>exact .int k n m
  | str l hl=>exact .str l hl
  | agg vs as hl m=>
   obtain ⟨h1,y⟩:=cP (z) hl m;exact .agg vs _ h1 y
  | tup vs as hl m=>
   obtain ⟨h1,y⟩:=cP (z) hl m;exact .tup vs _ h1 y
  | ptr b o cs m=>exact .ptr b o cs m
  | ref k off b f=>
   simp only [AW.cvtV];split
   .rename_i j hp;split
    .rename_i x d;have:=B d;subst this;exact .ref j off b (h.cutAt r hp d f)
    .exact .undef _
   .exact (h.pureV 1 _ _ (.ref k off b f)).pure
  | eref k g i sz off b n c f=>exact .undef _
  | rowc k g c a n h hm=>exact .undef _
  | pre k g n c sz b len h q u hl hm=>exact .undef _
  | csl k off len sz b f hm=>
   simp only [AW.cvtV];split
   .rename_i j hp;split
    .rename_i x d;have:=B d;subst this;exact .csl j off len sz b (h.cutAt r hp d f) hm
    .exact .undef _
   .exact (h.pureV 1 _ _ (.csl k off len sz b f hm)).pure
  | row k g a n c f=>
   simp only [AW.cvtV];split
   .rename_i j hp;split
    .rename_i g' d;exact .row j g' a n c (h.cutAt r hp d f)
    .exact .undef _
   .exact (h.pureV 1 _ _ (.row k g a n c f)).pure
  | sub k g lo len sz b n c f hl u q hm=>
   simp only [AW.cvtV];split
   .rename_i j hp;split
    .rename_i g' d;exact .sub j g' lo len sz b n c (h.cutAt r hp d f) hl u q hm
    .exact .undef _
   .exact (h.pureV 1 _ _ (.sub k g lo len sz b n c f hl u q hm)).pure
  | sub0 k g lo sz a F n c f hl q=>
   simp only [AW.cvtV];split
   .rename_i j hp;split
    .rename_i g' d;exact .sub0 j g' lo sz a F n c (h.cutAt r hp d f) hl q
    .exact .undef _
   .exact (h.pureV 1 _ _ (.sub0 k g lo sz a F n c f hl q)).pure
  | mref k b f=>
   simp only [AW.cvtV];split
   .rename_i j hp;split
    .rename_i x d;have:=B d;subst this;exact .mref j b (h.cutAt r hp d f)
    .exact .undef _
   .exact .undef _
  | nilptr=>exact .nilptr
  | nilslice=>exact .nilslice
  | nilmap=>exact .nilmap
  | nilfunc=>exact .nilfunc
  | nilif=>exact .nilif
  | hsl a n c=>exact .hsl a n c
  | slnil sz t s=>exact tok (.slnil sz t s)
  | slemp sz t a cap s=>exact tok (.slemp sz t a cap s)
  | sl sz b o n cap xs t u q hm hz m s=>exact tok (.sl sz b o n cap xs t u q hm hz m s)
  | func fn G cs K L I q D C=>
   obtain ⟨h1,y⟩:=cP (z) I D;obtain ⟨h3,H⟩:=cP (z) q C;exact .func fn G cs _ _ h1 h3 y H
  | iface t v a m=>exact .iface t v _ (z v a m)
def Mem.cvt(h:Mem M ob ac w){n0:Nat}{ks:az}(H:jQ ks ac=true):
  Mem M (fV n0 ob ac 0 ks) (gQ n0 ks ac) w/\(∀ j b,aM (fV n0 ob ac 0 ks) (gQ n0 ks ac) j b->∃ k,ks[j]? =some k/\aM ob ac k b)/\
   (∀ j k b,ks[j]? =some k->aM ob ac k b->aM (fV n0 ob ac 0 ks) (gQ n0 ks ac) j b):=by
 obtain ⟨u,U⟩:=oL H;have hist:∀ {j k:Nat},ks[j]? =some k->∃ hs,ob[k]? =some hs/\hs.length=fZ (aB ac k)+1/\(fV n0 ob ac 0 ks)[j]? =some (lI n0 j (aB ac k) hs)/\(gQ n0 ks ac)[j]? =some (KP n0 ks ac j (aB ac k))/\jT M ob w hs (aB ac k):=by
  intro j k a;have J:=u j k a;obtain ⟨hs,D,G⟩:=h.obj k _ (fS J);refine ⟨hs,D,h.histLen J D,?_,?_,G⟩
  .rw [jS,a];simp [D]
  .unfold gQ;rw [QY,a];simp
 have l:∀ j o,(KP n0 ks ac j o).owns=o.owns:=λ j o=>by cases o<;>rfl
 have n:∀ j b,aM (fV n0 ob ac 0 ks) (gQ n0 ks ac) j b->∃ k,ks[j]? =some k/\aM ob ac k b:=by
  rintro j b ⟨c,hs,B,R,L,K⟩;have a:∃ k,ks[j]? =some k:=by
   have:j<ks.length:=by have:=(Ad.1 B).1;unfold gQ at this;rwa [rA] at this
   exact ⟨_,Ac this⟩
  obtain ⟨k,a⟩:=a;obtain ⟨hs',A,t,y,x,_⟩:=hist a;rw [x] at B;rw [y] at L;cases B;cases L;refine ⟨k,a,(dG (fS (u j k a)) A).2 ⟨by rw [<-l j];exact R,?_⟩⟩;unfold blk at K⊢;rwa [DL t] at K
 have F:∀ j k b,ks[j]? =some k->aM ob ac k b->aM (fV n0 ob ac 0 ks) (gQ n0 ks ac) j b:=by intro j k b a p;obtain ⟨hs',A,t,y,x,_⟩:=hist a;have:=(dG (fS (u j k a)) A).1 p;refine (dG x y).2 ⟨by rw [l];exact this.1,?_⟩;unfold blk;rw [DL t];exact this.2
 refine ⟨⟨h.imm,by unfold gQ;rw [sG,rA],λ j c f=>?_,λ j b p=>?_,λ i j b p C=>?_⟩,n,F⟩
 .have a:∃ k,ks[j]? =some k:=by
   have:j<ks.length:=by have:=(Ad.1 f).1;unfold gQ at this;rwa [rA] at this
   exact ⟨_,Ac this⟩
  obtain ⟨k,a⟩:=a;obtain ⟨hs,A,t,y,x,m⟩:=hist a;rw [x] at f;cases f;refine ⟨_,y,?_⟩;have hl:=wJ (n0:=n0) (j:=j) t;have s:=pS n0 j (fZ (aB ac k));have d:=B2 t s;cases f:aB ac k with
  | dead=>exact trivial
  | fcells cs=>have:=u j k a;rw [f] at this;cases this
  | frow g sz xs=>have:=u j k a;rw [f] at this;cases this
  | cells T cs=>
   rw [f] at m;obtain ⟨b,rfl,z,cv,r,q,S,V⟩:=m;obtain ⟨Q,P⟩:=cP (h.cvtV (n0:=n0) H 4) q V;exact ⟨b,rfl,z,cv,r,Q,S,P⟩
  | row g sz e xs=>
   rw [f] at m hl d;obtain ⟨z,v,r,q⟩:=m;simp only [KP,pS];exact ⟨hl,v,d.trans r,q⟩
  | tail g sz e=>
   rw [f] at m hl d;obtain ⟨z,v,r,q⟩:=m;simp only [KP,pS];exact ⟨hl,v,d.trans r,q⟩
  | mp W es=>
   rw [f] at m;exact m
  | bun g I=>
   rw [f] at m hl d;obtain ⟨z,v,r,q⟩:=m;simp only [KP,pS];exact ⟨hl,v,d.trans r,q⟩
 .obtain ⟨k,_,p⟩:=n j b p;exact h.lt k b p
 .obtain ⟨k,O,p⟩:=n i b p;obtain ⟨N,a,C⟩:=n j b C;have:=h.inj k N b p C;subst this;exact LK U O a
end
def aE5(ks:az):fA.olenN ks=ks.length:=by
 induction ks with
 | nil=>rfl
 | cons k r a=>simp [fA.olenN,a]
def jY{ks:az}{base j k:Nat}(h:ks[j]? =some k):fA ks base j=k:=by simp [fA,qK,h]
def mR{ks:az}{base j:Nat}(h:ks.length<=j):fA ks base j=base+(j-ks.length):=by simp [fA,qK,Bm h,aE5]
def aGI{ks:az}{base:Nat}(f:ks.Nodup)(c:∀ (j k:Nat),ks[j]? =some k->k<base){i j:Nat}(h:fA ks base i=fA ks base j):i=j:=by
 by_cases d:i<ks.length<;>by_cases e:j<ks.length
 .have b:=Ac d;have a:=Ac e;rw [jY b,jY a] at h;rw [<-h] at a;exact LK f b a
 .have b:=Ac d;rw [jY b,mR o_] at h;have:=c i _ b;omega
 .have a:=Ac e;rw [jY a,mR o_] at h;have:=c j _ a;omega
 .rw [mR o_,mR o_] at h;omega
def aCz{ks:az}{base:Nat}{ac:au}(y:ks.Nodup)(p:∀ (j k:Nat),ks[j]? =some k->k<base):∀ (l:au) (j:Nat) (a:au),a.length=base+(j-ks.length)->
  (jH ks base ac j l a).length=base+(j+l.length-ks.length)/\(∀ (t:Nat) o,l[t]? =some o->(jH ks base ac j l a)[fA ks base (j+t)]? =some (tK ks base ac (j+t) o))/\
   ∀ i,(∀ t,t<l.length->fA ks base (j+t)≠i)->i<a.length->(jH ks base ac j l a)[i]? =a[i]?:=by
 intro l;induction l with
 | nil=>intro j a hl;exact ⟨by simpa [jH] using hl,λ t o h=>by simp at h,λ i _ _=>rfl⟩
 | cons o r A=>
  intro j a hl;simp only [jH]
  have d:(bX a (fA ks base j) (tK ks base ac j o)).length=base+(j+1-ks.length)/\(bX a (fA ks base j) (tK ks base ac j o))[fA ks base j]? =some (tK ks base ac j o)/\
    ∀ i,fA ks base j≠i->i<a.length->(bX a (fA ks base j) (tK ks base ac j o))[i]? =a[i]?:=by
   by_cases n:j<ks.length
   .have m:=Ac n;have f:=p j _ m;rw [jY m,iR _ o_];exact ⟨by simp;omega,Ay o_,λ i c _=>Bf c⟩
   .rw [mR o_,<-hl,SA];exact ⟨by simp;omega,by simp,λ i _ c=>Ah c⟩
  obtain ⟨q,s,w⟩:=d;obtain ⟨x,z,u⟩:=A (j+1) _ q;have f:fA ks base j<(bX a (fA ks base j) (tK ks base ac j o)).length:=(Ad.1 s).1;refine ⟨by rw [x];simp;omega,λ t v g=>?_,λ i c b=>?_⟩
  .cases t with
   | zero=>
    simp at g;subst g;show (jH ks base ac (j+1) r (bX a (fA ks base j) (tK ks base ac j o)))[fA ks base j]? =some (tK ks base ac j o);rw [u _ (λ t _ e=>?_) f,s];have:=aGI y p e;omega
   | succ t=>
    have:=z t v (by simpa using g);rwa [show j+1+t=j+(t+1) from by omega] at this
  .rw [u i (λ t g=>?_) (by
    by_cases n:j<ks.length
    .rw [q];rw [hl] at b;omega
    omega),w i (c 0 s_) b]
   have:=c (t+1) q_;rwa [show j+(t+1)=j+1+t from by omega] at this
def mF(ks:az)(ob a:Hs):Hs:=
 (Du ob.length).map (λ k=>match pos k 0 ks with | some j=>ob.getD k []++(a.getD j []).drop 1 | none=>ob.getD k [])++a.drop ks.length
def aEN{ks:az}(a:ks.Nodup){j k:Nat}(h:ks[j]? =some k):pos k 0 ks=some j:=by
 have b:∀ (ks:az) (j i:Nat),ks.Nodup->ks[j]? =some k->pos k i ks=some (i+j):=by
  intro ks;induction ks with
  | nil=>simp
  | cons x r d=>
   intro j i a h;rw [Cl] at a;simp only [pos];cases j with
   | zero=>simp at h;subst h;simp
   | succ j=>
    have c:r[j]? =some k:=by simpa using h
    have:¬ x=k:=λ e=>a.1 (e▸Az c);rw [JK this];simp only [cond_false];rw [d j (i+1) a.2 c]
    grind
 simpa using b ks j 0 a h
section
variable {M M':Imm} {ob obK':Hs} {ac ao:au} {w w':World}
def Mem.embAt(h:Mem M ob ac w){ks:az}(u:jQ ks ac=true)(f:dY (fV 0 ob ac 0 ks) obK'){j g:Nat}{v:Value}(l:at' obK' j g=some v):
  at' (mF ks ob obK') (fA ks ac.length j) (lP ks ac j g)=some v:=by
 obtain ⟨s,z⟩:=oL u;have i:∃ hs,obK'[j]? =some hs/\hs[g]? =some v:=by
  unfold at' at l;cases x:obK'[j]? with
  | none=>grind
  | some hs=>rw [x] at l;exact ⟨hs,rfl,l⟩
 obtain ⟨hs,e,d⟩:=i;by_cases n:j<ks.length
 .have a:=Ac n;have r:=s j _ a;have c:ks[j]<ob.length:=by rw [h.len];exact (Ad.1 (fS r)).1
  have o:ob[ks[j]]? =some ob[ks[j]]:=Ac c;have hl:=h.histLen r o;have b:(fV 0 ob ac 0 ks)[j]? =some (lI 0 j (aB ac ks[j]) ob[ks[j]]):=by rw [jS,a];simp [o]
  obtain ⟨hs',q,t,y⟩:=f j _ b;rw [e] at q;cases q;have A:(lI 0 j (aB ac ks[j]) ob[ks[j]]).length=1:=by rw [wJ hl];simp
  have m:(lI 0 j (aB ac ks[j]) ob[ks[j]])[0]? =ob[ks[j]][fZ (aB ac ks[j])]?:=B2 hl (by rw [pS];simp);have p:(mF ks ob obK')[ks[j]]? =some (ob[ks[j]]++hs.drop 1):=by unfold mF;rw [Ah q_,Bi,Dr c];simp [aEN z a,o,e]
  rw [jY a,cL p];have k:lP ks ac j g=fZ (aB ac ks[j])+g:=by simp [lP,qK,a]
  rw [k];cases g with
  | zero=>
   rw [Fx,Ah o_,<-m,<-d,<-y,Ah o_]
  | succ g=>
   rw [Al o_,Ca,<-d];congr 1;omega
 .have p:(mF ks ob obK')[ac.length+(j-ks.length)]? =some hs:=by unfold mF;rw [Al (by simp;rw [h.len];omega),Ca,<-e];congr 1;simp [h.len];omega
  rw [mR o_,cL p];simpa [lP,qK,Bm (show ks.length<=j by omega)] using d
def T6{M':Imm}{obK' f:Hs}{ks:az}{base:Nat}{ac:au}(m:∀ {j g:Nat} {v:Value},at' obK' j g=some v->at' f (fA ks base j) (lP ks ac j g)=some v)
  (y:∀ {j:Nat} {v:Value},at' obK' j 0=some v->(∃ b,v= .pointer (some ⟨b,0,none⟩))\/(∃ b,v= .map (some b))->at' f (fA ks base j) 0=some v):
  ∀ (n:Nat) (v:Value) (a:aa),Rep M' obK' v a->Rep M' f v (embV ks base ac n a):=by
 intro n;induction n with
 | zero=>intro v a _;exact .undef v
 | succ n u=>
  intro v a d;have tok:∀ {v:Value} {sz:Nat} {xs:ay} {t:Tk},Rep M' obK' v (.slice sz xs t)->Rep M' f v (AW.embV ks base ac (n+1) (.slice sz xs t)):=by
   intro v sz xs t d;obtain ⟨G,x⟩:=d.untok;have p:Rep M' f v (.slice sz xs .no):=G.slice_pure.pure;cases t with
   | no=>exact p
   | nil=>exact p.tok x
   | full=>exact p.tok x
   | own k g=>exact p.tok (show at' _ _ _=_ from m x)
  cases d with
  | undef v=>exact .undef v
  | bool b=>exact .bool b
  | int k n d=>exact .int k n d
  | str l hl=>exact .str l hl
  | agg vs as hl d=>
   obtain ⟨h1,s⟩:=cP (u) hl d;exact .agg vs _ h1 s
  | tup vs as hl d=>
   obtain ⟨h1,s⟩:=cP (u) hl d;exact .tup vs _ h1 s
  | ptr b o cs d=>exact .ptr b o cs d
  | ref k off b e=>exact .ref _ off b (y e (.inl ⟨b,rfl⟩))
  | eref k g i sz off b n c e=>exact .undef _
  | rowc k g c a n h hm=>exact .undef _
  | pre k g n c sz b len h q w hl hm=>exact .undef _
  | csl k off len sz b e hm=>exact .csl _ off len sz b (y e (.inl ⟨b,rfl⟩)) hm
  | row k g a n c e=>exact .row _ _ a n c (m e)
  | sub k g lo len sz b n c e hl w q hm=>exact .sub _ _ lo len sz b n c (m e) hl w q hm
  | sub0 k g lo sz a D n c e hl q=>exact .sub0 _ _ lo sz a D n c (m e) hl q
  | mref k b e=>exact .mref _ b (y e (.inr ⟨b,rfl⟩))
  | nilptr=>exact .nilptr
  | nilslice=>exact .nilslice
  | nilmap=>exact .nilmap
  | nilfunc=>exact .nilfunc
  | nilif=>exact .nilif
  | hsl a n c=>exact .hsl a n c
  | slnil sz t r=>exact tok (.slnil sz t r)
  | slemp sz t a cap r=>exact tok (.slemp sz t a cap r)
  | sl sz b o n cap xs t w q hm hz d r=>exact tok (.sl sz b o n cap xs t w q hm hz d r)
  | func fn B cs H I F q A z=>
   obtain ⟨h1,s⟩:=cP (u) F A;obtain ⟨h3,C⟩:=cP (u) q z;exact .func fn B cs _ _ h1 h3 s C
  | iface t v a d=>exact .iface t v _ (u v a d)
def Mem.embV(h:Mem M ob ac w){ks:az}(x:jQ ks ac=true)(m:dY (fV 0 ob ac 0 ks) obK')(F:(fV 0 ob ac 0 ks).length=ks.length):∀ (n:Nat) (v:Value) (a:aa),Rep M' obK' v a->
  Rep M' (mF ks ob obK') v (embV ks ac.length ac n a):=by
 have G:∀ {j:Nat} {v:Value},at' obK' j 0=some v->(∃ b,v= .pointer (some ⟨b,0,none⟩))\/(∃ b,v= .map (some b))->at' (mF ks ob obK') (fA ks ac.length j) 0=some v:=by
  intro j v r hs;have:=h.embAt x m r;by_cases A:j<ks.length
  .have s:=Ac A;have o:fZ (aB ac ks[j])=0:=by
    have C:=(oL x).1 j _ s;obtain ⟨hs',D,d⟩:=h.obj _ _ (fS C);have f:(fV 0 ob ac 0 ks)[j]? =some (lI 0 j (aB ac ks[j]) hs'):=by rw [jS,s];simp [D]
    have hl:=h.histLen C D;have z:(lI 0 j (aB ac ks[j]) hs')[0]? =hs'[fZ (aB ac ks[j])]?:=B2 hl (by rw [pS];simp);have c:at' (fV 0 ob ac 0 ks) j 0=some v:=by
     have H:(lI 0 j (aB ac ks[j]) hs').length=1:=by rw [wJ hl];simp
     have B:=Ac (l:=lI 0 j (aB ac ks[j]) hs') (i:=0) o_;generalize (lI 0 j (aB ac ks[j]) hs')[0]=u at B;have:=m.at (ob:=fV 0 ob ac 0 ks) (k:=j) (g:=0) (v:=u) (by rw [cL f];exact B);rw [r] at this;cases this;rw [cL f];exact B
    rw [cL f,z] at c;cases o:aB ac ks[j] with
    | row g sz e xs=>
     rw [o] at d c;obtain ⟨_,J,p,cv,t,_⟩:=d;simp only [fZ] at c;rw [p] at c;cases c;rcases dX t with ⟨q,_⟩ | ⟨_,_,q,_⟩<;>rcases hs with ⟨b,hs⟩ | ⟨b,hs⟩<;>(rw [q] at hs;cases hs)
    | tail g sz e=>
     rw [o] at d c;obtain ⟨_,J,p,K,cv,t,_⟩:=d;simp only [fZ] at c;rw [p] at c;cases c;rcases dX t with ⟨q,_⟩ | ⟨_,_,q,_⟩<;>rcases hs with ⟨b,hs⟩ | ⟨b,hs⟩<;>(grind)
    | bun g I=>
     rw [o] at d c;obtain ⟨_,bs,p,_⟩:=d;simp only [fZ] at c;rw [p] at c;cases c;rcases hs with ⟨b,hs⟩ | ⟨b,hs⟩<;>cases hs
    | _=>rfl
   have y:lP ks ac j 0=0:=by simp [lP,qK,s,o]
   grind
  .have y:lP ks ac j 0=0:=by simp [lP,qK,Bm (show ks.length<=j by omega)]
   grind
 exact T6 (λ r=>h.embAt x m r) G
def Mem.emb(h:Mem M ob ac w){ks:az}(hk:jQ ks ac=true)(s:Ext M (fV 0 ob ac 0 ks) (gQ 0 ks ac) w M' obK' ao w')(h':Mem M' obK' ao w'):
  Mem M' (mF ks ob obK') (jH ks ac.length ac 0 ao ac) w'/\Ext M ob ac w M' (mF ks ob obK') (jH ks ac.length ac 0 ao ac) w'/\∀ (i:Nat) hs,ac[i]? =some .dead->ob[i]? =some hs->(jH ks ac.length ac 0 ao ac)[i]? =some .dead/\(mF ks ob obK')[i]? =some hs:=by
 obtain ⟨k1,k2⟩:=oL hk;obtain ⟨c1,c2,c3⟩:=h.cvt (n0:=0) hk;have hks:∀ (j k:Nat),ks[j]? =some k->k<ac.length:=λ j k z=>(Ad.1 (fS (k1 j k z))).1;have hcl:(fV 0 ob ac 0 ks).length=ks.length:=sG;have hm:ks.length<=ao.length:=by
  rcases Fz ks.length with h0 | h0
  .omega
  .have:(fV 0 ob ac 0 ks)[ks.length-1]? =some (fV 0 ob ac 0 ks)[ks.length-1]:=Ac o_;obtain ⟨hs',e,_⟩:=s.hs _ _ this;have:=(Ad.1 e).1;rw [h'.len] at this;omega
 obtain ⟨s1,s2,s3⟩:=aCz (base:=ac.length) (ac:=ac) k2 hks ao 0 ac s_;simp only [Bx] at s1 s2 s3;have hEl:(mF ks ob obK').length=ac.length+(ao.length-ks.length):=by unfold mF;simp [h.len,h'.len]
 -- the objects eM the call:by number
 have cls:∀ {i:Nat},i<(jH ks ac.length ac 0 ao ac).length->(∃ j,j<ao.length/\i=fA ks ac.length j)\/(i<ac.length/\(∀ j,j<ao.length->fA ks ac.length j≠i)):=by
  intro i C;rw [s1] at C;by_cases V:i<ac.length
  .by_cases hin:∃ j,j<ao.length/\i=fA ks ac.length j
   .exact .inl hin
   .exact .inr ⟨V,λ j z e=>hin ⟨j,z,e.symm⟩⟩
  .refine .inl ⟨ks.length+(i-ac.length),by omega,?_⟩;rw [mR o_];omega
 have R:∀ {i:Nat},i<ac.length->(∀ j,j<ao.length->fA ks ac.length j≠i)->(jH ks ac.length ac 0 ao ac)[i]? =ac[i]?/\(mF ks ob obK')[i]? =ob[i]?:=by
  intro i C d;refine ⟨s3 i d C,?_⟩;have O:i<ob.length:=by rw [h.len];exact C
  have hp:pos i 0 ks=none:=by
   cases hq:pos i 0 ks with
   | none=>rfl
   | some j=>
    have:=Z6 hq;exact absurd (jY this) (d j (by have:=(Ad.1 this).1;omega))
  unfold mF;rw [Ah q_,Bi,Dr O];simp [hp,Ac O]
 have Y:∀ {j:Nat} {o:ab},ao[j]? =some o->∃ hs hs',obK'[j]? =some hs/\jT M' obK' w' hs o/\(jH ks ac.length ac 0 ao ac)[fA ks ac.length j]? =some (tK ks ac.length ac j o)/\(mF ks ob obK')[fA ks ac.length j]? =some hs'/\
   hs'.length=(match ks[j]? with | some k=>fZ (aB ac k) | none=>0)+hs.length/\(o.owns=true->blk hs'=blk hs)/\(∀ (g:Nat) v,hs[g]? =some v->hs'[lP ks ac j g]? =some v):=by
  intro j o z;obtain ⟨hs,G,m⟩:=h'.obj j o z;have hat:∀ (g:Nat) v,hs[g]? =some v->at' (mF ks ob obK') (fA ks ac.length j) (lP ks ac j g)=some v:=λ g v hg=>h.embAt hk s.hs (by rw [cL G];exact hg);by_cases V:j<ks.length
  .have X:=Ac V;have Z:=k1 j _ X;have hko:ks[j]<ob.length:=by rw [h.len];exact (Ad.1 (fS Z)).1
   have hhb:ob[ks[j]]? =some ob[ks[j]]:=Ac hko;have hl:=h.histLen Z hhb;have Q:(fV 0 ob ac 0 ks)[j]? =some (lI 0 j (aB ac ks[j]) ob[ks[j]]):=by rw [jS,X];simp [hhb]
   obtain ⟨K,H,t,F⟩:=s.hs j _ Q;rw [G] at H;cases H;have hc1:(lI 0 j (aB ac ks[j]) ob[ks[j]]).length=1:=by rw [wJ hl];simp
   have hpos:1<=hs.length:=by rw [<-F];simp;omega
   have eE:(mF ks ob obK')[ks[j]]? =some (ob[ks[j]]++hs.drop 1):=by unfold mF;rw [Ah q_,Bi,Dr hko];simp [aEN k2 X,hhb,G]
   refine ⟨hs,_,G,m,s2 j o z,by rw [jY X];exact eE,by rw [X];simp;omega,λ_=>?_,λ g v hg=>?_⟩
   .unfold blk;rw [Nc];by_cases h2:1<hs.length
    .rw [List.getLast?_drop,if_neg o_];have d:hs≠[]:=λ e=>by subst e;simp at hpos
     rw [Ku d];rfl
    .have:hs.drop 1=[]:=Ab o_;rw [this];simp only [List.getLast?_nil,Option.none_or];have h1l:hs.length=1:=o_;have ht:t=[]:=by have:=congrArg Ko F;simp at this;exact Bc o_
     subst ht;rw [Ar] at F;rw [<-F,DL hl]
   .have:=hat g v hg;rw [jY X,cL eE] at this;exact this
  .have hjl:j<obK'.length:=(Ad.1 G).1;have eE:(mF ks ob obK')[ac.length+(j-ks.length)]? =some hs:=by unfold mF;rw [Al (by simp;rw [h.len];omega),Ca,<-G];congr 1;simp [h.len];omega
   refine ⟨hs,hs,G,m,s2 j o z,by rw [mR o_];exact eE,by rw [Bm o_];simp,λ_=>rfl,λ g v hg=>?_⟩;simpa [lP,qK,Bm (show ks.length<=j by omega)] using hg
 have ownsE:∀ j o,(tK ks ac.length ac j o).owns=o.owns:=λ j o=>by cases o<;>rfl
 have l:∀ {i b:Nat},aM (mF ks ob obK') (jH ks ac.length ac 0 ao ac) i b->(∃ j,i=fA ks ac.length j/\aM obK' ao j b)\/((∀ j,j<ao.length->fA ks ac.length j≠i)/\aM ob ac i b):=by
  rintro i b ⟨c,hs,H,F,e3,e4⟩;rcases cls (Ad.1 H).1 with ⟨j,z,rfl⟩ | ⟨C,d⟩
  .obtain ⟨J,K,g1,A,g3,g4,_,g5,_⟩:=Y (Ac z);rw [g3] at H;rw [g4] at e3;cases H;cases e3;rw [ownsE] at F;exact .inl ⟨j,rfl,(dG (Ac z) g1).2 ⟨F,by rw [<-g5 F];exact e4⟩⟩
  .obtain ⟨o1,o2⟩:=R C d;rw [o1] at H;rw [o2] at e3;exact .inr ⟨d,c,hs,H,F,e3,e4⟩
 have hle:dY ob (mF ks ob obK'):=by
  intro i hs C;have O:=(Ad.1 C).1;cases hq:pos i 0 ks with
  | none=>
   refine ⟨hs,?_,Cw _⟩;unfold mF;rw [Ah q_,Bi,Dr O];simp [hq,C]
  | some j=>
   refine ⟨hs++(obK'.getD j []).drop 1,?_,⟨_,rfl⟩⟩;unfold mF;rw [Ah q_,Bi,Dr O];simp [hq,C]
 have f:∀ {i b:Nat},(∀ j,j<ao.length->fA ks ac.length j≠i)->aM ob ac i b->(∀ j,¬ aM (fV 0 ob ac 0 ks) (gQ 0 ks ac) j b)/\b<w.heap.size:=by intro i b d n;refine ⟨λ j z=>?_,h.lt i b n⟩;obtain ⟨k,hk',ha'⟩:=c2 j b z;have:=h.inj i k b n ha';subst this;exact d j (by have:=(Ad.1 hk').1;omega) (jY hk')
 refine ⟨⟨h'.imm,by rw [hEl,s1],λ i c r=>?_,λ i b n=>?_,λ i i' b n hb=>?_⟩,⟨s.imm,λ b o y hy=>?_,hle,s.os,s.tape,s.output,s.size,λ b hb hn=>s.keep b hb λ j z=>?_,λ i b n=>?_⟩,λ i hs hd G=>?_⟩
 .rcases cls (Ad.1 r).1 with ⟨j,z,rfl⟩ | ⟨C,d⟩
  .obtain ⟨J,K,g1,A,g3,g4,g5,g6,g7⟩:=Y (Ac z);rw [g3] at r;cases r;refine ⟨K,g4,?_⟩;have one0:∀ {p:Value},J=[p]->J.length=1->(match ks[j]? with | some k=>fZ (aB ac k) | none=>0)=0\/True:=λ_ _=>.inr trivial;have single:∀ {b:Nat} {p:Value},J=[p]->((∃ q,p= .pointer (some ⟨q,0,none⟩))\/(∃ q,p= .map (some q)))->K=[p]:=by
    intro b p e hp;have hcur:(match ks[j]? with | some k=>fZ (aB ac k) | none=>0)=0:=by
     cases hq:ks[j]? with
     | none=>rfl
     | some k=>
      have L:=g7 0 p (by rw [e];rfl);have Z:=k1 j k hq;obtain ⟨W,hhk,m⟩:=h.obj k _ (fS Z);have hl:=h.histLen Z hhk;have Q:(fV 0 ob ac 0 ks)[j]? =some (lI 0 j (aB ac k) W):=by rw [jS,hq];simp [hhk]
      obtain ⟨hs3,H,t,F⟩:=s.hs j _ Q;rw [g1] at H;cases H;have hc1:(lI 0 j (aB ac k) W).length=1:=by rw [wJ hl];simp
      have hc0:(lI 0 j (aB ac k) W)[0]? =W[fZ (aB ac k)]?:=B2 hl (by rw [pS];simp);have a:W[fZ (aB ac k)]? =some p:=by
       rw [<-hc0];have:J[0]? =some p:=by rw [e];rfl
       rw [<-F,Ah o_] at this;exact this
      show fZ (aB ac k)=0;cases r:aB ac k with
      | row g sz e xs=>
       rw [r] at m a;obtain ⟨_,v',u,cv,D,_⟩:=m;simp only [fZ] at a;rw [u] at a;cases a;rcases dX D with ⟨q,_⟩ | ⟨_,_,q,_⟩<;>rcases hp with ⟨b,hp⟩ | ⟨b,hp⟩<;>(rw [q] at hp;cases hp)
      | tail g sz e=>
       rw [r] at m a;obtain ⟨_,v',u,n',cv,D,_⟩:=m;simp only [fZ] at a;rw [u] at a;cases a;rcases dX D with ⟨q,_⟩ | ⟨_,_,q,_⟩<;>rcases hp with ⟨b,hp⟩ | ⟨b,hp⟩<;>(rw [q] at hp;cases hp)
      | bun g I=>
       rw [r] at m a;obtain ⟨_,bs,u,_⟩:=m;simp only [fZ] at a;rw [u] at a;cases a;rcases hp with ⟨b,hp⟩ | ⟨b,hp⟩<;>cases hp
      | _=>rfl
    rw [hcur,e] at g5;have L:=g7 0 p (by rw [e];rfl);have hG:lP ks ac j 0=0:=by unfold lP;rw [qK];omega
    rw [hG] at L
    match K,g5,L with
    | [x],_,L=>simp at L;rw [L]
   have B:∀ g,J.length=g+1->K.length=lP ks ac j g+1:=λ g hg=>by
    rw [g5,hg];unfold lP;rw [qK];cases ks[j]? with
    | none=>simp
    | some k=>simp;omega
   cases r:ao[j] with
   | dead=>exact trivial
   | cells T cs=>
    rw [r] at A;obtain ⟨b,rfl,N,cv,u,D,a4,a5⟩:=A;obtain ⟨m1,m2⟩:=cP (h.embV (M':=M') hk s.hs hcl 4) D a5;exact ⟨b,single (b:=b) rfl (.inl ⟨b,rfl⟩),N,cv,u,m1,a4,m2⟩
   | fcells cs=>
    rw [r] at A;obtain ⟨b,rfl,N⟩:=A;exact ⟨b,single (b:=b) rfl (.inl ⟨b,rfl⟩),N⟩
   | row g sz e xs=>
    rw [r] at A;obtain ⟨N,v,u,D⟩:=A;exact ⟨B g N,v,g7 g v u,D⟩
   | frow g sz xs=>
    rw [r] at A;obtain ⟨v,u,D⟩:=A;exact ⟨v,g7 g v u,D⟩
   | tail g sz e=>
    rw [r] at A;obtain ⟨N,v,u,D⟩:=A;exact ⟨B g N,v,g7 g v u,D⟩
   | mp ag es=>
    rw [r] at A;obtain ⟨b,rfl,N,u⟩:=A;exact ⟨b,single (b:=b) rfl (.inr ⟨b,rfl⟩),N,u⟩
   | bun g I=>
    rw [r] at A;obtain ⟨N,v,u,D⟩:=A;exact ⟨B g N,v,g7 g _ u,D⟩
  .obtain ⟨o1,o2⟩:=R C d;rw [o1] at r;obtain ⟨hs,G,m⟩:=h.obj i c r;refine ⟨hs,by rw [o2];exact G,m.mono s.imm hle (λ b p1 p2 o hno y hy=>?_) (λ b c' p1 p2 hc'=>?_)⟩
   .obtain ⟨n1,n2⟩:=f d ((dG r G).2 ⟨p1,p2⟩);rcases s.new b o y hy with q | q | ⟨j,q⟩
    .exact hno y q
    .omega
    .exact n1 j q
   .obtain ⟨n1,n2⟩:=f d ((dG r G).2 ⟨p1,p2⟩);rw [s.keep b n2 n1];exact hc'
 .rcases l n with ⟨j,_,n⟩ | ⟨_,n⟩
  .exact h'.lt j b n
  .exact Fh (h.lt i b n) s.size
 .have P:∀ {i j:Nat},(∀ j,j<ao.length->fA ks ac.length j≠i)->aM ob ac i b->aM obK' ao j b->False:=by
   intro i j d n hb;obtain ⟨n1,n2⟩:=f d n;rcases s.fresh j b hb with ⟨j',q⟩ | q
   .exact n1 j' q
   .omega
  rcases l n with ⟨j,H,U⟩ | ⟨d,U⟩<;>rcases l hb with ⟨j',F,S⟩ | ⟨hne',S⟩
  .rw [H,F,h'.inj j j' b U S]
  .exact (P hne' S U).elim
  .exact (P d U S).elim
  .exact h.inj i i' b U S
 .rcases s.new b o y hy with q | q | ⟨j,q⟩
  .exact .inl q
  .omega
  .obtain ⟨k,_,n⟩:=c2 j b q;exact .inr (.inr ⟨k,n⟩)
 .obtain ⟨k,_,n⟩:=c2 j b z;exact hn k n
 .rcases l n with ⟨j,_,n⟩ | ⟨_,n⟩
  .rcases s.fresh j b n with ⟨j',q⟩ | q
   .obtain ⟨k,_,ha'⟩:=c2 j' b q;exact .inl ⟨k,ha'⟩
   omega
  .exact .inl ⟨i,n⟩
 .have C:=(Ad.1 hd).1;have d:∀ j,j<ao.length->fA ks ac.length j≠i:=by
   intro j z e;by_cases V:j<ks.length
   .have X:=Ac V;rw [jY X] at e;have Z:=k1 j _ X;rw [e,jF hd] at Z;cases Z
   .rw [mR o_] at e;omega
  obtain ⟨o1,o2⟩:=R C d;rw [o1,o2];exact ⟨hd,G⟩
end
section
variable {M M':Imm} {ob ob':Hs} {ac obs1 obs1' ao:au} {w w':World}
def YR(obs1 ac:au):Prop:=obs1.length=ac.length/\∀ (k:Nat),obs1[k]? =ac[k]?\/obs1[k]? =some .dead
def YR.alive(h:YR obs1 ac){k b:Nat}(g:aM ob obs1 k b):aM ob ac k b:=by
 obtain ⟨c,hs,a,d,f,e⟩:=g;rcases h.2 k with q | q
 .rw [q] at a;exact ⟨c,hs,a,d,f,e⟩
 .rw [q] at a;cases a;cases d
def Mem.weak(h:Mem M ob ac w)(a:YR obs1 ac):Mem M ob obs1 w:=by
 refine ⟨h.imm,h.len.trans a.1.symm,λ k c d=>?_,λ k b f=>h.lt k b (a.alive f),λ i j b f g=>h.inj i j b (a.alive f) (a.alive g)⟩;rcases a.2 k with q | q
 .rw [q] at d;exact h.obj k c d
 .rw [q] at d;cases d;have e:k<ob.length:=by rw [h.len,<-a.1];grind
  exact ⟨ob[k],Ac e,trivial⟩
def Mem.revive(h:Mem M ob ac w)(x:YR obs1 ac)(d:Ext M ob obs1 w M' ob' obs1' w')(hs:dB ob obs1 ob' obs1')(A:Mem M' ob' obs1' w')(hl:ao.length=obs1'.length)
  (C:∀ (k:Nat) c,ao[k]? =some c->obs1'[k]? =some c\/(obs1[k]? =some .dead/\(∃ hs,ob[k]? =some hs/\hs≠[])/\ac[k]? =some c)):
  Mem M' ob' ao w'/\Ext M ob ac w M' ob' ao w'/\dB ob ac ob' ao:=by
 have a:∀ {k b:Nat},aM ob' ao k b->aM ob' obs1' k b\/(obs1[k]? =some .dead/\aM ob ac k b):=by
  rintro k b ⟨c,hs',s,D,R,Q⟩;rcases C k c s with q | ⟨m,⟨l,n,F⟩,z⟩
  .exact .inl ⟨c,hs',q,D,R,Q⟩
  .have:=((hs k l m n).1 F).2;rw [R] at this;cases this;exact .inr ⟨m,c,hs',z,D,n,Q⟩
 have f:∀ {k b:Nat},obs1[k]? =some .dead->aM ob ac k b->∀ j,¬ aM ob obs1 j b:=by intro k b W e j B;have:=h.inj k j b e (x.alive B);subst this;obtain ⟨c,_,s,D,_⟩:=B;rw [W] at s;cases s;cases D
 refine ⟨⟨A.imm,A.len.trans hl.symm,λ k c S=>?_,λ k b e=>?_,λ i j b e H=>?_⟩,⟨d.imm,λ b o y G=>?_,d.hs,d.os,d.tape,d.output,d.size,λ b H X=>d.keep b H λ j B=>X j (x.alive B),λ k b e=>?_⟩,λ k hs' h1 P=>⟨λ h3=>?_,λ h3 V=>?_⟩⟩
 .rcases C k c S with q | ⟨m,⟨l,n,F⟩,z⟩
  .exact A.obj k c q
  .obtain ⟨U,s,N⟩:=h.obj k c z;rw [n] at s;cases s;refine ⟨l,((hs k l m n).1 F).2,N.mono d.imm d.hs (λ b K L o I y G=>?_) (λ b c' K L J=>?_)⟩
   .have e:aM ob ac k b:=(dG z n).2 ⟨K,L⟩;rcases d.new b o y G with q | q | ⟨j,q⟩
    .exact I y q
    .have:=h.lt k b e;omega
    .exact f m e j q
   .have e:aM ob ac k b:=(dG z n).2 ⟨K,L⟩;rw [d.keep b (h.lt k b e) (f m e)];exact J
 .rcases a e with q | ⟨_,q⟩
  .exact A.lt k b q
  .exact Fh (h.lt k b q) d.size
 .have g:∀ {i j:Nat},aM ob' obs1' i b->obs1[j]? =some .dead->aM ob ac j b->False:=λ{i j} p q r=>by
   rcases d.fresh i b p with ⟨Z,t⟩ | t
   .exact f q r Z t
   .have:=h.lt j b r;omega
  rcases a e with q | ⟨m,q⟩<;>rcases a H with r | ⟨Y,r⟩
  .exact A.inj i j b q r
  .exact (g q Y r).elim
  .exact (g r m q).elim
  .exact h.inj i j b q r
 .rcases d.new b o y G with q | q | ⟨j,q⟩
  .exact .inl q
  .omega
  .exact .inr (.inr ⟨j,x.alive q⟩)
 .rcases a e with q | ⟨_,q⟩
  .rcases d.fresh k b q with ⟨j,t⟩ | t
   .exact .inl ⟨j,x.alive t⟩
   omega
  .exact .inl ⟨k,q⟩
 .have u:obs1[k]? =some .dead:=by
   rcases x.2 k with q | q
   .grind
   .exact q
  obtain ⟨O,T⟩:=(hs k hs' u P).1 h3;refine ⟨?_,T⟩;have v:k<ao.length:=by rw [hl];exact (Ad.1 O).1
  rcases C k _ (Ac v) with q | ⟨_,_,q⟩
  .rw [O] at q;rw [Ac v,<-q]
  .rw [h1] at q;rw [Ac v,<-q]
 .have u:obs1[k]? =some .dead:=by
   rcases x.2 k with q | q
   .grind
   .exact q
  rcases C k _ V with q | ⟨_,⟨l,n,F⟩,_⟩
  .exact (hs k hs' u P).2 h3 q
  grind
end
def aK(P:Program)(t:TypeId):Bool:=match P.underlying t with | some (.struct _) | some (.array _ _)=>true | _=>false
def sM(P:Program):List Field->List (Nat×Nat×Bool)->Prop
 | [],[]=>True
 | f::fs,(off,sz,ag)::r=>f.offset=off/\(P.info? f.type).map (·.size)=some sz/\(P.underlying f.type).isSome=true/\aK P f.type=ag/\sM P fs r
 | _,_=>False
def zR(P:Program)(t:Nat)(a:Bool)(size:Nat):TK->Prop
 | .int k=>P.underlying t=some (.int k)/\a=false/\size=1
 | .bool=>P.underlying t=some .bool/\a=false/\size=1
 | .str=>P.underlying t=some .string/\a=false/\size=1
 | .strct j=>(∃ c,P.underlying t=some (.struct c)/\sM P c.toList j)/\a=true
 | .arr n b h=>(∃ e,P.underlying t=some (.array n e)/\(P.info? e).map (·.size)=some b/\(P.underlying e).isSome=true/\aK P e=h)/\a=true
 | .slc e b g=>(P.underlying t=some (.slice e)/\∃ i z,P.info? e=some i/\i.size=b/\i.bytes=g/\i.zero=some z/\z.cells.size=b/\z.cells.toList.all (·.oneCell')=true)/\a=false/\size=1
 | .ptr e=>P.underlying t=some (.pointer e)/\a=false/\size=1
 | .iface=>(∃ f,P.underlying t=some (.interface f))/\a=false/\size=1
 | .mp k e=>P.underlying t=some (.map k e)/\a=false/\size=1
 | .other=>(∃ d,P.underlying t=some d/\(∀ f,d≠ .interface f))/\aK P t=a
structure TIOK(P:Program)(t:Nat)(ti:TI):Prop where
 info:∃ i z,P.info? t=some i/\i.size=ti.size/\i.zero=some z/\z.cells.size=ti.size/\Rep (λ_ _ _=>False) [] z ti.zero/\z.cells.toList.all (·.oneCell')=true/\ti.zero≠ .undef
 kind:zR P t ti.agg ti.size ti.kind
def aOG(P:Program)(t n:Nat):Prop:=∀ (w:World) (x y:Operand) (xs ys:ay) (vs us:ba) (c:Bool),ceq xs ys=some c->xs.length=n->
 cM (λ_ _ _=>False) [] vs xs->cM (λ_ _ _=>False) [] us ys->
 (∀ op,(eqGuard op t x y (.agg vs.toArray) (.agg us.toArray)).run P w= .ok () w)/\(Op.equal t (.agg vs.toArray) (.agg us.toArray)).run P w= .ok c w
def QE(P:Program)(t n:Nat):Prop:=∀ (w:World) (a b:ax),a.length=n->b.length=n->(Op.equal t (iJ true a) (iJ true b)).run P w= .ok (decide (a=b)) w/\∀ c,(Ia c 10000 t (iJ true a)).run P w= .ok () w
def YU(P:Program)(t n:Nat):Prop:=aOG P t n/\QE P t n
structure ae(E:Env):Prop where
 mix:E.P.follows .mixedOrders=true
 tab:∀ t ti,dL E.T t=some ti->TIOK E.P t ti
 mth:∀ t name g,aFo E.mt t name=some g->∀ v w,(method (E.P.types.size+Made.depth) t v name).run E.P w= .ok (g,v) w
 fl:∀ t,0<EZ E.fl t->YU E.P t (EZ E.fl t)
def zR.isAgg{P:Program}{t:Nat}{g:Bool}{size:Nat}{k:TK}(h:zR P t g size k):(P.underlying t).isSome=true/\aK P t=g:=by
 cases k with
 | strct j=>obtain ⟨⟨f,h1,_⟩,c⟩:=h;simp [aK,h1,c]
 | arr n i l=>obtain ⟨⟨f,h1,_⟩,c⟩:=h;simp [aK,h1,c]
 | slc e a b=>obtain ⟨⟨h1,_⟩,c,_⟩:=h;simp [aK,h1,c]
 | iface=>obtain ⟨⟨m,h1⟩,c,_⟩:=h;simp [aK,h1,c]
 | other=>obtain ⟨⟨d,h1,_⟩,c⟩:=h;grind
 | _=>obtain ⟨h1,c,_⟩:=h;simp [aK,h1,c]
def CP{P:Program}{t:Nat}(h:(P.underlying t).isSome=true)(w:World):(isAgg t).run P w= .ok (aK P t) w:=by obtain ⟨d,hd⟩:=Dl.1 h;unfold isAgg;simp only [Bk,run_underlying hd,Au,aK,hd];cases d<;>rfl
def af{P:Program}{t:Nat}{s:Nat}(h:(P.info? t).map (·.size)=some s)(w:World):(sizeOf t).run P w= .ok s w:=by obtain ⟨i,a,rfl⟩:=Co.1 h;simp [sizeOf,typeInfo,a]
def TIOK.size?{P:Program}{t:Nat}{a:TI}(h:TIOK P t a):(P.info? t).map (·.size)=some a.size:=by
 obtain ⟨i,z,c,b,_⟩:=h.info
 grind
def sM.get{P:Program}:∀ {a:List Field} {b:List (Nat×Nat×Bool)},sM P a b->∀ {i:Nat} {off sz:Nat} {c:Bool},nth b i=some (off,sz,c)->
  ∃ f,a[i]? =some f/\f.offset=off/\(P.info? f.type).map (·.size)=some sz/\(P.underlying f.type).isSome=true/\aK P f.type=c
 | [],[],_,i,_,_,_,hn=>by cases i<;>cases hn
 | [],_::_,h,_,_,_,_,_=>h.elim
 | _::_,[],h,_,_,_,_,_=>h.elim
 | f::a,(off',sz',ag')::b,h,i,off,sz,c,hn=>by
  obtain ⟨h1,e,h3,j,d⟩:=h;cases i with
  | zero=>cases hn;exact ⟨f,rfl,h1,e,h3,j⟩
  | succ i=>
   obtain ⟨g,k,r⟩:=d.get (show nth b i=_ from hn);exact ⟨g,by simp;omega,r⟩
def mU{M:Imm}{ob:Hs}{z:Value}{a:aa}(h:Rep (λ_ _ _=>False) [] z a):Rep M ob z a:=h.mono (λ_ _ _ h=>h.elim) (IE ob)
def Sd(VS:aa->au->Prop)(CS:Fn->ay->Prop)(PS:aa->Prop)(ac:au)(base:Nat):OR->Prop
 | .no=>True
 | .val v=>VS v ac
 | .mkf fn d cs=>VS (.func fn d cs) ac
 | .need p r=>p->Sd VS CS PS ac base r
 | .alt p v w=>(p->VS v ac)/\VS w ac
 | .idx n f=>∀ i:Nat,n=(i:Int)->Sd VS CS PS ac base (f i)
 | .elem xs i f=>∀ x,xs[i]? =some x->Sd VS CS PS ac base (f x)
 | .byte l i=>∀ c,l[i]? =some c->VS (.int .u8 (c.toNat:Int)) ac
 | .text xs=>∀ l:aw,xs=l.map ub->(l.length:Int)<=9223372036854775807->VS (.str l) ac
 | .find es key f=>Sd VS CS PS ac base (f (cG es key))
 | .born x v=>VS v (bX ac base x)
 | .upd k x v=>VS v (bX ac k x)
 | .nilq xs a=>∃ b:Bool,(b=true->xs=[])/\VS (.bool (if a then !b else b)) ac
 | .call f args=>CS f args
 | .pan v=>PS v
def Sd.mono{VS e:aa->au->Prop}{CS j:Fn->ay->Prop}{PS d:aa->Prop}{ac:au}{base:Nat}(h1:∀ v o,VS v o->e v o)(g:∀ f a,CS f a->j f a)(h3:∀ v,PS v->d v):
  ∀ {r:OR},Sd VS CS PS ac base r->Sd e j d ac base r
 | .no,_=>trivial
 | .val v,h=>h1 _ _ h
 | .mkf fn fs cs,h=>h1 _ _ h
 | .need p r,h=>λ hp=>Sd.mono h1 g h3 (h hp)
 | .alt p v w,h=>⟨λ hp=>h1 _ _ (h.1 hp),h1 _ _ h.2⟩
 | .idx n f,h=>λ i t=>Sd.mono h1 g h3 (h i t)
 | .elem xs i f,h=>λ x s=>Sd.mono h1 g h3 (h x s)
 | .byte l i,h=>λ c q=>h1 _ _ (h c q)
 | .text xs,h=>λ l hl m=>h1 _ _ (h l hl m)
 | .find es key f,h=>Sd.mono (r:=f (cG es key)) h1 g h3 h
 | .born x v,h=>h1 _ _ h
 | .upd k x v,h=>h1 _ _ h
 | .nilq xs neg,⟨b,m,h⟩=>⟨b,m,h1 _ _ h⟩
 | .call f args,h=>g _ _ h
 | .pan v,h=>h3 _ h
def PV(P:Program)(M:Imm)(ob:Hs)(w:World)(s:Sem Value)(ac:au)(v:aa)(o:au):Prop:=o=ac/\∃ u,s.run P w= .ok u w/\Rep M ob u v
abbrev PS0(P:Program)(M:Imm)(ob:Hs)(w:World)(s:Sem Value)(ac:au)(base:Nat)(r:OR):Prop:=Sd (PV P M ob w s ac) (λ_ _=>False) (λ_=>False) ac base r
def PS0.bind{P:Program}{M:Imm}{ob:Hs}{w:World}{s:Sem Value}{ac:au}{base:Nat}{f:aa->aa}(a:∀ v u,Rep M ob u v->Rep M ob u (f v)):∀ {r:OR},PS0 P M ob w s ac base r->PS0 P M ob w s ac base (r.bind λ v=>.val (f v))
 | .no,_=>trivial
 | .val v,⟨h1,u,h2,h3⟩=>⟨h1,u,h2,a _ _ h3⟩
 | .mkf fn fs cs,_=>trivial
 | .need p r,h=>λ hp=>PS0.bind a (r:=r) (h hp)
 | .alt p v w,_=>trivial
 | .idx n f',h=>λ i b=>PS0.bind a (r:=f' i) (h i b)
 | .elem xs i f',h=>λ x c=>PS0.bind a (r:=f' x) (h x c)
 | .byte l i,_=>trivial
 | .text xs,_=>trivial
 | .find es key f',_=>trivial
 | .born x v,_=>trivial
 | .upd k x v,_=>trivial
 | .nilq xs neg,_=>trivial
 | .call f' args,_=>trivial
 | .pan v,_=>trivial
structure VS1(P:Program)(ρv:Operand->Value)(op:Op)(ty:TypeId)(M:Imm)(ob:Hs)(ac:au)(w:World)(v:aa)(ao:au)(u:Value)(w':World)(M':Imm)(ob':Hs):Prop where
 run:∀ d pos after g,(execOp ρv ⟨d,op,ty,pos,after,g⟩).run P w= .ok (.value u) w'\/((execOp ρv ⟨d,op,ty,pos,after,g⟩).run P w= .ok .skip w'/\u=undef)
 ext:Ext M ob ac w M' ob' ao w'
 mem:Mem M' ob' ao w'
 still:dB ob ac ob' ao
 rep:Rep M' ob' u v
def VS(P:Program)(ρv:Operand->Value)(op:Op)(ty:TypeId)(M:Imm)(ob:Hs)(ac:au)(w:World)(v:aa)(ao:au):Prop:=∃ u w' M' ob',VS1 P ρv op ty M ob ac w v ao u w' M' ob'
def CS(P:Program)(ρv:Operand->Value)(op:Op)(ty:TypeId)(M:Imm)(ob:Hs)(w:World)(f:Fn)(args:ay):Prop:=
 ∃ b:ba,cM M ob b args/\∀ d pos a g,(execOp ρv ⟨d,op,ty,pos,a,g⟩).run P w=(JJ f b.toArray).run P w
def PS(P:Program)(ρv:Operand->Value)(op:Op)(ty:TypeId)(M:Imm)(w:World)(v:aa):Prop:=
 ∃ u,(∀ d pos a g,(execOp ρv ⟨d,op,ty,pos,a,g⟩).run P w= .halt (.panic u) w)/\Rep M [] u v
abbrev cS(P:Program)(ρv:Operand->Value)(op:Op)(ty:TypeId)(M:Imm)(ob:Hs)(ac:au)(w:World)(base:Nat)(r:OR):Prop:=
 Sd (VS P ρv op ty M ob ac w) (CS P ρv op ty M ob w) (PS P ρv op ty M w) ac base r
def cS.pv{P:Program}{ρv:Operand->Value}{op:Op}{ty:TypeId}{M:Imm}{ob:Hs}{ac:au}{w:World}{base:Nat}{r:OR}{s:Sem Value}(hm:Mem M ob ac w)
  (b:∀ d pos a g,execOp ρv ⟨d,op,ty,pos,a,g⟩=(s >>= λ v=>Pure.pure (.value v))) (h:PS0 P M ob w s ac base r):cS P ρv op ty M ob ac w base r:=
 Sd.mono (λ v o ⟨h1,u,c,h3⟩=>⟨u,w,M,ob,λ d pos a g=>.inl (by simp_all),h1▸Ext.refl _ _ _ _,h1▸hm,h1▸dB.refl _ _,h3⟩) (λ_ _ h=>h.elim) (λ_ h=>h.elim) h
def aCc{k:IntKind}{n:Int}(h:aJ4 k n=true):inR k n:=by
 unfold aJ4 at h;split at h
 .rename_i m;have:=Cu h;rw [show Int.ofNat m=(m:Int) from rfl];constructor
  .cases k<;>simp only [dA]<;>omega
  .cases k<;>simp only [aLT,bN] at * <;>omega
 .rename_i m;have:m<aFF k:=by simp_all
  constructor
  .cases k<;>simp only [aFF,dA] at * <;>omega
  .cases k<;>simp only [bN]<;>omega
def aJI(l:aw):aFv l=l.length:=by
 induction l with
 | nil=>rfl
 | cons c r a=>simp [aFv,a]
def mV{k:IntKind}{n:Int}(h:inR k n):k.wrap n=n:=by unfold inR dA bN at h;unfold IntKind.wrap;cases k<;>simp only [IntKind.bits,IntKind.signed] at * <;>simp at * <;>omega
def nD(k:IntKind)(n:Int):inR k (k.wrap n):=by unfold inR dA bN IntKind.wrap;cases k<;>simp only [IntKind.bits,IntKind.signed]<;>simp<;>(try split)<;>omega
def aFM{k:IntKind}{x y:Int}(h:inR k x):inR k (x.tmod y):=by
 obtain ⟨h1,f⟩:=h;have g:dA k<=0:=by cases k<;>decide
 have c:0<=bN k:=by cases k<;>decide
 by_cases d:0<=x
 .have a:=Int.tmod_nonneg y d;have b:x.tmod y<=x:=by have:=Int.natAbs_tmod x y;have:=Mi x.natAbs y.natAbs;omega
  exact ⟨by omega,by omega⟩
 .have e:x.tmod y= -((-x).tmod y):=by simp
  have a:=Int.tmod_nonneg y (show 0<= -x by omega);have b:(-x).tmod y<= -x:=by have:=Int.natAbs_tmod (-x) y;have:=Mi (-x).natAbs y.natAbs;omega
  exact ⟨by omega,by omega⟩
def aFN{k:IntKind}{x:Int}(p:Nat)(h:inR k x):inR k (x.fdiv (2 ^ p)):=by
 obtain ⟨h1,d⟩:=h;have c:dA k<=0:=by cases k<;>decide
 have b:0<=bN k:=by cases k<;>decide
 have hp:(0:Int)<2 ^ p:=Int.pow_pos d_;have a:(1:Int)<=2 ^ p:=o_;rw [Ei _ o_];generalize (2:Int) ^ p=q at hp a;constructor
 .refine Int.le_ediv_of_mul_le hp ?_;have:dA k*q<=dA k*1:=Int.mul_le_mul_of_nonpos_left c a;omega
 .refine Int.ediv_le_of_le_mul hp ?_;have:bN k*1<=bN k*q:=Kv a b;omega
def BB{k a:IntKind}(h:aFI k a=true):k=a:=by cases k<;>cases a<;>first | rfl | cases h
def sdc{VS:aa->au->Prop}{CS:Fn->ay->Prop}{PS:aa->Prop}{ac:au}{base:Nat}{b:Bool}{r:OR}(h:b=true->Sd VS CS PS ac base r):Sd VS CS PS ac base (bif b then r else .no):=by
 cases b with
 | true=>exact h rfl
 | false=>exact trivial
section
variable {P:Program} {E:Env} {M:Imm} {ob:Hs} {ac:au} {w:World} {base:Nat}
def wI(v:Value):Rep M ob v (aLa v):=by
 unfold aLa;split
 .exact .bool _
 .rename_i k n;cases h:aJ4 k n with
  | true=>exact .int _ _ (aCc h)
  | false=>exact .undef _
 .rename_i s;cases h:Gd (aFv s.data.toList) 1000000 with
  | true=>
   have:=Cu h;rw [aJI] at this;obtain ⟨⟨l⟩⟩:=s;exact .str l (by grind)
  | false=>exact .undef _
 .exact .nilslice
 .exact .nilptr
 .exact .nilmap
 .exact .nilfunc
 .exact .nilif
 .exact .undef _
def I6{op:BinOp}{t:TypeId}{k:IntKind}{x y n:Int}(a:(binOp op t (.int k x) (.int k y)).run P w= .ok (.int k (k.wrap n)) w):
  PS0 P M ob w (binOp op t (.int k x) (.int k y)) ac base (I7 k n):=
 ⟨λ hp=>⟨rfl,_,by rw [a,mV hp],.int _ _ hp⟩,rfl,_,a,.int _ _ (nD _ _)⟩
def aN8{op:BinOp}{t:TypeId}{k:IntKind}{x y:Int}(h:inR k x):PS0 P M ob w (binOp op t (.int k x) (.int k y)) ac base (aPQ op k x y):=by
 have c:∀ {op:BinOp} {n:Int},(binOp op t (.int k x) (.int k y)).run P w= .ok (.int k n) w->inR k n->PS0 P M ob w (binOp op t (.int k x) (.int k y)) ac base (.val (.int k n)):=λ h1 g=>⟨rfl,_,h1,.int _ _ g⟩
 have a:∀ {op:BinOp} {b:Bool},(binOp op t (.int k x) (.int k y)).run P w= .ok (.bool b) w->PS0 P M ob w (binOp op t (.int k x) (.int k y)) ac base (.val (.bool b)):=λ h1=>⟨rfl,_,h1,.bool _⟩
 have d:∀ op,inR k (eG op k x y):=λ op=>by unfold eG;cases op<;>exact nD _ _
 cases op with
 | add=>exact I6 (by rw [binOp_add];rfl)
 | sub=>exact I6 (by rw [binOp_sub];rfl)
 | mul=>exact I6 (by rw [binOp_mul];rfl)
 | quo=>
  intro f;have e:(binOp .quo t (.int k x) (.int k y)).run P w= .ok (.int k (k.wrap (x.tdiv y))) w:=by rw [binOp_quo];simp only [Op.intDiv,if_neg f];rfl
  exact ⟨λ hp=>⟨rfl,_,by rw [e,mV hp],.int _ _ hp⟩,rfl,_,e,.int _ _ (nD _ _)⟩
 | rem=>
  intro f;exact c (by rw [binOp_rem];simp only [Op.intDiv,if_neg f];rfl) (aFM h)
 | and=>exact c (by rw [binOp_and];rfl) (d .and)
 | or=>exact c (by rw [binOp_or];rfl) (d .or)
 | xor=>exact c (by rw [binOp_xor];rfl) (d .xor)
 | andNot=>exact c (by rw [binOp_andNot];rfl) (d .andNot)
 | shl=>exact trivial
 | shr=>exact trivial
 | eql=>exact a (by rw [binOp_eql];rfl)
 | neq=>exact a (by rw [binOp_neq];rfl)
 | lss=>exact a (by rw [binOp_lss];rfl)
 | leq=>exact a (by rw [binOp_leq];rfl)
 | gtr=>exact a (by rw [binOp_gtr];rfl)
 | geq=>exact a (by rw [binOp_geq];rfl)
def eT(l:aw):(⟨l.toArray⟩:ByteArray).toList=l:=by simp
def WQ(l:aw)(i j:Nat):(⟨l.toArray⟩:ByteArray).extract i j=⟨((l.take j).drop i).toArray⟩:=by
 have h:=Lib.extract_data ⟨l.toArray⟩ i j;have:((⟨l.toArray⟩:ByteArray).extract i j).data=((l.take j).drop i).toArray:=by rw [<-Array.toList_inj,h];simp [List.drop_take]
 cases a:(⟨l.toArray⟩:ByteArray).extract i j with
 | mk d=>grind
def B6{M':Imm}{ob':Hs}:∀ {xs ys:ay} {c:Bool},ceq xs ys=some c->∀ {vs:ba},cM M ob vs xs->cM M' ob' vs xs:=by
 intro xs;induction xs with
 | nil=>intro ys c _ vs h;exact ⟨h.1,λ i v a _ m=>by simp at m⟩
 | cons x xs l=>
  intro ys c h vs d;cases ys with
  | nil=>cases x<;>cases h
  | cons y ys=>
   cases x with
   | int k a=>
    cases y with
    | int o b=>
     simp only [ceq] at h;obtain ⟨_,p⟩:=fW h;cases j:ceq xs ys with
     | none=>grind
     | some n=>
      match vs,d with
      | [],d=>exact absurd d.1 s_
      | v::vs,d=>
       have g:=l j (vs:=vs) ⟨by simpa using d.1,λ i u b f e=>d.2 (i+1) u b (by grind) q_⟩;refine ⟨by simpa using d.1,λ i u b f e=>?_⟩;cases i with
       | zero=>
        simp at f e;subst f e;have:=(d.2 0 v _ rfl rfl).int_inv;rw [this.1];exact .int _ _ this.2
       | succ i=>exact g.2 i u b (by simpa using f) (by simpa using e)
    | _=>cases h
   | _=>cases h
def UO:∀ {xs ys:ay} {c:Bool},ceq xs ys=some c->∃ e,ceq ys xs=some e:=by
 intro xs;induction xs with
 | nil=>intro ys c h;cases ys with
  | nil=>grind
  | cons y ys=>cases h
 | cons x xs i=>
  intro ys c h;cases ys with
  | nil=>cases x<;>cases h
  | cons y ys=>
   cases x with
   | int k a=>
    cases y with
    | int l b=>
     simp only [ceq] at h;obtain ⟨f,j⟩:=fW h;have:=BB f;subst this;cases g:ceq xs ys with
     | none=>grind
     | some e=>
      obtain ⟨d,hd⟩:=i g;exact ⟨(b==a)&&d,by simp only [ceq,f,cond_true,hd]⟩
    | _=>cases h
   | _=>cases h
def CQ{P:Program}{w:World}{t e:TypeId}{a:Addr}{j:TypeInfo}(d:Nat)(h:P.underlying t=some (.pointer e))(b:P.info? e=some j):(Op.equalIn (d+1) t (.pointer (some a)) (.pointer (some a))).run P w= .ok true w:=by by_cases hz:j.size=0<;>simp [Op.equalIn,run_underlying h,sizeOf,typeInfo,b,hz,run_sameAddr_same]
def aNE{P:Program}{t e:TypeId}(h:P.underlying t=some (.pointer e)):P.underlying t=some (.pointer (P.pointee t)):=by simp [Program.pointee,h]
abbrev PZ(op:BinOp)(t:TypeId)(x y:Operand)(vx vy:Value):Sem Value:=eqGuard op t x y vx vy >>= λ_=>binOp op t vx vy
def aLQ{s s':Sem Value}(h:∀ {r},s'.run P w=r->s.run P w=r){r:OR}(k:PS0 P M ob w s' ac base r):PS0 P M ob w s ac base r:=
 Sd.mono (λ_ _ ⟨h1,u,a,h3⟩=>⟨h1,u,h a,h3⟩) (λ_ _ h=>h) (λ_ h=>h) k
def aEX{op:BinOp}{t:TypeId}{x y:Operand}{a b:Value}{c:Bool}(h1:∀ op,eqGuard op t x y a b=Pure.pure ())(d:∀ op,op= .eql\/op= .neq->binOp op t a b=(Op.equal t a b >>= λ r=>Pure.pure (.bool (if op= .eql then r else !r))))
  (h3:(Op.equal t a b).run P w= .ok c w):PS0 P M ob w (PZ op t x y a b) ac base (A1 op c):=by
 unfold A1;split
 .refine ⟨rfl,.bool c,?_,.bool c⟩;simp only [PZ,h1,d _ (.inl rfl)];simp only [Bk,Ci,Au,h3,if_true]
 .refine ⟨rfl,.bool (!c),?_,.bool _⟩;simp only [PZ,h1,d _ (.inr rfl)];simp only [Bk,Ci,Au,h3];rfl
 .exact trivial
def aNe{op:BinOp}{t:TypeId}{x y:Operand}{a b:Value}{c:Bool}{xs:ay}(h1:∀ op,eqGuard op t x y a b=Pure.pure ())(e:∀ op,op= .eql\/op= .neq->binOp op t a b=(Op.equal t a b >>= λ r=>Pure.pure (.bool (if op= .eql then r else !r))))
  (h3:(Op.equal t a b).run P w= .ok c w) (d:c=true->xs=[]):PS0 P M ob w (PZ op t x y a b) ac base (aNf op xs):=by
 have:=aEX (M:=M) (ob:=ob) (ac:=ac) (base:=base) (op:=op) h1 e h3;unfold aNf;unfold A1 at this;split
 .exact ⟨c,d,this⟩
 .exact ⟨c,d,this⟩
 .exact trivial
def vO{P:Program}(w:World)(d:Nat)(t u:TypeId)(x:Value)(h:P.underlying t=some (.interface (P.methodsAt t))):(Op.equalIn (d+1) t .nilIface (.iface u x)).run P w= .ok false w:=by simp [Op.equalIn,run_underlying h]
def aOb(hE:ae E){og:Nat->ab}{op:BinOp}{t:TypeId}{x y:Operand}{u v:Value}{a b:aa}(l:Rep M ob u a)(m:Rep M ob v b):PS0 E.P M ob w (PZ op t x y u v) ac base (aOc E og (isC x||isC y) op t a b):=by
 unfold aOc;split
 .rename_i k x' H F;obtain ⟨rfl,N⟩:=l.int_inv;obtain ⟨rfl,ry⟩:=m.int_inv;have z:∀ op,(eqGuard op t x y (.int k x') (.int H F))=Pure.pure ():=λ op=>by cases op<;>rfl
  refine aLQ (s':=binOp op t (.int k x') (.int H F)) (λ h=>by grind) ?_;split
  .intro S;have e:(binOp .shl t (.int k x') (.int H F)).run E.P w= .ok (.int k (k.wrap (x'*2 ^ min F.toNat k.bits))) w:=by rw [binOp_shl];simp only [Op.shift];simp;omega
   refine ⟨λ⟨L,O⟩=>⟨rfl,_,?_,.int _ _ O⟩,rfl,_,e,.int _ _ (nD _ _)⟩;rw [e,Gy L,mV O]
  .rintro ⟨S,L⟩;refine ⟨rfl,_,?_,.int _ _ (aFN _ N)⟩;rw [binOp_shr];simp only [Op.shift];rw [if_neg o_,Gy L];rfl
  .refine sdc λ f=>?_;have:=BB f;subst this;exact aN8 N
 .rename_i l1 l2;obtain ⟨rfl,N⟩:=l.str_inv;obtain ⟨rfl,ry⟩:=m.str_inv;have z:∀ op,(eqGuard op t x y (.string ⟨l1.toArray⟩) (.string ⟨l2.toArray⟩))=Pure.pure ():=λ op=>by cases op<;>rfl
  refine aLQ (s':=binOp op t (.string ⟨l1.toArray⟩) (.string ⟨l2.toArray⟩)) (λ h=>by grind) ?_;split
  .intro S;refine ⟨rfl,.string ⟨(l1++l2).toArray⟩,?_,.str _ (by grind)⟩;rw [binOp_string_add];rw [run_string_add_sum w _ _ (by rw [tD,tD];omega),ByteArray.mk_append_mk]
  .exact ⟨rfl,_,by rw [binOp_string_eql,eT,eT];rfl,.bool _⟩
  .exact ⟨rfl,_,by rw [binOp_string_neq,eT,eT];rfl,.bool _⟩
  .exact ⟨rfl,_,by rw [binOp_string_lss,eT,eT];rfl,.bool _⟩
  .exact ⟨rfl,_,by rw [binOp_string_leq,eT,eT];rfl,.bool _⟩
  .exact ⟨rfl,_,by rw [binOp_string_gtr,eT,eT];rfl,.bool _⟩
  .exact ⟨rfl,_,by rw [binOp_string_geq,eT,eT];rfl,.bool _⟩
  .exact trivial
 .rename_i xs ys;refine sdc λ z=>?_;obtain ⟨Z,K⟩:=bD z;have R:0<EZ E.fl t:=by simp_all
  have q:=aE K;rw [B5] at q;obtain ⟨vs,rfl,hl,Q⟩:=l.agg_inv;obtain ⟨us,rfl,A,D⟩:=m.agg_inv;split
  .rename_i c i;obtain ⟨V,p⟩:=UO i;obtain ⟨J,G⟩:=(hE.fl t R).1 w x y _ _ vs us c i q (B6 i ⟨hl,Q⟩) (B6 p ⟨A,D⟩);refine ⟨rfl,.bool c,?_,.bool c⟩;simp only [PZ,Bk,J,Au,binOp,G,Ci]
  .rename_i c i;obtain ⟨V,p⟩:=UO i;obtain ⟨J,G⟩:=(hE.fl t R).1 w x y _ _ vs us c i q (B6 i ⟨hl,Q⟩) (B6 p ⟨A,D⟩);refine ⟨rfl,.bool (!c),?_,.bool _⟩;simp only [PZ,Bk,J,Au,binOp,G,Ci]
  .exact trivial
 .split
  .exact trivial
  .rename_i n X;have d:=(hE.tab t n X).kind
   have two:∀ {u v:Value},(∀ op,eqGuard op t x y u v=Pure.pure ())->(∀ op,op= .eql\/op= .neq->binOp op t u v=(Op.equal t u v >>= λ r=>Pure.pure (.bool (if op= .eql then r else !r))))->
     ∀ {c:Bool},(Op.equal t u v).run E.P w= .ok c w->PS0 E.P M ob w (PZ op t x y u v) ac base (A1 op c):=λ h1 C _ h3=>aEX h1 C h3
   split
   .have f:=‹n.kind=TK.bool›;rw [f] at d;obtain rfl:=l.bool_inv;obtain rfl:=m.bool_inv;exact two (λ op=>by cases op<;>rfl) (λ op g=>by rcases g with rfl | rfl<;>rfl) (run_equal_bool w t _ _ d.1)
   .have f:=‹n.kind=TK.slc _ _ _›;rw [f] at d;have:=l.untok.2;obtain rfl:u= .slice none 0 0:=this;cases m;exact two (λ op=>by cases op<;>rfl) (λ op g=>by rcases g with rfl | rfl<;>rfl) (run_equal_slice_nil w t _ none 0 0 d.1.1)
   .have f:=‹n.kind=TK.slc _ _ _›;rw [f] at d;cases l;cases m;exact two (λ op=>by cases op<;>rfl) (λ op g=>by rcases g with rfl | rfl<;>rfl) (run_equal_slice_nil w t _ none 0 0 d.1.1)
   .have f:=‹n.kind=TK.slc _ _ _›;rw [f] at d;obtain ⟨a,c,rfl,U,_⟩:=l.slice_inv;cases m;exact aNe (λ op=>by cases op<;>rfl) (λ op g=>by rcases g with rfl | rfl<;>rfl) (run_equal_slice_nil w t _ a _ c d.1.1) (λ e=>(U (by cases a<;>first | rfl | cases e)).1)
   .have f:=‹n.kind=TK.ptr _›;rw [f] at d;cases l;cases m;exact two (λ op=>by cases op<;>rfl) (λ op g=>by rcases g with rfl | rfl<;>rfl) (run_equal_pointer_nil w t _ (aNE d.1))
   .have f:=‹n.kind=TK.ptr _›;rw [f] at d;obtain ⟨b,rfl,_⟩:=l.ref_inv;cases m;exact two (λ op=>by cases op<;>rfl) (λ op g=>by rcases g with rfl | rfl<;>rfl) (run_equal_pointer_nil w t _ (aNE d.1))
   .have f:=‹n.kind=TK.ptr _›;rw [f] at d;obtain ⟨b,o,rfl,_⟩:=l.ptr_inv;cases m;exact two (λ op=>by cases op<;>rfl) (λ op g=>by rcases g with rfl | rfl<;>rfl) (run_equal_pointer_nil w t _ (aNE d.1))
   .have f:=‹n.kind=TK.ptr _›;rw [f] at d;split
    .rename_i tj I;refine sdc λ z=>?_;obtain ⟨h1,C⟩:=bD z;have h1:=aE h1;have C:=aE C;subst h1 C;obtain ⟨b,rfl,Y⟩:=l.ref_inv;obtain ⟨b',rfl,B⟩:=m.ref_inv;rw [Y] at B;cases B;obtain ⟨j,W,_⟩:=Co.1 (hE.tab _ tj I).size?;refine two (λ op=>by cases op<;>rfl) (λ op g=>by rcases g with rfl | rfl<;>rfl) (c:=true) ?_;exact CQ 9999 d.1 W
    .exact trivial
   .have f:=‹n.kind=TK.iface›;rw [f] at d;obtain ⟨T,s⟩:=d.1;cases l;cases m;refine sdc λ hl=>two (λ op=>?_) (λ op g=>by rcases g with rfl | rfl<;>rfl) (run_equal_nil_nil w t (by simp only [Program.methodsAt,s]));cases op<;>first | rfl | (cases x<;>first | rfl | (cases y<;>first | rfl | cases hl))
   .have f:=‹n.kind=TK.iface›;rw [f] at d;obtain ⟨T,s⟩:=d.1;cases l;cases m;exact two (λ op=>by cases op<;>rfl) (λ op g=>by rcases g with rfl | rfl<;>rfl) (run_equal_held_nil w t _ _ (by simp only [Program.methodsAt,s]))
   .have f:=‹n.kind=TK.iface›;rw [f] at d;obtain ⟨T,s⟩:=d.1;cases l;cases m;exact two (λ op=>by cases op<;>rfl) (λ op g=>by rcases g with rfl | rfl<;>rfl) (vO w 9999 t _ _ (by simp only [Program.methodsAt,s]))
   .exact trivial
end
end Go.AW
