/- Part 11 of what the statement rests on. -/
import Derived.Lib.Builder
import Derived.Lib.UnsafeStr
import Derived.Lib.Walk
import Derived.Shelf.RegionOpenPlain
import Derived.ScopeJumps
import Derived.Test.YtidhfoefaomodaaGreatDoorRows
import Derived.Deep.DeepHandedRow
import Derived.Deep.DeepWitnessRowRef
import Derived.Stop.LaidErr
import Derived.LaidLaws
import Derived.ProofKit
import Derived.Test.YtidhfoefaomodaaGreatDoorMYA
set_option linter.all false
set_option maxHeartbeats 1000000
open And renaming intro->Ae
open Bool renaming and_eq_true->Af
open Go.Builtin renaming unsafeSliceData_->Je,unsafeString_->Jy
open Go.Result renaming andThen->Ep
open Go.World renaming cell?->Kt,shape?->Jo
open Int renaming fdiv_eq_ediv_of_nonneg->Ei,toNat_natCast->Br
open List renaming append_assoc->Ag,append_nil->Ar,cons_append->Bu,drop_eq_getElem_cons->Aa,drop_eq_nil_of_le->Ab,drop_left->Jp,drop_zero->Ap,eq_nil_of_length_eq_zero->Bc,length_append->Ai,length_cons->Ak,length_drop->Ew,length_map->Cm,length_nil->Bz,length_pos_iff->Eg,length_take->Dw,map_append->Bq,map_take->Gq,mem_cons->Aw,mem_cons_of_mem->Av,mem_cons_self->Ao,take_left->Hw,take_length->Gm,take_of_length_le->Cn
open Nat renaming div_one->Iw,le_refl->Bh,le_succ->Ic,le_trans->Dh,mul_le_mul->Gs,pow_le_pow_right->Fg,strongRecOn->Ih,zero_add->Bx,zero_le->Ch,zero_lt_succ->Lz
open Option renaming map_eq_some_iff->Co
open UInt8 renaming ofNat->Dj,toNat_ofNat'->Hh
namespace Go.Proofs.YtidhfoefaomodaaGreatDoor
open Go Go.AW Go.Proofs
def zqta0{P:Prop}(h:P:=by
 have h:=UD f n s a h1 hs;cases f
 .refine cT (E:=E) (fn:=Tryz.f140) (g:=.full 1 _ _) λ_=>?_;exact zW
 .refine cT (E:=E) (fn:=Tryz.f140) (g:=.full 2 _ _) λ_=>?_
  exact zW):P:=h
def zqta1{P:Prop}(h:P:=by
 cases f
 .refine cT (E:=E) (fn:=Tryz.f128) (g:=.full 1 _ _) λ_=>?_;exact zW
 .refine cT (E:=E) (fn:=Tryz.f128) (g:=.full 2 _ _) λ_=>?_
  exact zW):P:=h
def zqta2{P:Prop}(h:P:=by
 cases f
 .refine cT (E:=E) (fn:=Tryz.f68) (g:=.full 1 _ _) λ_=>?_;exact zW
 .refine cT (E:=E) (fn:=Tryz.f68) (g:=.full 2 _ _) λ_=>?_
  exact zW):P:=h
def zqta3{P:Prop}(h:P:=by
 refine cT (E:=E) (fn:=Tryz.f60) (g:=.full 2 _ _) λ_=>?_
 exact zW):P:=h
def zqta4{P:Prop}(h:P:=by
 cases e<;>first | exact j | skip
 rcases j with ⟨rfl,f,d⟩ | ⟨rfl,f,d⟩
 .exact ⟨.inl ⟨rfl,f⟩,d⟩
 .exact ⟨.inr ⟨rfl,f⟩,d⟩):P:=h
def zqta5{P:Prop}(h:P:=by
 refine cT (E:=E) (fn:=Tryz.f129) (g:=.full 1 _ _) λ_=>?_
 exact zW):P:=h
def zqta6{P:Prop}(h:P:=by
 refine cT (E:=E) (fn:=Tryz.f129) (g:=.full 2 _ _) λ_=>?_
 exact zW):P:=h
def zqta7{P:Prop}(h:P:=by
 refine cT (E:=E) (fn:=Tryz.f148) (g:=.full 1 _ _) λ_=>?_
 exact zW):P:=h
def zqta8{P:Prop}(h:P:=by
 by_cases a:(aC t.s c).2.2=0
 .exact .inr λ b=>q ⟨a,b⟩
 .exact .inl a):P:=h
def aLc:Nat->Int->Int
 | 0,x=>x
 | k+1,x=>aLc k (bits .xor .u32 (x / 2) (bits .and .u32 2197175160 (-bits .and .u32 x 1 % 4294967296)))
def JC:aw->Int->Int
 | [],x=>x
 | b::r,x=>JC r (aLc 8 (bits .xor .u32 x ((b.toNat:Int) % 4294967296)))
def B3(s:aw):Int:=bits .xor .u32 IntKind.u32.max (JC s 4294967295)
def lM(op:BinOp)(x y:Int):0<=bits op .u32 x y/\bits op .u32 x y<4294967296:=by have h:inR .u32 (bits op .u32 x y):=nD .u32 _;simp only [inR,dA,bN] at h;omega
def oO(n:Nat):aw:=[Dj n,Dj (n / 256),Dj (n / 65536),Dj (n / 16777216)]
def fH:aw->Nat
 | a::b::c::d::_=>a.toNat+256*b.toNat+65536*c.toNat+16777216*d.toNat
 | _=>0
def xN(n:Nat)(r:aw)(h:n<4294967296):fH (oO n++r)=n:=by simp only [oO,fH,Bu,Hh];omega
def frm(s:aw):aw:=oO s.length++oO (B3 s).toNat++s
def mZ(s:aw):Int:=
 if s.length<8 then 10 else if 16384<fH s then 8 else if (s.length:Int)-8<fH s then 10
 else if B3 ((s.drop 8).take (fH s))≠(fH (s.drop 4):Int) then 11 else 0
def vR(s:aw):aw:=(s.drop 8).take (fH s)
def dT(s:aw):(frm s).length=s.length+8:=by simp [frm,oO]
def X5(s:aw):0<=B3 s/\B3 s<4294967296:=by exact lM _ _ _
def aEu(s r:aw)(h:s.length<=16384):mZ (frm s++r)=0/\vR (frm s++r)=s:=by
 have b:fH (frm s++r)=s.length:=by unfold frm;rw [Ag,Ag,xN _ _ o_]
 have c:(frm s++r).drop 4=oO (B3 s).toNat++(s++r):=by unfold frm;rw [Ag,Ag];rfl
 have d:(frm s++r).drop 8=s++r:=by unfold frm;rw [Ag,Ag];rfl
 obtain ⟨e,f⟩:=X5 s;have hl:(frm s++r).length=s.length+8+r.length:=by rw [Ai,dT]
 have a:vR (frm s++r)=s:=by unfold vR;rw [b,d,Hw]
 refine ⟨?_,a⟩;unfold mZ;unfold vR at a;rw [hl,b] at *
 rw [a,c,xN _ _ o_,if_neg o_,if_neg o_,if_neg o_,if_neg o_]
def aEv(s:aw)(k:Nat)(h:s.length<=16384)(c:k<s.length+8):mZ ((frm s).take k)≠0:=by
 have hl:((frm s).take k).length=k:=by rw [Dw,dT];omega
 unfold mZ;rw [hl];by_cases a:k<8
 .rw [if_pos a];decide
 .rw [if_neg a];have b:fH ((frm s).take k)=s.length:=by
   have:(frm s).take k=oO s.length++((oO (B3 s).toNat++s).take (k-4)):=by unfold frm;rw [Ag,List.take_append,Cn (by simp [oO];omega)];rfl
   rw [this,xN _ _ o_]
  rw [b,if_neg o_,if_pos o_];decide
def G7:mZ []≠0:=by decide
def rJ:List aw->Nat
 | []=>0
 | t::l=>t.length+8+rJ l
def fI:List aw->aw
 | []=>[]
 | t::l=>frm t++fI l
def rZ:∀ l:List aw,(fI l).length=rJ l
 | []=>rfl
 | t::l=>by rw [fI,rJ,Ai,dT,rZ l]
def TQ:∀ (l m:List aw),fI (l++m)=fI l++fI m
 | [],_=>rfl
 | t::l,m=>by rw [Bu,fI,fI,TQ l m,Ag]
structure Dk where
 size:Int
 safe:aw
 waits:aw
 sw:Bool
def Dk.new(n:Int):Dk:=⟨min (max n 0) 1048576,[],[],false⟩
def Dk.free(d:Dk):Int:=if d.sw then d.size-d.waits.length else d.size-d.waits.length-d.safe.length
end Go.Proofs.YtidhfoefaomodaaGreatDoor
namespace Go.Proofs.YtidhfoefaomodaaGreatDoor.TB
open Go Go.AW Go.Proofs Go.RowKit
set_option maxRecDepth 100000
set_option maxHeartbeats 2000000
abbrev tWr:TypeId:=158
def A8:liesAt Tryz.prog Tryz.prog.depth tWr (2 / Tryz.prog.cellsOf tWr) 0 158 1=true:=by kernel_rfl
def AP:(Tryz.prog.info? 158).map (·.size)=some 2:=by kernel_rfl
def QN:Tryz.prog.underlying 156=some (.pointer 158):=by kernel_rfl
def QM:Tryz.prog.underlying 334=some .unsafePointer:=by kernel_rfl
def TY:Tryz.prog.funcs[225]? =some Tryz.f225:=by kernel_rfl
def iX(b:Nat)(w:World)(h:w.cell? ⟨b,0,none⟩=some (.pointer none))(a:w.shape? b=some (tWr,2))(g:w.frozen? ⟨b,0,none⟩=false):
  Calls Tryz.prog 151 #[.pointer (some ⟨b,0,none⟩)] w λ e w'=>e= .returned (.tuple #[])/\w'=w.setCell ⟨b,0,none⟩ (.pointer (some ⟨b,0,none⟩)):=by
 obtain ⟨j,d,c⟩:=Co.1 AP
 go_enter Tryz.func151,Tryz.ntmps151
 go_wp2
 rw [Lib.run_to_unsafe w ⟨b,0,none⟩ QN QM d (by rw [c];decide) a (Lz 1)];simp only [Ep];rw [Oper.upon_value]
 go_wp2
 rw [run_callFunc_extern TY (by kernel_rfl) (by kernel_rfl) (by kernel_rfl) (e:=Extern.AbiNoEscape.same) (by kernel_rfl)];rw [Lib.run_noEscape];simp only [Ep];rw [Oper.upon_value]
 go_wp2
 rw [Lib.run_from_unsafe w ⟨b,0,none⟩ QM QN d a A8];simp only [Ep];rw [Oper.upon_value]
 go_wp2
 go_end0;exact ⟨rfl,rfl⟩
def aDq:Tryz.prog.underlying 254=some (.pointer 5):=by kernel_rfl
def aHp:Tryz.prog.cellsOf 5=1:=by kernel_rfl
def rC(b g cap:Nat)(p:Value)(a:Array Value)(l:aw)(w:World)(k:w.heap[b]? =some (.cells #[p,.slice (some ⟨g,0,none⟩) l.length cap] tWr (0,0)))(q:w.heap[g]? =some (.cells a 5 (0,0)))(n:l≠[])
  (o:l.length<=cap) (h:cap<=maxLen) (s:a.size=cap) (c:∀ (j:Nat) x,l[j]? =some x->w.cell? ⟨g,j,none⟩=some (.int .u8 x.toNat)):
  Calls Tryz.prog 90 #[.pointer (some ⟨b,0,none⟩)] w λ e w'=>e= .returned (.string ⟨l.toArray⟩)/\NI g l.length w w':=by
 have d:l.length≠0:=by simpa using n
 have y:w.drew.cell? ⟨b,1,none⟩=some (.slice (some ⟨g,0,none⟩) l.length cap):=by have:w.drew.heap[b]? =some (.cells #[p,.slice (some ⟨g,0,none⟩) l.length cap] tWr (0,0)):=k;rw [Lib.cell_of_heap this];rfl
 have u:(Je #[132] 254 #[.slice (some ⟨g,0,none⟩) l.length cap]).run Tryz.prog w.drew= .ok (.pointer (some ⟨g,0,none⟩)) w.drew:=
  Lib.run_unsafeSliceData_row _ _ _ _ _ _ o_
 have v:(Jy #[254,3] 9 #[.pointer (some ⟨g,0,none⟩),.int .i64 l.length]).run Tryz.prog w.drew= .ok (.string ⟨l.toArray⟩) (w.drew.freeze ⟨g,0,none⟩ l.length):=by refine Lib.run_unsafeString_row w.drew 254 3 9 5 aDq aHp g a.size (by have m:w.drew.heap[g]? =some (.cells a 5 (0,0)):=q;simp [Jo,m]) l n o_ (by unfold maxLen at h;omega) ?_;intro j x r;rw [bK,Bx];exact c j x r
 have i:Tryz.prog.follows Departure.mixedOrders=true:=hE.mix
 go_enter Tryz.func90,Tryz.ntmps90
 go_wp2
 go_region_o
 all_goals (go_wp2;go_ret;exact ⟨rfl,W8 d⟩)
def cc_fresh(s:aa):aq 151 [.ref 0 0] [.cells tWr [.nilptr,s]] (.ret (.tup [])) [.cells tWr [.ref 0 0,s]]:=
 qP (λ_ _=>by rfl) iX s
def str_ok(l:aw)(a:l≠[])(p:aa):aq 90 [.ref 0 0] [.cells tWr [p,.slice 1 (l.map ub) (.own 1 0)],.tail 0 1 5] (.ret (.str l)) [.dead,.dead]:=
 oY (λ_ _=>by rfl) rC l a p
end Go.Proofs.YtidhfoefaomodaaGreatDoor.TB
namespace Go.Proofs.YtidhfoefaomodaaGreatDoor
open Go Go.AW Go.Proofs
set_option maxRecDepth 100000
def yV(J:Nat->Act->World->Prop)(Q:Exit->Act->World->Prop):Exit->Act->World->Prop
 | .goto l,a,w=>J l a w
 | e,a,w=>Q e a w
def EL{P:Program}{a:Act}{w:World}{Q:Exit->Act->World->Prop}{c:Code}(rest:Nat->Code)(J:Nat->Act->World->Prop)(μ:Nat->Act->World->Nat)(C:∀ l a w,J l a w->findLabel c l=some (rest l))
  (first:c.wp P (yV J Q) a w) (r:∀ l a w,J l a w->(rest l).wp P (yV (λ o q w'=>J o q w'/\μ o q w'<μ l a w) Q) a w):(Code.scope c).wp P Q a w:=by
 intro b k cs;have y:∀ l a w,J l a w->gotoIn l (.inScope c::k)=some (.code (rest l):: .inScope c::k):=λ l a w h=>by simp [gotoIn,C l a w h]
 have key:∀ n l a w,μ l a w=n->J l a w->∃ e q w',Q e q w'/\Arrives P (lone (b.at a (.code (rest l):: .inScope c::k)) cs w) b k cs e q w':=by
  intro n;induction n using Ih with
  | _ n D=>
   intro l a w F A;obtain ⟨e,j,i,g,d⟩:=r l a w A b (.inScope c::k) cs;cases e with
   | normal=>exact ⟨.normal,j,i,g,Steps.trans d (.one step_inScope)⟩
   | exit id=>exact ⟨.exit id,j,i,g,λ s t=>d s (by simp [exitTo,t])⟩
   | goto o=>
    obtain ⟨p,B⟩:=g;obtain ⟨v,u,x,m,f⟩:=D _ o_ o j i rfl p;exact ⟨v,u,x,m,.of_steps (d _ (y _ _ _ p)) f⟩
   | ret=>exact ⟨_,j,i,g,d⟩
   | panic z=>exact ⟨_,j,i,g,d⟩
   | outgrown=>exact ⟨_,j,i,g,d⟩
 obtain ⟨e,j,i,g,d⟩:=first b (.inScope c::k) cs
 cases e with
 | normal=>exact ⟨.normal,j,i,g,.head step_scope (Steps.trans d (.one step_inScope))⟩
 | exit id=>exact ⟨.exit id,j,i,g,λ s t=>.head step_scope (d s (by simp [exitTo,t]))⟩
 | goto o=>
  obtain ⟨v,u,x,m,f⟩:=key _ o j i rfl g;exact ⟨v,u,x,m,.of_steps (.head step_scope (d _ (y _ _ _ g))) f⟩
 | ret=>exact ⟨_,j,i,g,.of_steps (.one step_scope) d⟩
 | panic z=>exact ⟨_,j,i,g,.of_steps (.one step_scope) d⟩
 | outgrown=>exact ⟨_,j,i,g,.of_steps (.one step_scope) d⟩
def NK{P:Program}{a:Act}{w:World}{Q:Exit->Act->World->Prop}{c n m:Code}(k J1:Act->World->Prop)(μ0 μ1:Act->World->Nat)(o:findLabel c 0=some n)(h1:findLabel c 1=some m)
  (first:c.wp P (yV (λ l a w=>(l=0/\k a w)\/(l=1/\J1 a w)) Q) a w)
  (i:∀ a w,k a w->n.wp P (yV (λ l b w'=>(l=0/\k b w'/\μ0 b w'<μ0 a w)\/(l=1/\J1 b w'/\μ1 b w'<μ0 a w)) Q) a w)
  (g:∀ a w,J1 a w->m.wp P (yV (λ l b w'=>(l=0/\k b w'/\μ0 b w'<μ1 a w)\/(l=1/\J1 b w'/\μ1 b w'<μ1 a w)) Q) a w):(Code.scope c).wp P Q a w:=by
 refine EL (λ l=>if l=0 then n else m) (λ l a w=>(l=0/\k a w)\/(l=1/\J1 a w)) (λ l a w=>if l=0 then μ0 a w else μ1 a w) (λ l a w h=>?_) first λ l a w h=>?_
 .rcases h with ⟨rfl,_⟩ | ⟨rfl,_⟩
  .exact o
  .exact h1
 .rcases h with ⟨rfl,h⟩ | ⟨rfl,h⟩
  .refine wp_mono (i a w h) λ e b w' j=>?_;exact zqta4
  .refine wp_mono (g a w h) λ e b w' j=>?_;exact zqta4
def aFL(k:Nat)(a:Act):Int:=match a.tmps[k]? with | some (.int _ n)=>n | _=>0
def aOR(s:aw)(w:World)(a:Act)(w':World):Prop:=w'=w/\∃ (x:Int) (i k:Nat) (C B F D t n A v u h d f g r y e o c z q j p l m b:Value),a={tmps:= #[.string ⟨s.toArray⟩,undef,.int .u32 0,.int .u32 x,.int .i64 i,.int .i64 k,C,B,F,D,t,n,A,v,u,h,d,f,g,r,y,e,o,c,z,q,j,p,l,m,b],defers:=[]}/\0<=x/\x<4294967296/\i<=s.length/\JC (s.drop i) x=JC s 4294967295
def aOQ(s:aw)(w:World)(a:Act)(w':World):Prop:=w'=w/\∃ (x:Int) (i k:Nat) (C B F D t n A v u h d f g r y e o c z q j p l m b:Value),a={tmps:= #[.string ⟨s.toArray⟩,undef,.int .u32 0,.int .u32 x,.int .i64 i,.int .i64 k,C,B,F,D,t,n,A,v,u,h,d,f,g,r,y,e,o,c,z,q,j,p,l,m,b],defers:=[]}/\0<=x/\x<4294967296/\i<=s.length/\1<=k/\k<8/\JC (s.drop i) (aLc (8-k) x)=JC s 4294967295
def aOP(s:aw)(a:Act):Nat:=(s.length-(aFL 4 a).toNat)*10
def aOO(s:aw)(a:Act):Nat:=(s.length-(aFL 4 a).toNat)*10+9-(aFL 5 a).toNat
def UF{s:aw}{i:Nat}{x:Int}(h:i<s.length)(a:JC (s.drop i) x=JC s 4294967295):
  JC (s.drop (i+1)) (aLc (8-1) (bits .xor .u32 (bits .xor .u32 x ((s[i].toNat:Int) % 4294967296) / 2) (bits .and .u32 2197175160 (-bits .and .u32 (bits .xor .u32 x ((s[i].toNat:Int) % 4294967296)) 1 % 4294967296))))=JC s 4294967295:=by
 rw [Aa h] at a;exact a
def aBx(s:aw)(hs:(s.length:Int)<=9223372036854775807)(w:World):Calls Tryz.prog 215 #[.string ⟨s.toArray⟩] w λ e w'=>e= .returned (.int .u32 (B3 s))/\w'=w:=by
 go_enter Tryz.func215,Tryz.ntmps215
 go_wp2
 refine NK (aOR s w) (aOQ s w) (λ a _=>aOP s a) (λ a _=>aOO s a) rfl rfl ?_ (λ a w' j=>?_) (λ a w' j=>?_)
 .go_wp2
  go_step3
  go_wp2
  .have b:((0:Int)==(s.length:Int))=true:=by assumption
   simp only [yV]
   go_ret
   have:s=[]:=Bc (by have:=beq_iff_eq.1 b;omega);subst this;exact ⟨rfl,rfl⟩
  .have b:0<s.length:=by assumption
   go_step3
   go_wp2
   go_step3
   exact .inr ⟨rfl,rfl,_,1,1,_,_,_,_,_,_,_,_,_,_,_,_,_,_,_,_,_,_,_,_,_,_,_,_,_,rfl,(lM _ _ _).1,(lM _ _ _).2,b,by decide,by decide,UF b rfl⟩
  .have b:((0:Int)==(s.length:Int))=false:=by assumption
   have h1:¬ 0<s.length:=by assumption
   have:=beq_eq_false_iff_ne.1 b;omega
 .obtain ⟨rfl,x,i,k,K,J,N,L,C,u,I,F,D,o,h,m,n,B,G,l,v,d,H,z,q,y,r,t,g,rfl,M,O,p,c⟩:=j
  go_wp2
  .have b:((i:Int)==(s.length:Int))=true:=by assumption
   simp only [yV]
   go_ret
   have b:=beq_iff_eq.1 b;rw [Ab o_] at c;have c:x=JC s 4294967295:=c;subst c;exact ⟨rfl,rfl⟩
  .have b:i<s.length:=by assumption
   go_step3
   go_wp2
   go_step3
   refine .inr ⟨rfl,⟨rfl,_,i+1,1,_,_,_,_,_,_,_,_,_,_,_,_,_,_,_,_,_,_,_,_,_,_,_,_,_,rfl,(lM _ _ _).1,(lM _ _ _).2,b,by decide,by decide,UF b c⟩,?_⟩;show (s.length-((i:Int)+1).toNat)*10+9-(1:Int).toNat<(s.length-(i:Int).toNat)*10;omega
  .have b:((i:Int)==(s.length:Int))=false:=by assumption
   have h1:¬ i<s.length:=by assumption
   have:=beq_eq_false_iff_ne.1 b;omega
 .obtain ⟨rfl,x,i,k,K,J,N,L,C,u,I,F,D,o,h,m,n,B,G,l,v,d,H,z,q,y,r,t,g,rfl,M,O,p,P,Q,c⟩:=j
  go_wp2
  .go_step3
   rename_i b;have e:8-k=8-(k+1)+1:=o_;rw [e] at c;refine .inr ⟨rfl,⟨rfl,_,i,k+1,_,_,_,_,_,_,_,_,_,_,_,_,_,_,_,_,_,_,_,_,_,_,_,_,_,rfl,(lM _ _ _).1,(lM _ _ _).2,p,by omega,by omega,c⟩,?_⟩;show (s.length-(i:Int).toNat)*10+9-((k:Int)+1).toNat<(s.length-(i:Int).toNat)*10+9-(k:Int).toNat;omega
  .go_step3
   rename_i b;have e:8-k=0+1:=o_;rw [e] at c;refine .inl ⟨rfl,⟨rfl,_,i,k+1,_,_,_,_,_,_,_,_,_,_,_,_,_,_,_,_,_,_,_,_,_,_,_,_,_,rfl,(lM _ _ _).1,(lM _ _ _).2,p,c⟩,?_⟩;show (s.length-(i:Int).toNat)*10<(s.length-(i:Int).toNat)*10+9-(k:Int).toNat;omega
def M5(s:aw):aq 215 [.str s] [] (.ret (.int .u32 (B3 s))) []:=by
 intro M ob w a hm b;obtain ⟨hl,b⟩:=b
 match a,hl with
 | [v],_=>
 have h:=b 0 _ _ rfl rfl;cases h with
 | str _ hs=>
 refine .inl ⟨(show qS Tryz.prog 215 from λ_ _=>by rfl) _ _,(aBx s hs w).mono λ e w' ⟨d,c⟩=>?_⟩;subst d c;exact ⟨M,ob,Ext.refl _ _ _ _,hm,.int _ _ (by have:=X5 s;simp only [inR,dA,bN];omega)⟩
set_option maxRecDepth 10000
abbrev i4(n:Int):aa:=.int .u32 n
def aGo(n k:Nat):((n:Int).fdiv (2 ^ k))=((n / 2 ^ k:Nat):Int):=by rw [Ei _ (by exact Int.le_of_lt (Int.pow_pos d_))];simp
def BK(n k:Nat):IntKind.u8.wrap ((n:Int).fdiv (2 ^ k))=((Dj (n / 2 ^ k)).toNat:Int):=by rw [aGo,NJ,Hh]
def aAJ(n:Nat):aq 214 [i4 n] [] (.ret (.str (oO n))) []:=by
 have b:=BK n 0;have a:=BK n 8;have c:=BK n 16;have d:=BK n 24;refine cT (E:=(Er [3,5] [])) (fn:=Tryz.f214) (g:=.pure _) λ_=>?_
 repeat' first
  | (refine gW (hEr [3,5] []) ?_;conv=>whnf)
  | exact rfl
  | refine aY ?_
  | refine aN ?_
  | refine aT λ h=>?_
  | refine aF λ h=>?_
  | refine ⟨_,rfl,?_⟩
  | refine aJ ?_
  | refine .inr ?_ | refine Ae (by first | decide | (simp only [maxLen];omega) | simp) ?_
  | refine aD ?_
  | fail
 refine ⟨oO n,?_,by simp [oO],?_⟩
 .show [aa.int .u8 (IntKind.u8.wrap ((n:Int).fdiv (2 ^ 0))),aa.int .u8 (IntKind.u8.wrap ((n:Int).fdiv (2 ^ 8))),aa.int .u8 (IntKind.u8.wrap ((n:Int).fdiv (2 ^ 16))),aa.int .u8 (IntKind.u8.wrap ((n:Int).fdiv (2 ^ 24)))]=_;rw [b,a,c,d,Nat.pow_zero,Iw];rfl
 .exact zW
def orU(x c i:Nat)(a:x<2 ^ i)(h:x+c*2 ^ i<4294967296):eG .or .u32 (x:Int) ((c:Int)*2 ^ i)=((x+c*2 ^ i:Nat):Int):=by
 have e:(c:Int)*2 ^ i=((c*2 ^ i:Nat):Int):=by simp
 rw [e,sD .u32 x (c*2 ^ i) (by simp only [bN];omega) (by simp only [bN];omega),WN a]
def aHv(a b c d:UInt8)(r:aw):eG .or .u32 (eG .or .u32 (eG .or .u32 (eG .or .u32 0 ((a.toNat:Int)*2 ^ 0)) ((b.toNat:Int)*2 ^ 8)) ((c.toNat:Int)*2 ^ 16)) ((d.toNat:Int)*2 ^ 24)=((fH (a::b::c::d::r):Nat):Int):=by
 have i:=a.toNat_lt;have g:=b.toNat_lt;have h:=c.toNat_lt;have hd:=d.toNat_lt;have e:=orU 0 a.toNat 0 d_ o_;have h1:=orU (0+a.toNat*2 ^ 0) b.toNat 8 o_ o_;have f:=orU (0+a.toNat*2 ^ 0+b.toNat*2 ^ 8) c.toNat 16 o_ o_;have h3:=orU (0+a.toNat*2 ^ 0+b.toNat*2 ^ 8+c.toNat*2 ^ 16) d.toNat 24 o_ o_;have e:eG .or .u32 0 ((a.toNat:Int)*2 ^ 0)=_:=e;rw [e,h1,f,h3];show ((_:Nat):Int)=((a.toNat+256*b.toNat+65536*c.toNat+16777216*d.toNat:Nat):Int)
 congr 1;omega
def NZ(c:UInt8)(i:Nat)(h:i<=24):i<=32/\inR .u32 ((c.toNat:Int)*2 ^ i):=by
 have b:=c.toNat_lt;have e:(c.toNat:Int)*2 ^ i=((c.toNat*2 ^ i:Nat):Int):=by simp
 have h1:2 ^ i<=2 ^ 24:=Fg d_ h;have a:c.toNat*2 ^ i<=255*2 ^ 24:=Gs o_ h1;refine ⟨by omega,?_⟩;rw [e];simp only [inR,dA,bN];omega
def aHo(a b c d:UInt8)(r:aw):aq 224 [.str (a::b::c::d::r)] [] (.ret (i4 (fH (a::b::c::d::r):Nat))) []:=by
 have j:=a.toNat_lt;have e:=b.toNat_lt;have i:=c.toNat_lt;have hd:=d.toNat_lt;refine c_ Tryz.f224 λ_=>?_
 repeat' first
  | (refine gW hE ?_;conv=>whnf)
  | exact rfl
  | refine aY ?_
  | refine aN ?_
  | refine aT λ h=>?_
  | refine aF λ h=>?_
  | refine ⟨_,rfl,?_⟩
  | refine aJ ?_
  | refine .inl ⟨NZ _ 0 d_,?_⟩ | refine .inl ⟨NZ _ 8 d_,?_⟩ | refine .inl ⟨NZ _ 16 d_,?_⟩ | refine .inl ⟨NZ _ 24 d_,?_⟩ | exact congrArg (λ n=>Res.ret (aa.int .u32 n)) (aHv a b c d r)
  | refine aD ?_
  | fail
def TS(n:Nat):(oO n).length=4:=rfl
def sB(s:aw)(h:s.length<=16384):aq 141 [.str s] [] (.ret (.str (frm s))) []:=by
 have h1:=M5 s;obtain ⟨b,c⟩:=X5 s;have a:=aAJ (B3 s).toNat;rw [show (((B3 s).toNat:Nat):Int)=B3 s by omega] at a;have h3:=aAJ s.length;unfold frm;have l1:=TS (B3 s).toNat;have l2:=TS s.length;generalize oO (B3 s).toNat=x at *
 generalize oO s.length=y at *
 refine c_ Tryz.f141 λ_=>?_
 repeat' first | (refine gN hE ?_;conv=>whnf) | refine .pure _ [] h1 ?_ | refine .pure _ [] a ?_ | refine .pure _ [] h3 ?_ | refine Ae (by simp only [Ai];omega) ?_ | exact rfl | refine zt ?_ | refine zu ?_ ?_ | intro h | fail
def rdT(s:aw):aw:=if mZ s=0 then vR s else []
def rdN(s:aw):Int:=if mZ s=0 then (fH s:Int)+8 else 0
def aCI(s:aw)(hm:s.length<=1000000000)(N M:Nat)(x:Int)(hl:¬ s.length<8)(m:N<4294967296)(b:aq 224 [.str s] [] (.ret (i4 N)) [])(c:aq 224 [.str (s.drop 4)] [] (.ret (i4 M)) [])
  (hs:aq 215 [.str ((s.take (8+N)).drop 8)] [] (.ret (i4 x)) []) (T:aw) (n e:Int)
  (a:(T,n,e)=if 16384<N then ([],0,8) else if (s.length:Int)-8<N then ([],0,10) else if x≠M then ([],0,11) else ((s.take (8+N)).drop 8,(N:Int)+8,0)):
  aq 149 [.str s] [] (.ret (.tup [.str T,ii n,ii e])) []:=by
 have l:(8:Int)+N=((8+N:Nat):Int):=by simp
 by_cases j:16384<N
 .rw [if_pos j] at a;cases a;refine c_ Tryz.f149 λ_=>?_
  repeat' first | (refine gN hE ?_;conv=>whnf) | refine .pure _ [] b ?_ | refine .pure _ [] c ?_ | refine ⟨4,rfl,?_⟩ | exact rfl | refine zt ?_ | refine zu ?_ ?_ | intro h | fail
 rw [if_neg j] at a;by_cases k:(s.length:Int)-8<N
 .rw [if_pos k] at a;cases a;refine c_ Tryz.f149 λ_=>?_
  repeat' first | (refine gN hE ?_;conv=>whnf) | refine .pure _ [] b ?_ | refine .pure _ [] c ?_ | refine ⟨4,rfl,?_⟩ | exact rfl | refine zt ?_ | refine zu ?_ ?_ | intro h | fail
 rw [if_neg k] at a;by_cases d:x=M
 .rw [if_neg (by simpa using d)] at a;cases a;have i:(x !=(M:Int))=false:=by simpa using d
  refine c_ Tryz.f149 λ_=>?_
  repeat' first | (refine gN hE ?_;conv=>whnf) | refine .pure _ [] b ?_ | refine .pure _ [] c ?_ | refine .pure _ [] hs ?_ | refine ⟨4,rfl,?_⟩ | refine ⟨8,rfl,?_⟩ | refine ⟨8+N,l,?_⟩ | refine zF i ?_ | exact rfl | refine zt ?_ | refine zu ?_ ?_ | intro h | fail
 .rw [if_pos (by simpa using d)] at a;cases a;have i:(x !=(M:Int))=true:=by simpa using d
  refine c_ Tryz.f149 λ_=>?_
  repeat' first | (refine gN hE ?_;conv=>whnf) | refine .pure _ [] b ?_ | refine .pure _ [] c ?_ | refine .pure _ [] hs ?_ | refine ⟨4,rfl,?_⟩ | refine ⟨8,rfl,?_⟩ | refine ⟨8+N,l,?_⟩ | refine zE i ?_ | exact rfl | refine zt ?_ | refine zu ?_ ?_ | intro h | fail
def aLv(s:aw):fH s<4294967296:=by
 unfold fH;split
 .rename_i a b c d _;have:=a.toNat_lt;have:=b.toNat_lt;have:=c.toNat_lt;have:=d.toNat_lt;omega
 .decide
def U0(s:aw)(h:4<=s.length):aq 224 [.str s] [] (.ret (i4 (fH s:Nat))) []:=by
 match s,h with
 | a::b::c::d::r,_=>exact aHo a b c d r
 | [],h | [_],h | [_,_],h | [_,_,_],h=>simp at h
def UE(s:aw)(hm:s.length<=1000000000):aq 149 [.str s] [] (.ret (.tup [.str (rdT s),ii (rdN s),ii (mZ s)])) []:=by
 by_cases q:s.length<8
 .have e:mZ s=10:=if_pos q;unfold rdT rdN;rw [e];refine c_ Tryz.f149 λ_=>?_
  repeat' first | (refine gN hE ?_;conv=>whnf) | exact rfl | refine zt ?_ | refine zu ?_ ?_ | intro h | fail
 .refine aCI s hm (fH s) (fH (s.drop 4)) _ q (aLv s) (U0 s o_) (U0 _ (by rw [Ew];omega)) (M5 _) _ _ _ ?_;have d:(s.take (8+fH s)).drop 8=vR s:=by rw [List.drop_take];simp [vR]
  rw [d];unfold rdT rdN mZ;rw [if_neg q];by_cases a:16384<fH s
  .rw [if_pos a,if_pos a];rfl
  by_cases b:(s.length:Int)-8<fH s
  .rw [if_neg a,if_neg a,if_pos b,if_pos b];rfl
  rw [if_neg a,if_neg a,if_neg b,if_neg b];have e:(s.drop 8).take (fH s)=vR s:=rfl;rw [e];generalize B3 (vR s)=X;generalize ((fH (s.drop 4):Nat):Int)=Y;by_cases c:X=Y
  .simp [c]
  .simp [c]
abbrev tDk:TypeId:=134
abbrev aV:aa:=.slice 1 [] .nil
abbrev wtB(x:aw):aa:=.slice 1 (x.map ub) .no
def sfV(f:Bool)(k:Nat)(s:aw):aa:=.slice 1 (s.map ub) (match f with | true=>.own k 0 | false=>.full)
def sfT(f:Bool):au:=match f with | true=>[.tail 0 1 5] | false=>[]
def sgV(f:Bool)(k:Nat)(s:aw):aa:=.slice 1 (s.map ub) (match f with | true=>.own k 1 | false=>.own k 0)
def sgT(f:Bool):au:=match f with | true=>[.tail 1 1 5] | false=>[.tail 0 1 5]
abbrev dkC(n:Int)(safe w:aa)(sw:Bool):ab:=.cells tDk [ii n,safe,w,.bool sw]
abbrev dkO(f:Bool)(n:Int)(s:aw)(w:aa)(sw:Bool):au:=dkC n (sfV f 1 s) w sw::sfT f
def aK0(n:Int):aq 25 [ii n] [] (.ret (.ref 0 0)) [dkC (min (max n 0) 1048576) (.slice 1 [] .nil) aV false]:=by refine cT (E:=E) (fn:=Tryz.f25) (g:=.full 0 _ _) λ_=>?_;exact zW
def kF(f:Bool)(n:Int)(s:aw)(hs:(s.length:Int)<=9223372036854775807):aq 83 [.ref 0 0] (dkO f n s aV false) (.ret (.str s)) (dkO f n s aV false):=by
 have a:s.map ub=s.map ub:=rfl;cases f
 .refine cT (E:=E) (fn:=Tryz.f83) (g:=.full 1 _ _) λ_=>?_;exact zW
 .refine cT (E:=E) (fn:=Tryz.f83) (g:=.full 2 _ _) λ_=>?_;exact zW
def GA(f:Bool)(n:Int)(s x:aw)(b:Bool):aq 202 [.ref 0 0] (dkO f n s (wtB x) b) (.ret (ii ((x.map ub).length:Nat))) (dkO f n s (wtB x) b):=by
 cases f
 .refine cT (E:=E) (fn:=Tryz.f202) (g:=.full 1 _ _) λ_=>?_;exact zW
 .refine cT (E:=E) (fn:=Tryz.f202) (g:=.full 2 _ _) λ_=>?_;exact zW
def UD(f:Bool)(n:Int)(s:aw)(a:0<=n)(h1:n<=1048576)(hs:(s.length:Int)<=1048576):aq 213 [.ref 0 0] (dkO f n s aV false) (.ret (ii (n-((0:Nat):Int)-((s.map ub).length:Nat)))) (dkO f n s aV false):=by
 have hl:(s.map ub).length=s.length:=by simp
 have hz:([]:ay).length=0:=rfl;cases f
 .refine cT (E:=E) (fn:=Tryz.f213) (g:=.full 1 _ _) λ_=>?_;exact zW
 .refine cT (E:=E) (fn:=Tryz.f213) (g:=.full 2 _ _) λ_=>?_;exact zW
def MX(f:Bool)(n:Int)(s x:aw)(a:0<=n)(h1:n<=1048576)(hs:(s.length:Int)<=1048576)(b:n-s.length<x.length):aq 140 [.ref 0 0,.str x] (dkO f n s aV false) (.ret (ii 9)) (dkO f n s aV false):=by
 have hl:(s.map ub).length=s.length:=by simp
 exact zqta0
def MW(f:Bool)(n:Int)(s x:aw)(a:0<=n)(h1:n<=1048576)(hs:(s.length:Int)<=1048576)(c:(x.length:Int)<=n-s.length):
  aq 140 [.ref 0 0,.str x] (dkO f n s aV false) (.ret (ii 0)) (dkO f n s (.slice 1 (x.map ub) (.own (match f with | true=>2 | false=>1) 0)) false++[.tail 0 1 5]):=by
 have hl:(s.map ub).length=s.length:=by simp
 have b:(x.map ub).length=x.length:=by simp
 exact zqta0
def aIX(f:Bool)(n:Int)(s x:aw)(a:n<x.length):aq 128 [.ref 0 0,.str x] (dkO f n s aV false) (.ret (ii 9)) (dkO f n s aV false):=by exact zqta1
def Z0(f:Bool)(n:Int)(s x:aw)(a:(x.length:Int)<=n):aq 128 [.ref 0 0,.str x] (dkO f n s aV false) (.ret (ii 0)) (dkO f n s (wtB x) true):=by exact zqta1
def fJ(keep:Int)(m:Nat):Nat:=(min (max keep 0) (m:Int)).toNat
def O6(keep:Int)(m:Nat):min (max keep 0) (m:Int)=((fJ keep m:Nat):Int)/\fJ keep m<=m:=by unfold fJ;omega
def X6(f:Bool)(n:Int)(s x:aw):aq 60 [.ref 0 0,ii ((x.map ub).length:Nat)] (dkO f n s (wtB x) true) (.ret (.tup [])) (dkC n (.slice 1 (x.map ub) .full) aV false::sfT f):=by
 have key:∀ y,(x.map ub).take (x.map ub).length=y->aq 60 [.ref 0 0,ii ((x.map ub).length:Nat)] (dkO f n s (wtB x) true) (.ret (.tup [])) (dkC n (.slice 1 y .full) aV false::sfT f):=by
  intro y a;subst a;have b:min (max ((x.map ub).length:Int) 0) ((x.map ub).length:Int)=((x.map ub).length:Int):=o_;have c:(min (max ((x.map ub).length:Int) 0) ((x.map ub).length:Int)==((x.map ub).length:Int))=true:=by rw [b];exact beq_self_eq_true _
  cases f
  .refine cT (E:=E) (fn:=Tryz.f60) (g:=.full 1 _ _) λ_=>?_;exact zW
  .exact zqta3
 exact key _ (Gm)
def M6(n:Int)(s x:aw)(keep:Int)(hs:s.length<=1048576)(i:x.length<=1048576):
  aq 60 [.ref 0 0,ii keep] (dkO true n s (wtB x) false) (.ret (.tup [])) (dkC n (sgV true 1 (s++x.take (fJ keep x.length))) aV false::sgT true):=by
 have a:(x.map ub).length=x.length:=by simp
 have c:(s.map ub).length=s.length:=by simp
 obtain ⟨h,b⟩:=O6 keep x.length;rw [<-a] at h b;have d:((x.map ub).take (fJ keep (x.map ub).length)).length<=x.length:=by rw [Dw];omega
 have key:∀ y,s.map ub++(x.map ub).take (fJ keep (x.map ub).length)=y->aq 60 [.ref 0 0,ii keep] (dkO true n s (wtB x) false) (.ret (.tup [])) (dkC n (.slice 1 y (.own 1 1)) aV false::sgT true):=by intro y e;subst e;exact zqta3
 refine key _ ?_;rw [a,Bq,Gq]
def JD(n:Int)(s x:aw)(keep:Int)(hs:s.length<=1048576)(k:x.length<=1048576)(b:x.take (fJ keep x.length)≠[]):
  aq 60 [.ref 0 0,ii keep] (dkO false n s (wtB x) false) (.ret (.tup [])) (dkC n (sgV false 1 (s++x.take (fJ keep x.length))) aV false::sgT false):=by
 have a:(x.map ub).length=x.length:=by simp
 have j:(s.map ub).length=s.length:=by simp
 obtain ⟨h,c⟩:=O6 keep x.length;rw [<-a] at h c;have i:((x.map ub).take (fJ keep (x.map ub).length)).length<=x.length:=by rw [Dw];omega
 have d:(x.map ub).take (fJ keep (x.map ub).length)≠[]:=by rw [a,<-Gq];simpa using b
 have key:∀ y,s.map ub++(x.map ub).take (fJ keep (x.map ub).length)=y->aq 60 [.ref 0 0,ii keep] (dkO false n s (wtB x) false) (.ret (.tup [])) (dkC n (.slice 1 y (.own 1 0)) aV false::sgT false):=by intro y e;subst e;refine cT (E:=(Eo [34] [])) (fn:=Tryz.f60) (g:=.full 1 _ _) λ_=>?_;exact zW
 refine key _ ?_;rw [a,Bq,Gq]
def X7(n:Int)(s x:aw)(keep:Int)(hs:s.length<=1048576)(k:x.length<=1048576)(c:x.take (fJ keep x.length)=[]):
  aq 60 [.ref 0 0,ii keep] (dkO false n s (wtB x) false) (.ret (.tup [])) (dkO false n s aV false):=by
 have b:(x.map ub).length=x.length:=by simp
 have j:(s.map ub).length=s.length:=by simp
 obtain ⟨e,d⟩:=O6 keep x.length;rw [<-b] at e d;have a:(x.map ub).take (fJ keep (x.map ub).length)=[]:=by rw [b,<-Gq,c];rfl
 have i:((x.map ub).take (fJ keep (x.map ub).length)).length=0:=by rw [a];rfl
 refine cT (E:=(Ex [34] [34] [])) (fn:=Tryz.f60) (g:=.full 1 _ _) λ_=>?_
 repeat' first | (refine gN (hEx [34] [34] []) ?_;conv=>whnf) | refine ⟨_,e,?_⟩ | refine Ae a ?_ | refine Ae (lH o_ d_) ?_ | refine zM ?_ | exact rfl | refine zt ?_ | refine zu ?_ ?_ | intro h | fail
 exact zx [0]
def X8(n:Int)(s:aw)(keep:Int)(hs:s.length<=1048576):
  aq 60 [.ref 0 0,ii keep] (dkO true n s aV false) (.ret (.tup [])) (dkC n (sgV true 1 s) aV false::sgT true):=by
 have a:(s.map ub).length=s.length:=by simp
 have c:min (max keep 0) ((([]:ay).length:Nat):Int)=((0:Nat):Int):=by show min (max keep 0) 0=0;omega
 have key:∀ y,s.map ub++[]=y->aq 60 [.ref 0 0,ii keep] (dkO true n s aV false) (.ret (.tup [])) (dkC n (.slice 1 y (.own 1 1)) aV false::sgT true):=by intro y b;subst b;exact zqta3
 exact key _ (Ar _)
def X9(n:Int)(s:aw)(keep:Int)(hs:s.length<=1048576):
  aq 60 [.ref 0 0,ii keep] (dkO false n s aV false) (.ret (.tup [])) (dkO false n s aV false):=by
 have a:(s.map ub).length=s.length:=by simp
 have b:min (max keep 0) ((([]:ay).length:Nat):Int)=((0:Nat):Int):=by show min (max keep 0) 0=0;omega
 refine cT (E:=(Ex [34] [34] [])) (fn:=Tryz.f60) (g:=.full 1 _ _) λ_=>?_
 repeat' first | (refine gN (hEx [34] [34] []) ?_;conv=>whnf) | refine ⟨_,b,?_⟩ | refine Ae rfl ?_ | refine Ae (lH o_ d_) ?_ | refine zM ?_ | exact rfl | refine zt ?_ | refine zu ?_ ?_ | intro h | fail
 exact zx [0]
def H6(x:aw):x.take (fJ ((x.map ub).length:Nat) x.length)=x:=by
 have e:fJ ((x.map ub).length:Nat) x.length=x.length:=by unfold fJ;rw [Cm];omega
 rw [e,Gm]
def aIh(f:Bool)(n:Int)(s x:aw)(hs:s.length<=1048576)(c:x.length<=1048576)(a:x≠[]):
  aq 129 [.ref 0 0] (dkO f n s (wtB x) false) (.ret (.tup [])) (dkC n (sgV f 1 (s++x)) aV false::sgT f):=by
 have h:=GA f n s x false;cases f
 .have b:=JD n s x ((x.map ub).length:Nat) hs c (by rw [H6];exact a);rw [H6] at b;exact zqta5
 .have b:=M6 n s x ((x.map ub).length:Nat) hs c;rw [H6] at b;exact zqta6
def K8(f:Bool)(n:Int)(s x:aw):aq 129 [.ref 0 0] (dkO f n s (wtB x) true) (.ret (.tup [])) (dkC n (.slice 1 (x.map ub) .full) aV false::sfT f):=by
 have h:=GA f n s x true;have a:=X6 f n s x;cases f
 .exact zqta5
 .exact zqta6
abbrev tJn:TypeId:=220
abbrev jnO(d:Nat)(m:Int):ab:=.cells tJn [.ref d 0,ii m]
abbrev jdO(m:Int)(f:Bool)(n:Int)(s:aw):au:=jnO 1 m::dkC n (sfV f 2 s) aV false::sfT f
def aCa(f:Bool)(m n:Int)(s x:aw)(a:16384<x.length):aq 72 [.ref 0 0,.str x] (jdO m f n s) (.ret (ii 8)) (jdO m f n s):=by
 cases f
 .refine cT (E:=E) (fn:=Tryz.f72) (g:=.full 2 _ _) λ_=>?_;exact zW
 .refine cT (E:=E) (fn:=Tryz.f72) (g:=.full 3 _ _) λ_=>?_;exact zW
def aJX(f:Bool)(m n:Int)(s x:aw)(d:x.length<=16384)(c:0<=n)(h1:n<=1048576)(hs:(s.length:Int)<=1048576)(e:n-s.length<x.length+8):
  aq 72 [.ref 0 0,.str x] (jdO m f n s) (.ret (ii 9)) (jdO m f n s):=by
 have a:=sB x d;have b:=MX f n s (frm x) c h1 hs (by rw [dT];omega);cases f
 all_goals
  refine cT (E:=E) (fn:=Tryz.f72) (g:=.full _ _ _) λ_=>?_
  repeat' first | (refine gN hE ?_;conv=>whnf) | refine .pure _ [] a ?_ | refine .sole rfl (.eff [] [1] _ _ rfl b ?_) | refine .sole rfl (.eff [] [1,2] _ _ rfl b ?_) | exact zx [0,1] | exact zx [0,1,2] | exact rfl | refine zt ?_ | refine zu ?_ ?_ | intro h | fail
def aJW(f:Bool)(m n:Int)(s x:aw)(hm:0<=m/\m<=1000000)(i:x.length<=16384)(d:0<=n)(h1:n<=1048576)(hs:(s.length:Int)<=1048576)(j:(x.length:Int)+8<=n-s.length):
  aq 72 [.ref 0 0,.str x] (jdO m f n s) (.ret (ii 0)) (jnO 1 (m+1)::dkC n (sgV f 2 (s++frm x)) aV false::sgT f):=by
 have a:=sB x i;have hl:=dT x;have c:=MW f n s (frm x) d h1 hs (by rw [dT];omega);have b:=aIh f n s (frm x) o_ o_ (by intro e;rw [e] at hl;simp at hl);cases f
 all_goals
  refine cT (E:=E) (fn:=Tryz.f72) (g:=.full _ _ _) λ_=>?_
  repeat' first | (refine gN hE ?_;conv=>whnf) | refine .pure _ [] a ?_ | refine .sole rfl (.eff [] [1] _ _ rfl c ?_) | refine .sole rfl (.eff [] [1,2] _ _ rfl c ?_) | refine .eff [] [1] _ _ rfl b ?_ | refine .eff [] [1,2] _ _ rfl b ?_ | exact zx [0,1,3] | exact zx [0,1,2] | exact rfl | refine zt ?_ | refine zu ?_ ?_ | intro h | fail
def aB8(f:Bool)(m n:Int)(s x:aw)(a:16384<x.length):aq 80 [.ref 0 0,.str x] (jdO m f n s) (.ret (ii 8)) (jdO m f n s):=by
 cases f
 .refine cT (E:=E) (fn:=Tryz.f80) (g:=.full 2 _ _) λ_=>?_;exact zW
 .refine cT (E:=E) (fn:=Tryz.f80) (g:=.full 3 _ _) λ_=>?_;exact zW
def aJT(f:Bool)(m n:Int)(s x:aw)(d:x.length<=16384)(c:0<=n)(h1:n<=1048576)(hs:(s.length:Int)<=1048576)(e:n-s.length<x.length+8):
  aq 80 [.ref 0 0,.str x] (jdO m f n s) (.ret (ii 9)) (jdO m f n s):=by
 have a:=sB x d;have b:=MX f n s (frm x) c h1 hs (by rw [dT];omega);cases f
 all_goals
  refine cT (E:=E) (fn:=Tryz.f80) (g:=.full _ _ _) λ_=>?_
  repeat' first | (refine gN hE ?_;conv=>whnf) | refine .pure _ [] a ?_ | refine .sole rfl (.eff [] [1] _ _ rfl b ?_) | refine .sole rfl (.eff [] [1,2] _ _ rfl b ?_) | exact zx [0,1] | exact zx [0,1,2] | exact rfl | refine zt ?_ | refine zu ?_ ?_ | intro h | fail
def aJS(f:Bool)(m n:Int)(s x:aw)(d:x.length<=16384)(c:0<=n)(h1:n<=1048576)(hs:(s.length:Int)<=1048576)(e:(x.length:Int)+8<=n-s.length):
  aq 80 [.ref 0 0,.str x] (jdO m f n s) (.ret (ii 0)) (jnO 1 m::dkC n (sfV f 2 s) (wtB (frm x)) false::sfT f):=by
 have a:=sB x d;have b:=MW f n s (frm x) c h1 hs (by rw [dT];omega);cases f
 all_goals
  refine cT (E:=E) (fn:=Tryz.f80) (g:=.full _ _ _) λ_=>?_
  repeat' first | (refine gN hE ?_;conv=>whnf) | refine .pure _ [] a ?_ | refine .sole rfl (.eff [] [1] _ _ rfl b ?_) | refine .sole rfl (.eff [] [1,2] _ _ rfl b ?_) | exact zx [0,1] | exact zx [0,1,2] | exact rfl | refine zt ?_ | refine zu ?_ ?_ | intro h | fail
abbrev tB:TypeId:=158
def YZ(x:aw)(b:x.length<=1048576):aq 87 [.ref 0 0,.str x] [.cells tB [.nilptr,aV]] (.ret (.tup [ii (x.length:Nat),.nilif])) [.cells tB [.ref 0 0,.slice 1 (x.map ub) (.own 1 0)],.tail 0 1 5]:=by
 have a:(x.map ub).length=x.length:=by simp
 have h1:=TB.cc_fresh aV;refine cT (E:=E) (fn:=Tryz.f87) (g:=.full 1 _ _) λ_=>?_;exact zW
def aJU(f:Bool)(m n:Int)(s x:aw)(j:x.length<=16384)(k:(x.length:Int)+8<=n):
  aq 74 [.ref 0 0,.slice 1 [.str x] .no] (jdO m f n s) (.ret (ii 0)) (jnO 1 1::dkC n (sfV false 2 (frm x)) aV false::sfT f):=by
 have i:=sB x j;have hl:=dT x;have d:frm x≠[]:=λ e=>by rw [e] at hl;simp at hl
 have c:=YZ (frm x) o_;have hst:=TB.str_ok (frm x) d (.ref 0 0);have b:=Z0 f n s (frm x) o_;have a:=K8 f n s (frm x);cases f
 all_goals
  refine cT (E:=E) (fn:=Tryz.f74) (g:=.full _ _ _) λ_=>?_
  repeat' first | (refine gN hE ?_;conv=>whnf) | exact rfl | refine zt ?_ | refine zu ?_ ?_ | intro h | fail
  refine gV ?_;refine aT (h:=λ h=>?_) (by show (0:Int)<((1:Nat):Int);decide)
  repeat' first | (refine gN hE ?_;conv=>whnf) | refine .pure _ [] i ?_ | refine .eff [] [2] _ _ rfl c ?_ | refine .eff [] [3] _ _ rfl c ?_ | exact rfl | refine zt ?_ | refine zu ?_ ?_ | intro h | fail
  refine gV ?_;refine aF (h:=λ h=>?_) (by show ¬ (0:Int)+1<((1:Nat):Int);decide);refine dF hE 2 ?_;conv=>whnf
  refine To.permAt hE [0,1,2,3] [4,5,6] (by rfl) ?_;conv=>whnf
  repeat (refine aL ?_;conv=>whnf;(try conv=>whnf))
  first
   | refine .eff [] [2,3] _ _ rfl hst ?_
   | refine .eff [] [3,4] _ _ rfl hst ?_;conv=>whnf
  repeat (refine aL ?_;conv=>whnf;(try conv=>whnf))
  first
   | refine .eff [] [1] _ _ rfl b ?_
   | refine .eff [] [1,2] _ _ rfl b ?_;conv=>whnf
  repeat (refine aL ?_;conv=>whnf;(try conv=>whnf))
  repeat' first | (refine gN hE ?_;conv=>whnf) | refine .eff [] [1] _ _ rfl a ?_ | refine .eff [] [1,2] _ _ rfl a ?_ | exact zx [0,1] | exact zx [0,1,2] | exact rfl | refine zt ?_ | refine zu ?_ ?_ | intro h | fail
def aPu{n a:Nat}(h:n<=1048576)(b:a<=1000):EY (n+1) a:=Ae (by simp only [maxLen];omega) (Dh (Gs (show n+1<=1048577 by omega) b) d_)
abbrev stO(s:aw):ab:=.cells 9 [.str s]
abbrev nxF:aa:=.func (.func 148) [] [.ref 1 0]
def aCl(s:aw):aq 85 [.str s] [] (.ret (.func (.func 148) [] [.ref 0 0])) [stO s]:=by refine cT (E:=E) (fn:=Tryz.f85) (g:=.full 0 _ _) λ_=>?_;exact zW
def aNj(s:aw)(hm:s.length<=1000000000)(h:mZ s≠0):aq 148 [.ref 0 0] [stO s] (.ret (.tup [.str [],ii 0,.bool false])) [stO s]:=by
 have h1:=UE s hm;have a:(mZ s !=0)=true:=by simpa using h
 generalize mZ s=e at *
 generalize rdT s=t at *
 generalize rdN s=n at *
 exact zqta7
def aJi(s:aw)(hm:s.length<=1000000000)(h:mZ s=0)(a:fH s+8<=s.length):aq 148 [.ref 0 0] [stO s] (.ret (.tup [.str (vR s),ii ((fH s:Int)+8),.bool true])) [stO (s.drop (fH s+8))]:=by
 have h1:=UE s hm;unfold rdT rdN at h1;rw [h,if_pos rfl,if_pos rfl] at h1;have b:(fH s:Int)+8=((fH s+8:Nat):Int):=by simp
 generalize vR s=t at *
 generalize fH s=n at *
 exact zqta7
abbrev qF(l:List aw):ay:=l.map aa.str
noncomputable abbrev aLW:Func:=Tryz.f39
def LE(r:aw)(f:mZ r≠0)(R:List aw)(N:Int)(n:0<=N/\N<=1000000000):∀ (l a:List aw) (at':Int),(∀ t∈l,t.length<=16384)->(fI l++r).length<=1000000000->a.length+l.length<=1000000->0<=at'->a++l=R->at'+rJ l=N->
  To (Eo [4] []) aLW (.pure (.ret (.tup [.slice 1 (qF R) .no,ii N]))) (.head (stk aLW 0) [(4,.slice 1 (qF a) (.own 0 0)),(5,ii at'),(6,nxF)] [.tail 0 1 9,stO (fI l++r)])
 | [],a,at',_,hm,_,_,hR,c=>by
  have h1:=aNj (fI []++r) hm f;rw [Ar] at hR;have c:at'+((0:Nat):Int)=N:=c;have c:at'=N:=o_;subst hR c;refine gV ?_
  repeat' first | (refine gN (hEo [4] []) ?_;conv=>whnf) | refine .eff [] [1] _ _ rfl h1 ?_ | exact rfl | refine zt ?_ | refine zu ?_ ?_ | intro h | fail
 | t::l,a,at',hl,hm,ha,h0,hR,c=>by
  have o:fI (t::l)++r=frm t++(fI l++r):=Ag ..;have k:=hl t (Ao ..);obtain ⟨m,i⟩:=aEu t (fI l++r) k;have e:fH (frm t++(fI l++r))=t.length:=by unfold frm;rw [Ag,Ag,xN _ _ o_]
  rw [o] at hm⊢;have b:=dT t;rw [Ai,b] at hm;have h1:=aJi (frm t++(fI l++r)) (by rw [Ai,b];exact hm) m (by rw [e,Ai,b];omega);rw [i,e,show t.length+8=(frm t).length from b.symm,Jp] at h1;have hs:rJ (t::l)=t.length+8+rJ l:=rfl;rw [hs] at c;simp only [Ak] at ha;have next:=LE r f R N n l (a++[t]) (at'+((t.length:Int)+8)) (λ x j=>hl x (Av _ j)) o_ q_ o_ (by rw [Ag];exact hR) o_
  have g:qF (a++[t])=qF a++[.str t]:=by simp
  rw [g] at next
  have d:(qF a).length<=1048576:=by simp;omega
  generalize frm t++(fI l++r)=s at *
  refine gV ?_
  repeat' first | (refine gN (hEo [4] []) ?_;conv=>whnf) | refine .eff [] [1] _ _ rfl h1 ?_ | refine Ae (aPu d d_) ?_ | exact rfl | refine zt ?_ | refine zu ?_ ?_ | intro h | fail
  refine To.part [4,5,6] [0,1] rfl rfl rfl ?_;exact next
def FG(l:List aw)(r:aw)(a:mZ r≠0)(hl:∀ t∈l,t.length<=16384)(hm:(fI l++r).length<=1000000):aq 39 [.str (fI l++r)] [] (.ret (.tup [.slice 1 (qF l) .no,ii (rJ l)])) []:=by
 have h1:=aCl (fI l++r);have c:=rZ l;have h3:∀ l:List aw,l.length<=rJ l:=λ l=>by
  induction l with
  | nil=>exact Bh _
  | cons t l d=>show l.length+1<=t.length+8+rJ l;omega
 have b:=h3 l;rw [Ai] at hm;have next:=LE r a l (rJ l) o_ l [] 0 hl (by rw [Ai];omega) q_ o_ rfl o_
 refine cT (E:=(Eo [4] [])) (fn:=Tryz.f39) (g:=.pure _) λ_=>?_
 repeat' first | (refine gN (hEo [4] []) ?_;conv=>whnf) | refine .pure _ _ h1 ?_ | exact rfl | refine zt ?_ | refine zu ?_ ?_ | intro h | fail
 refine To.part [4,5,6] [0,1] rfl rfl rfl ?_;exact next
abbrev jdN(f:Bool):Nat:=match f with | true=>2 | false=>1
def aFJ(f:Bool)(n:Int)(l:List aw)(hl:∀ t∈l,t.length<=16384)(hm:(fI l).length<=1000000):
  aq 68 [.ref 0 0] (dkO f n (fI l) aV false) (.ret (.tup [.ref (jdN f) 0,.slice 1 (qF l) .no])) (dkO f n (fI l) aV false++[jnO 0 l.length]):=by
 have h1:=kF f n (fI l) o_;have a:=FG l [] G7 hl (by rw [Ar];exact hm);rw [Ar] at a;have h3:=rZ l;generalize fI l=s at *
 have b:(qF l).length=l.length:=by simp
 rw [<-b];generalize rJ l=k at *
 exact zqta2
def WV(f:Bool)(n:Int)(l:List aw)(r:aw)(j:mZ r≠0)(a:r≠[])(hl:∀ t∈l,t.length<=16384)(hm:(fI l++r).length<=1000000)(e:((fI l).length:Int)<=n):
  aq 68 [.ref 0 0] (dkO f n (fI l++r) aV false) (.ret (.tup [.ref (jdN f) 0,.slice 1 (qF l) .no])) (dkC n (sfV false 1 (fI l)) aV false::sfT f++[jnO 0 l.length]):=by
 have h1:=kF f n (fI l++r) o_;have k:=FG l r j hl hm;have h3:=rZ l;have o:((fI l++r).length:Int)=(fI l).length+r.length:=by rw [Ai];omega
 have m:0<r.length:=Eg.2 a;have b:(fI l++r).take (fI l).length=fI l:=Hw ..;have i:=Z0 f n (fI l++r) ((fI l++r).take (fI l).length) (by rw [b];exact e);have c:=K8 f n (fI l++r) ((fI l++r).take (fI l).length);rw [<-h3] at k;generalize fI l=s at *
 generalize s++r=sr at *
 have h:(qF l).length=l.length:=by simp
 rw [<-h]
 suffices key:∀ y,sr.take s.length=y->aq 68 [.ref 0 0] (dkO f n sr aV false) (.ret (.tup [.ref (jdN f) 0,.slice 1 (qF l) .no])) (dkC n (sfV false 1 y) aV false::sfT f++[jnO 0 (qF l).length]) from key _ b
 intro y d;subst d;exact zqta2
end Go.Proofs.YtidhfoefaomodaaGreatDoor
namespace Go.AW
def aA.wk1{P:Program}{f:FuncId}{args:ay}{r:Res}{T:TypeId}{cs cs':ay}(h:aA P f args [] r [.cells T cs])(hl:cs'.length=cs.length)
  (D:∀ (M:Imm) (ob:Hs) (i:Nat) v n,cs'[i]? =some n->∃ a,cs[i]? =some a/\(Rep M ob v a->Rep M ob v n)):aA P f args [] r [.cells T cs']:=
 λ M ob w g hm B=>cX.mono (λ e w' ⟨M',ob',d,j,C⟩=>by
  have m:∀ {k b},aM ob' [.cells T cs'] k b->aM ob' [.cells T cs] k b:=λ{k b} ⟨c,hs,e1,e2,e3,e4⟩=>by
   cases k with
   | zero=>exact ⟨_,hs,rfl,rfl,e3,e4⟩
   | succ k=>simp at e1
  refine ⟨M',ob',⟨d.imm,d.new,d.hs,d.os,d.tape,d.output,d.size,d.keep,λ k b l=>d.fresh k b (m l)⟩,⟨j.imm,j.len,λ k c o=>?_,λ k b l=>j.lt k b (m l),λ k u b h1 p=>j.inj k u b (m h1) (m p)⟩,C⟩;cases k with
  | zero=>
   simp at o;subst o;obtain ⟨hs,h1,b,p,h3,cv,y,s,q,x⟩:=j.obj 0 _ rfl;refine ⟨hs,h1,b,p,h3,cv,y,by rw [s,hl],q,λ i v n z l=>?_⟩;obtain ⟨a,A,t⟩:=D M' ob' i v n l;exact t (x i v a z A)
  | succ k=>simp at o) (h M ob w g hm B)
end Go.AW
namespace Go.Proofs.YtidhfoefaomodaaGreatDoor
open Go Go.AW Go.Proofs
set_option maxRecDepth 10000
def gZ(n:Int):aq 25 [ii n] [] (.ret (.ref 0 0)) [dkC (min (max n 0) 1048576) (sfV false 1 []) aV false]:=by
 refine (aK0 n).wk1 rfl λ M ob i v j c=>?_
 match i with
 | 0=>exact ⟨_,rfl,λ h=>by cases c;exact h⟩
 | 1=>
  refine ⟨_,rfl,λ h=>?_⟩;cases c;cases h with
  | slnil e t d=>exact .slnil _ _ ⟨_,_,rfl⟩
  | slemp e t a cap d=>cases d
  | sl e b o n cap xs t l g hm hz h d=>cases d
 | 2=>exact ⟨_,rfl,λ h=>by cases c;exact h⟩
 | 3=>exact ⟨_,rfl,λ h=>by cases c;exact h⟩
 | k+4=>simp at c
abbrev XW(m:aw):aa:=.iface 416 (.ptr [.str m])
def aLU(m:aw):aq 70 [.nilif,XW m] [] (.ret (.bool false)) []:=by exact c_ Tryz.f70 λ_=>zW
def aJV(f:Bool)(m n:Int)(s x:aw)(i:x.length<=16384)(j:n<(x.length:Int)+8):
  aq 74 [.ref 0 0,.slice 1 [.str x] .no] (jdO m f n s) (.ret (ii 9)) (jdO m f n s):=by
 have d:=sB x i;have hl:=dT x;have c:frm x≠[]:=λ e=>by rw [e] at hl;simp at hl
 have b:=YZ (frm x) o_;have hst:=TB.str_ok (frm x) c (.ref 0 0);have a:=aIX f n s (frm x) o_;cases f
 all_goals
  refine cT (E:=E) (fn:=Tryz.f74) (g:=.full _ _ _) λ_=>?_
  repeat' first | (refine gN hE ?_;conv=>whnf) | exact rfl | refine zt ?_ | refine zu ?_ ?_ | intro h | fail
  refine gV ?_;refine aT (h:=λ h=>?_) (by show (0:Int)<((1:Nat):Int);decide)
  repeat' first | (refine gN hE ?_;conv=>whnf) | refine .pure _ [] d ?_ | refine .eff [] [2] _ _ rfl b ?_ | refine .eff [] [3] _ _ rfl b ?_ | exact rfl | refine zt ?_ | refine zu ?_ ?_ | intro h | fail
  refine gV ?_;refine aF (h:=λ h=>?_) (by show ¬ (0:Int)+1<((1:Nat):Int);decide);refine dF hE 2 ?_;conv=>whnf
  refine To.permAt hE [0,1,2,3] [4,5,6] (by rfl) ?_;conv=>whnf
  repeat (refine aL ?_;conv=>whnf;(try conv=>whnf))
  first
   | refine .eff [] [2,3] _ _ rfl hst ?_
   | refine .eff [] [3,4] _ _ rfl hst ?_;conv=>whnf
  repeat (refine aL ?_;conv=>whnf;(try conv=>whnf))
  first
   | refine .eff [] [1] _ _ rfl a ?_
   | refine .eff [] [1,2] _ _ rfl a ?_;conv=>whnf
  repeat (refine aL ?_;conv=>whnf;(try conv=>whnf))
  repeat' first | (refine gN hE ?_;conv=>whnf) | exact zx [0,1] | exact zx [0,1,2] | exact rfl | refine zt ?_ | refine zu ?_ ?_ | intro h | fail
inductive Rec where
 | c (x:Cmd)
 | s (x:Sta)
def Rec.b:Rec->aw
 | .c x=>67::C8.encB x
 | .s x=>83::cE x
def Rec.to(r:Rec)(s:Sta):Sta:=match r with
 | .c x=>(aC s x).1
 | .s x=>x
def Rec.ok(r:Rec)(s:Sta):Prop:=match r with
 | .c x=>(aC s x).2.2=0/\(x.k=1->x.c.sm)/\s.nxt<1099511627776
 | .s x=>OkT x
def toL:List Rec->Sta->Sta
 | [],s=>s
 | r::l,s=>toL l (r.to s)
def okR:List Rec->Sta->Prop
 | [],_=>True
 | r::l,s=>r.ok s/\(r.b).length<=16384/\okR l (r.to s)
def ZE:∀ (l m:List Rec) (s:Sta),toL (l++m) s=toL m (toL l s)
 | [],_,_=>rfl
 | r::l,m,s=>ZE l m (r.to s)
def aAb:∀ (l m:List Rec) (s:Sta),okR (l++m) s↔okR l s/\okR m (toL l s)
 | [],_,_=>⟨λ h=>⟨trivial,h⟩,λ h=>h.2⟩
 | r::l,m,s=>by show r.ok s/\_/\okR (l++m) (r.to s)↔(r.ok s/\_/\okR l (r.to s))/\okR m (toL l (r.to s));rw [aAb l m];exact ⟨λ⟨a,b,c,d⟩=>⟨⟨a,b,c⟩,d⟩,λ⟨⟨a,b,c⟩,d⟩=>⟨a,b,c,d⟩⟩
def Rec.okT{r:Rec}{s:Sta}(h:OkT s)(a:r.ok s):OkT (r.to s):=by
 cases r with
 | c x=>exact (h.apply a.2.2 x).1
 | s x=>exact a
def aDB:∀ {l:List Rec} {s:Sta},OkT s->okR l s->OkT (toL l s)
 | [],_,h,_=>h
 | r::l,s,h,hr=>aDB (l:=l) (s:=r.to s) (r.okT h hr.1) hr.2.2
def aLA{s:Sta}{x:Cmd}(h:(aC s x).2.2=0):C8.chk x=0:=by
 unfold aC at h;by_cases q:C8.chk x=0
 .exact q
 .rw [if_pos q] at h;exact h
structure Clean(d:Dk):Prop where
 w:d.waits=[]
 sw:d.sw=false
 le:(d.safe.length:Int)<=d.size
 size:d.size<=1048576
structure Kst where
 d:Dk
 n:Int
 s:Sta
structure Kept(t:Kst)(l:List Rec):Prop where
 cl:Clean t.d
 safe:t.d.safe=fI (l.map Rec.b)
 n:t.n=l.length
 ok:okR l cA
 s:t.s=toL l cA
def aHB(d:Dk)(r:aw):Dk:=⟨d.size,d.safe++frm r,[],false⟩
def iD(d:Dk)(r:aw):Int:=if 16384<r.length then 8 else if d.size-d.safe.length<r.length+8 then 9 else 0
def doS(t:Kst)(x:Cmd):Kst×bb×Int:=
 if (aC t.s x).2.2≠0 then (t,[],(aC t.s x).2.2)
 else if iD t.d (Rec.b (.c x))≠0 then (t,[],iD t.d (Rec.b (.c x)))
 else (⟨aHB t.d (Rec.b (.c x)),t.n+1,(aC t.s x).1⟩,(aC t.s x).2.1,0)
def gD(t:Kst):Int:=if 16384<(Rec.b (.s t.s)).length then 8 else if t.d.size<(Rec.b (.s t.s)).length+8 then 9 else 0
def kT(t:Kst):Kst:=if gD t=0 then ⟨⟨t.d.size,frm (Rec.b (.s t.s)),[],false⟩,1,t.s⟩ else t
def Kept.do{t:Kst}{l:List Rec}(h:Kept t l)(x:Cmd)(i:x.k=1->x.c.sm)(g:t.s.nxt<1099511627776):∃ f,Kept (doS t x).1 f/\f.length<=l.length+1:=by
 unfold doS;by_cases q:(aC t.s x).2.2=0
 .rw [if_neg (by simpa using q)];by_cases a:iD t.d (Rec.b (.c x))=0
  .rw [if_neg (by simpa using a)];unfold iD at a;split at a
   .cases a
   split at a
   .cases a
   have e:toL (l++[.c x]) cA=(aC t.s x).1:=by rw [ZE,<-h.s];rfl
   refine ⟨l++[.c x],⟨⟨rfl,rfl,?_,h.cl.size⟩,?_,?_,?_,e.symm⟩,by simp⟩
   .show ((t.d.safe++frm _).length:Int)<=t.d.size;rw [Ai,dT];omega
   .show t.d.safe++frm _=_;rw [h.safe,Bq,TQ];show _=_++(frm _++[])
    rw [Ar]
   .show t.n+1=_;rw [h.n,Ai];rfl
   .rw [aAb,<-h.s];exact ⟨h.ok,⟨q,i,g⟩,by omega,trivial⟩
  .rw [if_pos a];exact ⟨l,h,Ic _⟩
 .rw [if_pos q];exact ⟨l,h,Ic _⟩
def Kept.okT{t:Kst}{l:List Rec}(h:Kept t l):OkT t.s:=by rw [h.s];exact aDB AL h.ok
def Kept.snap{t:Kst}{l:List Rec}(h:Kept t l):∃ a,Kept (kT t) a/\a.length<=l.length+1:=by
 unfold kT;by_cases q:gD t=0
 .rw [if_pos q];unfold gD at q;split at q
  .cases q
  split at q
  .cases q
  refine ⟨[.s t.s],⟨⟨rfl,rfl,?_,h.cl.size⟩,?_,rfl,⟨h.okT,by omega,trivial⟩,rfl⟩,by simp⟩
  .show ((frm _).length:Int)<=t.d.size;rw [dT];omega
  .show frm _=frm _++[]
   rw [Ar]
 .rw [if_neg q];exact ⟨l,h,Ic _⟩
def aO4{s:Sta}{x:Cmd}(h:(aC s x).2.2=0):C8.decX (C8.encB x)=x/\C8.decE (C8.encB x)=0:=C8.dec_enc (aLA h)
def aLP{s:Sta}(h:OkT s):aCH (cE s)=some s:=aK6 (FW h.ok) h.lt
def A2:∀ {l:List Rec} {s:Sta},okR l s->∀ t∈l.map Rec.b,t.length<=16384
 | [],_,_,t,h=>by simp at h
 | r::l,s,h,t,a=>by
  rcases Aw.1 a with rfl | a
  .exact h.2.1
  .exact A2 h.2.2 t a
structure Kstp where
 k:Int
 x:Cmd
 n:Int
abbrev _root_.bf:=List Kstp
def wrE(t:Kst)(x:Cmd):Int:=if (aC t.s x).2.2≠0 then (aC t.s x).2.2 else iD t.d (Rec.b (.c x))
def E8(x:Cmd)(n:Int):Bool:=decide (((Rec.b (.c x)).length:Int)+8<=n)
def aG(t:Kst)(p:Kstp):Kst×bb×Int:=
 if p.k=1 then doS t p.x
 else if p.k=2 then (kT t,[],gD t)
 else if p.k=4 then (if wrE t p.x≠0 then (t,[],wrE t p.x) else (if E8 p.x p.n then (doS t p.x).1 else t,[],0))
 else if p.k=3\/p.k=5 then (t,[],0)
 else (t,[],1)
def Kept.stepL{t:Kst}{l:List Rec}(h:Kept t l)(p:Kstp)(d:p.x.k=1->p.x.c.sm)(b:t.s.nxt<1099511627776):∃ a,Kept (aG t p).1 a/\a.length<=l.length+1:=by
 unfold aG;split
 .exact h.do p.x d b
 split
 .exact h.snap
 split
 .split
  .exact ⟨l,h,Ic _⟩
  .dsimp only;split
   .exact h.do p.x d b
   .exact ⟨l,h,Ic _⟩
 split
 .exact ⟨l,h,Ic _⟩
 .exact ⟨l,h,Ic _⟩
def aKZ(t:Kst)(x:Cmd)(h:OkT t.s)(a:t.s.nxt<1099511627776):(doS t x).1.s.nxt<=t.s.nxt+1:=by
 have:=(h.apply a x).2.1;unfold doS;split
 .show t.s.nxt<=_;omega
 split
 .show t.s.nxt<=_;omega
 .exact this
def FD(t:Kst):(kT t).s=t.s:=by unfold kT;split<;>rfl
def aBz(t:Kst)(p:Kstp)(h:OkT t.s)(a:t.s.nxt<1099511627776):(aG t p).1.s.nxt<=t.s.nxt+1:=by
 have h1:=aKZ t p.x h a;unfold aG;split
 .exact h1
 split
 .show (kT t).s.nxt<=_;rw [FD];omega
 split
 .split
  .show t.s.nxt<=_;omega
  .dsimp only;split
   .exact h1
   .omega
 split
 .show t.s.nxt<=_;omega
 .show t.s.nxt<=_;omega
abbrev tSt:TypeId:=144
abbrev stS(s:Sta)(m:Int)(f:Bool)(n:Int)(x:aw):au:=.cells tSt (.ref 1 0::s.cs)::jnO 2 m::dkC n (sfV f 3 x) aV false::sfT f
abbrev crB(x:Cmd):aw:=67::C8.encB x
def OE(x:Cmd)(b:(C8.encB x).length<=1000000000):aq 73 [x.av] [] (.ret (.str (crB x))) []:=by
 have h1:=C8.enc_ok x;have a:((1+(C8.encB x).length:Nat):Int)<=9223372036854775807:=o_;refine c_ Tryz.f73 λ_=>?_
 repeat' first | (refine gN hE ?_;conv=>whnf) | refine .pure _ [] h1 ?_ | refine Ae a ?_ | exact rfl | refine zt ?_ | refine zu ?_ ?_ | intro h | fail
def aCK(s:Sta)(R:Sta×bb×Int)(h1:lZ s Cmd.zero R):aq 79 [s.av] [] (.ret (.tup [R.1.av,ii R.2.2])) []:=by exact c_ Tryz.f79 λ_=>zW
def kJ(s:Sta)(R:Sta×bb×Int)(a:lZ s Cmd.zero R)(m:Int)(f:Bool)(n:Int)(x:aw):aq 30 [.ref 0 0] (stS s m f n x) (.ret R.1.av) (stS s m f n x):=by
 have h1:=aCK s R a;cases f
 .refine cT (E:=E) (fn:=Tryz.f30) (g:=.full 3 _ _) λ_=>?_;exact zW
 .refine cT (E:=E) (fn:=Tryz.f30) (g:=.full 4 _ _) λ_=>?_
  repeat' first | (refine gN hE ?_;conv=>whnf) | refine .pure _ [] h1 ?_ | exact rfl | refine zt ?_ | refine zu ?_ ?_ | intro h | fail
  exact zx [0,1,2,3]
def aOW(s:Sta)(c:Cmd)(R:Sta×bb×Int)(h1:lZ s c R)(a:R.2.2≠0)(m:Int)(f:Bool)(n:Int)(x:aw):
  aq 27 [.ref 0 0,c.av] (stS s m f n x) (.ret (.tup [.slice 3 [] .nil,ii R.2.2])) (stS s m f n x):=by
 obtain ⟨S,ev,e⟩:=R;have b:(e !=0)=true:=by simpa using a
 cases f
 .refine cT (E:=(Er [] [7,8,20,21])) (fn:=Tryz.f27) (g:=.full 3 _ _) λ_=>?_;exact zW
 .refine cT (E:=(Er [] [7,8,20,21])) (fn:=Tryz.f27) (g:=.full 4 _ _) λ_=>?_
  repeat' first | (refine gN (hEr [] [7,8,20,21]) ?_;conv=>whnf) | refine .pure _ [] h1 ?_ | exact zx [0,1,2,3] | exact rfl | refine zt ?_ | refine zu ?_ ?_ | intro h | fail
  all_goals (exfalso;clear h1;simp_all)
def aOX(s:Sta)(c:Cmd)(S:Sta)(ev:bb)(h1:lZ s c (S,ev,0))(a:(C8.encB c).length<=1000000000)(m:Int)(f:Bool)(n:Int)(x:aw)(e:Int)(d:e≠0)
  (h3:aq 72 [.ref 0 0,.str (crB c)] (jdO m f n x) (.ret (ii e)) (jdO m f n x)):
  aq 27 [.ref 0 0,c.av] (stS s m f n x) (.ret (.tup [.slice 3 [] .nil,ii e])) (stS s m f n x):=by
 have b:=OE c a;have i:(e !=0)=true:=by simpa using d
 cases f
 all_goals
  refine cT (E:=(Er [] [7,8,20,21])) (fn:=Tryz.f27) (g:=.full _ _ _) λ_=>?_
  repeat' first | (refine gN (hEr [] [7,8,20,21]) ?_;conv=>whnf) | refine .pure _ [] h1 ?_ | refine .pure _ [] b ?_ | refine .sole rfl (.eff [] [1,2] _ _ rfl h3 ?_) | refine .sole rfl (.eff [] [1,2,3] _ _ rfl h3 ?_) | exact zx [0,1,2] | exact zx [0,1,2,3] | exact rfl | refine zt ?_ | refine zu ?_ ?_ | intro h | fail
 all_goals (exfalso;clear h1;simp_all)
abbrev stG(s:Sta)(m:Int)(f:Bool)(n:Int)(x:aw):au:=.cells tSt (.ref 1 0::s.cs)::jnO 2 m::dkC n (sgV f 3 x) aV false::sgT f
def aMI(s:Sta)(c:Cmd)(S:Sta)(ev:bb)(h1:lZ s c (S,ev,0))(a:(C8.encB c).length<=1000000000)(m:Int)(f:Bool)(n:Int)(x:aw)
  (h3:aq 72 [.ref 0 0,.str (crB c)] (jdO m f n x) (.ret (ii 0)) (jnO 1 (m+1)::dkC n (sgV f 2 (x++frm (crB c))) aV false::sgT f)):
  aq 27 [.ref 0 0,c.av] (stS s m f n x) (.ret (.tup [.slice 3 (evv ev) .no,ii 0])) (stG S (m+1) f n (x++frm (crB c))):=by
 have b:=OE c a;cases f
 all_goals
  refine cT (E:=(Er [] [7,8,20,21])) (fn:=Tryz.f27) (g:=.full _ _ _) λ_=>?_
  repeat' first | (refine gN (hEr [] [7,8,20,21]) ?_;conv=>whnf) | refine .pure _ [] h1 ?_ | refine .pure _ [] b ?_ | refine .sole rfl (.eff [] [1,2] _ _ rfl h3 ?_) | refine .sole rfl (.eff [] [1,2,3] _ _ rfl h3 ?_) | exact zx [0,1,2,5] | exact zx [0,1,2,3] | exact rfl | refine zt ?_ | refine zu ?_ ?_ | intro h | fail
def aMw(s:Sta)(c:Cmd)(R:Sta×bb×Int)(h1:lZ s c R)(a:R.2.2≠0)(m:Int)(f:Bool)(n:Int)(x:aw):
  aq 31 [.ref 0 0,c.av] (stS s m f n x) (.ret (ii R.2.2)) (stS s m f n x):=by
 obtain ⟨S,ev,e⟩:=R;have b:(e !=0)=true:=by simpa using a
 cases f
 all_goals
  refine cT (E:=(Er [] [6,7,18,19])) (fn:=Tryz.f31) (g:=.full _ _ _) λ_=>?_
  repeat' first | (refine gN (hEr [] [6,7,18,19]) ?_;conv=>whnf) | refine .pure _ [] h1 ?_ | exact zx [0,1,2] | exact zx [0,1,2,3] | exact rfl | refine zt ?_ | refine zu ?_ ?_ | intro h | fail
 all_goals (exfalso;clear h1;simp_all)
def aMx(s:Sta)(c:Cmd)(S:Sta)(ev:bb)(h1:lZ s c (S,ev,0))(a:(C8.encB c).length<=1000000000)(m:Int)(f:Bool)(n:Int)(x:aw)(e:Int)
  (h3:aq 80 [.ref 0 0,.str (crB c)] (jdO m f n x) (.ret (ii e)) (jdO m f n x)):
  aq 31 [.ref 0 0,c.av] (stS s m f n x) (.ret (ii e)) (stS s m f n x):=by
 have b:=OE c a;cases f
 all_goals
  refine cT (E:=(Er [] [6,7,18,19])) (fn:=Tryz.f31) (g:=.full _ _ _) λ_=>?_
  repeat' first | (refine gN (hEr [] [6,7,18,19]) ?_;conv=>whnf) | refine .pure _ [] h1 ?_ | refine .pure _ [] b ?_ | refine .sole rfl (.eff [] [1,2] _ _ rfl h3 ?_) | refine .sole rfl (.eff [] [1,2,3] _ _ rfl h3 ?_) | exact zx [0,1,2] | exact zx [0,1,2,3] | exact rfl | refine zt ?_ | refine zu ?_ ?_ | intro h | fail
def aIl(s:Sta)(c:Cmd)(S:Sta)(ev:bb)(h1:lZ s c (S,ev,0))(a:(C8.encB c).length<=1000000000)(m:Int)(f:Bool)(n:Int)(x:aw)
  (h3:aq 80 [.ref 0 0,.str (crB c)] (jdO m f n x) (.ret (ii 0)) (jnO 1 m::dkC n (sfV f 2 x) (wtB (frm (crB c))) false::sfT f)):
  aq 31 [.ref 0 0,c.av] (stS s m f n x) (.ret (ii 0)) (.cells tSt (.ref 1 0::s.cs)::jnO 2 m::dkC n (sfV f 3 x) (wtB (frm (crB c))) false::sfT f):=by
 have b:=OE c a;cases f
 all_goals
  refine cT (E:=(Er [] [6,7,18,19])) (fn:=Tryz.f31) (g:=.full _ _ _) λ_=>?_
  repeat' first | (refine gN (hEr [] [6,7,18,19]) ?_;conv=>whnf) | refine .pure _ [] h1 ?_ | refine .pure _ [] b ?_ | refine .sole rfl (.eff [] [1,2] _ _ rfl h3 ?_) | refine .sole rfl (.eff [] [1,2,3] _ _ rfl h3 ?_) | exact zx [0,1,2] | exact zx [0,1,2,3] | exact rfl | refine zt ?_ | refine zu ?_ ?_ | intro h | fail
def aDT(s:Sta)(b:aw)(h1:aq 40 [s.av] [] (.ret (.tup [.str b,ii 0])) [])(d:b.length<=1000000000)(m:Int)(f:Bool)(n:Int)(x:aw)(e:Int)
  (h3:aq 74 [.ref 0 0,.slice 1 [.str (83::b)] .no] (jdO m f n x) (.ret (ii e)) (jdO m f n x)):
  aq 28 [.ref 0 0] (stS s m f n x) (.ret (ii e)) (stS s m f n x):=by
 have a:=aA.strip (args:=[.ref 0 0,.slice 1 [.str (83::b)] .full]) h3;have c:((1+b.length:Nat):Int)<=9223372036854775807:=o_;cases f
 all_goals
  refine cT (E:=E) (fn:=Tryz.f28) (g:=.full _ _ _) λ_=>?_
  repeat' first | (refine gN hE ?_;conv=>whnf) | refine .pure _ [] h1 ?_ | refine Ae c ?_ | refine .eff [] [1,2] _ _ rfl a ?_ | refine .eff [] [1,2,3] _ _ rfl a ?_ | exact zx [0,1,2] | exact zx [0,1,2,3] | exact rfl | refine zt ?_ | refine zu ?_ ?_ | intro h | fail
def aDS(s:Sta)(b:aw)(h1:aq 40 [s.av] [] (.ret (.tup [.str b,ii 0])) [])(d:b.length<=1000000000)(m:Int)(f:Bool)(n:Int)(x:aw)
  (h3:aq 74 [.ref 0 0,.slice 1 [.str (83::b)] .no] (jdO m f n x) (.ret (ii 0)) (jnO 1 1::dkC n (sfV false 2 (frm (83::b))) aV false::sfT f)):
  aq 28 [.ref 0 0] (stS s m f n x) (.ret (ii 0)) (.cells tSt (.ref 1 0::s.cs)::jnO 2 1::dkC n (sfV false 3 (frm (83::b))) aV false::sfT f):=by
 have a:=aA.strip (args:=[.ref 0 0,.slice 1 [.str (83::b)] .full]) h3;have c:((1+b.length:Nat):Int)<=9223372036854775807:=o_;cases f
 all_goals
  refine cT (E:=E) (fn:=Tryz.f28) (g:=.full _ _ _) λ_=>?_
  repeat' first | (refine gN hE ?_;conv=>whnf) | refine .pure _ [] h1 ?_ | refine Ae c ?_ | refine .eff [] [1,2] _ _ rfl a ?_ | refine .eff [] [1,2,3] _ _ rfl a ?_ | exact zx [0,1,2] | exact zx [0,1,2,3] | exact rfl | refine zt ?_ | refine zu ?_ ?_ | intro h | fail
def aIt(b:aw)(x:Cmd)(h1:aq 43 [.str b] [] (.ret (.tup [x.av,ii 0])) [])(hl:b.length<=1000000):
  aq 130 [.str (67::b)] [] (.ret (.tup [x.av,Sta.nil.av,.bool false,.nilif])) []:=by
 have hz:1<=(67::b).length:=Nat.succ_le_succ (Ch _);refine cT (E:=(Er [] [4,5])) (fn:=Tryz.f130) (g:=.pure _) λ_=>?_
 repeat' first | (refine gN (hEr [] [4,5]) ?_;conv=>whnf) | refine Ae hz ?_ | refine .pure _ [] h1 ?_ | exact rfl | refine zt ?_ | refine zu ?_ ?_ | intro h | fail
def aIs(b:aw)(x:Sta)(h1:aq 41 [.str b] [] (.ret (.tup [x.av,ii 0])) [])(hl:b.length<=1000000):
  aq 130 [.str (83::b)] [] (.ret (.tup [Cmd.zero.av,x.av,.bool true,.nilif])) []:=by
 have hz:1<=(83::b).length:=Nat.succ_le_succ (Ch _);refine cT (E:=(Er [] [4,5])) (fn:=Tryz.f130) (g:=.pure _) λ_=>?_
 repeat' first | (refine gN (hEr [] [4,5]) ?_;conv=>whnf) | refine Ae hz ?_ | exact rfl | refine zt ?_ | refine zu ?_ ?_ | intro h | fail
 refine .pure _ [] h1 (gV ?_);refine Ae (λ_=>?_) (λ h=>absurd h s_);refine dF (hEr [] [4,5]) 1 ?_;conv=>whnf
 refine To.permAt (hEr [] [4,5]) [0,1] [2,3,4,5] (by rfl) ?_;conv=>whnf
 repeat (refine aL ?_;conv=>whnf;(try conv=>whnf))
 exact zW
noncomputable abbrev aCt:Func:=Tryz.f69
def V7:Rec->Prop
 | .c x=>aq 130 [.str (67::C8.encB x)] [] (.ret (.tup [x.av,Sta.nil.av,.bool false,.nilif])) []
 | .s x=>aq 130 [.str (83::cE x)] [] (.ret (.tup [Cmd.zero.av,x.av,.bool true,.nilif])) []
def WJ(s:Sta):Rec->Prop
 | .c x=>lZ s x ((aC s x).1,(aC s x).2.1,0)
 | .s _=>True
def aEe(L:List Rec)(p:L.length<=1000000)(g:Sta->List Rec->Prop)(o:∀ s r l,g s (r::l)->V7 r/\WJ s r/\g (r.to s) l)(R:Sta):∀ (m i:Nat) (s:Sta),i+m=L.length->g s (L.drop i)->toL (L.drop i) s=R->
  To E aCt (.pure (.ret (.tup [R.av,.nilif]))) (.head (stk aCt 0) [(2,.ref 0 0),(4,.ref 1 0),(5,.nilif),(14,.slice 1 (qF (L.map Rec.b)) .no),(15,.int .i64 ((qF (L.map Rec.b)).length:Nat)),(16,ii i)] [uT,uH s]):=by
 have k:(qF (L.map Rec.b)).length=L.length:=by simp
 intro m;induction m with
 | zero=>
  intro i s n _ a;rw [Ab o_] at a;have a:s=R:=a;subst a;refine gV ?_;exact zW
 | succ m j=>
  intro i s n e a;have d:i<L.length:=o_;rw [Aa d] at a e;have get:(qF (L.map Rec.b))[i]? =some (.str L[i].b):=by simp [d]
  generalize L[i]=r at a e get;obtain ⟨h1,h,h3⟩:=o _ _ _ e;have next:=j (i+1) (r.to s) o_ h3 a
  clear j a h3 e;cases r with
  | c x=>
   have h1:aq 130 [.str (67::C8.encB x)] [] (.ret (.tup [x.av,Sta.nil.av,.bool false,.nilif])) []:=h1;have h:lZ s x ((aC s x).1,(aC s x).2.1,0):=h;have get:(qF (L.map Rec.b))[i]? =some (.str (67::C8.encB x)):=get;replace next:To E aCt _ (.head (stk aCt 0) _ [uT,uH (aC s x).1]):=next
   generalize (67::C8.encB x)=t at *
   generalize (aC s x).1=S at *
   generalize (aC s x).2.1=ev at *
   refine gV ?_;exact zW
  | s x=>
   have h1:aq 130 [.str (83::cE x)] [] (.ret (.tup [Cmd.zero.av,x.av,.bool true,.nilif])) []:=h1;have get:(qF (L.map Rec.b))[i]? =some (.str (83::cE x)):=get;replace next:To E aCt _ (.head (stk aCt 0) _ [uT,uH x]):=next
   generalize (83::cE x)=t at *
   refine gV ?_;exact zW
def aBL(L:List Rec)(c:L.length<=1000000)(a:Sta->List Rec->Prop)(d:∀ s r l,a s (r::l)->V7 r/\WJ s r/\a (r.to s) l)(e:a cA L):
  aq 69 [.slice 1 (qF (L.map Rec.b)) .no] [] (.ret (.tup [(toL L cA).av,.nilif])) []:=by
 have h:=aEe L c a d (toL L cA) L.length 0 cA o_ (by rw [Ap];exact e) (by rw [Ap]);have i:=AO;generalize toL L cA=R at *
 generalize L.map Rec.b=V at *
 exact c_ Tryz.f69 λ_=>zW
abbrev aO(m:aw):ab:=.bun 0 (W7 0 (XW m))
def Q0(f f':Bool)(b:f'=true->f=true)(g:aw)(n:Int)(x y:aw)(S:Sta)(V:ay)(m:Int)
  (h1:aq 68 [.ref 0 0] (dkO f n x aV false) (.ret (.tup [.ref (jdN f) 0,.slice 1 V .no])) (dkC n (sfV f' 1 y) aV false::sfT f++[jnO 0 m]))
  (a:aq 69 [.slice 1 V .no] [] (.ret (.tup [S.av,.nilif])) []):
  aq 26 [.ref 0 0] (dkO f n x aV false++[aO g]) (.ret (.tup [.ref (jdN f+2) 0,ii 0])) (dkC n (sfV f' 1 y) aV false::sfT f++[aO g,jnO 0 m,.cells tSt (.ref (jdN f+1) 0::S.cs)]):=by
 have h3:=aLU g;cases f<;>cases f'
 case false.true=>exact absurd (b rfl) d_
 all_goals
  refine cT (E:=E) (fn:=Tryz.f26) (g:=.full _ _ _) λ_=>?_
  repeat' first | (refine gN hE ?_;conv=>whnf) | refine .eff [] [0] _ _ rfl h1 ?_ | refine .eff [] [0,1] _ _ rfl h1 ?_ | exact rfl | refine zt ?_ | refine zu ?_ ?_ | intro h | fail
  refine .pure _ [] a ?_;refine dF hE 22 ?_;conv=>whnf
  refine To.glob hE 1 [] (by rfl) (by rfl) (by rfl) (by rfl) ?_;conv=>whnf
  first
   | refine .mk 1 0 (XW g) _ (by rfl) (by rfl) ?_
   | refine .mk 2 0 (XW g) _ (by rfl) (by rfl) ?_
  repeat' first | (refine gN hE ?_;conv=>whnf) | refine .pure _ [] h3 ?_ | exact zx [0,1,2,4] | exact zx [0,1,2,3,5] | exact rfl | refine zt ?_ | refine zu ?_ ?_ | intro h | fail
abbrev CG(k:Int)(c:Cmd)(n:Int):aa:=.agg (ii k::(c.av.cells++[ii n]))
abbrev tDr:TypeId:=121
abbrev pv(b:Bool):aa:=match b with | true=>.nilptr | false=>.undef
abbrev drS(f f':Bool)(g:aw)(n:Int)(x:aw)(m:Int)(S:Sta):au:=.cells tDr [.ref 1 0,.ref (jdN f+3) 0]::dkC n (sfV f' 2 x) aV false::sfT f++[aO g,jnO 1 m,.cells tSt (.ref (jdN f+2) 0::S.cs)]
def UB(b f f':Bool)(g:aw)(n:Int)(x y:aw)(S:Sta)(m:Int)
  (h1:aq 26 [.ref 0 0] (dkO f n x aV false++[aO g]) (.ret (.tup [.ref (jdN f+2) 0,ii 0])) (dkC n (sfV f' 1 y) aV false::sfT f++[aO g,jnO 0 m,.cells tSt (.ref (jdN f+1) 0::S.cs)])):
  aq 59 [.ref 0 0] (.cells tDr [.ref 1 0,pv b]::dkC n (sfV f 2 x) aV false::sfT f++[aO g]) (.ret (ii 0)) (drS f f' g n y m S):=by
 cases b<;>cases f<;>cases f'
 all_goals
  refine cT (E:=E) (fn:=Tryz.f59) (g:=.full _ _ _) λ_=>?_
  repeat' first | (refine gN hE ?_;conv=>whnf) | refine .eff [] [1,2] _ _ rfl h1 ?_ | refine .eff [] [1,2,3] _ _ rfl h1 ?_ | exact zx [0,1,2,3,4] | exact zx [0,1,2,3,4,5] | exact rfl | refine zt ?_ | refine zu ?_ ?_ | intro h | fail
def aKU(f:Bool)(g:aw)(n:Int)(x:aw)(m:Int)(S:Sta)(c:Cmd)(p e:Int)
  (h1:aq 27 [.ref 0 0,c.av] (stS S m f n x) (.ret (.tup [.slice 3 [] .nil,ii e])) (stS S m f n x)):
  aq 20 [.ref 0 0,CG 1 c p] (drS f f g n x m S) (.ret (.agg [ii e,.slice 3 [] .nil])) (drS f f g n x m S):=by
 cases f
 all_goals
  refine cT (E:=(Er [] [28,29,30,31])) (fn:=Tryz.f20) (g:=.full _ _ _) λ_=>?_
  repeat' first | (refine gN (hEr [] [28,29,30,31]) ?_;conv=>whnf) | refine .sole rfl (.eff [] [4,3,1] _ _ rfl h1 ?_) | refine .sole rfl (.eff [] [5,4,1,2] _ _ rfl h1 ?_) | exact zx [0,1,2,3,4] | exact zx [0,1,2,3,4,5] | exact rfl | refine zt ?_ | refine zu ?_ ?_ | intro h | fail
abbrev drG(f:Bool)(g:aw)(n:Int)(x:aw)(m:Int)(S:Sta):au:=match f with
 | true=>[.cells tDr [.ref 1 0,.ref 5 0],dkC n (sgV true 2 x) aV false,.tail 1 1 5,aO g,jnO 1 m,.cells tSt (.ref 4 0::S.cs)]
 | false=>[.cells tDr [.ref 1 0,.ref 4 0],dkC n (sgV false 5 x) aV false,aO g,jnO 1 m,.cells tSt (.ref 3 0::S.cs),.tail 0 1 5]
def B0(f:Bool)(g:aw)(n:Int)(x y:aw)(m b:Int)(S a:Sta)(ev:bb)(c:Cmd)(p:Int)
  (h1:aq 27 [.ref 0 0,c.av] (stS S m f n x) (.ret (.tup [.slice 3 (evv ev) .no,ii 0])) (stG a b f n y)):
  aq 20 [.ref 0 0,CG 1 c p] (drS f f g n x m S) (.ret (.agg [ii 0,.slice 3 (evv ev) .no])) (drG f g n y b a):=by
 cases f
 all_goals
  refine cT (E:=(Er [] [28,29,30,31])) (fn:=Tryz.f20) (g:=.full _ _ _) λ_=>?_
  repeat' first | (refine gN (hEr [] [28,29,30,31]) ?_;conv=>whnf) | refine .sole rfl (.eff [] [4,3,1] _ _ rfl h1 ?_) | refine .sole rfl (.eff [] [5,4,1,2] _ _ rfl h1 ?_) | exact zx [0,1,2,3,4,7] | exact zx [0,1,2,3,4,5] | exact rfl | refine zt ?_ | refine zu ?_ ?_ | intro h | fail
def aGZ(f:Bool)(g:aw)(n:Int)(x:aw)(m:Int)(S:Sta)(c:Cmd)(p e:Int)
  (h1:aq 28 [.ref 0 0] (stS S m f n x) (.ret (ii e)) (stS S m f n x)):
  aq 20 [.ref 0 0,CG 2 c p] (drS f f g n x m S) (.ret (.agg [ii e,.slice 3 [] .nil])) (drS f f g n x m S):=by
 cases f
 all_goals
  refine cT (E:=E) (fn:=Tryz.f20) (g:=.full _ _ _) λ_=>?_
  repeat' first | (refine gN hE ?_;conv=>whnf) | refine .eff [] [4,3,1] _ _ rfl h1 ?_ | refine .eff [] [5,4,1,2] _ _ rfl h1 ?_ | exact zx [0,1,2,3,4] | exact zx [0,1,2,3,4,5] | exact rfl | refine zt ?_ | refine zu ?_ ?_ | intro h | fail
def aGY(f:Bool)(g:aw)(n:Int)(x y:aw)(m:Int)(S:Sta)(c:Cmd)(p:Int)
  (h1:aq 28 [.ref 0 0] (stS S m f n x) (.ret (ii 0)) (.cells tSt (.ref 1 0::S.cs)::jnO 2 1::dkC n (sfV false 3 y) aV false::sfT f)):
  aq 20 [.ref 0 0,CG 2 c p] (drS f f g n x m S) (.ret (.agg [ii 0,.slice 3 [] .nil])) (drS f false g n y 1 S):=by
 cases f
 all_goals
  refine cT (E:=E) (fn:=Tryz.f20) (g:=.full _ _ _) λ_=>?_
  repeat' first | (refine gN hE ?_;conv=>whnf) | refine .eff [] [4,3,1] _ _ rfl h1 ?_ | refine .eff [] [5,4,1,2] _ _ rfl h1 ?_ | exact zx [0,1,2,3,4] | exact zx [0,1,2,3,4,5] | exact rfl | refine zt ?_ | refine zu ?_ ?_ | intro h | fail
abbrev drR(f f':Bool)(g:aw)(n:Int)(y:aw)(m m':Int)(S S':Sta):au:=match f with
 | true=>[.cells tDr [.ref 1 0,.ref 7 0],dkC n (sfV f' 2 y) aV false,.tail 0 1 5,aO g,jnO 1 m,.cells tSt (.ref 4 0::S.cs),jnO 1 m',.cells tSt (.ref 6 0::S'.cs)]
 | false=>[.cells tDr [.ref 1 0,.ref 6 0],dkC n (sfV f' 2 y) aV false,aO g,jnO 1 m,.cells tSt (.ref 3 0::S.cs),jnO 1 m',.cells tSt (.ref 5 0::S'.cs)]
def aGW(f:Bool)(g:aw)(n:Int)(x y:aw)(m b:Int)(S a:Sta)(c:Cmd)(p:Int)
  (h1:aq 59 [.ref 0 0] (.cells tDr [.ref 1 0,pv false]::dkC n (sfV f 2 x) aV false::sfT f++[aO g]) (.ret (ii 0)) (drS f f g n y b a)):
  aq 20 [.ref 0 0,CG 5 c p] (drS f f g n x m S) (.ret (.agg [ii 0,.slice 3 [] .nil])) (drR f f g n y m b S a):=by
 cases f
 all_goals
  refine cT (E:=E) (fn:=Tryz.f20) (g:=.full _ _ _) λ_=>?_
  repeat' first | (refine gN hE ?_;conv=>whnf) | refine .eff [] [0,1,2] _ _ rfl h1 ?_ | refine .eff [] [0,1,2,3] _ _ rfl h1 ?_ | exact zx [0,1,2,3,4,7,8] | exact zx [0,1,2,3,4,5,8,9] | exact rfl | refine zt ?_ | refine zu ?_ ?_ | intro h | fail
def aGV(f:Bool)(g:aw)(n:Int)(x:aw)(m:Int)(S:Sta)(c:Cmd)(k p:Int)(h1:k≠1)(d:k≠2)(h3:k≠3)(b:k≠4)(a:k≠5):
  aq 20 [.ref 0 0,CG k c p] (drS f f g n x m S) (.ret (.agg [ii 1,.slice 3 [] .nil])) (drS f f g n x m S):=by
 have e:(k==1)=false:=by simpa using h1
 have l:(k==2)=false:=by simpa using d
 have o:(k==3)=false:=by simpa using h3
 have j:(k==4)=false:=by simpa using b
 have i:(k==5)=false:=by simpa using a
 cases f
 all_goals
  refine cT (E:=E) (fn:=Tryz.f20) (g:=.full _ _ _) λ_=>?_
  repeat' first | (refine gN hE ?_;conv=>whnf) | exact zx [0,1,2,3,4] | exact zx [0,1,2,3,4,5] | exact rfl | refine zt ?_ | refine zu ?_ ?_ | intro h | fail
 all_goals (exfalso;simp_all)
abbrev aPS(f:Bool)(g:aw)(n:Int)(y:aw)(m m':Int)(S S':Sta):au:=match f with
 | true=>[.cells tDr [.ref 1 0,.ref 7 0],dkC n (sgV true 2 y) aV false,.tail 1 1 5,aO g,jnO 1 m,.cells tSt (.ref 4 0::S.cs),jnO 1 m',.cells tSt (.ref 6 0::S'.cs)]
 | false=>[.cells tDr [.ref 1 0,.ref 6 0],dkC n (sfV false 2 y) aV false,aO g,jnO 1 m,.cells tSt (.ref 3 0::S.cs),jnO 1 m',.cells tSt (.ref 5 0::S'.cs)]
def aGX(f:Bool)(g:aw)(n:Int)(x y:aw)(m e:Int)(S d:Sta)(c:Cmd)(p:Int)(b:x.length<=1048576)
  (h1:aq 59 [.ref 0 0] (.cells tDr [.ref 1 0,pv false]::dkC n (sfV f 2 x) aV false::sfT f++[aO g]) (.ret (ii 0)) (drS f f g n y e d)):
  aq 20 [.ref 0 0,CG 3 c p] (drS f f g n x m S) (.ret (.agg [ii 0,.slice 3 [] .nil])) (aPS f g n y m e S d):=by
 cases f
 .have a:=X9 n x p b;refine cT (E:=E) (fn:=Tryz.f20) (g:=.full 5 _ _) λ_=>?_
  repeat' first | (refine gN hE ?_;conv=>whnf) | refine .sole rfl (.eff [] [1] _ _ rfl a ?_) | refine .eff [] [0,1,2] _ _ rfl h1 ?_ | exact rfl | refine zt ?_ | refine zu ?_ ?_ | intro h | fail
  exact zx [0,1,2,3,4,7,8]
 .have a:=X8 n x p b;refine cT (E:=E) (fn:=Tryz.f20) (g:=.full 6 _ _) λ_=>?_
  repeat' first | (refine gN hE ?_;conv=>whnf) | refine .sole rfl (.eff [] [1,2] _ _ rfl a ?_) | refine .eff [] [0,1,2,3] _ _ rfl h1 ?_ | exact rfl | refine zt ?_ | refine zu ?_ ?_ | intro h | fail
  exact zx [0,1,2,3,4,5,8,9]
def aKT(f:Bool)(g:aw)(n:Int)(x:aw)(m:Int)(S:Sta)(c:Cmd)(p e:Int)(a:e≠0)
  (h1:aq 31 [.ref 0 0,c.av] (stS S m f n x) (.ret (ii e)) (stS S m f n x)):
  aq 20 [.ref 0 0,CG 4 c p] (drS f f g n x m S) (.ret (.agg [ii e,.slice 3 [] .nil])) (drS f f g n x m S):=by
 have b:(e !=0)=true:=by simpa using a
 cases f
 all_goals
  refine cT (E:=E) (fn:=Tryz.f20) (g:=.full _ _ _) λ_=>?_
  repeat' first | (refine gN hE ?_;conv=>whnf) | refine .sole rfl (.eff [] [4,3,1] _ _ rfl h1 ?_) | refine .sole rfl (.eff [] [5,4,1,2] _ _ rfl h1 ?_) | exact zx [0,1,2,3,4] | exact zx [0,1,2,3,4,5] | exact rfl | refine zt ?_ | refine zu ?_ ?_ | intro h | fail
 all_goals (exfalso;clear h1;simp_all)
abbrev drW(f':Bool)(g:aw)(n:Int)(y:aw)(m m':Int)(S S':Sta):au:=[.cells tDr [.ref 1 0,.ref 7 0],dkC n (match f' with | true=>sgV true 2 y | false=>sfV false 2 y) aV false,.tail 1 1 5,aO g,jnO 1 m,.cells tSt (.ref 4 0::S.cs),jnO 1 m',.cells tSt (.ref 6 0::S'.cs)]
def DJ(f':Bool)(g:aw)(n:Int)(x b y:aw)(m e:Int)(S a:Sta)(c:Cmd)(p:Int)(i:x.length<=1048576)(j:b.length<=1048576)
  (h1:aq 31 [.ref 0 0,c.av] (stS S m true n x) (.ret (ii 0)) (.cells tSt (.ref 1 0::S.cs)::jnO 2 m::dkC n (sfV true 3 x) (wtB b) false::sfT true))
  (h3:aq 59 [.ref 0 0] (.cells tDr [.ref 1 0,pv false]::dkC n (sfV true 2 (x++b.take (fJ p b.length))) aV false::sfT true++[aO g]) (.ret (ii 0)) (drS true f' g n y e a)):
  aq 20 [.ref 0 0,CG 4 c p] (drS true true g n x m S) (.ret (.agg [ii 0,.slice 3 [] .nil])) (drW f' g n y m e S a):=by
 have d:=M6 n x b p i j;cases f'
 .refine cT (E:=E) (fn:=Tryz.f20) (g:=.full 6 _ _) λ_=>?_
  repeat' first | (refine gN hE ?_;conv=>whnf) | refine .sole rfl (.eff [] [5,4,1,2] _ _ rfl h1 ?_) | refine .sole rfl (.eff [] [1,2] _ _ rfl d ?_) | refine .eff [] [0,1,2,3] _ _ rfl h3 ?_ | exact rfl | refine zt ?_ | refine zu ?_ ?_ | intro h | fail
  exact zx [0,1,2,3,4,5,8,9]
 .refine cT (E:=E) (fn:=Tryz.f20) (g:=.full 6 _ _) λ_=>?_
  repeat' first | (refine gN hE ?_;conv=>whnf) | refine .sole rfl (.eff [] [5,4,1,2] _ _ rfl h1 ?_) | refine .sole rfl (.eff [] [1,2] _ _ rfl d ?_) | refine .eff [] [0,1,2,3] _ _ rfl h3 ?_ | exact rfl | refine zt ?_ | refine zu ?_ ?_ | intro h | fail
  exact zx [0,1,2,3,4,5,8,9]
abbrev drX(f':Bool)(g:aw)(n:Int)(y:aw)(m m':Int)(S S':Sta):au:=[.cells tDr [.ref 1 0,.ref 7 0],dkC n (match f' with | true=>.slice 1 (y.map ub) (.own 5 0) | false=>sfV false 2 y) aV false,aO g,jnO 1 m,.cells tSt (.ref 3 0::S.cs),.tail 0 1 5,jnO 1 m',.cells tSt (.ref 6 0::S'.cs)]
def JB(f':Bool)(g:aw)(n:Int)(x b y:aw)(m i:Int)(S d:Sta)(c:Cmd)(p:Int)(j:x.length<=1048576)(k:b.length<=1048576)(a:b.take (fJ p b.length)≠[])
  (h1:aq 31 [.ref 0 0,c.av] (stS S m false n x) (.ret (ii 0)) (.cells tSt (.ref 1 0::S.cs)::jnO 2 m::dkC n (sfV false 3 x) (wtB b) false::sfT false))
  (h3:aq 59 [.ref 0 0] (.cells tDr [.ref 1 0,pv false]::dkC n (sfV true 2 (x++b.take (fJ p b.length))) aV false::sfT true++[aO g]) (.ret (ii 0)) (drS true f' g n y i d)):
  aq 20 [.ref 0 0,CG 4 c p] (drS false false g n x m S) (.ret (.agg [ii 0,.slice 3 [] .nil])) (drX f' g n y m i S d):=by
 have e:=JD n x b p j k a;cases f'
 .refine cT (E:=E) (fn:=Tryz.f20) (g:=.full 5 _ _) λ_=>?_
  repeat' first | (refine gN hE ?_;conv=>whnf) | refine .sole rfl (.eff [] [4,3,1] _ _ rfl h1 ?_) | refine .sole rfl (.eff [] [1] _ _ rfl e ?_) | refine .eff [] [0,1,7,2] _ _ rfl h3 ?_ | exact rfl | refine zt ?_ | refine zu ?_ ?_ | intro h | fail
  exact zx [0,1,2,3,4,7,8,9]
 .refine cT (E:=E) (fn:=Tryz.f20) (g:=.full 5 _ _) λ_=>?_
  repeat' first | (refine gN hE ?_;conv=>whnf) | refine .sole rfl (.eff [] [4,3,1] _ _ rfl h1 ?_) | refine .sole rfl (.eff [] [1] _ _ rfl e ?_) | refine .eff [] [0,1,7,2] _ _ rfl h3 ?_ | exact rfl | refine zt ?_ | refine zu ?_ ?_ | intro h | fail
  exact zx [0,1,2,3,4,7,8,9]
def XX(g:aw)(n:Int)(x b:aw)(m e:Int)(S d:Sta)(c:Cmd)(p:Int)(i:x.length<=1048576)(j:b.length<=1048576)(a:b.take (fJ p b.length)=[])
  (h1:aq 31 [.ref 0 0,c.av] (stS S m false n x) (.ret (ii 0)) (.cells tSt (.ref 1 0::S.cs)::jnO 2 m::dkC n (sfV false 3 x) (wtB b) false::sfT false))
  (h3:aq 59 [.ref 0 0] (.cells tDr [.ref 1 0,pv false]::dkC n (sfV false 2 x) aV false::sfT false++[aO g]) (.ret (ii 0)) (drS false false g n x e d)):
  aq 20 [.ref 0 0,CG 4 c p] (drS false false g n x m S) (.ret (.agg [ii 0,.slice 3 [] .nil])) (drR false false g n x m e S d):=by
 have k:=X7 n x b p i j a;refine cT (E:=E) (fn:=Tryz.f20) (g:=.full 5 _ _) λ_=>?_
 repeat' first | (refine gN hE ?_;conv=>whnf) | refine .sole rfl (.eff [] [4,3,1] _ _ rfl h1 ?_) | refine .sole rfl (.eff [] [1] _ _ rfl k ?_) | refine .eff [] [0,1,2] _ _ rfl h3 ?_ | exact rfl | refine zt ?_ | refine zu ?_ ?_ | intro h | fail
 exact zx [0,1,2,3,4,7,8]
def bC(n:Int):Kst:=⟨Dk.new n,0,cA⟩
def gT(t:Kst)(m:Int):Prop:=(t.d.safe.length:Int)+m<=t.d.size
def FJ(x:Cmd)(k:Nat)(h:x.il.length<=k)(a:∀ n∈x.il,n<=9223372036854775807):((Rec.b (.c x)).length:Int)<=10*k+1:=by show (((67:UInt8)::C8.encB x).length:Int)<=_;have:=C8.pl_len a;unfold C8.encB;split<;>simp<;>omega
def fL{t:Kst}{c:Cmd}{S:Sta}{ev:bb}(n:Int)(k:Nat)(m:Int)(h:aC t.s c=(S,ev,0))(h1:c.il.length<=k)(e:∀ n∈c.il,n<=9223372036854775807)(f:k<=1000)(a:gT t (m+10*k+9))(hm:0<=m:=by decide):
  ∃ d i,aG t ⟨1,c,n⟩=(⟨d,i,S⟩,ev,0)/\d=aHB t.d (Rec.b (.c c))/\gT ⟨d,i,S⟩ m:=by
 have hl:=FJ c k h1 e;unfold gT at a;have q:iD t.d (Rec.b (.c c))=0:=by unfold iD;rw [if_neg o_,if_neg o_]
 refine ⟨aHB t.d (Rec.b (.c c)),t.n+1,?_,rfl,?_⟩
 .show doS t c=_;unfold doS;rw [h,if_neg s_,if_neg (by simpa using q)]
 .show ((t.d.safe++frm _).length:Int)+m<=t.d.size;rw [Ai,dT];omega
def tk(k n keep:Int):Kstp:=⟨k,aW n,keep⟩
def aI8{s:Sta}(e:pI s=true)(G:s.hist.length<=12)(A:s.pend.length+s.run.length<=32):(cE s).length<=16000:=by
 have w0:=UH e;obtain ⟨t,⟨n1,n2,v,L⟩,z,D,q,k,o⟩:=YI e;have J:(C8.putN (kP s).length).length<=10:=by have:=C8.pn_len (n:=((kP s).length:Int)) o_;rw [Br] at this;omega
 have B:(C8.pl [s.now,s.nxt,(s.hist.length:Int)]).length<=30:=by have:=C8.pl_len (l:=[s.now,s.nxt,(s.hist.length:Int)]) (λ n a=>by simp at a;omega);simpa using this
 have w:(C8.pl [(s.pend.length:Int)]).length<=10:=by have:=C8.pl_len (l:=[(s.pend.length:Int)]) (λ n a=>by simp at a;omega);simpa using this
 have C:(C8.pl [(s.run.length:Int)]).length<=10:=by have:=C8.pl_len (l:=[(s.run.length:Int)]) (λ n a=>by simp at a;omega);simpa using this
 have I:=IF s.hist;have p:∀ (l:a7),(∀ x∈l,x.g.ok=true/\okI [x.seq,x.at']=true)->(uI l).length<=110*l.length:=by
  intro l;induction l with
  | nil=>intro _;exact Ch _
  | cons x r d=>
   intro h;obtain ⟨h1,c⟩:=h x (Ao ..);have f:=BH x.g h1;have j:=C8.pl_len (qJ c);have i:=d λ y b=>h y (Av _ b);simp only [uI,Ai,Ak,Bz] at *
   omega
 have m:∀ (l:a6),(∀ x∈l,x.g.ok=true/\okI [x.seq,x.at',x.st,x.fl]=true/\okI x.hs=true/\x.hs≠[]/\x.hs.length<=16)->(qG l).length<=290*l.length:=by
  intro l;induction l with
  | nil=>intro _;exact Ch _
  | cons x r d=>
   intro h;obtain ⟨h1,c,h3,_,u⟩:=h x (Ao ..);have f:=BH x.g h1;have j:=C8.pl_len (qJ c);have i:=C8.pl_len (qJ h3);have F:=d λ y b=>h y (Av _ b);simp only [qG,Ai,Ak,Bz] at *
   omega
 have H:=p s.pend k;have K:=m s.run o;unfold cE;simp only [Ai];omega
def OkT.small{s:Sta}(h:OkT s):Sm s.run/\s.hist.length<=1048576:=by have h1:=(h.ok.st h.lt).run;exact ⟨h1.sm.run,h1.ord.hl⟩
def OkT.len{s:Sta}(h:OkT s):(cE s).length<=16000:=aI8 (FW h.ok) (by have:=h.ok.hist;have:=(BF h.ok.head).ns;omega) h.ok.few
def Q7:∀ {l:List aw},(∀ t∈l,t.length<=16384)->rJ l<=16392*l.length
 | [],_=>Ch _
 | t::l,h=>by have h1:=h t (Ao ..);have b:=Q7 λ y a=>h y (Av _ a);simp only [rJ,Ak];omega
structure KB(t:Kst)(k:Nat):Prop where
 ex:∃ l,Kept t l/\l.length<=k
 nxt:t.s.nxt<=1+k
 few:k<=58
def KB.lens{t:Kst}{k:Nat}(h:KB t k):t.d.safe.length<=960000/\0<=t.d.size/\t.d.size<=1048576/\(t.d.safe.length:Int)<=t.d.size/\0<=t.n/\t.n<=1000000:=by obtain ⟨l,h1,e⟩:=h.ex;have a:=Q7 (A2 h1.ok);rw [<-rZ,<-h1.safe,Cm] at a;have b:=h1.cl.le;have f:=h1.cl.size;have c:=h1.n;have g:=h.few;omega
def KB.okT{t:Kst}{k:Nat}(h:KB t k):OkT t.s:=h.ex.elim λ_ h=>h.1.okT
def KB.sap{t:Kst}{k:Nat}(h:KB t k)(c:Cmd)(a:c.k=1->c.c.sm):lZ t.s c (aC t.s c):=CO t.s c (h.okT.ok.st h.okT.lt) a
def KB.step{t:Kst}{k:Nat}(h:KB t k)(f:k<58)(p:Kstp)(d:p.x.k=1->p.x.c.sm):KB (aG t p).1 (k+1):=by
 obtain ⟨l,h1,e⟩:=h.ex;have i:=h.nxt;have a:t.s.nxt<1099511627776:=o_;refine ⟨?_,?_,by omega⟩
 .obtain ⟨b,h3,g⟩:=h1.stepL p d a;exact ⟨b,h3,by omega⟩
 .have:=aBz t p h.okT a;omega
def KB.le{t:Kst}{k a:Nat}(h:KB t k)(c:k<=a)(b:a<=58):KB t a:=⟨h.ex.elim λ l h=>⟨l,h.1,by omega⟩,by have:=h.nxt;omega,b⟩
def kb0(n:Int):KB (bC n) 0:=⟨⟨[],⟨⟨rfl,rfl,by show (0:Int)<=_;simp only [bC,Dk.new];omega,by show (Dk.new n).size<=_;simp only [Dk.new];omega⟩,rfl,rfl,trivial,rfl⟩,Bh _⟩,(by show (1:Int)<=1+0;decide),by decide⟩
def aDC{R:Sta×bb×Int}(h:R.2.2=0):R=(R.1,R.2.1,0):=by obtain ⟨a,b,c⟩:=R;subst h;rfl
def aBP{s:Sta}{r:Rec}{l:List Rec}(h:OkT s/\okR (r::l) s):V7 r/\WJ s r/\OkT (r.to s)/\okR l (r.to s):=by
 obtain ⟨h1,b,h3,e⟩:=h;refine ⟨?_,?_,r.okT h1 b,e⟩
 .cases r with
  | c x=>
   obtain ⟨d,f⟩:=aO4 b.1;have a:=C8.decode_ok (C8.encB x) (by have:(67::C8.encB x).length<=16384:=h3;simp at this;omega);rw [d,f] at a;exact aIt _ x a (by have:(67::C8.encB x).length<=16384:=h3;simp at this;omega)
  | s x=>
   have a:=ZS (cE x) (by have:(83::cE x).length<=16384:=h3;simp at this;omega);unfold ZT aK7 at a;rw [aLP b] at a;exact aIs _ x a (by have:(83::cE x).length<=16384:=h3;simp at this;omega)
 .cases r with
  | c x=>
   have a:=CO s x (h1.ok.st h1.lt) b.2.1;rw [aDC b.1] at a;exact a
  | s x=>trivial
def KB.rpl{t:Kst}{k:Nat}{l:List Rec}(h:Kept t l)(hl:l.length<=1000000):aq 69 [.slice 1 (qF (l.map Rec.b)) .no] [] (.ret (.tup [t.s.av,.nilif])) []:=by have:=aBL l hl (λ s l=>OkT s/\okR l s) (λ s r l h=>aBP h) ⟨AL,h.ok⟩;rw [<-h.s] at this;exact this
def KB.sop{t:Kst}{k:Nat}(h:KB t k)(f:Bool)(g:aw):aq 26 [.ref 0 0] (dkO f t.d.size t.d.safe aV false++[aO g]) (.ret (.tup [.ref (jdN f+2) 0,ii 0])) (dkC t.d.size (sfV f 1 t.d.safe) aV false::sfT f++[aO g,jnO 0 t.n,.cells tSt (.ref (jdN f+1) 0::t.s.cs)]):=by have a:=h.lens;obtain ⟨l,h1,c⟩:=h.ex;have h3:=aFJ f t.d.size (l.map Rec.b) (A2 h1.ok) (by rw [<-h1.safe];omega);rw [<-h1.safe,Cm,<-h1.n] at h3;exact Q0 f f id g _ _ _ t.s _ t.n h3 (KB.rpl (k:=k) h1 (by have:=h.few;omega))
def KB.sopT{t:Kst}{k:Nat}(h:KB t k)(f:Bool)(g:aw)(r:aw)(m:r.length<=16384)(j:Nat)(a:j≠0)(c:j<r.length+8):aq 26 [.ref 0 0] (dkO f t.d.size (t.d.safe++(frm r).take j) aV false++[aO g]) (.ret (.tup [.ref (jdN f+2) 0,ii 0])) (dkC t.d.size (sfV false 1 t.d.safe) aV false::sfT f++[aO g,jnO 0 t.n,.cells tSt (.ref (jdN f+1) 0::t.s.cs)]):=by
 have o:=h.lens;obtain ⟨l,h1,p⟩:=h.ex;have e:((frm r).take j).length=j:=by rw [Dw,dT];omega
 have h3:=WV f t.d.size (l.map Rec.b) ((frm r).take j) (aEv r j m c) (λ i=>a (by rw [<-e,i];rfl)) (A2 h1.ok) (by rw [<-h1.safe,Ai];omega) (by rw [<-h1.safe];omega);rw [<-h1.safe,Cm,<-h1.n] at h3;exact Q0 f false (λ h=>by cases h) g _ _ _ t.s _ t.n h3 (KB.rpl (k:=k) h1 (by have:=h.few;omega))
def KB.dop{t:Kst}{k:Nat}(h:KB t k)(b f:Bool)(g:aw):aq 59 [.ref 0 0] (.cells tDr [.ref 1 0,pv b]::dkC t.d.size (sfV f 2 t.d.safe) aV false::sfT f++[aO g]) (.ret (ii 0)) (drS f f g t.d.size t.d.safe t.n t.s):=UB b f f g _ _ _ _ _ (h.sop f g)
def KB.dopT{t:Kst}{k:Nat}(h:KB t k)(b f:Bool)(g:aw)(r:aw)(a:r.length<=16384)(j:Nat)(c:j≠0)(e:j<r.length+8):aq 59 [.ref 0 0] (.cells tDr [.ref 1 0,pv b]::dkC t.d.size (sfV f 2 (t.d.safe++(frm r).take j)) aV false::sfT f++[aO g]) (.ret (ii 0)) (drS f false g t.d.size t.d.safe t.n t.s):=UB b f false g _ _ _ _ _ (h.sopT f g r a j c e)
def KB.enc{t:Kst}{k:Nat}(h:KB t k):aq 40 [t.s.av] [] (.ret (.tup [.str (cE t.s),ii 0])) []:=by have a:=FW h.okT.ok;have:=aID t.s h.okT.ok.base.c h.okT.small.1 YI;unfold aN3 at this;rw [if_pos a,if_pos a] at this;exact this
def aCW{t:Kst}{k:Nat}(h:KB t k)(c:Cmd)(f:Bool)(e:iD t.d (crB c)≠0):aq 72 [.ref 0 0,.str (crB c)] (jdO t.n f t.d.size t.d.safe) (.ret (ii (iD t.d (crB c)))) (jdO t.n f t.d.size t.d.safe)/\aq 80 [.ref 0 0,.str (crB c)] (jdO t.n f t.d.size t.d.safe) (.ret (ii (iD t.d (crB c)))) (jdO t.n f t.d.size t.d.safe):=by
 have a:=h.lens;unfold iD at *
 by_cases q:16384<(crB c).length
 .rw [if_pos q];exact ⟨aCa _ _ _ _ _ q,aB8 _ _ _ _ _ q⟩
 .rw [if_neg q] at *
  by_cases b:t.d.size-t.d.safe.length<(crB c).length+8
  .rw [if_pos b];exact ⟨aJX _ _ _ _ _ o_ a.2.1 a.2.2.1 o_ b,aJT _ _ _ _ _ o_ a.2.1 a.2.2.1 o_ b⟩
  .rw [if_neg b] at e;exact absurd rfl e
def U5{t:Kst}{c:Cmd}(a:iD t.d (crB c)=0):(crB c).length<=16384/\((crB c).length:Int)+8<=t.d.size-t.d.safe.length:=by
 unfold iD at a;split at a
 .cases a
 split at a
 .cases a
 .omega
open C8 (nodL hosL pl pl_append pl_len pn_len il_len ih_len okI_b) in
def aGF(x:Cmd):(C8.encB x).length<=1000000000:=by
 have f:∀ (l:bc),zQ l=true->(pl (nodL l)).length<=110*l.length:=by
  intro l;induction l with
  | nil=>intro _;simp [nodL,pl]
  | cons x r b=>
   intro h;simp only [zQ,Af] at h;have h1:=il_len x h.1;have a:=b h.2;simp only [nodL,pl_append,Ai,Ak];omega
 have i:∀ (l:List Hos),uR l=true->(pl (hosL l)).length<=60*l.length:=by
  intro l;induction l with
  | nil=>intro _;simp [hosL,pl]
  | cons x r b=>
   intro h;simp only [uR,Af] at h;have h1:=ih_len x h.1;have a:=b h.2;simp only [hosL,pl_append,Ai,Ak];omega
 unfold C8.encB;split
 .rename_i h;have T:=C8.chk_told h;have l1:=T.ln;have l2:=T.lh;have d:=T.cok;simp only [Con.tok,Af] at d;obtain ⟨⟨h1,a⟩,h3⟩:=d;have m:=f _ h1;have t:=i _ a;have o:(nav x.c.ns).length=x.c.ns.length:=by simp
  have z:(hav x.c.hs).length=x.c.hs.length:=by simp
  have q:=pn_len (n:=x.k) (by have:=T.k;omega);have j:=pn_len (n:=x.n) (by have:=T.nok;omega);have u:=pn_len (n:=((nav x.c.ns).length:Int)) o_;have w:=pn_len (n:=((hav x.c.hs).length:Int)) o_;have s:=pn_len (n:=x.c.half) (by have:=okI_b h3 x.c.half s_;omega);have p:=pn_len (n:=x.c.age) (by have:=okI_b h3 x.c.age s_;omega);have v:(pl x.c.il).length<=3000:=by simp only [Con.il,pl_append,pl,Ai,Bz];omega
  have A:=BH x.g T.gok;have y:(pl [x.n]).length<=10:=by simpa [pl] using j
  have e:=C8.il_cons x _ rfl;rw [<-e,Ai];split
  .omega
  .split
   .omega
   .split
    .simp [pl];omega
    .omega
 .simp
def KB.do_e{t:Kst}{k:Nat}(h:KB t k)(c:Cmd)(i:c.k=1->c.c.sm)(f:Bool)(j:(aC t.s c).2.2≠0\/iD t.d (crB c)≠0):
  aq 27 [.ref 0 0,c.av] (stS t.s t.n f t.d.size t.d.safe) (.ret (.tup [.slice 3 [] .nil,ii (doS t c).2.2])) (stS t.s t.n f t.d.size t.d.safe)/\
  aq 31 [.ref 0 0,c.av] (stS t.s t.n f t.d.size t.d.safe) (.ret (ii (doS t c).2.2)) (stS t.s t.n f t.d.size t.d.safe)/\(doS t c).1=t/\(doS t c).2.1=[]/\wrE t c=(doS t c).2.2/\(doS t c).2.2≠0:=by
 have hs:=h.sap c i;unfold doS wrE;by_cases q:(aC t.s c).2.2=0
 .have a:iD t.d (crB c)≠0:=j.resolve_left λ h=>h q;have l:iD t.d (Rec.b (.c c))≠0:=a;rw [if_neg (by simpa using q),if_pos l,if_neg (by simpa using q)];rw [aDC q] at hs;obtain ⟨e,g⟩:=aCW h c f a;exact ⟨aOX _ _ _ _ hs (aGF c) _ _ _ _ _ a e,aMx _ _ _ _ hs (aGF c) _ _ _ _ _ g,rfl,rfl,rfl,a⟩
 .rw [if_pos q,if_pos q];exact ⟨aOW _ _ _ hs q _ _ _ _,aMw _ _ _ hs q _ _ _ _,rfl,rfl,rfl,q⟩
def KB.do_ok{t:Kst}{k:Nat}(h:KB t k)(c:Cmd)(g:c.k=1->c.c.sm)(f:Bool)(q:(aC t.s c).2.2=0)(i:iD t.d (crB c)=0):
  aq 27 [.ref 0 0,c.av] (stS t.s t.n f t.d.size t.d.safe) (.ret (.tup [.slice 3 (evv (aC t.s c).2.1) .no,ii 0])) (stG (aC t.s c).1 (t.n+1) f t.d.size (t.d.safe++frm (crB c)))/\
  aq 31 [.ref 0 0,c.av] (stS t.s t.n f t.d.size t.d.safe) (.ret (ii 0)) (.cells tSt (.ref 1 0::t.s.cs)::jnO 2 t.n::dkC t.d.size (sfV f 3 t.d.safe) (wtB (frm (crB c))) false::sfT f):=by
 have a:=h.lens;have hs:=h.sap c g;rw [aDC q] at hs;obtain ⟨e,b⟩:=U5 i
 exact ⟨aMI _ _ _ _ hs (aGF c) _ _ _ _ (aJW f t.n t.d.size t.d.safe (crB c) ⟨a.2.2.2.2.1,a.2.2.2.2.2⟩ e a.2.1 a.2.2.1 o_ b),
  aIl _ _ _ _ hs (aGF c) _ _ _ _ (aJS f t.n t.d.size t.d.safe (crB c) e a.2.1 a.2.2.1 o_ b)⟩
def wH{t:Kst}{c:Cmd}(q:(aC t.s c).2.2=0)(a:iD t.d (crB c)=0):doS t c=(⟨aHB t.d (crB c),t.n+1,(aC t.s c).1⟩,(aC t.s c).2.1,0):=by have e:iD t.d (Rec.b (.c c))=0:=a;unfold doS;rw [if_neg (by simpa using q),if_neg (by simpa using e)];rfl
def KB.snap_any{t:Kst}{k:Nat}(h:KB t k):gD t=0/\((83::cE t.s).length:Int)+8<=t.d.size\/gD t=9/\t.d.size<((83::cE t.s).length:Int)+8:=by
 have hl:(83::cE t.s).length<=16384:=by have:=h.okT.len;simp only [Ak];omega
 have e:(Rec.b (.s t.s))=83::cE t.s:=rfl;unfold gD;rw [e,if_neg o_];split
 .rename_i q;exact .inr ⟨rfl,q⟩
 .exact .inl ⟨rfl,by omega⟩
def KB.snap_no{t:Kst}{k:Nat}(h:KB t k)(f:Bool)(q:gD t≠0):aq 28 [.ref 0 0] (stS t.s t.n f t.d.size t.d.safe) (.ret (ii (gD t))) (stS t.s t.n f t.d.size t.d.safe):=by
 have hl:=h.okT.len;rcases h.snap_any with ⟨e,_⟩ | ⟨e,a⟩
 .exact absurd e q
 .rw [e];exact aDT t.s (cE t.s) h.enc o_ _ _ _ _ _ (aJV f t.n t.d.size t.d.safe (83::cE t.s) (by simp only [Ak];omega) a)
def KB.snap_ok{t:Kst}{k:Nat}(h:KB t k)(f:Bool)(q:gD t=0):aq 28 [.ref 0 0] (stS t.s t.n f t.d.size t.d.safe) (.ret (ii 0)) (.cells tSt (.ref 1 0::t.s.cs)::jnO 2 1::dkC t.d.size (sfV false 3 (frm (83::cE t.s))) aV false::sfT f):=by
 have hl:=h.okT.len;rcases h.snap_any with ⟨e,a⟩ | ⟨e,_⟩
 .exact aDS t.s (cE t.s) h.enc o_ _ _ _ _ (aJU f t.n t.d.size t.d.safe (83::cE t.s) (by simp only [Ak];omega) a)
 .rw [e] at q;cases q
def vL{t:Kst}(q:gD t=0):kT t=⟨⟨t.d.size,frm (83::cE t.s),[],false⟩,1,t.s⟩:=by unfold kT;rw [if_pos q];rfl
def GV{t:Kst}(q:gD t≠0):kT t=t:=by unfold kT;rw [if_neg q]
abbrev sJ(ev:bb)(e:Int):aa:=.agg [ii e,.slice 3 (evv ev) .no]
abbrev cDo(f:Bool)(g:aw)(t:Kst)(p:Kstp)(a:aa)(O:au):Prop:=aq 20 [.ref 0 0,CG p.k p.x p.n] (drS f f g t.d.size t.d.safe t.n t.s) (.ret a) O
inductive DoO(g:aw)(t t':Kst)(p:Kstp)(a:aa):Bool->Prop
 | same {f} (h:cDo f g t p a (drS f f g t'.d.size t'.d.safe t'.n t'.s)):DoO g t t' p a f
 | full (h:cDo true g t p a (drS true false g t'.d.size t'.d.safe t'.n t'.s)):DoO g t t' p a true
 | grow {f} (h:cDo f g t p a (drG f g t'.d.size t'.d.safe t'.n t'.s)):DoO g t t' p a f
 | anew {f} (m:Int) (S:Sta) (h:cDo f g t p a (drR f f g t'.d.size t'.d.safe m t'.n S t'.s)):DoO g t t' p a f
 | wt (m:Int) (S:Sta) (h:cDo true g t p a (drW true g t'.d.size t'.d.safe m t'.n S t'.s)):DoO g t t' p a true
 | wf (m:Int) (S:Sta) (h:cDo true g t p a (drW false g t'.d.size t'.d.safe m t'.n S t'.s)):DoO g t t' p a true
 | xt (m:Int) (S:Sta) (h:cDo false g t p a (drX true g t'.d.size t'.d.safe m t'.n S t'.s)):DoO g t t' p a false
 | xf (m:Int) (S:Sta) (h:cDo false g t p a (drX false g t'.d.size t'.d.safe m t'.n S t'.s)):DoO g t t' p a false
def KB.dr3{t:Kst}{k:Nat}(h:KB t k)(f:Bool)(g:aw)(c:Cmd)(n:Int):cDo f g t ⟨3,c,n⟩ (sJ [] 0) (aPS f g t.d.size t.d.safe t.n t.n t.s t.s):=
 aA.less (aGX f g _ _ _ _ _ _ _ c n (by have:=h.lens;omega) (h.dop false f g))
def KB.dr5{t:Kst}{k:Nat}(h:KB t k)(f:Bool)(g:aw)(c:Cmd)(n:Int):cDo f g t ⟨5,c,n⟩ (sJ [] 0) (drR f f g t.d.size t.d.safe t.n t.n t.s t.s):=
 aA.less (aGW f g _ _ _ _ _ _ _ c n (h.dop false f g))
def KB.dr4{t:Kst}{k:Nat}(h:KB t k)(C:k<58)(f:Bool)(g:aw)(c:Cmd)(n:Int)(r:c.k=1->c.c.sm):DoO g t (aG t ⟨4,c,n⟩).1 ⟨4,c,n⟩ (sJ (aG t ⟨4,c,n⟩).2.1 (aG t ⟨4,c,n⟩).2.2) f:=by
 have L:=h.lens;have z:aG t ⟨4,c,n⟩=if wrE t c≠0 then (t,[],wrE t c) else (if E8 c n then (doS t c).1 else t,[],0):=rfl
 by_cases q:(aC t.s c).2.2=0/\iD t.d (crB c)=0
 .obtain ⟨q,o⟩:=q;have G:wrE t c=0:=by have H:iD t.d (Rec.b (.c c))=0:=o;unfold wrE;rw [if_neg (by simpa using q),H]
  have v:=(h.step C ⟨1,c,0⟩ r)
  replace v:KB (doS t c).1 (k+1):=v;have hd:=wH q o;have i:=(h.do_ok c r f q o).2;obtain ⟨F,N⟩:=U5 o;have fl:=dT (crB c);rw [z,if_neg (by simpa using G)];obtain ⟨B,D⟩:=O6 n (frm (crB c)).length;have y:(Rec.b (.c c))=crB c:=rfl;by_cases m:E8 c n=true
  .have p:=of_decide_eq_true m;rw [y] at p;have I:fJ n (frm (crB c)).length=(frm (crB c)).length:=o_;have l:(frm (crB c)).take (fJ n (frm (crB c)).length)=frm (crB c):=by rw [I,Gm]
   rw [if_pos m];have j:=v.dop false true g;rw [hd] at j⊢;cases f
   .exact .xt t.n t.s (aA.less (JB true g _ _ _ _ _ _ _ _ c n o_ o_ (by rw [l];intro e;rw [e] at fl;simp at fl) i (by rw [l];exact j)))
   .exact .wt t.n t.s (aA.less (DJ true g _ _ _ _ _ _ _ _ c n o_ o_ i (by rw [l];exact j)))
  .have p:¬ (((Rec.b (.c c)).length:Int)+8<=n):=λ e=>m (decide_eq_true e);rw [y] at p;rw [if_neg m];by_cases w:fJ n (frm (crB c)).length=0
   .have l:(frm (crB c)).take (fJ n (frm (crB c)).length)=[]:=by rw [w];rfl
    cases f
    .exact .anew t.n t.s (aA.less (XX g _ _ _ _ _ _ _ c n o_ o_ l i (h.dop false false g)))
    .exact .wt t.n t.s (aA.less (DJ true g _ _ _ _ _ _ _ _ c n o_ o_ i (by rw [l,Ar];exact h.dop false true g)))
   .have hl:((frm (crB c)).take (fJ n (frm (crB c)).length)).length=fJ n (frm (crB c)).length:=by rw [Dw];omega
    have j:=h.dopT false true g (crB c) F (fJ n (frm (crB c)).length) w o_;cases f
    .exact .xf t.n t.s (aA.less (JB false g _ _ _ _ _ _ _ _ c n o_ o_ (λ e=>w (by rw [<-hl,e];rfl)) i j))
    .exact .wf t.n t.s (aA.less (DJ false g _ _ _ _ _ _ _ _ c n o_ o_ i j))
 .have A:(aC t.s c).2.2≠0\/iD t.d (crB c)≠0:=by exact zqta8
  obtain ⟨_,x,K,M,J,u⟩:=h.do_e c r f A;rw [<-J] at x u;rw [z,if_pos u];exact .same (aA.less (aKT f g _ _ _ _ c n _ u x))
def KB.dr{t:Kst}{k:Nat}(h:KB t k)(z:k<58)(f:Bool)(g:aw)(p:Kstp)(l:p.x.k=1->p.x.c.sm):DoO g t (aG t p).1 p (sJ (aG t p).2.1 (aG t p).2.2) f:=by
 obtain ⟨i,c,n⟩:=p;by_cases i4:i=4
 .subst i4;exact h.dr4 z f g c n l
 by_cases m:i=1
 .subst m;have e:aG t ⟨1,c,n⟩=doS t c:=rfl;rw [e];by_cases q:(aC t.s c).2.2=0/\iD t.d (crB c)=0
  .obtain ⟨q,u⟩:=q;have h1:=(h.do_ok c l f q u).1;rw [wH q u];exact .grow (B0 f g _ _ _ _ _ _ _ _ c n h1)
  .have w:(aC t.s c).2.2≠0\/iD t.d (crB c)≠0:=by exact zqta8
   obtain ⟨v,_,y,A,_⟩:=h.do_e c l f w;rw [y,A];exact .same (aA.less (aKU f g _ _ _ _ c n _ v))
 by_cases j:i=2
 .subst j;have e:aG t ⟨2,c,n⟩=(kT t,[],gD t):=rfl;rw [e];by_cases q:gD t=0
  .rw [vL q,q];have:=aA.less (aGY f g _ _ _ _ _ c n (h.snap_ok f q));cases f
   .exact .same this
   .exact .full this
  .rw [GV q];exact .same (aA.less (aGZ f g _ _ _ _ c n _ (h.snap_no f q)))
 by_cases o:i=3
 .subst o;have e:aG t ⟨3,c,n⟩=(t,[],0):=rfl;rw [e];cases f
  .exact .anew t.n t.s (h.dr3 false g c n)
  .exact .wt t.n t.s (h.dr3 true g c n)
 by_cases r:i=5
 .subst r;have e:aG t ⟨5,c,n⟩=(t,[],0):=rfl;rw [e];exact .anew t.n t.s (h.dr5 f g c n)
 .have e:aG t ⟨i,c,n⟩=(t,[],1):=by unfold aG;dsimp only;rw [if_neg m,if_neg j,if_neg i4,if_neg o_]
  rw [e];exact .same (aA.less (aGV f g _ _ _ _ c i n m j o i4 r))
def nJ(s:Sta):(aC s Cmd.zero).1=s/\(aC s Cmd.zero).2.2=1:=by unfold aC;rw [if_pos d_];exact ⟨rfl,(by show C8.chk Cmd.zero=1;decide)⟩
open Go.ChangeShapes Go.WideShapes Go.ChangeAt Go.RowKit
set_option maxRecDepth 10000
def Kstp.cs(p:Kstp):ay:=ii p.k::(p.x.cs++[ii p.n])
def Kstp.av(p:Kstp):aa:=.agg p.cs
section
variable {H:Type} {enc:TypeId×Value->H} {W:World} {r:Reach} {base b0:Nat} {spare:Nat->Bool} {held:Bool} {v:Value} {d:DataW H} {ps:List MemPlace}
end
set_option maxRecDepth 100000
def BU:aw:=[115,116,111,114,101,58,32,110,111,32,114,101,99,111,114,100]
def own:ownKnob Tryz.prog.godebug=none:=by kernel_rfl
def aGS: "*" ++ "errors.errorString" = "*errors.errorString" :=by decide
def aPR(u:TypeId)(h:Tryz.prog.typeName? 3 u=some "*errors.errorString"):u=416:=
 typeName_ptr_named (nm:= "errors.errorString") (by rw [aGS];kernel_rfl) (by kernel_rfl) d_ u (by rw [aGS];exact h)
noncomputable def cV(os:Os):World:=
 let N:=(World.settled Tryz.prog os).heap.size
 let w0:=World.holding Tryz.prog os ⟨#[.cells #[.string ⟨BU.toArray⟩] 438],#[],[]⟩
 {w0 with heap:=w0.heap.modify 0 fun
   | .cells _ t a=>.cells #[.iface 416 (.pointer (some ⟨N,0,none⟩))] t a
   | o=>o}
def nC(os:Os)(args:Array Value):laidMet Tryz.prog [("tithebarn/store.errBad",Rows.laid_tithebarn_store_errBad)] ((cV os).forCall (λ_ _=>0) ⟨#[],args,[]⟩).memory:=
 laidMet_of_run' 8 (by kernel_rfl) (by kernel_rfl)
def gG{W:World}(h:laidMet Tryz.prog [("tithebarn/store.errBad",Rows.laid_tithebarn_store_errBad)] W):∃ u,W.cell? ⟨0,0,none⟩=some u∧u.oneCell'=true∧Rep (Mg W 0 (XW BU)) [] u (XW BU):=by
 obtain ⟨a,s,n,f,hs,hm⟩:=laid_sentinel (g:=0) h (by kernel_rfl) (by kernel_rfl) Tryz.underlying139 aPR Tryz.underlying416 Tryz.underlying438 rfl rfl Tryz.underlying9 (by kernel_rfl) (by kernel_rfl);have m:W.cell? ⟨0,0,none⟩=some (.iface 416 (.pointer (some a))):=by have:=World.var?_cell (g:=0) (by kernel_rfl) n 0;simpa using this
 obtain ⟨b,o,l⟩:=a;have i:l=none:=by
  cases l with
  | none=>rfl
  | some x=>
   unfold Kt at f;dsimp only at f;split at f
   .simp at f
   .cases f
 subst i;refine ⟨_,m,rfl,.iface _ _ _ (.ptr b o _ λ j c k=>?_)⟩;cases j with
 | zero=>
  cases k;refine .inl ⟨_,f,rfl,?_⟩;have e:s=⟨BU.toArray⟩:=by obtain ⟨d⟩:=s;have hs:d.toList=BU:=hs;rw [<-hs]
  rw [e];exact .str BU d_
 | succ j=>simp at k
set_option maxRecDepth 10000
end Go.Proofs.YtidhfoefaomodaaGreatDoor
