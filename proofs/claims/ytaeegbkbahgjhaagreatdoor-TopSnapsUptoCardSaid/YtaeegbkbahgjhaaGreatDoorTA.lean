/- Part 11 of what the statement rests on. -/
import Derived.Lib.Builder
import Derived.Lib.UnsafeStr
import Derived.Lib.Walk
import Derived.Shelf.RegionOpenPlain
import Derived.ScopeJumps
import Derived.Test.YtaeegbkbahgjhaaGreatDoorRows
import Derived.Deep.DeepHandedRow
import Derived.Deep.DeepWitnessRowRef
import Derived.Stop.LaidErr
import Derived.LaidLaws
import Derived.ProofKit
import Derived.Test.YtaeegbkbahgjhaaGreatDoorYA
set_option linter.all false
set_option maxHeartbeats 1000000
open And renaming intro->Ac
open Bool renaming and_eq_true->Ad
open Go.Builtin renaming unsafeSliceData_->Iy,unsafeString_->Jr
open Go.Result renaming andThen->Ee
open Go.Value renaming okWide->La
open Go.World renaming cell?->Kk,shape?->Jh
open Int renaming fdiv_eq_ediv_of_nonneg->Dz,toNat_natCast->Bv
open List renaming append_assoc->Af,append_nil->Ar,cons_append->Ce,drop_eq_getElem_cons->Ae,drop_eq_nil_of_le->Ah,drop_left->Ji,drop_zero->Cq,eq_nil_of_length_eq_zero->Az,getElem_mem->Bf,length_append->Ai,length_cons->Al,length_drop->Eh,length_map->Cc,length_nil->Bu,length_pos_iff->Dx,length_take->Dn,map_append->Bm,map_cons->Bl,map_take->Gh,mem_cons->Aw,mem_cons_of_mem->Ay,mem_cons_self->Ao,take_left->Hn,take_length->Ge,take_of_length_le->Ch
open Nat renaming div_one->Il,le_refl->Bd,le_succ->Hu,le_trans->Cx,mul_le_mul->Gk,pow_le_pow_right->Eu,strongRecOn->Hx,zero_add->Bp,zero_le->Bx,zero_lt_succ->Lw
open Option renaming map_eq_some_iff->Cf
open UInt8 renaming ofNat->Dt,toNat_ofNat'->Gy
namespace Go.Proofs.YtaeegbkbahgjhaaGreatDoor
open Go Go.AW Go.Proofs
def zqta0{P:Prop}(h:P:=by
 cases f
 .refine cT (E:=E) (fn:=Tryz.f60) (g:=.full 1 _ _) λ_=>?_;exact zW
 .refine cT (E:=E) (fn:=Tryz.f60) (g:=.full 2 _ _) λ_=>?_
  exact zW):P:=h
def zqta1{P:Prop}(h:P:=by
 cases f
 .refine cT (E:=E) (fn:=Tryz.f50) (g:=.full 1 _ _) λ_=>?_;exact zW
 .refine cT (E:=E) (fn:=Tryz.f50) (g:=.full 2 _ _) λ_=>?_
  exact zW):P:=h
def zqta2{P:Prop}(h:P:=by
 cases f
 .refine cT (E:=E) (fn:=Tryz.f38) (g:=.full 1 _ _) λ_=>?_;exact zW
 .refine cT (E:=E) (fn:=Tryz.f38) (g:=.full 2 _ _) λ_=>?_
  exact zW):P:=h
def zqta3{P:Prop}(h:P:=by
 refine cT (E:=E) (fn:=Tryz.f19) (g:=.full 2 _ _) λ_=>?_
 exact zW):P:=h
def zqta4{P:Prop}(h:P:=by
 cases e<;>first | exact k | skip
 rcases k with ⟨rfl,d,f⟩ | ⟨rfl,d,f⟩
 .exact ⟨.inl ⟨rfl,d⟩,f⟩
 .exact ⟨.inr ⟨rfl,d⟩,f⟩):P:=h
def zqta5{P:Prop}(h:P:=by
 refine cT (E:=E) (fn:=Tryz.f52) (g:=.full 1 _ _) λ_=>?_
 exact zW):P:=h
def zqta6{P:Prop}(h:P:=by
 refine cT (E:=E) (fn:=Tryz.f52) (g:=.full 2 _ _) λ_=>?_
 exact zW):P:=h
def zqta7{P:Prop}(h:P:=by
 refine cT (E:=E) (fn:=Tryz.f155) (g:=.full 1 _ _) λ_=>?_
 exact zW):P:=h
def zqta8{P:Prop}(h:P:=by
 by_cases a:(aQ t.s c).2.2=0
 .exact .inr λ b=>q ⟨a,b⟩
 .exact .inl a):P:=h
def aIv:Nat->Int->Int
 | 0,x=>x
 | k+1,x=>aIv k (bits .xor .u32 (x / 2) (bits .and .u32 2197175160 (-bits .and .u32 x 1 % 4294967296)))
def EM:ax->Int->Int
 | [],x=>x
 | b::r,x=>EM r (aIv 8 (bits .xor .u32 x ((b.toNat:Int) % 4294967296)))
def xH(s:ax):Int:=bits .xor .u32 IntKind.u32.max (EM s 4294967295)
def iX(op:BinOp)(x y:Int):0<=bits op .u32 x y/\bits op .u32 x y<4294967296:=by have h:inR .u32 (bits op .u32 x y):=kH .u32 _;simp only [inR,cJ,bE] at h;omega
def lV(n:Nat):ax:=[Dt n,Dt (n / 256),Dt (n / 65536),Dt (n / 16777216)]
def eK:ax->Nat
 | a::b::c::d::_=>a.toNat+256*b.toNat+65536*c.toNat+16777216*d.toNat
 | _=>0
def tC(n:Nat)(r:ax)(h:n<4294967296):eK (lV n++r)=n:=by simp only [lV,eK,Ce,Gy];omega
def frm(s:ax):ax:=lV s.length++lV (xH s).toNat++s
def kF(s:ax):Int:=
 if s.length<8 then 10 else if 16384<eK s then 8 else if (s.length:Int)-8<eK s then 10
 else if xH ((s.drop 8).take (eK s))≠(eK (s.drop 4):Int) then 11 else 0
def rF(s:ax):ax:=(s.drop 8).take (eK s)
def dW(s:ax):(frm s).length=s.length+8:=by simp [frm,lV]
def SX(s:ax):0<=xH s/\xH s<4294967296:=by exact iX _ _ _
def aBG(s r:ax)(h:s.length<=16384):kF (frm s++r)=0/\rF (frm s++r)=s:=by
 have b:eK (frm s++r)=s.length:=by unfold frm;rw [Af,Af,tC _ _ o_]
 have d:(frm s++r).drop 4=lV (xH s).toNat++(s++r):=by unfold frm;rw [Af,Af];rfl
 have c:(frm s++r).drop 8=s++r:=by unfold frm;rw [Af,Af];rfl
 obtain ⟨f,e⟩:=SX s;have hl:(frm s++r).length=s.length+8+r.length:=by rw [Ai,dW]
 have a:rF (frm s++r)=s:=by unfold rF;rw [b,c,Hn]
 refine ⟨?_,a⟩;unfold kF;unfold rF at a;rw [hl,b] at *
 rw [a,d,tC _ _ o_,if_neg o_,if_neg o_,if_neg o_,if_neg o_]
def aBH(s:ax)(k:Nat)(h:s.length<=16384)(c:k<s.length+8):kF ((frm s).take k)≠0:=by
 have hl:((frm s).take k).length=k:=by rw [Dn,dW];omega
 unfold kF;rw [hl];by_cases a:k<8
 .rw [if_pos a];decide
 .rw [if_neg a];have b:eK ((frm s).take k)=s.length:=by
   have:(frm s).take k=lV s.length++((lV (xH s).toNat++s).take (k-4)):=by unfold frm;rw [Af,List.take_append,Ch (by simp [lV];omega)];rfl
   rw [this,tC _ _ o_]
  rw [b,if_neg o_,if_pos o_];decide
def aBF:kF []≠0:=by decide
def nX:List ax->Nat
 | []=>0
 | t::l=>t.length+8+nX l
def eM:List ax->ax
 | []=>[]
 | t::l=>frm t++eM l
def rV:∀ l:List ax,(eM l).length=nX l
 | []=>rfl
 | t::l=>by rw [eM,nX,Ai,dW,rV l]
def OK:∀ (l m:List ax),eM (l++m)=eM l++eM m
 | [],_=>rfl
 | t::l,m=>by rw [Ce,eM,eM,OK l m,Af]
structure Dk where
 size:Int
 safe:ax
 waits:ax
 sw:Bool
def Dk.new(n:Int):Dk:=⟨min (max n 0) 1048576,[],[],false⟩
def Dk.free(d:Dk):Int:=if d.sw then d.size-d.waits.length else d.size-d.waits.length-d.safe.length
end Go.Proofs.YtaeegbkbahgjhaaGreatDoor
namespace Go.Proofs.YtaeegbkbahgjhaaGreatDoor.TB
open Go Go.AW Go.Proofs Go.RowKit
set_option maxRecDepth 100000
set_option maxHeartbeats 2000000
abbrev tWr:TypeId:=144
def wN:liesAt Tryz.prog Tryz.prog.depth tWr (2 / Tryz.prog.cellsOf tWr) 0 144 1=true:=by kernel_rfl
def vW:(Tryz.prog.info? 144).map (·.size)=some 2:=by kernel_rfl
def LK:Tryz.prog.underlying 142=some (.pointer 144):=by kernel_rfl
def LJ:Tryz.prog.underlying 273=some .unsafePointer:=by kernel_rfl
def OP:Tryz.prog.funcs[154]? =some Tryz.f154:=by kernel_rfl
def gC(b:Nat)(w:World)(h:w.cell? ⟨b,0,none⟩=some (.pointer none))(a:w.shape? b=some (tWr,2))(g:w.frozen? ⟨b,0,none⟩=false):
  Calls Tryz.prog 105 #[.pointer (some ⟨b,0,none⟩)] w λ e w'=>e= .returned (.tuple #[])/\w'=w.setCell ⟨b,0,none⟩ (.pointer (some ⟨b,0,none⟩)):=by
 obtain ⟨j,d,c⟩:=Cf.1 vW
 go_enter Tryz.func105,Tryz.ntmps105
 go_wp2
 rw [Lib.run_to_unsafe w ⟨b,0,none⟩ LK LJ d (by rw [c];decide) a (Lw 1)];simp only [Ee];rw [Oper.upon_value]
 go_wp2
 rw [run_callFunc_extern OP (by kernel_rfl) (by kernel_rfl) (by kernel_rfl) (e:=Extern.AbiNoEscape.same) (by kernel_rfl)];rw [Lib.run_noEscape];simp only [Ee];rw [Oper.upon_value]
 go_wp2
 rw [Lib.run_from_unsafe w ⟨b,0,none⟩ LJ LK d a wN];simp only [Ee];rw [Oper.upon_value]
 go_wp2
 go_end0;exact ⟨rfl,rfl⟩
def aAH:Tryz.prog.underlying 201=some (.pointer 5):=by kernel_rfl
def aEu:Tryz.prog.cellsOf 5=1:=by kernel_rfl
def nS(b g cap:Nat)(p:Value)(a:Array Value)(l:ax)(w:World)(i:w.heap[b]? =some (.cells #[p,.slice (some ⟨g,0,none⟩) l.length cap] tWr (0,0)))(u:w.heap[g]? =some (.cells a 5 (0,0)))(o:l≠[])
  (n:l.length<=cap) (k:cap<=maxLen) (v:a.size=cap) (c:∀ (j:Nat) x,l[j]? =some x->w.cell? ⟨g,j,none⟩=some (.int .u8 x.toNat)):
  Calls Tryz.prog 59 #[.pointer (some ⟨b,0,none⟩)] w λ e w'=>e= .returned (.string ⟨l.toArray⟩)/\IF g l.length w w':=by
 have d:l.length≠0:=by simpa using o
 have y:w.drew.cell? ⟨b,1,none⟩=some (.slice (some ⟨g,0,none⟩) l.length cap):=by have:w.drew.heap[b]? =some (.cells #[p,.slice (some ⟨g,0,none⟩) l.length cap] tWr (0,0)):=i;rw [Lib.cell_of_heap this];rfl
 have r:(Iy #[83] 201 #[.slice (some ⟨g,0,none⟩) l.length cap]).run Tryz.prog w.drew= .ok (.pointer (some ⟨g,0,none⟩)) w.drew:=
  Lib.run_unsafeSliceData_row _ _ _ _ _ _ o_
 have q:(Jr #[201,3] 9 #[.pointer (some ⟨g,0,none⟩),.int .i64 l.length]).run Tryz.prog w.drew= .ok (.string ⟨l.toArray⟩) (w.drew.freeze ⟨g,0,none⟩ l.length):=by refine Lib.run_unsafeString_row w.drew 201 3 9 5 aAH aEu g a.size (by have h:w.drew.heap[g]? =some (.cells a 5 (0,0)):=u;simp [Jh,h]) l o o_ (by unfold maxLen at k;omega) ?_;intro j x s;rw [bB,Bp];exact c j x s
 have m:Tryz.prog.follows Departure.mixedOrders=true:=hE.mix
 go_enter Tryz.func59,Tryz.ntmps59
 go_wp2
 go_region_o
 all_goals (go_wp2;go_ret;exact ⟨rfl,R0 d⟩)
def cc_fresh(s:aa):aq 105 [.ref 0 0] [.cells tWr [.nilptr,s]] (.ret (.tup [])) [.cells tWr [.ref 0 0,s]]:=
 nM (λ_ _=>by rfl) gC s
def str_ok(l:ax)(a:l≠[])(p:aa):aq 59 [.ref 0 0] [.cells tWr [p,.slice 1 (l.map ub) (.own 1 0)],.tail 0 1 5] (.ret (.str l)) [.dead,.dead]:=
 mD (λ_ _=>by rfl) nS l a p
end Go.Proofs.YtaeegbkbahgjhaaGreatDoor.TB
namespace Go.Proofs.YtaeegbkbahgjhaaGreatDoor
open Go Go.AW Go.Proofs
set_option maxRecDepth 100000
def uN(J:Nat->Act->World->Prop)(Q:Exit->Act->World->Prop):Exit->Act->World->Prop
 | .goto l,a,w=>J l a w
 | e,a,w=>Q e a w
def AQ{P:Program}{a:Act}{w:World}{Q:Exit->Act->World->Prop}{c:Code}(rest:Nat->Code)(J:Nat->Act->World->Prop)(μ:Nat->Act->World->Nat)(A:∀ l a w,J l a w->findLabel c l=some (rest l))
  (first:c.wp P (uN J Q) a w) (q:∀ l a w,J l a w->(rest l).wp P (uN (λ o r w'=>J o r w'/\μ o r w'<μ l a w) Q) a w):(Code.scope c).wp P Q a w:=by
 intro b k cs;have x:∀ l a w,J l a w->gotoIn l (.inScope c::k)=some (.code (rest l):: .inScope c::k):=λ l a w h=>by simp [gotoIn,A l a w h]
 have key:∀ n l a w,μ l a w=n->J l a w->∃ e r w',Q e r w'/\Arrives P (lone (b.at a (.code (rest l):: .inScope c::k)) cs w) b k cs e r w':=by
  intro n;induction n using Hx with
  | _ n z=>
   intro l a w D B;obtain ⟨e,j,i,g,d⟩:=q l a w B b (.inScope c::k) cs;cases e with
   | normal=>exact ⟨.normal,j,i,g,Steps.trans d (.one step_inScope)⟩
   | exit id=>exact ⟨.exit id,j,i,g,λ k' s=>d k' (by simp [exitTo,s])⟩
   | goto o=>
    obtain ⟨p,y⟩:=g;obtain ⟨t,v,u,m,f⟩:=z _ o_ o j i rfl p;exact ⟨t,v,u,m,.of_steps (d _ (x _ _ _ p)) f⟩
   | ret=>exact ⟨_,j,i,g,d⟩
   | panic C=>exact ⟨_,j,i,g,d⟩
   | outgrown=>exact ⟨_,j,i,g,d⟩
 obtain ⟨e,j,i,g,d⟩:=first b (.inScope c::k) cs
 cases e with
 | normal=>exact ⟨.normal,j,i,g,.head step_scope (Steps.trans d (.one step_inScope))⟩
 | exit id=>exact ⟨.exit id,j,i,g,λ k' s=>.head step_scope (d k' (by simp [exitTo,s]))⟩
 | goto o=>
  obtain ⟨t,v,u,m,f⟩:=key _ o j i rfl g;exact ⟨t,v,u,m,.of_steps (.head step_scope (d _ (x _ _ _ g))) f⟩
 | ret=>exact ⟨_,j,i,g,.of_steps (.one step_scope) d⟩
 | panic C=>exact ⟨_,j,i,g,.of_steps (.one step_scope) d⟩
 | outgrown=>exact ⟨_,j,i,g,.of_steps (.one step_scope) d⟩
def II{P:Program}{a:Act}{w:World}{Q:Exit->Act->World->Prop}{c m n:Code}(j J1:Act->World->Prop)(μ0 μ1:Act->World->Nat)(o:findLabel c 0=some m)(h1:findLabel c 1=some n)
  (first:c.wp P (uN (λ l a w=>(l=0/\j a w)\/(l=1/\J1 a w)) Q) a w)
  (g:∀ a w,j a w->m.wp P (uN (λ l b w'=>(l=0/\j b w'/\μ0 b w'<μ0 a w)\/(l=1/\J1 b w'/\μ1 b w'<μ0 a w)) Q) a w)
  (i:∀ a w,J1 a w->n.wp P (uN (λ l b w'=>(l=0/\j b w'/\μ0 b w'<μ1 a w)\/(l=1/\J1 b w'/\μ1 b w'<μ1 a w)) Q) a w):(Code.scope c).wp P Q a w:=by
 refine AQ (λ l=>if l=0 then m else n) (λ l a w=>(l=0/\j a w)\/(l=1/\J1 a w)) (λ l a w=>if l=0 then μ0 a w else μ1 a w) (λ l a w h=>?_) first λ l a w h=>?_
 .rcases h with ⟨rfl,_⟩ | ⟨rfl,_⟩
  .exact o
  .exact h1
 .rcases h with ⟨rfl,h⟩ | ⟨rfl,h⟩
  .refine wp_mono (g a w h) λ e b w' k=>?_;exact zqta4
  .refine wp_mono (i a w h) λ e b w' k=>?_;exact zqta4
def aCQ(k:Nat)(a:Act):Int:=match a.tmps[k]? with | some (.int _ n)=>n | _=>0
def aMe(s:ax)(w:World)(a:Act)(w':World):Prop:=w'=w/\∃ (x:Int) (i k:Nat) (C B F D y f t n b o u A z c r m j q l p g v e h d:Value),a={tmps:= #[.string ⟨s.toArray⟩,undef,.int .u32 0,.int .u32 x,.int .i64 i,.int .i64 k,C,B,F,D,y,f,t,n,b,o,u,A,z,c,r,m,j,q,l,p,g,v,e,h,d],defers:=[]}/\0<=x/\x<4294967296/\i<=s.length/\EM (s.drop i) x=EM s 4294967295
def aMd(s:ax)(w:World)(a:Act)(w':World):Prop:=w'=w/\∃ (x:Int) (i k:Nat) (C B F D y f t n b o u A z c r m j q l p g v e h d:Value),a={tmps:= #[.string ⟨s.toArray⟩,undef,.int .u32 0,.int .u32 x,.int .i64 i,.int .i64 k,C,B,F,D,y,f,t,n,b,o,u,A,z,c,r,m,j,q,l,p,g,v,e,h,d],defers:=[]}/\0<=x/\x<4294967296/\i<=s.length/\1<=k/\k<8/\EM (s.drop i) (aIv (8-k) x)=EM s 4294967295
def aMc(s:ax)(a:Act):Nat:=(s.length-(aCQ 4 a).toNat)*10
def aMb(s:ax)(a:Act):Nat:=(s.length-(aCQ 4 a).toNat)*10+9-(aCQ 5 a).toNat
def PA{s:ax}{i:Nat}{x:Int}(h:i<s.length)(a:EM (s.drop i) x=EM s 4294967295):
  EM (s.drop (i+1)) (aIv (8-1) (bits .xor .u32 (bits .xor .u32 x ((s[i].toNat:Int) % 4294967296) / 2) (bits .and .u32 2197175160 (-bits .and .u32 (bits .xor .u32 x ((s[i].toNat:Int) % 4294967296)) 1 % 4294967296))))=EM s 4294967295:=by
 rw [Ae h] at a;exact a
def X1(s:ax)(hs:(s.length:Int)<=9223372036854775807)(w:World):Calls Tryz.prog 95 #[.string ⟨s.toArray⟩] w λ e w'=>e= .returned (.int .u32 (xH s))/\w'=w:=by
 go_enter Tryz.func95,Tryz.ntmps95
 go_wp2
 refine II (aMe s w) (aMd s w) (λ a _=>aMc s a) (λ a _=>aMb s a) rfl rfl ?_ (λ a w' j=>?_) (λ a w' j=>?_)
 .go_wp2
  go_step3
  go_wp2
  .have b:((0:Int)==(s.length:Int))=true:=by assumption
   simp only [uN]
   go_ret
   have:s=[]:=Az (by have:=beq_iff_eq.1 b;omega);subst this;exact ⟨rfl,rfl⟩
  .have b:0<s.length:=by assumption
   go_step3
   go_wp2
   go_step3
   exact .inr ⟨rfl,rfl,_,1,1,_,_,_,_,_,_,_,_,_,_,_,_,_,_,_,_,_,_,_,_,_,_,_,_,_,rfl,(iX _ _ _).1,(iX _ _ _).2,b,by decide,by decide,PA b rfl⟩
  .have b:((0:Int)==(s.length:Int))=false:=by assumption
   have h1:¬ 0<s.length:=by assumption
   have:=beq_eq_false_iff_ne.1 b;omega
 .obtain ⟨rfl,x,i,k,M,J,O,N,F,m,B,t,d,u,C,I,H,g,z,r,p,y,q,v,n,D,l,o,h,rfl,K,L,G,c⟩:=j
  go_wp2
  .have b:((i:Int)==(s.length:Int))=true:=by assumption
   simp only [uN]
   go_ret
   have b:=beq_iff_eq.1 b;rw [Ah o_] at c;have c:x=EM s 4294967295:=c;subst c;exact ⟨rfl,rfl⟩
  .have b:i<s.length:=by assumption
   go_step3
   go_wp2
   go_step3
   refine .inr ⟨rfl,⟨rfl,_,i+1,1,_,_,_,_,_,_,_,_,_,_,_,_,_,_,_,_,_,_,_,_,_,_,_,_,_,rfl,(iX _ _ _).1,(iX _ _ _).2,b,by decide,by decide,PA b c⟩,?_⟩;show (s.length-((i:Int)+1).toNat)*10+9-(1:Int).toNat<(s.length-(i:Int).toNat)*10;omega
  .have b:((i:Int)==(s.length:Int))=false:=by assumption
   have h1:¬ i<s.length:=by assumption
   have:=beq_eq_false_iff_ne.1 b;omega
 .obtain ⟨rfl,x,i,k,M,J,O,N,F,m,B,t,d,u,C,I,H,g,z,r,p,y,q,v,n,D,l,o,h,rfl,K,L,G,P,Q,c⟩:=j
  go_wp2
  .go_step3
   rename_i b;have e:8-k=8-(k+1)+1:=o_;rw [e] at c;refine .inr ⟨rfl,⟨rfl,_,i,k+1,_,_,_,_,_,_,_,_,_,_,_,_,_,_,_,_,_,_,_,_,_,_,_,_,_,rfl,(iX _ _ _).1,(iX _ _ _).2,G,by omega,by omega,c⟩,?_⟩;show (s.length-(i:Int).toNat)*10+9-((k:Int)+1).toNat<(s.length-(i:Int).toNat)*10+9-(k:Int).toNat;omega
  .go_step3
   rename_i b;have e:8-k=0+1:=o_;rw [e] at c;refine .inl ⟨rfl,⟨rfl,_,i,k+1,_,_,_,_,_,_,_,_,_,_,_,_,_,_,_,_,_,_,_,_,_,_,_,_,_,rfl,(iX _ _ _).1,(iX _ _ _).2,G,c⟩,?_⟩;show (s.length-(i:Int).toNat)*10<(s.length-(i:Int).toNat)*10+9-(k:Int).toNat;omega
def H2(s:ax):aq 95 [.str s] [] (.ret (.int .u32 (xH s))) []:=by
 intro M ob w a hm b;obtain ⟨hl,b⟩:=b
 match a,hl with
 | [v],_=>
 have h:=b 0 _ _ rfl rfl;cases h with
 | str _ hs=>
 refine .inl ⟨(show nP Tryz.prog 95 from λ_ _=>by rfl) _ _,(X1 s hs w).mono λ e w' ⟨c,d⟩=>?_⟩;subst c d;exact ⟨M,ob,Ext.refl _ _ _ _,hm,.int _ _ (by have:=SX s;simp only [inR,cJ,bE];omega)⟩
set_option maxRecDepth 10000
abbrev i4(n:Int):aa:=.int .u32 n
def aDt(n k:Nat):((n:Int).fdiv (2 ^ k))=((n / 2 ^ k:Nat):Int):=by rw [Dz _ (by exact Int.le_of_lt (Int.pow_pos d_))];simp
def wZ(n k:Nat):IntKind.u8.wrap ((n:Int).fdiv (2 ^ k))=((Dt (n / 2 ^ k)).toNat:Int):=by rw [aDt,IG,Gy]
def WH(n:Nat):aq 94 [i4 n] [] (.ret (.str (lV n))) []:=by
 have b:=wZ n 0;have a:=wZ n 8;have c:=wZ n 16;have d:=wZ n 24;refine cT (E:=(Er [3,5] [])) (fn:=Tryz.f94) (g:=.pure _) λ_=>?_
 repeat' first
  | (refine gW (hEr [3,5] []) ?_;conv=>whnf)
  | exact rfl
  | refine aY ?_
  | refine aN ?_
  | refine aT λ h=>?_
  | refine aF λ h=>?_
  | refine ⟨_,rfl,?_⟩
  | refine aJ ?_
  | refine .inr ?_ | refine Ac (by first | decide | (simp only [maxLen];omega) | simp) ?_
  | refine aD ?_
  | fail
 refine ⟨lV n,?_,by simp [lV],?_⟩
 .show [aa.int .u8 (IntKind.u8.wrap ((n:Int).fdiv (2 ^ 0))),aa.int .u8 (IntKind.u8.wrap ((n:Int).fdiv (2 ^ 8))),aa.int .u8 (IntKind.u8.wrap ((n:Int).fdiv (2 ^ 16))),aa.int .u8 (IntKind.u8.wrap ((n:Int).fdiv (2 ^ 24)))]=_;rw [b,a,c,d,Nat.pow_zero,Il];rfl
 .exact zW
def orU(x c i:Nat)(a:x<2 ^ i)(h:x+c*2 ^ i<4294967296):dL .or .u32 (x:Int) ((c:Int)*2 ^ i)=((x+c*2 ^ i:Nat):Int):=by
 have e:(c:Int)*2 ^ i=((c*2 ^ i:Nat):Int):=by simp
 rw [e,oM .u32 x (c*2 ^ i) (by simp only [bE];omega) (by simp only [bE];omega),RC a]
def aEA(a b c d:UInt8)(r:ax):dL .or .u32 (dL .or .u32 (dL .or .u32 (dL .or .u32 0 ((a.toNat:Int)*2 ^ 0)) ((b.toNat:Int)*2 ^ 8)) ((c.toNat:Int)*2 ^ 16)) ((d.toNat:Int)*2 ^ 24)=((eK (a::b::c::d::r):Nat):Int):=by
 have i:=a.toNat_lt;have g:=b.toNat_lt;have j:=c.toNat_lt;have h:=d.toNat_lt;have e:=orU 0 a.toNat 0 d_ o_;have h1:=orU (0+a.toNat*2 ^ 0) b.toNat 8 o_ o_;have f:=orU (0+a.toNat*2 ^ 0+b.toNat*2 ^ 8) c.toNat 16 o_ o_;have h3:=orU (0+a.toNat*2 ^ 0+b.toNat*2 ^ 8+c.toNat*2 ^ 16) d.toNat 24 o_ o_;have e:dL .or .u32 0 ((a.toNat:Int)*2 ^ 0)=_:=e;rw [e,h1,f,h3];show ((_:Nat):Int)=((a.toNat+256*b.toNat+65536*c.toNat+16777216*d.toNat:Nat):Int)
 congr 1;omega
def IV(c:UInt8)(i:Nat)(h:i<=24):i<=32/\inR .u32 ((c.toNat:Int)*2 ^ i):=by
 have b:=c.toNat_lt;have e:(c.toNat:Int)*2 ^ i=((c.toNat*2 ^ i:Nat):Int):=by simp
 have h1:2 ^ i<=2 ^ 24:=Eu d_ h;have a:c.toNat*2 ^ i<=255*2 ^ 24:=Gk o_ h1;refine ⟨by omega,?_⟩;rw [e];simp only [inR,cJ,bE];omega
def aEt(a b c d:UInt8)(r:ax):aq 204 [.str (a::b::c::d::r)] [] (.ret (i4 (eK (a::b::c::d::r):Nat))) []:=by
 have j:=a.toNat_lt;have e:=b.toNat_lt;have k:=c.toNat_lt;have i:=d.toNat_lt;refine c_ Tryz.f204 λ_=>?_
 repeat' first
  | (refine gW hE ?_;conv=>whnf)
  | exact rfl
  | refine aY ?_
  | refine aN ?_
  | refine aT λ h=>?_
  | refine aF λ h=>?_
  | refine ⟨_,rfl,?_⟩
  | refine aJ ?_
  | refine .inl ⟨IV _ 0 d_,?_⟩ | refine .inl ⟨IV _ 8 d_,?_⟩ | refine .inl ⟨IV _ 16 d_,?_⟩ | refine .inl ⟨IV _ 24 d_,?_⟩ | exact congrArg (λ n=>Res.ret (aa.int .u32 n)) (aEA a b c d r)
  | refine aD ?_
  | fail
def OL(n:Nat):(lV n).length=4:=rfl
def oK(s:ax)(h:s.length<=16384):aq 51 [.str s] [] (.ret (.str (frm s))) []:=by
 have h1:=H2 s;obtain ⟨b,c⟩:=SX s;have a:=WH (xH s).toNat;rw [show (((xH s).toNat:Nat):Int)=xH s by omega] at a;have h3:=WH s.length;unfold frm;have l1:=OL (xH s).toNat;have l2:=OL s.length;generalize lV (xH s).toNat=x at *
 generalize lV s.length=y at *
 refine c_ Tryz.f51 λ_=>?_
 repeat' first | (refine gN hE ?_;conv=>whnf) | refine .pure _ [] h1 ?_ | refine .pure _ [] a ?_ | refine .pure _ [] h3 ?_ | refine Ac (by simp only [Ai];omega) ?_ | exact rfl | refine zt ?_ | refine zu ?_ ?_ | intro h | fail
def rdT(s:ax):ax:=if kF s=0 then rF s else []
def rdN(s:ax):Int:=if kF s=0 then (eK s:Int)+8 else 0
def Z4(s:ax)(hm:s.length<=1000000000)(N M:Nat)(x:Int)(hl:¬ s.length<8)(m:N<4294967296)(c:aq 204 [.str s] [] (.ret (i4 N)) [])(b:aq 204 [.str (s.drop 4)] [] (.ret (i4 M)) [])
  (hs:aq 95 [.str ((s.take (8+N)).drop 8)] [] (.ret (i4 x)) []) (T:ax) (n e:Int)
  (a:(T,n,e)=if 16384<N then ([],0,8) else if (s.length:Int)-8<N then ([],0,10) else if x≠M then ([],0,11) else ((s.take (8+N)).drop 8,(N:Int)+8,0)):
  aq 156 [.str s] [] (.ret (.tup [.str T,ii n,ii e])) []:=by
 have j:(8:Int)+N=((8+N:Nat):Int):=by simp
 by_cases l:16384<N
 .rw [if_pos l] at a;cases a;refine c_ Tryz.f156 λ_=>?_
  repeat' first | (refine gN hE ?_;conv=>whnf) | refine .pure _ [] c ?_ | refine .pure _ [] b ?_ | refine ⟨4,rfl,?_⟩ | exact rfl | refine zt ?_ | refine zu ?_ ?_ | intro h | fail
 rw [if_neg l] at a;by_cases k:(s.length:Int)-8<N
 .rw [if_pos k] at a;cases a;refine c_ Tryz.f156 λ_=>?_
  repeat' first | (refine gN hE ?_;conv=>whnf) | refine .pure _ [] c ?_ | refine .pure _ [] b ?_ | refine ⟨4,rfl,?_⟩ | exact rfl | refine zt ?_ | refine zu ?_ ?_ | intro h | fail
 rw [if_neg k] at a;by_cases d:x=M
 .rw [if_neg (by simpa using d)] at a;cases a;have i:(x !=(M:Int))=false:=by simpa using d
  refine c_ Tryz.f156 λ_=>?_
  repeat' first | (refine gN hE ?_;conv=>whnf) | refine .pure _ [] c ?_ | refine .pure _ [] b ?_ | refine .pure _ [] hs ?_ | refine ⟨4,rfl,?_⟩ | refine ⟨8,rfl,?_⟩ | refine ⟨8+N,j,?_⟩ | refine zF i ?_ | exact rfl | refine zt ?_ | refine zu ?_ ?_ | intro h | fail
 .rw [if_pos (by simpa using d)] at a;cases a;have i:(x !=(M:Int))=true:=by simpa using d
  refine c_ Tryz.f156 λ_=>?_
  repeat' first | (refine gN hE ?_;conv=>whnf) | refine .pure _ [] c ?_ | refine .pure _ [] b ?_ | refine .pure _ [] hs ?_ | refine ⟨4,rfl,?_⟩ | refine ⟨8,rfl,?_⟩ | refine ⟨8+N,j,?_⟩ | refine zE i ?_ | exact rfl | refine zt ?_ | refine zu ?_ ?_ | intro h | fail
def aIN(s:ax):eK s<4294967296:=by
 unfold eK;split
 .rename_i a b c d _;have:=a.toNat_lt;have:=b.toNat_lt;have:=c.toNat_lt;have:=d.toNat_lt;omega
 .decide
def P0(s:ax)(h:4<=s.length):aq 204 [.str s] [] (.ret (i4 (eK s:Nat))) []:=by
 match s,h with
 | a::b::c::d::r,_=>exact aEt a b c d r
 | [],h | [_],h | [_,_],h | [_,_,_],h=>simp at h
def O9(s:ax)(hm:s.length<=1000000000):aq 156 [.str s] [] (.ret (.tup [.str (rdT s),ii (rdN s),ii (kF s)])) []:=by
 by_cases q:s.length<8
 .have e:kF s=10:=if_pos q;unfold rdT rdN;rw [e];refine c_ Tryz.f156 λ_=>?_
  repeat' first | (refine gN hE ?_;conv=>whnf) | exact rfl | refine zt ?_ | refine zu ?_ ?_ | intro h | fail
 .refine Z4 s hm (eK s) (eK (s.drop 4)) _ q (aIN s) (P0 s o_) (P0 _ (by rw [Eh];omega)) (H2 _) _ _ _ ?_;have d:(s.take (8+eK s)).drop 8=rF s:=by rw [List.drop_take];simp [rF]
  rw [d];unfold rdT rdN kF;rw [if_neg q];by_cases a:16384<eK s
  .rw [if_pos a,if_pos a];rfl
  by_cases b:(s.length:Int)-8<eK s
  .rw [if_neg a,if_neg a,if_pos b,if_pos b];rfl
  rw [if_neg a,if_neg a,if_neg b,if_neg b];have e:(s.drop 8).take (eK s)=rF s:=rfl;rw [e];generalize xH (rF s)=X;generalize ((eK (s.drop 4):Nat):Int)=Y;by_cases c:X=Y
  .simp [c]
  .simp [c]
abbrev tDk:TypeId:=85
abbrev bA:aa:=.slice 1 [] .nil
abbrev wtB(x:ax):aa:=.slice 1 (x.map ub) .no
def sfV(f:Bool)(k:Nat)(s:ax):aa:=.slice 1 (s.map ub) (match f with | true=>.own k 0 | false=>.full)
def sfT(f:Bool):au:=match f with | true=>[.tail 0 1 5] | false=>[]
def sgV(f:Bool)(k:Nat)(s:ax):aa:=.slice 1 (s.map ub) (match f with | true=>.own k 1 | false=>.own k 0)
def sgT(f:Bool):au:=match f with | true=>[.tail 1 1 5] | false=>[.tail 0 1 5]
abbrev dkC(n:Int)(safe w:aa)(sw:Bool):ab:=.cells tDk [ii n,safe,w,.bool sw]
abbrev dkO(f:Bool)(n:Int)(s:ax)(w:aa)(sw:Bool):au:=dkC n (sfV f 1 s) w sw::sfT f
def aIk(n:Int):aq 10 [ii n] [] (.ret (.ref 0 0)) [dkC (min (max n 0) 1048576) (.slice 1 [] .nil) bA false]:=by refine cT (E:=E) (fn:=Tryz.f10) (g:=.full 0 _ _) λ_=>?_;exact zW
def EO(f:Bool)(n:Int)(s:ax)(hs:(s.length:Int)<=9223372036854775807):aq 61 [.ref 0 0] (dkO f n s bA false) (.ret (.str s)) (dkO f n s bA false):=by
 have a:s.map ub=s.map ub:=rfl;cases f
 .refine cT (E:=E) (fn:=Tryz.f61) (g:=.full 1 _ _) λ_=>?_;exact zW
 .refine cT (E:=E) (fn:=Tryz.f61) (g:=.full 2 _ _) λ_=>?_;exact zW
def B4(f:Bool)(n:Int)(s x:ax)(b:Bool):aq 96 [.ref 0 0] (dkO f n s (wtB x) b) (.ret (ii ((x.map ub).length:Nat))) (dkO f n s (wtB x) b):=by
 cases f
 .refine cT (E:=E) (fn:=Tryz.f96) (g:=.full 1 _ _) λ_=>?_;exact zW
 .refine cT (E:=E) (fn:=Tryz.f96) (g:=.full 2 _ _) λ_=>?_;exact zW
def O7(f:Bool)(n:Int)(s:ax)(a:0<=n)(h1:n<=1048576)(hs:(s.length:Int)<=1048576):aq 93 [.ref 0 0] (dkO f n s bA false) (.ret (ii (n-((0:Nat):Int)-((s.map ub).length:Nat)))) (dkO f n s bA false):=by
 have hl:(s.map ub).length=s.length:=by simp
 have hz:([]:ay).length=0:=rfl;cases f
 .refine cT (E:=E) (fn:=Tryz.f93) (g:=.full 1 _ _) λ_=>?_;exact zW
 .refine cT (E:=E) (fn:=Tryz.f93) (g:=.full 2 _ _) λ_=>?_;exact zW
def HX(f:Bool)(n:Int)(s x:ax)(a:0<=n)(h1:n<=1048576)(hs:(s.length:Int)<=1048576)(b:n-s.length<x.length):aq 50 [.ref 0 0,.str x] (dkO f n s bA false) (.ret (ii 9)) (dkO f n s bA false):=by
 have hl:(s.map ub).length=s.length:=by simp
 have h:=O7 f n s a h1 hs;exact zqta1
def HW(f:Bool)(n:Int)(s x:ax)(b:0<=n)(h1:n<=1048576)(hs:(s.length:Int)<=1048576)(c:(x.length:Int)<=n-s.length):
  aq 50 [.ref 0 0,.str x] (dkO f n s bA false) (.ret (ii 0)) (dkO f n s (.slice 1 (x.map ub) (.own (match f with | true=>2 | false=>1) 0)) false++[.tail 0 1 5]):=by
 have hl:(s.map ub).length=s.length:=by simp
 have a:(x.map ub).length=x.length:=by simp
 have h:=O7 f n s b h1 hs;exact zqta1
def aGb(f:Bool)(n:Int)(s x:ax)(a:n<x.length):aq 60 [.ref 0 0,.str x] (dkO f n s bA false) (.ret (ii 9)) (dkO f n s bA false):=by exact zqta0
def UW(f:Bool)(n:Int)(s x:ax)(a:(x.length:Int)<=n):aq 60 [.ref 0 0,.str x] (dkO f n s bA false) (.ret (ii 0)) (dkO f n s (wtB x) true):=by exact zqta0
def eO(keep:Int)(m:Nat):Nat:=(min (max keep 0) (m:Int)).toNat
def JZ(keep:Int)(m:Nat):min (max keep 0) (m:Int)=((eO keep m:Nat):Int)/\eO keep m<=m:=by unfold eO;omega
def SY(f:Bool)(n:Int)(s x:ax):aq 19 [.ref 0 0,ii ((x.map ub).length:Nat)] (dkO f n s (wtB x) true) (.ret (.tup [])) (dkC n (.slice 1 (x.map ub) .full) bA false::sfT f):=by
 have key:∀ y,(x.map ub).take (x.map ub).length=y->aq 19 [.ref 0 0,ii ((x.map ub).length:Nat)] (dkO f n s (wtB x) true) (.ret (.tup [])) (dkC n (.slice 1 y .full) bA false::sfT f):=by
  intro y b;subst b;have a:min (max ((x.map ub).length:Int) 0) ((x.map ub).length:Int)=((x.map ub).length:Int):=o_;have c:(min (max ((x.map ub).length:Int) 0) ((x.map ub).length:Int)==((x.map ub).length:Int))=true:=by rw [a];exact beq_self_eq_true _
  cases f
  .refine cT (E:=E) (fn:=Tryz.f19) (g:=.full 1 _ _) λ_=>?_;exact zW
  .exact zqta3
 exact key _ (Ge)
def H3(n:Int)(s x:ax)(keep:Int)(hs:s.length<=1048576)(i:x.length<=1048576):
  aq 19 [.ref 0 0,ii keep] (dkO true n s (wtB x) false) (.ret (.tup [])) (dkC n (sgV true 1 (s++x.take (eO keep x.length))) bA false::sgT true):=by
 have a:(x.map ub).length=x.length:=by simp
 have c:(s.map ub).length=s.length:=by simp
 obtain ⟨d,b⟩:=JZ keep x.length;rw [<-a] at d b;have e:((x.map ub).take (eO keep (x.map ub).length)).length<=x.length:=by rw [Dn];omega
 have key:∀ y,s.map ub++(x.map ub).take (eO keep (x.map ub).length)=y->aq 19 [.ref 0 0,ii keep] (dkO true n s (wtB x) false) (.ret (.tup [])) (dkC n (.slice 1 y (.own 1 1)) bA false::sgT true):=by intro y h;subst h;exact zqta3
 refine key _ ?_;rw [a,Bm,Gh]
def EN(n:Int)(s x:ax)(keep:Int)(hs:s.length<=1048576)(k:x.length<=1048576)(c:x.take (eO keep x.length)≠[]):
  aq 19 [.ref 0 0,ii keep] (dkO false n s (wtB x) false) (.ret (.tup [])) (dkC n (sgV false 1 (s++x.take (eO keep x.length))) bA false::sgT false):=by
 have a:(x.map ub).length=x.length:=by simp
 have i:(s.map ub).length=s.length:=by simp
 obtain ⟨h,b⟩:=JZ keep x.length;rw [<-a] at h b;have e:((x.map ub).take (eO keep (x.map ub).length)).length<=x.length:=by rw [Dn];omega
 have d:(x.map ub).take (eO keep (x.map ub).length)≠[]:=by rw [a,<-Gh];simpa using c
 have key:∀ y,s.map ub++(x.map ub).take (eO keep (x.map ub).length)=y->aq 19 [.ref 0 0,ii keep] (dkO false n s (wtB x) false) (.ret (.tup [])) (dkC n (.slice 1 y (.own 1 0)) bA false::sgT false):=by intro y j;subst j;refine cT (E:=(Eo [34] [])) (fn:=Tryz.f19) (g:=.full 1 _ _) λ_=>?_;exact zW
 refine key _ ?_;rw [a,Bm,Gh]
def SZ(n:Int)(s x:ax)(keep:Int)(hs:s.length<=1048576)(k:x.length<=1048576)(d:x.take (eO keep x.length)=[]):
  aq 19 [.ref 0 0,ii keep] (dkO false n s (wtB x) false) (.ret (.tup [])) (dkO false n s bA false):=by
 have b:(x.map ub).length=x.length:=by simp
 have j:(s.map ub).length=s.length:=by simp
 obtain ⟨e,c⟩:=JZ keep x.length;rw [<-b] at e c;have a:(x.map ub).take (eO keep (x.map ub).length)=[]:=by rw [b,<-Gh,d];rfl
 have i:((x.map ub).take (eO keep (x.map ub).length)).length=0:=by rw [a];rfl
 refine cT (E:=(Ex [34] [34] [])) (fn:=Tryz.f19) (g:=.full 1 _ _) λ_=>?_
 repeat' first | (refine gN (hEx [34] [34] []) ?_;conv=>whnf) | refine ⟨_,e,?_⟩ | refine Ac a ?_ | refine Ac (xB o_ d_) ?_ | refine zM ?_ | exact rfl | refine zt ?_ | refine zu ?_ ?_ | intro h | fail
 exact zx [0]
def S0(n:Int)(s:ax)(keep:Int)(hs:s.length<=1048576):
  aq 19 [.ref 0 0,ii keep] (dkO true n s bA false) (.ret (.tup [])) (dkC n (sgV true 1 s) bA false::sgT true):=by
 have a:(s.map ub).length=s.length:=by simp
 have c:min (max keep 0) ((([]:ay).length:Nat):Int)=((0:Nat):Int):=by show min (max keep 0) 0=0;omega
 have key:∀ y,s.map ub++[]=y->aq 19 [.ref 0 0,ii keep] (dkO true n s bA false) (.ret (.tup [])) (dkC n (.slice 1 y (.own 1 1)) bA false::sgT true):=by intro y b;subst b;exact zqta3
 exact key _ (Ar _)
def S1(n:Int)(s:ax)(keep:Int)(hs:s.length<=1048576):
  aq 19 [.ref 0 0,ii keep] (dkO false n s bA false) (.ret (.tup [])) (dkO false n s bA false):=by
 have a:(s.map ub).length=s.length:=by simp
 have b:min (max keep 0) ((([]:ay).length:Nat):Int)=((0:Nat):Int):=by show min (max keep 0) 0=0;omega
 refine cT (E:=(Ex [34] [34] [])) (fn:=Tryz.f19) (g:=.full 1 _ _) λ_=>?_
 repeat' first | (refine gN (hEx [34] [34] []) ?_;conv=>whnf) | refine ⟨_,b,?_⟩ | refine Ac rfl ?_ | refine Ac (xB o_ d_) ?_ | refine zM ?_ | exact rfl | refine zt ?_ | refine zu ?_ ?_ | intro h | fail
 exact zx [0]
def DO(x:ax):x.take (eO ((x.map ub).length:Nat) x.length)=x:=by
 have e:eO ((x.map ub).length:Nat) x.length=x.length:=by unfold eO;rw [Cc];omega
 rw [e,Ge]
def aFi(f:Bool)(n:Int)(s x:ax)(hs:s.length<=1048576)(c:x.length<=1048576)(b:x≠[]):
  aq 52 [.ref 0 0] (dkO f n s (wtB x) false) (.ret (.tup [])) (dkC n (sgV f 1 (s++x)) bA false::sgT f):=by
 have h:=B4 f n s x false;cases f
 .have a:=EN n s x ((x.map ub).length:Nat) hs c (by rw [DO];exact b);rw [DO] at a;exact zqta5
 .have a:=H3 n s x ((x.map ub).length:Nat) hs c;rw [DO] at a;exact zqta6
def F4(f:Bool)(n:Int)(s x:ax):aq 52 [.ref 0 0] (dkO f n s (wtB x) true) (.ret (.tup [])) (dkC n (.slice 1 (x.map ub) .full) bA false::sfT f):=by
 have h:=B4 f n s x true;have a:=SY f n s x;cases f
 .exact zqta5
 .exact zqta6
abbrev tJn:TypeId:=137
abbrev jnO(d:Nat)(m:Int):ab:=.cells tJn [.ref d 0,ii m]
abbrev jdO(m:Int)(f:Bool)(n:Int)(s:ax):au:=jnO 1 m::dkC n (sfV f 2 s) bA false::sfT f
def Y7(f:Bool)(m n:Int)(s x:ax)(a:16384<x.length):aq 30 [.ref 0 0,.str x] (jdO m f n s) (.ret (ii 8)) (jdO m f n s):=by
 cases f
 .refine cT (E:=E) (fn:=Tryz.f30) (g:=.full 2 _ _) λ_=>?_;exact zW
 .refine cT (E:=E) (fn:=Tryz.f30) (g:=.full 3 _ _) λ_=>?_;exact zW
def aHe(f:Bool)(m n:Int)(s x:ax)(c:x.length<=16384)(d:0<=n)(h1:n<=1048576)(hs:(s.length:Int)<=1048576)(e:n-s.length<x.length+8):
  aq 30 [.ref 0 0,.str x] (jdO m f n s) (.ret (ii 9)) (jdO m f n s):=by
 have a:=oK x c;have b:=HX f n s (frm x) d h1 hs (by rw [dW];omega);cases f
 all_goals
  refine cT (E:=E) (fn:=Tryz.f30) (g:=.full _ _ _) λ_=>?_
  repeat' first | (refine gN hE ?_;conv=>whnf) | refine .pure _ [] a ?_ | refine .sole rfl (.eff [] [1] _ _ rfl b ?_) | refine .sole rfl (.eff [] [1,2] _ _ rfl b ?_) | exact zx [0,1] | exact zx [0,1,2] | exact rfl | refine zt ?_ | refine zu ?_ ?_ | intro h | fail
def aHd(f:Bool)(m n:Int)(s x:ax)(hm:0<=m/\m<=1000000)(d:x.length<=16384)(i:0<=n)(h1:n<=1048576)(hs:(s.length:Int)<=1048576)(j:(x.length:Int)+8<=n-s.length):
  aq 30 [.ref 0 0,.str x] (jdO m f n s) (.ret (ii 0)) (jnO 1 (m+1)::dkC n (sgV f 2 (s++frm x)) bA false::sgT f):=by
 have a:=oK x d;have hl:=dW x;have c:=HW f n s (frm x) i h1 hs (by rw [dW];omega);have b:=aFi f n s (frm x) o_ o_ (by intro e;rw [e] at hl;simp at hl);cases f
 all_goals
  refine cT (E:=E) (fn:=Tryz.f30) (g:=.full _ _ _) λ_=>?_
  repeat' first | (refine gN hE ?_;conv=>whnf) | refine .pure _ [] a ?_ | refine .sole rfl (.eff [] [1] _ _ rfl c ?_) | refine .sole rfl (.eff [] [1,2] _ _ rfl c ?_) | refine .eff [] [1] _ _ rfl b ?_ | refine .eff [] [1,2] _ _ rfl b ?_ | exact zx [0,1,3] | exact zx [0,1,2] | exact rfl | refine zt ?_ | refine zu ?_ ?_ | intro h | fail
def Y6(f:Bool)(m n:Int)(s x:ax)(a:16384<x.length):aq 34 [.ref 0 0,.str x] (jdO m f n s) (.ret (ii 8)) (jdO m f n s):=by
 cases f
 .refine cT (E:=E) (fn:=Tryz.f34) (g:=.full 2 _ _) λ_=>?_;exact zW
 .refine cT (E:=E) (fn:=Tryz.f34) (g:=.full 3 _ _) λ_=>?_;exact zW
def aHa(f:Bool)(m n:Int)(s x:ax)(c:x.length<=16384)(d:0<=n)(h1:n<=1048576)(hs:(s.length:Int)<=1048576)(e:n-s.length<x.length+8):
  aq 34 [.ref 0 0,.str x] (jdO m f n s) (.ret (ii 9)) (jdO m f n s):=by
 have a:=oK x c;have b:=HX f n s (frm x) d h1 hs (by rw [dW];omega);cases f
 all_goals
  refine cT (E:=E) (fn:=Tryz.f34) (g:=.full _ _ _) λ_=>?_
  repeat' first | (refine gN hE ?_;conv=>whnf) | refine .pure _ [] a ?_ | refine .sole rfl (.eff [] [1] _ _ rfl b ?_) | refine .sole rfl (.eff [] [1,2] _ _ rfl b ?_) | exact zx [0,1] | exact zx [0,1,2] | exact rfl | refine zt ?_ | refine zu ?_ ?_ | intro h | fail
def aG9(f:Bool)(m n:Int)(s x:ax)(c:x.length<=16384)(d:0<=n)(h1:n<=1048576)(hs:(s.length:Int)<=1048576)(e:(x.length:Int)+8<=n-s.length):
  aq 34 [.ref 0 0,.str x] (jdO m f n s) (.ret (ii 0)) (jnO 1 m::dkC n (sfV f 2 s) (wtB (frm x)) false::sfT f):=by
 have a:=oK x c;have b:=HW f n s (frm x) d h1 hs (by rw [dW];omega);cases f
 all_goals
  refine cT (E:=E) (fn:=Tryz.f34) (g:=.full _ _ _) λ_=>?_
  repeat' first | (refine gN hE ?_;conv=>whnf) | refine .pure _ [] a ?_ | refine .sole rfl (.eff [] [1] _ _ rfl b ?_) | refine .sole rfl (.eff [] [1,2] _ _ rfl b ?_) | exact zx [0,1] | exact zx [0,1,2] | exact rfl | refine zt ?_ | refine zu ?_ ?_ | intro h | fail
abbrev tB:TypeId:=144
def TT(x:ax)(b:x.length<=1048576):aq 56 [.ref 0 0,.str x] [.cells tB [.nilptr,bA]] (.ret (.tup [ii (x.length:Nat),.nilif])) [.cells tB [.ref 0 0,.slice 1 (x.map ub) (.own 1 0)],.tail 0 1 5]:=by
 have a:(x.map ub).length=x.length:=by simp
 have h1:=TB.cc_fresh bA;refine cT (E:=E) (fn:=Tryz.f56) (g:=.full 1 _ _) λ_=>?_;exact zW
def aHb(f:Bool)(m n:Int)(s x:ax)(j:x.length<=16384)(k:(x.length:Int)+8<=n):
  aq 33 [.ref 0 0,.slice 1 [.str x] .no] (jdO m f n s) (.ret (ii 0)) (jnO 1 1::dkC n (sfV false 2 (frm x)) bA false::sfT f):=by
 have i:=oK x j;have hl:=dW x;have d:frm x≠[]:=λ e=>by rw [e] at hl;simp at hl
 have a:=TT (frm x) o_;have hst:=TB.str_ok (frm x) d (.ref 0 0);have b:=UW f n s (frm x) o_;have c:=F4 f n s (frm x);cases f
 all_goals
  refine cT (E:=E) (fn:=Tryz.f33) (g:=.full _ _ _) λ_=>?_
  repeat' first | (refine gN hE ?_;conv=>whnf) | exact rfl | refine zt ?_ | refine zu ?_ ?_ | intro h | fail
  refine gV ?_;refine aT (h:=λ h=>?_) (by show (0:Int)<((1:Nat):Int);decide)
  repeat' first | (refine gN hE ?_;conv=>whnf) | refine .pure _ [] i ?_ | refine .eff [] [2] _ _ rfl a ?_ | refine .eff [] [3] _ _ rfl a ?_ | exact rfl | refine zt ?_ | refine zu ?_ ?_ | intro h | fail
  refine gV ?_;refine aF (h:=λ h=>?_) (by show ¬ (0:Int)+1<((1:Nat):Int);decide);refine cP hE 2 ?_;conv=>whnf
  refine To.permAt hE [0,1,2,3] [4,5,6] (by rfl) ?_;conv=>whnf
  repeat (refine aL ?_;conv=>whnf;(try conv=>whnf))
  first
   | refine .eff [] [2,3] _ _ rfl hst ?_
   | refine .eff [] [3,4] _ _ rfl hst ?_;conv=>whnf
  repeat (refine aL ?_;conv=>whnf;(try conv=>whnf))
  first
   | refine .eff [] [1] _ _ rfl b ?_
   | refine .eff [] [1,2] _ _ rfl b ?_;conv=>whnf
  repeat (refine aL ?_;conv=>whnf;(try conv=>whnf))
  repeat' first | (refine gN hE ?_;conv=>whnf) | refine .eff [] [1] _ _ rfl c ?_ | refine .eff [] [1,2] _ _ rfl c ?_ | exact zx [0,1] | exact zx [0,1,2] | exact rfl | refine zt ?_ | refine zu ?_ ?_ | intro h | fail
def aMX{n a:Nat}(h:n<=1048576)(b:a<=1000):A1 (n+1) a:=Ac (by simp only [maxLen];omega) (Cx (Gk (show n+1<=1048577 by omega) b) d_)
abbrev stO(s:ax):ab:=.cells 9 [.str s]
abbrev nxF:aa:=.func (.func 155) [] [.ref 1 0]
def ZI(s:ax):aq 106 [.str s] [] (.ret (.func (.func 155) [] [.ref 0 0])) [stO s]:=by refine cT (E:=E) (fn:=Tryz.f106) (g:=.full 0 _ _) λ_=>?_;exact zW
def aKA(s:ax)(hm:s.length<=1000000000)(h:kF s≠0):aq 155 [.ref 0 0] [stO s] (.ret (.tup [.str [],ii 0,.bool false])) [stO s]:=by
 have h1:=O9 s hm;have a:(kF s !=0)=true:=by simpa using h
 generalize kF s=e at *
 generalize rdT s=t at *
 generalize rdN s=n at *
 exact zqta7
def aGE(s:ax)(hm:s.length<=1000000000)(h:kF s=0)(a:eK s+8<=s.length):aq 155 [.ref 0 0] [stO s] (.ret (.tup [.str (rF s),ii ((eK s:Int)+8),.bool true])) [stO (s.drop (eK s+8))]:=by
 have h1:=O9 s hm;unfold rdT rdN at h1;rw [h,if_pos rfl,if_pos rfl] at h1;have b:(eK s:Int)+8=((eK s+8:Nat):Int):=by simp
 generalize rF s=t at *
 generalize eK s=n at *
 exact zqta7
abbrev nT(l:List ax):ay:=l.map aa.str
noncomputable abbrev aJe:Func:=Tryz.f62
def GB(r:ax)(e:kF r≠0)(R:List ax)(N:Int)(o:0<=N/\N<=1000000000):∀ (l a:List ax) (at':Int),(∀ t∈l,t.length<=16384)->(eM l++r).length<=1000000000->a.length+l.length<=1000000->0<=at'->a++l=R->at'+nX l=N->
  To (Eo [4] []) aJe (.pure (.ret (.tup [.slice 1 (nT R) .no,ii N]))) (.head (stk aJe 0) [(4,.slice 1 (nT a) (.own 0 0)),(5,ii at'),(6,nxF)] [.tail 0 1 9,stO (eM l++r)])
 | [],a,at',_,hm,_,_,hR,c=>by
  have h1:=aKA (eM []++r) hm e;rw [Ar] at hR;have c:at'+((0:Nat):Int)=N:=c;have c:at'=N:=o_;subst hR c;refine gV ?_
  repeat' first | (refine gN (hEo [4] []) ?_;conv=>whnf) | refine .eff [] [1] _ _ rfl h1 ?_ | exact rfl | refine zt ?_ | refine zu ?_ ?_ | intro h | fail
 | t::l,a,at',hl,hm,ha,h0,hR,c=>by
  have i:eM (t::l)++r=frm t++(eM l++r):=Af ..;have m:=hl t (Ao ..);obtain ⟨j,k⟩:=aBG t (eM l++r) m;have f:eK (frm t++(eM l++r))=t.length:=by unfold frm;rw [Af,Af,tC _ _ o_]
  rw [i] at hm⊢;have b:=dW t;rw [Ai,b] at hm;have h1:=aGE (frm t++(eM l++r)) (by rw [Ai,b];exact hm) j (by rw [f,Ai,b];omega);rw [k,f,show t.length+8=(frm t).length from b.symm,Ji] at h1;have hs:nX (t::l)=t.length+8+nX l:=rfl;rw [hs] at c;simp only [Al] at ha;have next:=GB r e R N o l (a++[t]) (at'+((t.length:Int)+8)) (λ x n=>hl x (Ay _ n)) o_ q_ o_ (by rw [Af];exact hR) o_
  have g:nT (a++[t])=nT a++[.str t]:=by simp
  rw [g] at next
  have d:(nT a).length<=1048576:=by simp;omega
  generalize frm t++(eM l++r)=s at *
  refine gV ?_
  repeat' first | (refine gN (hEo [4] []) ?_;conv=>whnf) | refine .eff [] [1] _ _ rfl h1 ?_ | refine Ac (aMX d d_) ?_ | exact rfl | refine zt ?_ | refine zu ?_ ?_ | intro h | fail
  refine To.part [4,5,6] [0,1] rfl rfl rfl ?_;exact next
def UP(l:List ax)(r:ax)(a:kF r≠0)(hl:∀ t∈l,t.length<=16384)(hm:(eM l++r).length<=1000000):aq 62 [.str (eM l++r)] [] (.ret (.tup [.slice 1 (nT l) .no,ii (nX l)])) []:=by
 have h1:=ZI (eM l++r);have b:=rV l;have h3:∀ l:List ax,l.length<=nX l:=λ l=>by
  induction l with
  | nil=>exact Bd _
  | cons t l c=>show l.length+1<=t.length+8+nX l;omega
 have d:=h3 l;rw [Ai] at hm;have next:=GB r a l (nX l) o_ l [] 0 hl (by rw [Ai];omega) q_ o_ rfl o_
 refine cT (E:=(Eo [4] [])) (fn:=Tryz.f62) (g:=.pure _) λ_=>?_
 repeat' first | (refine gN (hEo [4] []) ?_;conv=>whnf) | refine .pure _ _ h1 ?_ | exact rfl | refine zt ?_ | refine zu ?_ ?_ | intro h | fail
 refine To.part [4,5,6] [0,1] rfl rfl rfl ?_;exact next
abbrev jdN(f:Bool):Nat:=match f with | true=>2 | false=>1
def aCO(f:Bool)(n:Int)(l:List ax)(hl:∀ t∈l,t.length<=16384)(hm:(eM l).length<=1000000):
  aq 38 [.ref 0 0] (dkO f n (eM l) bA false) (.ret (.tup [.ref (jdN f) 0,.slice 1 (nT l) .no])) (dkO f n (eM l) bA false++[jnO 0 l.length]):=by
 have h1:=EO f n (eM l) o_;have a:=UP l [] aBF hl (by rw [Ar];exact hm);rw [Ar] at a;have h3:=rV l;generalize eM l=s at *
 have b:(nT l).length=l.length:=by simp
 rw [<-b];generalize nX l=k at *
 exact zqta2
def RO(f:Bool)(n:Int)(l:List ax)(r:ax)(d:kF r≠0)(a:r≠[])(hl:∀ t∈l,t.length<=16384)(hm:(eM l++r).length<=1000000)(i:((eM l).length:Int)<=n):
  aq 38 [.ref 0 0] (dkO f n (eM l++r) bA false) (.ret (.tup [.ref (jdN f) 0,.slice 1 (nT l) .no])) (dkC n (sfV false 1 (eM l)) bA false::sfT f++[jnO 0 l.length]):=by
 have h1:=EO f n (eM l++r) o_;have c:=UP l r d hl hm;have h3:=rV l;have m:((eM l++r).length:Int)=(eM l).length+r.length:=by rw [Ai];omega
 have o:0<r.length:=Dx.2 a;have b:(eM l++r).take (eM l).length=eM l:=Hn ..;have e:=UW f n (eM l++r) ((eM l++r).take (eM l).length) (by rw [b];exact i);have k:=F4 f n (eM l++r) ((eM l++r).take (eM l).length);rw [<-h3] at c;generalize eM l=s at *
 generalize s++r=sr at *
 have h:(nT l).length=l.length:=by simp
 rw [<-h]
 suffices key:∀ y,sr.take s.length=y->aq 38 [.ref 0 0] (dkO f n sr bA false) (.ret (.tup [.ref (jdN f) 0,.slice 1 (nT l) .no])) (dkC n (sfV false 1 y) bA false::sfT f++[jnO 0 (nT l).length]) from key _ b
 intro y j;subst j;exact zqta2
end Go.Proofs.YtaeegbkbahgjhaaGreatDoor
namespace Go.AW
def aA.wk1{P:Program}{f:FuncId}{args:ay}{r:Res}{T:TypeId}{cs cs':ay}(h:aA P f args [] r [.cells T cs])(hl:cs'.length=cs.length)
  (B:∀ (M:Imm) (ob:Hs) (i:Nat) v m,cs'[i]? =some m->∃ a,cs[i]? =some a/\(Rep M ob v a->Rep M ob v m)):aA P f args [] r [.cells T cs']:=
 λ M ob w g hm q=>cG.mono (λ e w' ⟨M',ob',d,j,y⟩=>by
  have n:∀ {k b},aG ob' [.cells T cs'] k b->aG ob' [.cells T cs] k b:=λ{k b} ⟨c,hs,e1,e2,e3,e4⟩=>by
   cases k with
   | zero=>exact ⟨_,hs,rfl,rfl,e3,e4⟩
   | succ k=>simp at e1
  refine ⟨M',ob',⟨d.imm,d.new,d.hs,d.os,d.tape,d.output,d.size,d.keep,λ k b l=>d.fresh k b (n l)⟩,⟨j.imm,j.len,λ k c p=>?_,λ k b l=>j.lt k b (n l),λ k k' b h1 o=>j.inj k k' b (n h1) (n o)⟩,y⟩;cases k with
  | zero=>
   simp at p;subst p;obtain ⟨hs,h1,b,o,h3,cv,z,A,C,x⟩:=j.obj 0 _ rfl;refine ⟨hs,h1,b,o,h3,cv,z,by rw [A,hl],C,λ i v m u l=>?_⟩;obtain ⟨a,s,t⟩:=B M' ob' i v m l;exact t (x i v a u s)
  | succ k=>simp at p) (h M ob w g hm q)
end Go.AW
namespace Go.Proofs.YtaeegbkbahgjhaaGreatDoor
open Go Go.AW Go.Proofs
set_option maxRecDepth 10000
def Z1(n:Int):aq 10 [ii n] [] (.ret (.ref 0 0)) [dkC (min (max n 0) 1048576) (sfV false 1 []) bA false]:=by
 refine (aIk n).wk1 rfl λ M ob i v l c=>?_
 match i with
 | 0=>exact ⟨_,rfl,λ h=>by cases c;exact h⟩
 | 1=>
  refine ⟨_,rfl,λ h=>?_⟩;cases c;cases h with
  | slnil e t d=>exact .slnil _ _ ⟨_,_,rfl⟩
  | slemp e t a cap d=>cases d
  | sl e b o n cap xs t g j hm hz h d=>cases d
 | 2=>exact ⟨_,rfl,λ h=>by cases c;exact h⟩
 | 3=>exact ⟨_,rfl,λ h=>by cases c;exact h⟩
 | k+4=>simp at c
abbrev ZY(m:ax):aa:=.iface 399 (.ptr [.str m])
def aMN(m:ax):aq 40 [.nilif,ZY m] [] (.ret (.bool false)) []:=by exact c_ Tryz.f40 λ_=>zW
def aHc(f:Bool)(m n:Int)(s x:ax)(i:x.length<=16384)(j:n<(x.length:Int)+8):
  aq 33 [.ref 0 0,.slice 1 [.str x] .no] (jdO m f n s) (.ret (ii 9)) (jdO m f n s):=by
 have d:=oK x i;have hl:=dW x;have c:frm x≠[]:=λ e=>by rw [e] at hl;simp at hl
 have a:=TT (frm x) o_;have hst:=TB.str_ok (frm x) c (.ref 0 0);have b:=aGb f n s (frm x) o_;cases f
 all_goals
  refine cT (E:=E) (fn:=Tryz.f33) (g:=.full _ _ _) λ_=>?_
  repeat' first | (refine gN hE ?_;conv=>whnf) | exact rfl | refine zt ?_ | refine zu ?_ ?_ | intro h | fail
  refine gV ?_;refine aT (h:=λ h=>?_) (by show (0:Int)<((1:Nat):Int);decide)
  repeat' first | (refine gN hE ?_;conv=>whnf) | refine .pure _ [] d ?_ | refine .eff [] [2] _ _ rfl a ?_ | refine .eff [] [3] _ _ rfl a ?_ | exact rfl | refine zt ?_ | refine zu ?_ ?_ | intro h | fail
  refine gV ?_;refine aF (h:=λ h=>?_) (by show ¬ (0:Int)+1<((1:Nat):Int);decide);refine cP hE 2 ?_;conv=>whnf
  refine To.permAt hE [0,1,2,3] [4,5,6] (by rfl) ?_;conv=>whnf
  repeat (refine aL ?_;conv=>whnf;(try conv=>whnf))
  first
   | refine .eff [] [2,3] _ _ rfl hst ?_
   | refine .eff [] [3,4] _ _ rfl hst ?_;conv=>whnf
  repeat (refine aL ?_;conv=>whnf;(try conv=>whnf))
  first
   | refine .eff [] [1] _ _ rfl b ?_
   | refine .eff [] [1,2] _ _ rfl b ?_;conv=>whnf
  repeat (refine aL ?_;conv=>whnf;(try conv=>whnf))
  repeat' first | (refine gN hE ?_;conv=>whnf) | exact zx [0,1] | exact zx [0,1,2] | exact rfl | refine zt ?_ | refine zu ?_ ?_ | intro h | fail
inductive Rec where
 | c (x:Cmd)
 | s (x:Sta)
def Rec.b:Rec->ax
 | .c x=>67::C8.encB x
 | .s x=>83::cX x
def Rec.to(r:Rec)(s:Sta):Sta:=match r with
 | .c x=>(aQ s x).1
 | .s x=>x
def Rec.ok(r:Rec)(s:Sta):Prop:=match r with
 | .c x=>(aQ s x).2.2=0/\(x.k=1->x.c.sm)/\s.nxt<1099511627776
 | .s x=>OkT x
def toL:List Rec->Sta->Sta
 | [],s=>s
 | r::l,s=>toL l (r.to s)
def okR:List Rec->Sta->Prop
 | [],_=>True
 | r::l,s=>r.ok s/\(r.b).length<=16384/\okR l (r.to s)
def T9:∀ (l m:List Rec) (s:Sta),toL (l++m) s=toL m (toL l s)
 | [],_,_=>rfl
 | r::l,m,s=>T9 l m (r.to s)
def U7:∀ (l m:List Rec) (s:Sta),okR (l++m) s↔okR l s/\okR m (toL l s)
 | [],_,_=>⟨λ h=>⟨trivial,h⟩,λ h=>h.2⟩
 | r::l,m,s=>by show r.ok s/\_/\okR (l++m) (r.to s)↔(r.ok s/\_/\okR l (r.to s))/\okR m (toL l (r.to s));rw [U7 l m];exact ⟨λ⟨a,b,c,d⟩=>⟨⟨a,b,c⟩,d⟩,λ⟨⟨a,b,c⟩,d⟩=>⟨a,b,c,d⟩⟩
def Rec.okT{r:Rec}{s:Sta}(h:OkT s)(a:r.ok s):OkT (r.to s):=by
 cases r with
 | c x=>exact (h.apply a.2.2 x).1
 | s x=>exact a
def aAP:∀ {l:List Rec} {s:Sta},OkT s->okR l s->OkT (toL l s)
 | [],_,h,_=>h
 | r::l,s,h,hr=>aAP (l:=l) (s:=r.to s) (r.okT h hr.1) hr.2.2
def aIS{s:Sta}{x:Cmd}(h:(aQ s x).2.2=0):C8.chk x=0:=by
 unfold aQ at h;by_cases q:C8.chk x=0
 .exact q
 .rw [if_pos q] at h;exact h
structure Clean(d:Dk):Prop where
 w:d.waits=[]
 sw:d.sw=false
 le:(d.safe.length:Int)<=d.size
 size:d.size<=1048576
structure Kst where
 d:Dk
 n:Int
 s:Sta
structure Kept(t:Kst)(l:List Rec):Prop where
 cl:Clean t.d
 safe:t.d.safe=eM (l.map Rec.b)
 n:t.n=l.length
 ok:okR l tF
 s:t.s=toL l tF
def aIU(d:Dk)(r:ax):Dk:=⟨d.size,d.safe++frm r,[],false⟩
def jA(d:Dk)(r:ax):Int:=if 16384<r.length then 8 else if d.size-d.safe.length<r.length+8 then 9 else 0
def doS(t:Kst)(x:Cmd):Kst×bg×Int:=
 if (aQ t.s x).2.2≠0 then (t,[],(aQ t.s x).2.2)
 else if jA t.d (Rec.b (.c x))≠0 then (t,[],jA t.d (Rec.b (.c x)))
 else (⟨aIU t.d (Rec.b (.c x)),t.n+1,(aQ t.s x).1⟩,(aQ t.s x).2.1,0)
def iQ(t:Kst):Int:=if 16384<(Rec.b (.s t.s)).length then 8 else if t.d.size<(Rec.b (.s t.s)).length+8 then 9 else 0
def fH(t:Kst):Kst:=if iQ t=0 then ⟨⟨t.d.size,frm (Rec.b (.s t.s)),[],false⟩,1,t.s⟩ else t
def Kept.do{t:Kst}{l:List Rec}(h:Kept t l)(x:Cmd)(i:x.k=1->x.c.sm)(g:t.s.nxt<1099511627776):∃ f,Kept (doS t x).1 f/\f.length<=l.length+1:=by
 unfold doS;by_cases q:(aQ t.s x).2.2=0
 .rw [if_neg (by simpa using q)];by_cases a:jA t.d (Rec.b (.c x))=0
  .rw [if_neg (by simpa using a)];unfold jA at a;split at a
   .cases a
   split at a
   .cases a
   have e:toL (l++[.c x]) tF=(aQ t.s x).1:=by rw [T9,<-h.s];rfl
   refine ⟨l++[.c x],⟨⟨rfl,rfl,?_,h.cl.size⟩,?_,?_,?_,e.symm⟩,by simp⟩
   .show ((t.d.safe++frm _).length:Int)<=t.d.size;rw [Ai,dW];omega
   .show t.d.safe++frm _=_;rw [h.safe,Bm,OK];show _=_++(frm _++[])
    rw [Ar]
   .show t.n+1=_;rw [h.n,Ai];rfl
   .rw [U7,<-h.s];exact ⟨h.ok,⟨q,i,g⟩,by omega,trivial⟩
  .rw [if_pos a];exact ⟨l,h,Hu _⟩
 .rw [if_pos q];exact ⟨l,h,Hu _⟩
def Kept.okT{t:Kst}{l:List Rec}(h:Kept t l):OkT t.s:=by rw [h.s];exact aAP UJ h.ok
def Kept.snap{t:Kst}{l:List Rec}(h:Kept t l):∃ a,Kept (fH t) a/\a.length<=l.length+1:=by
 unfold fH;by_cases q:iQ t=0
 .rw [if_pos q];unfold iQ at q;split at q
  .cases q
  split at q
  .cases q
  refine ⟨[.s t.s],⟨⟨rfl,rfl,?_,h.cl.size⟩,?_,rfl,⟨h.okT,by omega,trivial⟩,rfl⟩,by simp⟩
  .show ((frm _).length:Int)<=t.d.size;rw [dW];omega
  .show frm _=frm _++[]
   rw [Ar]
 .rw [if_neg q];exact ⟨l,h,Hu _⟩
def aMx{s:Sta}{x:Cmd}(h:(aQ s x).2.2=0):C8.decX (C8.encB x)=x/\C8.decE (C8.encB x)=0:=C8.dec_enc (aIS h)
def aMw{s:Sta}(h:OkT s):Z3 (cX s)=some s:=aIq (KR h.ok) h.lt
def BG:∀ {l:List Rec} {s:Sta},okR l s->∀ t∈l.map Rec.b,t.length<=16384
 | [],_,_,t,h=>by simp at h
 | r::l,s,h,t,a=>by
  rcases Aw.1 a with rfl | a
  .exact h.2.1
  .exact BG h.2.2 t a
structure Kstp where
 k:Int
 x:Cmd
 n:Int
def wrE(t:Kst)(x:Cmd):Int:=if (aQ t.s x).2.2≠0 then (aQ t.s x).2.2 else jA t.d (Rec.b (.c x))
def aLW(x:Cmd)(n:Int):Bool:=decide (((Rec.b (.c x)).length:Int)+8<=n)
def dH(t:Kst)(p:Kstp):Kst×bg×Int:=
 if p.k=1 then doS t p.x
 else if p.k=2 then (fH t,[],iQ t)
 else if p.k=4 then (if wrE t p.x≠0 then (t,[],wrE t p.x) else (if aLW p.x p.n then (doS t p.x).1 else t,[],0))
 else if p.k=3\/p.k=5 then (t,[],0)
 else (t,[],1)
def Kept.stepL{t:Kst}{l:List Rec}(h:Kept t l)(p:Kstp)(d:p.x.k=1->p.x.c.sm)(a:t.s.nxt<1099511627776):∃ b,Kept (dH t p).1 b/\b.length<=l.length+1:=by
 unfold dH;split
 .exact h.do p.x d a
 split
 .exact h.snap
 split
 .split
  .exact ⟨l,h,Hu _⟩
  .dsimp only;split
   .exact h.do p.x d a
   .exact ⟨l,h,Hu _⟩
 split
 .exact ⟨l,h,Hu _⟩
 .exact ⟨l,h,Hu _⟩
def aIi(t:Kst)(x:Cmd)(h:OkT t.s)(a:t.s.nxt<1099511627776):(doS t x).1.s.nxt<=t.s.nxt+1:=by
 have:=(h.apply a x).2.1;unfold doS;split
 .show t.s.nxt<=_;omega
 split
 .show t.s.nxt<=_;omega
 .exact this
def aFz(t:Kst):(fH t).s=t.s:=by unfold fH;split<;>rfl
def X4(t:Kst)(p:Kstp)(h:OkT t.s)(a:t.s.nxt<1099511627776):(dH t p).1.s.nxt<=t.s.nxt+1:=by
 have h1:=aIi t p.x h a;unfold dH;split
 .exact h1
 split
 .show (fH t).s.nxt<=_;rw [aFz];omega
 split
 .split
  .show t.s.nxt<=_;omega
  .dsimp only;split
   .exact h1
   .omega
 split
 .show t.s.nxt<=_;omega
 .show t.s.nxt<=_;omega
abbrev tSt:TypeId:=96
abbrev stS(s:Sta)(m:Int)(f:Bool)(n:Int)(x:ax):au:=.cells tSt (.ref 1 0::s.cs)::jnO 2 m::dkC n (sfV f 3 x) bA false::sfT f
abbrev crB(x:Cmd):ax:=67::C8.encB x
def I9(x:Cmd)(b:(C8.encB x).length<=1000000000):aq 31 [x.av] [] (.ret (.str (crB x))) []:=by
 have h1:=C8.enc_ok x;have a:((1+(C8.encB x).length:Nat):Int)<=9223372036854775807:=o_;refine c_ Tryz.f31 λ_=>?_
 repeat' first | (refine gN hE ?_;conv=>whnf) | refine .pure _ [] h1 ?_ | refine Ac a ?_ | exact rfl | refine zt ?_ | refine zu ?_ ?_ | intro h | fail
def Z6(s:Sta)(R:Sta×bg×Int)(h1:kU s Cmd.zero R):aq 37 [s.av] [] (.ret (.tup [R.1.av,ii R.2.2])) []:=by exact c_ Tryz.f37 λ_=>zW
def X5(s:Sta)(R:Sta×bg×Int)(a:kU s Cmd.zero R)(m:Int)(f:Bool)(n:Int)(x:ax):aq 27 [.ref 0 0] (stS s m f n x) (.ret R.1.av) (stS s m f n x):=by
 have h1:=Z6 s R a;cases f
 .refine cT (E:=E) (fn:=Tryz.f27) (g:=.full 3 _ _) λ_=>?_;exact zW
 .refine cT (E:=E) (fn:=Tryz.f27) (g:=.full 4 _ _) λ_=>?_
  repeat' first | (refine gN hE ?_;conv=>whnf) | refine .pure _ [] h1 ?_ | exact rfl | refine zt ?_ | refine zu ?_ ?_ | intro h | fail
  exact zx [0,1,2,3]
def aMm(s:Sta)(c:Cmd)(R:Sta×bg×Int)(h1:kU s c R)(a:R.2.2≠0)(m:Int)(f:Bool)(n:Int)(x:ax):
  aq 16 [.ref 0 0,c.av] (stS s m f n x) (.ret (.tup [.slice 3 [] .nil,ii R.2.2])) (stS s m f n x):=by
 obtain ⟨S,ev,e⟩:=R;have b:(e !=0)=true:=by simpa using a
 cases f
 .refine cT (E:=(Er [] [7,8,20,21])) (fn:=Tryz.f16) (g:=.full 3 _ _) λ_=>?_;exact zW
 .refine cT (E:=(Er [] [7,8,20,21])) (fn:=Tryz.f16) (g:=.full 4 _ _) λ_=>?_
  repeat' first | (refine gN (hEr [] [7,8,20,21]) ?_;conv=>whnf) | refine .pure _ [] h1 ?_ | exact zx [0,1,2,3] | exact rfl | refine zt ?_ | refine zu ?_ ?_ | intro h | fail
  all_goals (exfalso;clear h1;simp_all)
def aMn(s:Sta)(c:Cmd)(S:Sta)(ev:bg)(h1:kU s c (S,ev,0))(b:(C8.encB c).length<=1000000000)(m:Int)(f:Bool)(n:Int)(x:ax)(e:Int)(d:e≠0)
  (h3:aq 30 [.ref 0 0,.str (crB c)] (jdO m f n x) (.ret (ii e)) (jdO m f n x)):
  aq 16 [.ref 0 0,c.av] (stS s m f n x) (.ret (.tup [.slice 3 [] .nil,ii e])) (stS s m f n x):=by
 have a:=I9 c b;have i:(e !=0)=true:=by simpa using d
 cases f
 all_goals
  refine cT (E:=(Er [] [7,8,20,21])) (fn:=Tryz.f16) (g:=.full _ _ _) λ_=>?_
  repeat' first | (refine gN (hEr [] [7,8,20,21]) ?_;conv=>whnf) | refine .pure _ [] h1 ?_ | refine .pure _ [] a ?_ | refine .sole rfl (.eff [] [1,2] _ _ rfl h3 ?_) | refine .sole rfl (.eff [] [1,2,3] _ _ rfl h3 ?_) | exact zx [0,1,2] | exact zx [0,1,2,3] | exact rfl | refine zt ?_ | refine zu ?_ ?_ | intro h | fail
 all_goals (exfalso;clear h1;simp_all)
abbrev stG(s:Sta)(m:Int)(f:Bool)(n:Int)(x:ax):au:=.cells tSt (.ref 1 0::s.cs)::jnO 2 m::dkC n (sgV f 3 x) bA false::sgT f
def aJY(s:Sta)(c:Cmd)(S:Sta)(ev:bg)(h1:kU s c (S,ev,0))(b:(C8.encB c).length<=1000000000)(m:Int)(f:Bool)(n:Int)(x:ax)
  (h3:aq 30 [.ref 0 0,.str (crB c)] (jdO m f n x) (.ret (ii 0)) (jnO 1 (m+1)::dkC n (sgV f 2 (x++frm (crB c))) bA false::sgT f)):
  aq 16 [.ref 0 0,c.av] (stS s m f n x) (.ret (.tup [.slice 3 (evv ev) .no,ii 0])) (stG S (m+1) f n (x++frm (crB c))):=by
 have a:=I9 c b;cases f
 all_goals
  refine cT (E:=(Er [] [7,8,20,21])) (fn:=Tryz.f16) (g:=.full _ _ _) λ_=>?_
  repeat' first | (refine gN (hEr [] [7,8,20,21]) ?_;conv=>whnf) | refine .pure _ [] h1 ?_ | refine .pure _ [] a ?_ | refine .sole rfl (.eff [] [1,2] _ _ rfl h3 ?_) | refine .sole rfl (.eff [] [1,2,3] _ _ rfl h3 ?_) | exact zx [0,1,2,5] | exact zx [0,1,2,3] | exact rfl | refine zt ?_ | refine zu ?_ ?_ | intro h | fail
def aJM(s:Sta)(c:Cmd)(R:Sta×bg×Int)(h1:kU s c R)(a:R.2.2≠0)(m:Int)(f:Bool)(n:Int)(x:ax):
  aq 18 [.ref 0 0,c.av] (stS s m f n x) (.ret (ii R.2.2)) (stS s m f n x):=by
 obtain ⟨S,ev,e⟩:=R;have b:(e !=0)=true:=by simpa using a
 cases f
 all_goals
  refine cT (E:=(Er [] [6,7,18,19])) (fn:=Tryz.f18) (g:=.full _ _ _) λ_=>?_
  repeat' first | (refine gN (hEr [] [6,7,18,19]) ?_;conv=>whnf) | refine .pure _ [] h1 ?_ | exact zx [0,1,2] | exact zx [0,1,2,3] | exact rfl | refine zt ?_ | refine zu ?_ ?_ | intro h | fail
 all_goals (exfalso;clear h1;simp_all)
def aJN(s:Sta)(c:Cmd)(S:Sta)(ev:bg)(h1:kU s c (S,ev,0))(b:(C8.encB c).length<=1000000000)(m:Int)(f:Bool)(n:Int)(x:ax)(e:Int)
  (h3:aq 34 [.ref 0 0,.str (crB c)] (jdO m f n x) (.ret (ii e)) (jdO m f n x)):
  aq 18 [.ref 0 0,c.av] (stS s m f n x) (.ret (ii e)) (stS s m f n x):=by
 have a:=I9 c b;cases f
 all_goals
  refine cT (E:=(Er [] [6,7,18,19])) (fn:=Tryz.f18) (g:=.full _ _ _) λ_=>?_
  repeat' first | (refine gN (hEr [] [6,7,18,19]) ?_;conv=>whnf) | refine .pure _ [] h1 ?_ | refine .pure _ [] a ?_ | refine .sole rfl (.eff [] [1,2] _ _ rfl h3 ?_) | refine .sole rfl (.eff [] [1,2,3] _ _ rfl h3 ?_) | exact zx [0,1,2] | exact zx [0,1,2,3] | exact rfl | refine zt ?_ | refine zu ?_ ?_ | intro h | fail
def aFm(s:Sta)(c:Cmd)(S:Sta)(ev:bg)(h1:kU s c (S,ev,0))(b:(C8.encB c).length<=1000000000)(m:Int)(f:Bool)(n:Int)(x:ax)
  (h3:aq 34 [.ref 0 0,.str (crB c)] (jdO m f n x) (.ret (ii 0)) (jnO 1 m::dkC n (sfV f 2 x) (wtB (frm (crB c))) false::sfT f)):
  aq 18 [.ref 0 0,c.av] (stS s m f n x) (.ret (ii 0)) (.cells tSt (.ref 1 0::s.cs)::jnO 2 m::dkC n (sfV f 3 x) (wtB (frm (crB c))) false::sfT f):=by
 have a:=I9 c b;cases f
 all_goals
  refine cT (E:=(Er [] [6,7,18,19])) (fn:=Tryz.f18) (g:=.full _ _ _) λ_=>?_
  repeat' first | (refine gN (hEr [] [6,7,18,19]) ?_;conv=>whnf) | refine .pure _ [] h1 ?_ | refine .pure _ [] a ?_ | refine .sole rfl (.eff [] [1,2] _ _ rfl h3 ?_) | refine .sole rfl (.eff [] [1,2,3] _ _ rfl h3 ?_) | exact zx [0,1,2] | exact zx [0,1,2,3] | exact rfl | refine zt ?_ | refine zu ?_ ?_ | intro h | fail
def aA4(s:Sta)(b:ax)(h1:aq 32 [s.av] [] (.ret (.tup [.str b,ii 0])) [])(d:b.length<=1000000000)(m:Int)(f:Bool)(n:Int)(x:ax)(e:Int)
  (h3:aq 33 [.ref 0 0,.slice 1 [.str (83::b)] .no] (jdO m f n x) (.ret (ii e)) (jdO m f n x)):
  aq 17 [.ref 0 0] (stS s m f n x) (.ret (ii e)) (stS s m f n x):=by
 have a:=aA.strip (args:=[.ref 0 0,.slice 1 [.str (83::b)] .full]) h3;have c:((1+b.length:Nat):Int)<=9223372036854775807:=o_;cases f
 all_goals
  refine cT (E:=E) (fn:=Tryz.f17) (g:=.full _ _ _) λ_=>?_
  repeat' first | (refine gN hE ?_;conv=>whnf) | refine .pure _ [] h1 ?_ | refine Ac c ?_ | refine .eff [] [1,2] _ _ rfl a ?_ | refine .eff [] [1,2,3] _ _ rfl a ?_ | exact zx [0,1,2] | exact zx [0,1,2,3] | exact rfl | refine zt ?_ | refine zu ?_ ?_ | intro h | fail
def aA3(s:Sta)(b:ax)(h1:aq 32 [s.av] [] (.ret (.tup [.str b,ii 0])) [])(d:b.length<=1000000000)(m:Int)(f:Bool)(n:Int)(x:ax)
  (h3:aq 33 [.ref 0 0,.slice 1 [.str (83::b)] .no] (jdO m f n x) (.ret (ii 0)) (jnO 1 1::dkC n (sfV false 2 (frm (83::b))) bA false::sfT f)):
  aq 17 [.ref 0 0] (stS s m f n x) (.ret (ii 0)) (.cells tSt (.ref 1 0::s.cs)::jnO 2 1::dkC n (sfV false 3 (frm (83::b))) bA false::sfT f):=by
 have a:=aA.strip (args:=[.ref 0 0,.slice 1 [.str (83::b)] .full]) h3;have c:((1+b.length:Nat):Int)<=9223372036854775807:=o_;cases f
 all_goals
  refine cT (E:=E) (fn:=Tryz.f17) (g:=.full _ _ _) λ_=>?_
  repeat' first | (refine gN hE ?_;conv=>whnf) | refine .pure _ [] h1 ?_ | refine Ac c ?_ | refine .eff [] [1,2] _ _ rfl a ?_ | refine .eff [] [1,2,3] _ _ rfl a ?_ | exact zx [0,1,2] | exact zx [0,1,2,3] | exact rfl | refine zt ?_ | refine zu ?_ ?_ | intro h | fail
def aFu(b:ax)(x:Cmd)(h1:aq 107 [.str b] [] (.ret (.tup [x.av,ii 0])) [])(hl:b.length<=1000000):
  aq 63 [.str (67::b)] [] (.ret (.tup [x.av,Sta.nil.av,.bool false,.nilif])) []:=by
 have hz:1<=(67::b).length:=Nat.succ_le_succ (Bx _);refine cT (E:=(Er [] [4,5])) (fn:=Tryz.f63) (g:=.pure _) λ_=>?_
 repeat' first | (refine gN (hEr [] [4,5]) ?_;conv=>whnf) | refine Ac hz ?_ | refine .pure _ [] h1 ?_ | exact rfl | refine zt ?_ | refine zu ?_ ?_ | intro h | fail
def aFt(b:ax)(x:Sta)(h1:aq 108 [.str b] [] (.ret (.tup [x.av,ii 0])) [])(hl:b.length<=1000000):
  aq 63 [.str (83::b)] [] (.ret (.tup [Cmd.zero.av,x.av,.bool true,.nilif])) []:=by
 have hz:1<=(83::b).length:=Nat.succ_le_succ (Bx _);refine cT (E:=(Er [] [4,5])) (fn:=Tryz.f63) (g:=.pure _) λ_=>?_
 repeat' first | (refine gN (hEr [] [4,5]) ?_;conv=>whnf) | refine Ac hz ?_ | exact rfl | refine zt ?_ | refine zu ?_ ?_ | intro h | fail
 refine .pure _ [] h1 (gV ?_);refine Ac (λ_=>?_) (λ h=>absurd h s_);refine cP (hEr [] [4,5]) 1 ?_;conv=>whnf
 refine To.permAt (hEr [] [4,5]) [0,1] [2,3,4,5] (by rfl) ?_;conv=>whnf
 repeat (refine aL ?_;conv=>whnf;(try conv=>whnf))
 exact zW
noncomputable abbrev ZO:Func:=Tryz.f39
def QZ:Rec->Prop
 | .c x=>aq 63 [.str (67::C8.encB x)] [] (.ret (.tup [x.av,Sta.nil.av,.bool false,.nilif])) []
 | .s x=>aq 63 [.str (83::cX x)] [] (.ret (.tup [Cmd.zero.av,x.av,.bool true,.nilif])) []
def Q6(s:Sta):Rec->Prop
 | .c x=>kU s x ((aQ s x).1,(aQ s x).2.1,0)
 | .s _=>True
def aBp(L:List Rec)(p:L.length<=1000000)(g:Sta->List Rec->Prop)(n:∀ s r l,g s (r::l)->QZ r/\Q6 s r/\g (r.to s) l)(R:Sta):∀ (m i:Nat) (s:Sta),i+m=L.length->g s (L.drop i)->toL (L.drop i) s=R->
  To E ZO (.pure (.ret (.tup [R.av,.nilif]))) (.head (stk ZO 0) [(2,.ref 0 0),(4,.ref 1 0),(5,.nilif),(14,.slice 1 (nT (L.map Rec.b)) .no),(15,.int .i64 ((nT (L.map Rec.b)).length:Nat)),(16,ii i)] [LC,qV s]):=by
 have k:(nT (L.map Rec.b)).length=L.length:=by simp
 intro m;induction m with
 | zero=>
  intro i s o _ a;rw [Ah o_] at a;have a:s=R:=a;subst a;refine gV ?_;exact zW
 | succ m j=>
  intro i s o e a;have d:i<L.length:=o_;rw [Ae d] at a e;have get:(nT (L.map Rec.b))[i]? =some (.str L[i].b):=by simp [d]
  generalize L[i]=r at a e get;obtain ⟨h1,h,h3⟩:=n _ _ _ e;have next:=j (i+1) (r.to s) o_ h3 a
  clear j a h3 e;cases r with
  | c x=>
   have h1:aq 63 [.str (67::C8.encB x)] [] (.ret (.tup [x.av,Sta.nil.av,.bool false,.nilif])) []:=h1;have h:kU s x ((aQ s x).1,(aQ s x).2.1,0):=h;have get:(nT (L.map Rec.b))[i]? =some (.str (67::C8.encB x)):=get;replace next:To E ZO _ (.head (stk ZO 0) _ [LC,qV (aQ s x).1]):=next
   generalize (67::C8.encB x)=t at *
   generalize (aQ s x).1=S at *
   generalize (aQ s x).2.1=ev at *
   refine gV ?_;exact zW
  | s x=>
   have h1:aq 63 [.str (83::cX x)] [] (.ret (.tup [Cmd.zero.av,x.av,.bool true,.nilif])) []:=h1;have get:(nT (L.map Rec.b))[i]? =some (.str (83::cX x)):=get;replace next:To E ZO _ (.head (stk ZO 0) _ [LC,qV x]):=next
   generalize (83::cX x)=t at *
   refine gV ?_;exact zW
def YH(L:List Rec)(e:L.length<=1000000)(a:Sta->List Rec->Prop)(d:∀ s r l,a s (r::l)->QZ r/\Q6 s r/\a (r.to s) l)(c:a tF L):
  aq 39 [.slice 1 (nT (L.map Rec.b)) .no] [] (.ret (.tup [(toL L tF).av,.nilif])) []:=by
 have h:=aBp L e a d (toL L tF) L.length 0 tF o_ (by rw [Cq];exact c) (by rw [Cq]);have i:=aFy;generalize toL L tF=R at *
 generalize L.map Rec.b=V at *
 exact c_ Tryz.f39 λ_=>zW
abbrev bT(m:ax):ab:=.bun 0 (RZ 0 (ZY m))
def LY(f a:Bool)(c:a=true->f=true)(g:ax)(n:Int)(x y:ax)(S:Sta)(V:ay)(m:Int)
  (h1:aq 38 [.ref 0 0] (dkO f n x bA false) (.ret (.tup [.ref (jdN f) 0,.slice 1 V .no])) (dkC n (sfV a 1 y) bA false::sfT f++[jnO 0 m]))
  (b:aq 39 [.slice 1 V .no] [] (.ret (.tup [S.av,.nilif])) []):
  aq 28 [.ref 0 0] (dkO f n x bA false++[bT g]) (.ret (.tup [.ref (jdN f+2) 0,ii 0])) (dkC n (sfV a 1 y) bA false::sfT f++[bT g,jnO 0 m,.cells tSt (.ref (jdN f+1) 0::S.cs)]):=by
 have h3:=aMN g;cases f<;>cases a
 case false.true=>exact absurd (c rfl) d_
 all_goals
  refine cT (E:=E) (fn:=Tryz.f28) (g:=.full _ _ _) λ_=>?_
  repeat' first | (refine gN hE ?_;conv=>whnf) | refine .eff [] [0] _ _ rfl h1 ?_ | refine .eff [] [0,1] _ _ rfl h1 ?_ | exact rfl | refine zt ?_ | refine zu ?_ ?_ | intro h | fail
  refine .pure _ [] b ?_;refine cP hE 22 ?_;conv=>whnf
  refine To.glob hE 1 [] (by rfl) (by rfl) (by rfl) (by rfl) ?_;conv=>whnf
  first
   | refine .mk 1 0 (ZY g) _ (by rfl) (by rfl) ?_
   | refine .mk 2 0 (ZY g) _ (by rfl) (by rfl) ?_
  repeat' first | (refine gN hE ?_;conv=>whnf) | refine .pure _ [] h3 ?_ | exact zx [0,1,2,4] | exact zx [0,1,2,3,5] | exact rfl | refine zt ?_ | refine zu ?_ ?_ | intro h | fail
abbrev AU(k:Int)(c:Cmd)(n:Int):aa:=.agg (ii k::(c.av.cells++[ii n]))
abbrev tDr:TypeId:=58
abbrev pv(b:Bool):aa:=match b with | true=>.nilptr | false=>.undef
abbrev drS(f f':Bool)(g:ax)(n:Int)(x:ax)(m:Int)(S:Sta):au:=.cells tDr [.ref 1 0,.ref (jdN f+3) 0]::dkC n (sfV f' 2 x) bA false::sfT f++[bT g,jnO 1 m,.cells tSt (.ref (jdN f+2) 0::S.cs)]
def O5(b f a:Bool)(g:ax)(n:Int)(x y:ax)(S:Sta)(m:Int)
  (h1:aq 28 [.ref 0 0] (dkO f n x bA false++[bT g]) (.ret (.tup [.ref (jdN f+2) 0,ii 0])) (dkC n (sfV a 1 y) bA false::sfT f++[bT g,jnO 0 m,.cells tSt (.ref (jdN f+1) 0::S.cs)])):
  aq 11 [.ref 0 0] (.cells tDr [.ref 1 0,pv b]::dkC n (sfV f 2 x) bA false::sfT f++[bT g]) (.ret (ii 0)) (drS f a g n y m S):=by
 cases b<;>cases f<;>cases a
 all_goals
  refine cT (E:=E) (fn:=Tryz.f11) (g:=.full _ _ _) λ_=>?_
  repeat' first | (refine gN hE ?_;conv=>whnf) | refine .eff [] [1,2] _ _ rfl h1 ?_ | refine .eff [] [1,2,3] _ _ rfl h1 ?_ | exact zx [0,1,2,3,4] | exact zx [0,1,2,3,4,5] | exact rfl | refine zt ?_ | refine zu ?_ ?_ | intro h | fail
abbrev drN(g:ax)(n:Int)(x:ax)(m:Int)(S:Sta):au:=[bT g,.cells tDr [.ref 2 0,.ref 4 0],dkC n (sfV false 3 x) bA false,jnO 2 m,.cells tSt (.ref 3 0::S.cs)]
def aD0(g:ax)(n:Int)(S:Sta)(m:Int)(a:aq 11 [.ref 0 0] (.cells tDr [.ref 1 0,pv true]::dkC (min (max n 0) 1048576) (sfV false 2 []) bA false::sfT false++[bT g]) (.ret (ii 0)) (drS false false g (min (max n 0) 1048576) [] m S)):
  aq 4 [ii n] [bT g] (.ret (.ref 1 0)) (drN g (min (max n 0) 1048576) [] m S):=by
 have h1:=Z1 n;generalize min (max n 0) 1048576=N at *
 refine cT (E:=E) (fn:=Tryz.f4) (g:=.full 1 _ _) λ_=>?_
 repeat' first | (refine gN hE ?_;conv=>whnf) | refine .pure _ _ h1 ?_ | refine .eff [] [2,1,0] _ _ rfl a ?_ | exact rfl | refine zt ?_ | refine zu ?_ ?_ | intro h | fail
 exact zx [0,2,1,3,4]
def SL(f a:Bool)(b:a=true->f=true)(g:ax)(n:Int)(x:ax)(m:Int)(S R:Sta)
  (h1:aq 27 [.ref 0 0] (stS S m a n x) (.ret R.av) (stS S m a n x)):
  aq 9 [.ref 0 0] (drS f a g n x m S) (.ret R.av) (drS f a g n x m S):=by
 cases f<;>cases a
 case false.true=>exact absurd (b rfl) d_
 all_goals
  refine cT (E:=E) (fn:=Tryz.f9) (g:=.full _ _ _) λ_=>?_
  repeat' first | (refine gN hE ?_;conv=>whnf) | refine .eff [] [4,3,1] _ _ rfl h1 ?_ | refine .eff [] [5,4,1] _ _ rfl h1 ?_ | refine .eff [] [5,4,1,2] _ _ rfl h1 ?_ | exact zx [0,1,2,3,4] | exact zx [0,1,2,3,4,5] | exact rfl | refine zt ?_ | refine zu ?_ ?_ | intro h | fail
def W4(f:Bool)(g:ax)(n:Int)(x:ax)(m:Int)(S:Sta)(c:Cmd)(p e:Int)
  (h1:aq 16 [.ref 0 0,c.av] (stS S m f n x) (.ret (.tup [.slice 3 [] .nil,ii e])) (stS S m f n x)):
  aq 7 [.ref 0 0,AU 1 c p] (drS f f g n x m S) (.ret (.agg [ii e,.slice 3 [] .nil])) (drS f f g n x m S):=by
 cases f
 all_goals
  refine cT (E:=(Er [] [28,29,30,31])) (fn:=Tryz.f7) (g:=.full _ _ _) λ_=>?_
  repeat' first | (refine gN (hEr [] [28,29,30,31]) ?_;conv=>whnf) | refine .sole rfl (.eff [] [4,3,1] _ _ rfl h1 ?_) | refine .sole rfl (.eff [] [5,4,1,2] _ _ rfl h1 ?_) | exact zx [0,1,2,3,4] | exact zx [0,1,2,3,4,5] | exact rfl | refine zt ?_ | refine zu ?_ ?_ | intro h | fail
abbrev drG(f:Bool)(g:ax)(n:Int)(x:ax)(m:Int)(S:Sta):au:=match f with
 | true=>[.cells tDr [.ref 1 0,.ref 5 0],dkC n (sgV true 2 x) bA false,.tail 1 1 5,bT g,jnO 1 m,.cells tSt (.ref 4 0::S.cs)]
 | false=>[.cells tDr [.ref 1 0,.ref 4 0],dkC n (sgV false 5 x) bA false,bT g,jnO 1 m,.cells tSt (.ref 3 0::S.cs),.tail 0 1 5]
def O4(f:Bool)(g:ax)(n:Int)(x y:ax)(m a:Int)(S b:Sta)(ev:bg)(c:Cmd)(p:Int)
  (h1:aq 16 [.ref 0 0,c.av] (stS S m f n x) (.ret (.tup [.slice 3 (evv ev) .no,ii 0])) (stG b a f n y)):
  aq 7 [.ref 0 0,AU 1 c p] (drS f f g n x m S) (.ret (.agg [ii 0,.slice 3 (evv ev) .no])) (drG f g n y a b):=by
 cases f
 all_goals
  refine cT (E:=(Er [] [28,29,30,31])) (fn:=Tryz.f7) (g:=.full _ _ _) λ_=>?_
  repeat' first | (refine gN (hEr [] [28,29,30,31]) ?_;conv=>whnf) | refine .sole rfl (.eff [] [4,3,1] _ _ rfl h1 ?_) | refine .sole rfl (.eff [] [5,4,1,2] _ _ rfl h1 ?_) | exact zx [0,1,2,3,4,7] | exact zx [0,1,2,3,4,5] | exact rfl | refine zt ?_ | refine zu ?_ ?_ | intro h | fail
def O3(f:Bool)(g:ax)(n:Int)(x:ax)(m:Int)(S:Sta)(c:Cmd)(p e:Int)
  (h1:aq 17 [.ref 0 0] (stS S m f n x) (.ret (ii e)) (stS S m f n x)):
  aq 7 [.ref 0 0,AU 2 c p] (drS f f g n x m S) (.ret (.agg [ii e,.slice 3 [] .nil])) (drS f f g n x m S):=by
 cases f
 all_goals
  refine cT (E:=E) (fn:=Tryz.f7) (g:=.full _ _ _) λ_=>?_
  repeat' first | (refine gN hE ?_;conv=>whnf) | refine .eff [] [4,3,1] _ _ rfl h1 ?_ | refine .eff [] [5,4,1,2] _ _ rfl h1 ?_ | exact zx [0,1,2,3,4] | exact zx [0,1,2,3,4,5] | exact rfl | refine zt ?_ | refine zu ?_ ?_ | intro h | fail
def O2(f:Bool)(g:ax)(n:Int)(x y:ax)(m:Int)(S:Sta)(c:Cmd)(p:Int)
  (h1:aq 17 [.ref 0 0] (stS S m f n x) (.ret (ii 0)) (.cells tSt (.ref 1 0::S.cs)::jnO 2 1::dkC n (sfV false 3 y) bA false::sfT f)):
  aq 7 [.ref 0 0,AU 2 c p] (drS f f g n x m S) (.ret (.agg [ii 0,.slice 3 [] .nil])) (drS f false g n y 1 S):=by
 cases f
 all_goals
  refine cT (E:=E) (fn:=Tryz.f7) (g:=.full _ _ _) λ_=>?_
  repeat' first | (refine gN hE ?_;conv=>whnf) | refine .eff [] [4,3,1] _ _ rfl h1 ?_ | refine .eff [] [5,4,1,2] _ _ rfl h1 ?_ | exact zx [0,1,2,3,4] | exact zx [0,1,2,3,4,5] | exact rfl | refine zt ?_ | refine zu ?_ ?_ | intro h | fail
abbrev drR(f f':Bool)(g:ax)(n:Int)(y:ax)(m m':Int)(S S':Sta):au:=match f with
 | true=>[.cells tDr [.ref 1 0,.ref 7 0],dkC n (sfV f' 2 y) bA false,.tail 0 1 5,bT g,jnO 1 m,.cells tSt (.ref 4 0::S.cs),jnO 1 m',.cells tSt (.ref 6 0::S'.cs)]
 | false=>[.cells tDr [.ref 1 0,.ref 6 0],dkC n (sfV f' 2 y) bA false,bT g,jnO 1 m,.cells tSt (.ref 3 0::S.cs),jnO 1 m',.cells tSt (.ref 5 0::S'.cs)]
def aD2(f:Bool)(g:ax)(n:Int)(x y:ax)(m a:Int)(S b:Sta)(c:Cmd)(p:Int)
  (h1:aq 11 [.ref 0 0] (.cells tDr [.ref 1 0,pv false]::dkC n (sfV f 2 x) bA false::sfT f++[bT g]) (.ret (ii 0)) (drS f f g n y a b)):
  aq 7 [.ref 0 0,AU 5 c p] (drS f f g n x m S) (.ret (.agg [ii 0,.slice 3 [] .nil])) (drR f f g n y m a S b):=by
 cases f
 all_goals
  refine cT (E:=E) (fn:=Tryz.f7) (g:=.full _ _ _) λ_=>?_
  repeat' first | (refine gN hE ?_;conv=>whnf) | refine .eff [] [0,1,2] _ _ rfl h1 ?_ | refine .eff [] [0,1,2,3] _ _ rfl h1 ?_ | exact zx [0,1,2,3,4,7,8] | exact zx [0,1,2,3,4,5,8,9] | exact rfl | refine zt ?_ | refine zu ?_ ?_ | intro h | fail
def aD1(f:Bool)(g:ax)(n:Int)(x:ax)(m:Int)(S:Sta)(c:Cmd)(k p:Int)(h1:k≠1)(a:k≠2)(h3:k≠3)(b:k≠4)(d:k≠5):
  aq 7 [.ref 0 0,AU k c p] (drS f f g n x m S) (.ret (.agg [ii 1,.slice 3 [] .nil])) (drS f f g n x m S):=by
 have e:(k==1)=false:=by simpa using h1
 have l:(k==2)=false:=by simpa using a
 have o:(k==3)=false:=by simpa using h3
 have i:(k==4)=false:=by simpa using b
 have j:(k==5)=false:=by simpa using d
 cases f
 all_goals
  refine cT (E:=E) (fn:=Tryz.f7) (g:=.full _ _ _) λ_=>?_
  repeat' first | (refine gN hE ?_;conv=>whnf) | exact zx [0,1,2,3,4] | exact zx [0,1,2,3,4,5] | exact rfl | refine zt ?_ | refine zu ?_ ?_ | intro h | fail
 all_goals (exfalso;simp_all)
abbrev aNl(f:Bool)(g:ax)(n:Int)(y:ax)(m m':Int)(S S':Sta):au:=match f with
 | true=>[.cells tDr [.ref 1 0,.ref 7 0],dkC n (sgV true 2 y) bA false,.tail 1 1 5,bT g,jnO 1 m,.cells tSt (.ref 4 0::S.cs),jnO 1 m',.cells tSt (.ref 6 0::S'.cs)]
 | false=>[.cells tDr [.ref 1 0,.ref 6 0],dkC n (sfV false 2 y) bA false,bT g,jnO 1 m,.cells tSt (.ref 3 0::S.cs),jnO 1 m',.cells tSt (.ref 5 0::S'.cs)]
def aD3(f:Bool)(g:ax)(n:Int)(x y:ax)(m d:Int)(S e:Sta)(c:Cmd)(p:Int)(b:x.length<=1048576)
  (h1:aq 11 [.ref 0 0] (.cells tDr [.ref 1 0,pv false]::dkC n (sfV f 2 x) bA false::sfT f++[bT g]) (.ret (ii 0)) (drS f f g n y d e)):
  aq 7 [.ref 0 0,AU 3 c p] (drS f f g n x m S) (.ret (.agg [ii 0,.slice 3 [] .nil])) (aNl f g n y m d S e):=by
 cases f
 .have a:=S1 n x p b;refine cT (E:=E) (fn:=Tryz.f7) (g:=.full 5 _ _) λ_=>?_
  repeat' first | (refine gN hE ?_;conv=>whnf) | refine .sole rfl (.eff [] [1] _ _ rfl a ?_) | refine .eff [] [0,1,2] _ _ rfl h1 ?_ | exact rfl | refine zt ?_ | refine zu ?_ ?_ | intro h | fail
  exact zx [0,1,2,3,4,7,8]
 .have a:=S0 n x p b;refine cT (E:=E) (fn:=Tryz.f7) (g:=.full 6 _ _) λ_=>?_
  repeat' first | (refine gN hE ?_;conv=>whnf) | refine .sole rfl (.eff [] [1,2] _ _ rfl a ?_) | refine .eff [] [0,1,2,3] _ _ rfl h1 ?_ | exact rfl | refine zt ?_ | refine zu ?_ ?_ | intro h | fail
  exact zx [0,1,2,3,4,5,8,9]
def aIc(f:Bool)(g:ax)(n:Int)(x:ax)(m:Int)(S:Sta)(c:Cmd)(p e:Int)(a:e≠0)
  (h1:aq 18 [.ref 0 0,c.av] (stS S m f n x) (.ret (ii e)) (stS S m f n x)):
  aq 7 [.ref 0 0,AU 4 c p] (drS f f g n x m S) (.ret (.agg [ii e,.slice 3 [] .nil])) (drS f f g n x m S):=by
 have b:(e !=0)=true:=by simpa using a
 cases f
 all_goals
  refine cT (E:=E) (fn:=Tryz.f7) (g:=.full _ _ _) λ_=>?_
  repeat' first | (refine gN hE ?_;conv=>whnf) | refine .sole rfl (.eff [] [4,3,1] _ _ rfl h1 ?_) | refine .sole rfl (.eff [] [5,4,1,2] _ _ rfl h1 ?_) | exact zx [0,1,2,3,4] | exact zx [0,1,2,3,4,5] | exact rfl | refine zt ?_ | refine zu ?_ ?_ | intro h | fail
 all_goals (exfalso;clear h1;simp_all)
abbrev drW(f':Bool)(g:ax)(n:Int)(y:ax)(m m':Int)(S S':Sta):au:=[.cells tDr [.ref 1 0,.ref 7 0],dkC n (match f' with | true=>sgV true 2 y | false=>sfV false 2 y) bA false,.tail 1 1 5,bT g,jnO 1 m,.cells tSt (.ref 4 0::S.cs),jnO 1 m',.cells tSt (.ref 6 0::S'.cs)]
def yO(a:Bool)(g:ax)(n:Int)(x b y:ax)(m e:Int)(S i:Sta)(c:Cmd)(p:Int)(j:x.length<=1048576)(k:b.length<=1048576)
  (h1:aq 18 [.ref 0 0,c.av] (stS S m true n x) (.ret (ii 0)) (.cells tSt (.ref 1 0::S.cs)::jnO 2 m::dkC n (sfV true 3 x) (wtB b) false::sfT true))
  (h3:aq 11 [.ref 0 0] (.cells tDr [.ref 1 0,pv false]::dkC n (sfV true 2 (x++b.take (eO p b.length))) bA false::sfT true++[bT g]) (.ret (ii 0)) (drS true a g n y e i)):
  aq 7 [.ref 0 0,AU 4 c p] (drS true true g n x m S) (.ret (.agg [ii 0,.slice 3 [] .nil])) (drW a g n y m e S i):=by
 have d:=H3 n x b p j k;cases a
 .refine cT (E:=E) (fn:=Tryz.f7) (g:=.full 6 _ _) λ_=>?_
  repeat' first | (refine gN hE ?_;conv=>whnf) | refine .sole rfl (.eff [] [5,4,1,2] _ _ rfl h1 ?_) | refine .sole rfl (.eff [] [1,2] _ _ rfl d ?_) | refine .eff [] [0,1,2,3] _ _ rfl h3 ?_ | exact rfl | refine zt ?_ | refine zu ?_ ?_ | intro h | fail
  exact zx [0,1,2,3,4,5,8,9]
 .refine cT (E:=E) (fn:=Tryz.f7) (g:=.full 6 _ _) λ_=>?_
  repeat' first | (refine gN hE ?_;conv=>whnf) | refine .sole rfl (.eff [] [5,4,1,2] _ _ rfl h1 ?_) | refine .sole rfl (.eff [] [1,2] _ _ rfl d ?_) | refine .eff [] [0,1,2,3] _ _ rfl h3 ?_ | exact rfl | refine zt ?_ | refine zu ?_ ?_ | intro h | fail
  exact zx [0,1,2,3,4,5,8,9]
abbrev drX(f':Bool)(g:ax)(n:Int)(y:ax)(m m':Int)(S S':Sta):au:=[.cells tDr [.ref 1 0,.ref 7 0],dkC n (match f' with | true=>.slice 1 (y.map ub) (.own 5 0) | false=>sfV false 2 y) bA false,bT g,jnO 1 m,.cells tSt (.ref 3 0::S.cs),.tail 0 1 5,jnO 1 m',.cells tSt (.ref 6 0::S'.cs)]
def EL(d:Bool)(g:ax)(n:Int)(x b y:ax)(m i:Int)(S j:Sta)(c:Cmd)(p:Int)(k:x.length<=1048576)(l:b.length<=1048576)(a:b.take (eO p b.length)≠[])
  (h1:aq 18 [.ref 0 0,c.av] (stS S m false n x) (.ret (ii 0)) (.cells tSt (.ref 1 0::S.cs)::jnO 2 m::dkC n (sfV false 3 x) (wtB b) false::sfT false))
  (h3:aq 11 [.ref 0 0] (.cells tDr [.ref 1 0,pv false]::dkC n (sfV true 2 (x++b.take (eO p b.length))) bA false::sfT true++[bT g]) (.ret (ii 0)) (drS true d g n y i j)):
  aq 7 [.ref 0 0,AU 4 c p] (drS false false g n x m S) (.ret (.agg [ii 0,.slice 3 [] .nil])) (drX d g n y m i S j):=by
 have e:=EN n x b p k l a;cases d
 .refine cT (E:=E) (fn:=Tryz.f7) (g:=.full 5 _ _) λ_=>?_
  repeat' first | (refine gN hE ?_;conv=>whnf) | refine .sole rfl (.eff [] [4,3,1] _ _ rfl h1 ?_) | refine .sole rfl (.eff [] [1] _ _ rfl e ?_) | refine .eff [] [0,1,7,2] _ _ rfl h3 ?_ | exact rfl | refine zt ?_ | refine zu ?_ ?_ | intro h | fail
  exact zx [0,1,2,3,4,7,8,9]
 .refine cT (E:=E) (fn:=Tryz.f7) (g:=.full 5 _ _) λ_=>?_
  repeat' first | (refine gN hE ?_;conv=>whnf) | refine .sole rfl (.eff [] [4,3,1] _ _ rfl h1 ?_) | refine .sole rfl (.eff [] [1] _ _ rfl e ?_) | refine .eff [] [0,1,7,2] _ _ rfl h3 ?_ | exact rfl | refine zt ?_ | refine zu ?_ ?_ | intro h | fail
  exact zx [0,1,2,3,4,7,8,9]
def SN(g:ax)(n:Int)(x b:ax)(m d:Int)(S e:Sta)(c:Cmd)(p:Int)(j:x.length<=1048576)(k:b.length<=1048576)(a:b.take (eO p b.length)=[])
  (h1:aq 18 [.ref 0 0,c.av] (stS S m false n x) (.ret (ii 0)) (.cells tSt (.ref 1 0::S.cs)::jnO 2 m::dkC n (sfV false 3 x) (wtB b) false::sfT false))
  (h3:aq 11 [.ref 0 0] (.cells tDr [.ref 1 0,pv false]::dkC n (sfV false 2 x) bA false::sfT false++[bT g]) (.ret (ii 0)) (drS false false g n x d e)):
  aq 7 [.ref 0 0,AU 4 c p] (drS false false g n x m S) (.ret (.agg [ii 0,.slice 3 [] .nil])) (drR false false g n x m d S e):=by
 have i:=SZ n x b p j k a;refine cT (E:=E) (fn:=Tryz.f7) (g:=.full 5 _ _) λ_=>?_
 repeat' first | (refine gN hE ?_;conv=>whnf) | refine .sole rfl (.eff [] [4,3,1] _ _ rfl h1 ?_) | refine .sole rfl (.eff [] [1] _ _ rfl i ?_) | refine .eff [] [0,1,2] _ _ rfl h3 ?_ | exact rfl | refine zt ?_ | refine zu ?_ ?_ | intro h | fail
 exact zx [0,1,2,3,4,7,8]
def mS:List Kstp->Kst->Kst
 | [],t=>t
 | p::l,t=>mS l (dH t p).1
def xM:List Kstp->Kst->List (bg×Int)
 | [],_=>[]
 | p::l,t=>(dH t p).2::xM l (dH t p).1
def rS(n:Int):Kst:=⟨Dk.new n,0,tF⟩
def P8(t:Kst)(m:Int):Prop:=(t.d.safe.length:Int)+m<=t.d.size
def aGc(x:Cmd)(k:Nat)(h:x.il.length<=k)(a:∀ n∈x.il,n<=9223372036854775807):((Rec.b (.c x)).length:Int)<=10*k+1:=by show (((67:UInt8)::C8.encB x).length:Int)<=_;have:=C8.pl_len a;unfold C8.encB;split<;>simp<;>omega
def aFr{t:Kst}{c:Cmd}{S:Sta}{ev:bg}(n:Int)(k:Nat)(m:Int)(h:aQ t.s c=(S,ev,0))(h1:c.il.length<=k)(a:∀ n∈c.il,n<=9223372036854775807)(f:k<=1000)(e:P8 t (m+10*k+9))(hm:0<=m:=by decide):
  ∃ d i,dH t ⟨1,c,n⟩=(⟨d,i,S⟩,ev,0)/\d=aIU t.d (Rec.b (.c c))/\P8 ⟨d,i,S⟩ m:=by
 have hl:=aGc c k h1 a;unfold P8 at e;have q:jA t.d (Rec.b (.c c))=0:=by unfold jA;rw [if_neg o_,if_neg o_]
 refine ⟨aIU t.d (Rec.b (.c c)),t.n+1,?_,rfl,?_⟩
 .show doS t c=_;unfold doS;rw [h,if_neg s_,if_neg (by simpa using q)]
 .show ((t.d.safe++frm _).length:Int)+m<=t.d.size;rw [Ai,dW];omega
def tk(k n keep:Int):Kstp:=⟨k,aL3 n,keep⟩
def XX:Con:=⟨[⟨-1,1,V3.zero,V3.zero,V3.zero⟩,⟨0,1,zI,zI,zI⟩,⟨0,1,zI,zI,zI⟩],[⟨0,0,0,zI⟩,⟨0,0,1,zI⟩],10,0⟩
def LP(id t run:Int):Cmd:=⟨2,aEh,⟨id,t,2,⟨2,2,2⟩,run,3,0⟩,0⟩
def aAO:Cmd:=⟨6,aEh,Gan.zero,0⟩
def zL:List Cmd:=[⟨1,XX,Gan.zero,0⟩,LP 1 1 50,LP 2 1 50,aAO]
def vT:List Cmd:=[LP 3 2 9,aAO]
def XW:List Kstp:=zL.map (λ c=>⟨1,c,0⟩)++[⟨3,Cmd.zero,0⟩]++vT.map (λ c=>⟨1,c,0⟩)
def evS:List Cmd->Sta->List (bg×Int)
 | [],_=>[]
 | c::l,s=>(aQ s c).2::evS l (aQ s c).1
def SC:List Cmd->Sta->Sta
 | [],s=>s
 | c::l,s=>SC l (aQ s c).1
def SO:∀ (l:List Cmd) (t:Kst) (m:Int),(∀ c∈l,c.il.length<=60/\∀ n∈c.il,n<=9223372036854775807)->(∀ a∈evS l t.s,a.2=0)->P8 t (m+609*l.length)->0<=m->
  ∃ d i,mS (l.map λ c=>⟨1,c,0⟩) t=⟨d,i,SC l t.s⟩/\xM (l.map λ c=>⟨1,c,0⟩) t=evS l t.s/\P8 ⟨d,i,SC l t.s⟩ m
 | [],t,m,_,_,hr,_=>⟨t.d,t.n,rfl,rfl,by unfold P8 at *;simp at hr;exact hr⟩
 | c::l,t,m,h,he,hr,hm=>by
  obtain ⟨h1,f⟩:=h c (Ao ..);have b:(aQ t.s c).2.2=0:=he _ (Ao ..);have g:aQ t.s c=((aQ t.s c).1,(aQ t.s c).2.1,0):=by rw [<-b]
  obtain ⟨d,i,e,_,r⟩:=aFr (t:=t) (c:=c) 0 60 (m+609*l.length) g h1 f d_ (by unfold P8 at *;simp only [Al] at hr;omega) o_;obtain ⟨v,q,u,j,p⟩:=SO l ⟨d,i,(aQ t.s c).1⟩ m (λ x o=>h x (Ay _ o)) (λ a k=>he a (Ay _ k)) r hm;refine ⟨v,q,?_,?_,p⟩
  .show mS (l.map λ c=>⟨1,c,0⟩) (dH t ⟨1,c,0⟩).1=_;rw [e];exact u
  .show (dH t ⟨1,c,0⟩).2::xM (l.map λ c=>⟨1,c,0⟩) (dH t ⟨1,c,0⟩).1=(aQ t.s c).2::evS l (aQ t.s c).1;rw [e];dsimp only;rw [j,<-b]
def sN:∀ (l m:List Kstp) (t:Kst),mS (l++m) t=mS m (mS l t)
 | [],_,_=>rfl
 | p::l,m,t=>sN l m _
def EY:∀ (l m:List Kstp) (t:Kst),xM (l++m) t=xM l t++xM m (mS l t)
 | [],_,_=>rfl
 | p::l,m,t=>by show _::xM (l++m) _=_;rw [EY l m];rfl
def tS1:Sta:=SC zL tF
def tS2:Sta:=SC vT tS1
def w28:xM XW (rS 5000)=evS zL tF++[([],0)]++evS vT tS1/\(mS XW (rS 5000)).s=tS2:=by
 obtain ⟨d,i,e,g,r⟩:=SO zL (rS 5000) 1300 (by decide+kernel) (by decide+kernel) (by show ((0:Nat):Int)+_<=_;decide) d_;have hs:SC zL (rS 5000).s=tS1:=rfl;have b:evS zL (rS 5000).s=evS zL tF:=rfl;rw [hs] at e r;rw [b] at g;have hz:∀ a∈evS vT tS1,a.2=0:=by decide+kernel
 have hz2:tS2=SC vT tS1:=rfl;have k:∀ c∈vT,c.il.length<=60/\∀ n∈c.il,n<=9223372036854775807:=by decide+kernel
 have hl:vT.length=2:=rfl;clear hs b;unfold XW;rw [hz2];generalize tS1=S at *
 obtain ⟨p,o,m,j,_⟩:=SO vT ⟨d,i,S⟩ 0 k hz (by unfold P8 at *;rw [hl];dsimp only at *;omega) d_;have h:∀ t,dH t ⟨3,Cmd.zero,0⟩=(t,[],0):=λ_=>rfl;have l:xM [⟨3,Cmd.zero,0⟩] ⟨d,i,S⟩=[([],0)]:=by simp only [xM,h]
 have f:mS [⟨3,Cmd.zero,0⟩] ⟨d,i,S⟩=⟨d,i,S⟩:=by simp only [mS,h]
 constructor
 .rw [EY,EY,sN,g,e,l,f,j]
 .rw [sN,sN,e,f,m]
def aNI:∃ a b c d e f:bg×Int,∃ x y:Ev,evS zL tF++[([],0)]++evS vT tS1=[a,b,c,([x,y],d.2),e,f,([⟨2,2,0⟩,⟨1,3,0⟩],0)]:=by refine ⟨([],0),([],0),([],0),([],0),([],0),([],0),⟨1,1,0⟩,⟨1,2,0⟩,?_⟩;decide+kernel
def aNH:tS2.run.length=2/\tS2.pend.length=1/\(tS2.run[1]?).map (λ r=>r.g.id)=some 3:=by decide+kernel
def aGn{s:Sta}(e:mM s=true)(L:s.hist.length<=12)(A:s.pend.length+s.run.length<=32):(cX s).length<=16000:=by
 have w0:=PC e;obtain ⟨C,⟨n1,n2,w,t⟩,G,z,J,f,k⟩:=TC e;have K:(C8.putN (mL s).length).length<=10:=by have:=C8.pn_len (n:=((mL s).length:Int)) o_;rw [Bv] at this;omega
 have u:(C8.pl [s.now,s.nxt,(s.hist.length:Int)]).length<=30:=by have:=C8.pl_len (l:=[s.now,s.nxt,(s.hist.length:Int)]) (λ n a=>by simp at a;omega);simpa using this
 have D:(C8.pl [(s.pend.length:Int)]).length<=10:=by have:=C8.pl_len (l:=[(s.pend.length:Int)]) (λ n a=>by simp at a;omega);simpa using this
 have B:(C8.pl [(s.run.length:Int)]).length<=10:=by have:=C8.pl_len (l:=[(s.run.length:Int)]) (λ n a=>by simp at a;omega);simpa using this
 have q:=DZ s.hist;have j:∀ (l:a7),(∀ x∈l,x.g.ok=true/\okI [x.seq,x.at']=true)->(tG l).length<=110*l.length:=by
  intro l;induction l with
  | nil=>intro _;exact Bx _
  | cons x r c=>
   intro h;obtain ⟨h1,b⟩:=h x (Ao ..);have o:=wW x.g h1;have i:=C8.pl_len (nG b);have m:=c λ y d=>h y (Ay _ d);simp only [tG,Ai,Al,Bu] at *
   omega
 have p:∀ (l:a6),(∀ x∈l,x.g.ok=true/\okI [x.seq,x.at',x.st,x.fl]=true/\okI x.hs=true/\x.hs≠[]/\x.hs.length<=16)->(pD l).length<=290*l.length:=by
  intro l;induction l with
  | nil=>intro _;exact Bx _
  | cons x r c=>
   intro h;obtain ⟨h1,b,h3,_,I⟩:=h x (Ao ..);have o:=wW x.g h1;have i:=C8.pl_len (nG b);have m:=C8.pl_len (nG h3);have F:=c λ y d=>h y (Ay _ d);simp only [pD,Ai,Al,Bu] at *
   omega
 have v:=j s.pend f;have H:=p s.run k;unfold cX;simp only [Ai];omega
def OkT.small{s:Sta}(h:OkT s):Sm s.run/\s.hist.length<=1048576:=by have h1:=(h.ok.st h.lt).run;exact ⟨h1.sm.run,h1.ord.hl⟩
def OkT.len{s:Sta}(h:OkT s):(cX s).length<=16000:=aGn (KR h.ok) (by have:=h.ok.hist;have:=(wT h.ok.head).ns;omega) h.ok.few
def MA:∀ {l:List ax},(∀ t∈l,t.length<=16384)->nX l<=16392*l.length
 | [],_=>Bx _
 | t::l,h=>by have h1:=h t (Ao ..);have b:=MA λ y a=>h y (Ay _ a);simp only [nX,Al];omega
structure KB(t:Kst)(k:Nat):Prop where
 ex:∃ l,Kept t l/\l.length<=k
 nxt:t.s.nxt<=1+k
 few:k<=58
def KB.lens{t:Kst}{k:Nat}(h:KB t k):t.d.safe.length<=960000/\0<=t.d.size/\t.d.size<=1048576/\(t.d.safe.length:Int)<=t.d.size/\0<=t.n/\t.n<=1000000:=by obtain ⟨l,h1,c⟩:=h.ex;have a:=MA (BG h1.ok);rw [<-rV,<-h1.safe,Cc] at a;have g:=h1.cl.le;have f:=h1.cl.size;have b:=h1.n;have e:=h.few;omega
def KB.okT{t:Kst}{k:Nat}(h:KB t k):OkT t.s:=h.ex.elim λ_ h=>h.1.okT
def KB.sap{t:Kst}{k:Nat}(h:KB t k)(c:Cmd)(a:c.k=1->c.c.sm):kU t.s c (aQ t.s c):=GC t.s c (h.okT.ok.st h.okT.lt) a
def KB.step{t:Kst}{k:Nat}(h:KB t k)(e:k<58)(p:Kstp)(d:p.x.k=1->p.x.c.sm):KB (dH t p).1 (k+1):=by
 obtain ⟨l,h1,f⟩:=h.ex;have g:=h.nxt;have a:t.s.nxt<1099511627776:=o_;refine ⟨?_,?_,by omega⟩
 .obtain ⟨b,h3,i⟩:=h1.stepL p d a;exact ⟨b,h3,by omega⟩
 .have:=X4 t p h.okT a;omega
def KB.le{t:Kst}{k k':Nat}(h:KB t k)(b:k<=k')(a:k'<=58):KB t k':=⟨h.ex.elim λ l h=>⟨l,h.1,by omega⟩,by have:=h.nxt;omega,a⟩
def kb0(n:Int):KB (rS n) 0:=⟨⟨[],⟨⟨rfl,rfl,by show (0:Int)<=_;simp only [rS,Dk.new];omega,by show (Dk.new n).size<=_;simp only [Dk.new];omega⟩,rfl,rfl,trivial,rfl⟩,Bd _⟩,(by show (1:Int)<=1+0;decide),by decide⟩
def aAQ{R:Sta×bg×Int}(h:R.2.2=0):R=(R.1,R.2.1,0):=by obtain ⟨a,b,c⟩:=R;subst h;rfl
def YL{s:Sta}{r:Rec}{l:List Rec}(h:OkT s/\okR (r::l) s):QZ r/\Q6 s r/\OkT (r.to s)/\okR l (r.to s):=by
 obtain ⟨h1,b,h3,f⟩:=h;refine ⟨?_,?_,r.okT h1 b,f⟩
 .cases r with
  | c x=>
   obtain ⟨d,e⟩:=aMx b.1;have a:=C8.decode_ok (C8.encB x) (by have:(67::C8.encB x).length<=16384:=h3;simp at this;omega);rw [d,e] at a;exact aFu _ x a (by have:(67::C8.encB x).length<=16384:=h3;simp at this;omega)
  | s x=>
   have a:=aFR (cX x) (by have:(83::cX x).length<=16384:=h3;simp at this;omega);unfold aBf aLC at a;rw [aMw b] at a;exact aFt _ x a (by have:(83::cX x).length<=16384:=h3;simp at this;omega)
 .cases r with
  | c x=>
   have a:=GC s x (h1.ok.st h1.lt) b.2.1;rw [aAQ b.1] at a;exact a
  | s x=>trivial
def KB.rpl{t:Kst}{k:Nat}{l:List Rec}(h:Kept t l)(hl:l.length<=1000000):aq 39 [.slice 1 (nT (l.map Rec.b)) .no] [] (.ret (.tup [t.s.av,.nilif])) []:=by have:=YH l hl (λ s l=>OkT s/\okR l s) (λ s r l h=>YL h) ⟨UJ,h.ok⟩;rw [<-h.s] at this;exact this
def KB.sop{t:Kst}{k:Nat}(h:KB t k)(f:Bool)(g:ax):aq 28 [.ref 0 0] (dkO f t.d.size t.d.safe bA false++[bT g]) (.ret (.tup [.ref (jdN f+2) 0,ii 0])) (dkC t.d.size (sfV f 1 t.d.safe) bA false::sfT f++[bT g,jnO 0 t.n,.cells tSt (.ref (jdN f+1) 0::t.s.cs)]):=by have a:=h.lens;obtain ⟨l,h1,c⟩:=h.ex;have h3:=aCO f t.d.size (l.map Rec.b) (BG h1.ok) (by rw [<-h1.safe];omega);rw [<-h1.safe,Cc,<-h1.n] at h3;exact LY f f id g _ _ _ t.s _ t.n h3 (KB.rpl (k:=k) h1 (by have:=h.few;omega))
def KB.sopT{t:Kst}{k:Nat}(h:KB t k)(f:Bool)(g:ax)(r:ax)(a:r.length<=16384)(j:Nat)(i:j≠0)(c:j<r.length+8):aq 28 [.ref 0 0] (dkO f t.d.size (t.d.safe++(frm r).take j) bA false++[bT g]) (.ret (.tup [.ref (jdN f+2) 0,ii 0])) (dkC t.d.size (sfV false 1 t.d.safe) bA false::sfT f++[bT g,jnO 0 t.n,.cells tSt (.ref (jdN f+1) 0::t.s.cs)]):=by
 have p:=h.lens;obtain ⟨l,h1,o⟩:=h.ex;have e:((frm r).take j).length=j:=by rw [Dn,dW];omega
 have h3:=RO f t.d.size (l.map Rec.b) ((frm r).take j) (aBH r j a c) (λ m=>i (by rw [<-e,m];rfl)) (BG h1.ok) (by rw [<-h1.safe,Ai];omega) (by rw [<-h1.safe];omega);rw [<-h1.safe,Cc,<-h1.n] at h3;exact LY f false (λ h=>by cases h) g _ _ _ t.s _ t.n h3 (KB.rpl (k:=k) h1 (by have:=h.few;omega))
def KB.dop{t:Kst}{k:Nat}(h:KB t k)(b f:Bool)(g:ax):aq 11 [.ref 0 0] (.cells tDr [.ref 1 0,pv b]::dkC t.d.size (sfV f 2 t.d.safe) bA false::sfT f++[bT g]) (.ret (ii 0)) (drS f f g t.d.size t.d.safe t.n t.s):=O5 b f f g _ _ _ _ _ (h.sop f g)
def KB.dopT{t:Kst}{k:Nat}(h:KB t k)(b f:Bool)(g:ax)(r:ax)(c:r.length<=16384)(j:Nat)(a:j≠0)(e:j<r.length+8):aq 11 [.ref 0 0] (.cells tDr [.ref 1 0,pv b]::dkC t.d.size (sfV f 2 (t.d.safe++(frm r).take j)) bA false::sfT f++[bT g]) (.ret (ii 0)) (drS f false g t.d.size t.d.safe t.n t.s):=O5 b f false g _ _ _ _ _ (h.sopT f g r c j a e)
def KB.enc{t:Kst}{k:Nat}(h:KB t k):aq 32 [t.s.av] [] (.ret (.tup [.str (cX t.s),ii 0])) []:=by have a:=KR h.okT.ok;have:=aFP t.s h.okT.ok.base.c h.okT.small.1 TC;unfold aLl at this;rw [if_pos a,if_pos a] at this;exact this
def aAi{t:Kst}{k:Nat}(h:KB t k)(c:Cmd)(f:Bool)(e:jA t.d (crB c)≠0):aq 30 [.ref 0 0,.str (crB c)] (jdO t.n f t.d.size t.d.safe) (.ret (ii (jA t.d (crB c)))) (jdO t.n f t.d.size t.d.safe)/\aq 34 [.ref 0 0,.str (crB c)] (jdO t.n f t.d.size t.d.safe) (.ret (ii (jA t.d (crB c)))) (jdO t.n f t.d.size t.d.safe):=by
 have a:=h.lens;unfold jA at *
 by_cases q:16384<(crB c).length
 .rw [if_pos q];exact ⟨Y7 _ _ _ _ _ q,Y6 _ _ _ _ _ q⟩
 .rw [if_neg q] at *
  by_cases b:t.d.size-t.d.safe.length<(crB c).length+8
  .rw [if_pos b];exact ⟨aHe _ _ _ _ _ o_ a.2.1 a.2.2.1 o_ b,aHa _ _ _ _ _ o_ a.2.1 a.2.2.1 o_ b⟩
  .rw [if_neg b] at e;exact absurd rfl e
def P3{t:Kst}{c:Cmd}(a:jA t.d (crB c)=0):(crB c).length<=16384/\((crB c).length:Int)+8<=t.d.size-t.d.safe.length:=by
 unfold jA at a;split at a
 .cases a
 split at a
 .cases a
 .omega
open C8 (nodL hosL pl pl_append pl_len pn_len il_len ih_len okI_b) in
def aH0(x:Cmd):(C8.encB x).length<=1000000000:=by
 have j:∀ (l:bc),uZ l=true->(pl (nodL l)).length<=110*l.length:=by
  intro l;induction l with
  | nil=>intro _;simp [nodL,pl]
  | cons x r b=>
   intro h;simp only [uZ,Ad] at h;have h1:=il_len x h.1;have a:=b h.2;simp only [nodL,pl_append,Ai,Al];omega
 have f:∀ (l:List Hos),qP l=true->(pl (hosL l)).length<=60*l.length:=by
  intro l;induction l with
  | nil=>intro _;simp [hosL,pl]
  | cons x r b=>
   intro h;simp only [qP,Ad] at h;have h1:=ih_len x h.1;have a:=b h.2;simp only [hosL,pl_append,Ai,Al];omega
 unfold C8.encB;split
 .rename_i h;have T:=C8.chk_told h;have l1:=T.ln;have l2:=T.lh;have d:=T.cok;simp only [Con.tok,Ad] at d;obtain ⟨⟨h1,a⟩,h3⟩:=d;have z:=j _ h1;have o:=f _ a;have m:(nav x.c.ns).length=x.c.ns.length:=by simp
  have u:(hav x.c.hs).length=x.c.hs.length:=by simp
  have y:=pn_len (n:=x.k) (by have:=T.k;omega);have i:=pn_len (n:=x.n) (by have:=T.nok;omega);have w:=pn_len (n:=((nav x.c.ns).length:Int)) o_;have s:=pn_len (n:=((hav x.c.hs).length:Int)) o_;have p:=pn_len (n:=x.c.half) (by have:=okI_b h3 x.c.half s_;omega);have q:=pn_len (n:=x.c.age) (by have:=okI_b h3 x.c.age s_;omega);have t:(pl x.c.il).length<=3000:=by simp only [Con.il,pl_append,pl,Ai,Bu];omega
  have v:=wW x.g T.gok;have A:(pl [x.n]).length<=10:=by simpa [pl] using i
  have e:=C8.il_cons x _ rfl;rw [<-e,Ai];split
  .omega
  .split
   .omega
   .split
    .simp [pl];omega
    .omega
 .simp
def KB.do_e{t:Kst}{k:Nat}(h:KB t k)(c:Cmd)(l:c.k=1->c.c.sm)(f:Bool)(j:(aQ t.s c).2.2≠0\/jA t.d (crB c)≠0):
  aq 16 [.ref 0 0,c.av] (stS t.s t.n f t.d.size t.d.safe) (.ret (.tup [.slice 3 [] .nil,ii (doS t c).2.2])) (stS t.s t.n f t.d.size t.d.safe)/\
  aq 18 [.ref 0 0,c.av] (stS t.s t.n f t.d.size t.d.safe) (.ret (ii (doS t c).2.2)) (stS t.s t.n f t.d.size t.d.safe)/\(doS t c).1=t/\(doS t c).2.1=[]/\wrE t c=(doS t c).2.2/\(doS t c).2.2≠0:=by
 have hs:=h.sap c l;unfold doS wrE;by_cases q:(aQ t.s c).2.2=0
 .have a:jA t.d (crB c)≠0:=j.resolve_left λ h=>h q;have e:jA t.d (Rec.b (.c c))≠0:=a;rw [if_neg (by simpa using q),if_pos e,if_neg (by simpa using q)];rw [aAQ q] at hs;obtain ⟨g,i⟩:=aAi h c f a;exact ⟨aMn _ _ _ _ hs (aH0 c) _ _ _ _ _ a g,aJN _ _ _ _ hs (aH0 c) _ _ _ _ _ i,rfl,rfl,rfl,a⟩
 .rw [if_pos q,if_pos q];exact ⟨aMm _ _ _ hs q _ _ _ _,aJM _ _ _ hs q _ _ _ _,rfl,rfl,rfl,q⟩
def KB.do_ok{t:Kst}{k:Nat}(h:KB t k)(c:Cmd)(g:c.k=1->c.c.sm)(f:Bool)(q:(aQ t.s c).2.2=0)(i:jA t.d (crB c)=0):
  aq 16 [.ref 0 0,c.av] (stS t.s t.n f t.d.size t.d.safe) (.ret (.tup [.slice 3 (evv (aQ t.s c).2.1) .no,ii 0])) (stG (aQ t.s c).1 (t.n+1) f t.d.size (t.d.safe++frm (crB c)))/\
  aq 18 [.ref 0 0,c.av] (stS t.s t.n f t.d.size t.d.safe) (.ret (ii 0)) (.cells tSt (.ref 1 0::t.s.cs)::jnO 2 t.n::dkC t.d.size (sfV f 3 t.d.safe) (wtB (frm (crB c))) false::sfT f):=by
 have a:=h.lens;have hs:=h.sap c g;rw [aAQ q] at hs;obtain ⟨e,b⟩:=P3 i
 exact ⟨aJY _ _ _ _ hs (aH0 c) _ _ _ _ (aHd f t.n t.d.size t.d.safe (crB c) ⟨a.2.2.2.2.1,a.2.2.2.2.2⟩ e a.2.1 a.2.2.1 o_ b),
  aFm _ _ _ _ hs (aH0 c) _ _ _ _ (aG9 f t.n t.d.size t.d.safe (crB c) e a.2.1 a.2.2.1 o_ b)⟩
def SP{t:Kst}{c:Cmd}(q:(aQ t.s c).2.2=0)(e:jA t.d (crB c)=0):doS t c=(⟨aIU t.d (crB c),t.n+1,(aQ t.s c).1⟩,(aQ t.s c).2.1,0):=by have a:jA t.d (Rec.b (.c c))=0:=e;unfold doS;rw [if_neg (by simpa using q),if_neg (by simpa using a)];rfl
def KB.snap_any{t:Kst}{k:Nat}(h:KB t k):iQ t=0/\((83::cX t.s).length:Int)+8<=t.d.size\/iQ t=9/\t.d.size<((83::cX t.s).length:Int)+8:=by
 have hl:(83::cX t.s).length<=16384:=by have:=h.okT.len;simp only [Al];omega
 have e:(Rec.b (.s t.s))=83::cX t.s:=rfl;unfold iQ;rw [e,if_neg o_];split
 .rename_i q;exact .inr ⟨rfl,q⟩
 .exact .inl ⟨rfl,by omega⟩
def KB.snap_no{t:Kst}{k:Nat}(h:KB t k)(f:Bool)(q:iQ t≠0):aq 17 [.ref 0 0] (stS t.s t.n f t.d.size t.d.safe) (.ret (ii (iQ t))) (stS t.s t.n f t.d.size t.d.safe):=by
 have hl:=h.okT.len;rcases h.snap_any with ⟨e,_⟩ | ⟨e,a⟩
 .exact absurd e q
 .rw [e];exact aA4 t.s (cX t.s) h.enc o_ _ _ _ _ _ (aHc f t.n t.d.size t.d.safe (83::cX t.s) (by simp only [Al];omega) a)
def KB.snap_ok{t:Kst}{k:Nat}(h:KB t k)(f:Bool)(q:iQ t=0):aq 17 [.ref 0 0] (stS t.s t.n f t.d.size t.d.safe) (.ret (ii 0)) (.cells tSt (.ref 1 0::t.s.cs)::jnO 2 1::dkC t.d.size (sfV false 3 (frm (83::cX t.s))) bA false::sfT f):=by
 have hl:=h.okT.len;rcases h.snap_any with ⟨e,a⟩ | ⟨e,_⟩
 .exact aA3 t.s (cX t.s) h.enc o_ _ _ _ _ (aHb f t.n t.d.size t.d.safe (83::cX t.s) (by simp only [Al];omega) a)
 .rw [e] at q;cases q
def LZ{t:Kst}(q:iQ t=0):fH t=⟨⟨t.d.size,frm (83::cX t.s),[],false⟩,1,t.s⟩:=by unfold fH;rw [if_pos q];rfl
def L4{t:Kst}(q:iQ t≠0):fH t=t:=by unfold fH;rw [if_neg q]
abbrev kO(ev:bg)(e:Int):aa:=.agg [ii e,.slice 3 (evv ev) .no]
abbrev cDo(f:Bool)(g:ax)(t:Kst)(p:Kstp)(a:aa)(O:au):Prop:=aq 7 [.ref 0 0,AU p.k p.x p.n] (drS f f g t.d.size t.d.safe t.n t.s) (.ret a) O
inductive DoO(g:ax)(t t':Kst)(p:Kstp)(a:aa):Bool->Prop
 | same {f} (h:cDo f g t p a (drS f f g t'.d.size t'.d.safe t'.n t'.s)):DoO g t t' p a f
 | full (h:cDo true g t p a (drS true false g t'.d.size t'.d.safe t'.n t'.s)):DoO g t t' p a true
 | grow {f} (h:cDo f g t p a (drG f g t'.d.size t'.d.safe t'.n t'.s)):DoO g t t' p a f
 | anew {f} (m:Int) (S:Sta) (h:cDo f g t p a (drR f f g t'.d.size t'.d.safe m t'.n S t'.s)):DoO g t t' p a f
 | wt (m:Int) (S:Sta) (h:cDo true g t p a (drW true g t'.d.size t'.d.safe m t'.n S t'.s)):DoO g t t' p a true
 | wf (m:Int) (S:Sta) (h:cDo true g t p a (drW false g t'.d.size t'.d.safe m t'.n S t'.s)):DoO g t t' p a true
 | xt (m:Int) (S:Sta) (h:cDo false g t p a (drX true g t'.d.size t'.d.safe m t'.n S t'.s)):DoO g t t' p a false
 | xf (m:Int) (S:Sta) (h:cDo false g t p a (drX false g t'.d.size t'.d.safe m t'.n S t'.s)):DoO g t t' p a false
def KB.dr3{t:Kst}{k:Nat}(h:KB t k)(f:Bool)(g:ax)(c:Cmd)(n:Int):cDo f g t ⟨3,c,n⟩ (kO [] 0) (aNl f g t.d.size t.d.safe t.n t.n t.s t.s):=
 aA.less (aD3 f g _ _ _ _ _ _ _ c n (by have:=h.lens;omega) (h.dop false f g))
def KB.dr5{t:Kst}{k:Nat}(h:KB t k)(f:Bool)(g:ax)(c:Cmd)(n:Int):cDo f g t ⟨5,c,n⟩ (kO [] 0) (drR f f g t.d.size t.d.safe t.n t.n t.s t.s):=
 aA.less (aD2 f g _ _ _ _ _ _ _ c n (h.dop false f g))
def KB.dr4{t:Kst}{k:Nat}(h:KB t k)(F:k<58)(f:Bool)(g:ax)(c:Cmd)(n:Int)(u:c.k=1->c.c.sm):DoO g t (dH t ⟨4,c,n⟩).1 ⟨4,c,n⟩ (kO (dH t ⟨4,c,n⟩).2.1 (dH t ⟨4,c,n⟩).2.2) f:=by
 have M:=h.lens;have z:dH t ⟨4,c,n⟩=if wrE t c≠0 then (t,[],wrE t c) else (if aLW c n then (doS t c).1 else t,[],0):=rfl
 by_cases q:(aQ t.s c).2.2=0/\jA t.d (crB c)=0
 .obtain ⟨q,m⟩:=q;have I:wrE t c=0:=by have G:jA t.d (Rec.b (.c c))=0:=m;unfold wrE;rw [if_neg (by simpa using q),G]
  have r:=(h.step F ⟨1,c,0⟩ u)
  replace r:KB (doS t c).1 (k+1):=r;have D:=SP q m;have j:=(h.do_ok c u f q m).2;obtain ⟨J,L⟩:=P3 m;have fl:=dW (crB c);rw [z,if_neg (by simpa using I)];obtain ⟨H,B⟩:=JZ n (frm (crB c)).length;have x:(Rec.b (.c c))=crB c:=rfl;by_cases o:aLW c n=true
  .have p:=of_decide_eq_true o;rw [x] at p;have C:eO n (frm (crB c)).length=(frm (crB c)).length:=o_;have l:(frm (crB c)).take (eO n (frm (crB c)).length)=frm (crB c):=by rw [C,Ge]
   rw [if_pos o];have i:=r.dop false true g;rw [D] at i⊢;cases f
   .exact .xt t.n t.s (aA.less (EL true g _ _ _ _ _ _ _ _ c n o_ o_ (by rw [l];intro e;rw [e] at fl;simp at fl) j (by rw [l];exact i)))
   .exact .wt t.n t.s (aA.less (yO true g _ _ _ _ _ _ _ _ c n o_ o_ j (by rw [l];exact i)))
  .have p:¬ (((Rec.b (.c c)).length:Int)+8<=n):=λ e=>o (decide_eq_true e);rw [x] at p;rw [if_neg o];by_cases v:eO n (frm (crB c)).length=0
   .have l:(frm (crB c)).take (eO n (frm (crB c)).length)=[]:=by rw [v];rfl
    cases f
    .exact .anew t.n t.s (aA.less (SN g _ _ _ _ _ _ _ c n o_ o_ l j (h.dop false false g)))
    .exact .wt t.n t.s (aA.less (yO true g _ _ _ _ _ _ _ _ c n o_ o_ j (by rw [l,Ar];exact h.dop false true g)))
   .have hl:((frm (crB c)).take (eO n (frm (crB c)).length)).length=eO n (frm (crB c)).length:=by rw [Dn];omega
    have i:=h.dopT false true g (crB c) J (eO n (frm (crB c)).length) v o_;cases f
    .exact .xf t.n t.s (aA.less (EL false g _ _ _ _ _ _ _ _ c n o_ o_ (λ e=>v (by rw [<-hl,e];rfl)) j i))
    .exact .wf t.n t.s (aA.less (yO false g _ _ _ _ _ _ _ _ c n o_ o_ j i))
 .have K:(aQ t.s c).2.2≠0\/jA t.d (crB c)≠0:=by exact zqta8
  obtain ⟨_,y,O,N,A,w⟩:=h.do_e c u f K;rw [<-A] at y w;rw [z,if_pos w];exact .same (aA.less (aIc f g _ _ _ _ c n _ w y))
def KB.dr{t:Kst}{k:Nat}(h:KB t k)(v:k<58)(f:Bool)(g:ax)(p:Kstp)(m:p.x.k=1->p.x.c.sm):DoO g t (dH t p).1 p (kO (dH t p).2.1 (dH t p).2.2) f:=by
 obtain ⟨i,c,n⟩:=p;by_cases i4:i=4
 .subst i4;exact h.dr4 v f g c n m
 by_cases l:i=1
 .subst l;have e:dH t ⟨1,c,n⟩=doS t c:=rfl;rw [e];by_cases q:(aQ t.s c).2.2=0/\jA t.d (crB c)=0
  .obtain ⟨q,u⟩:=q;have h1:=(h.do_ok c m f q u).1;rw [SP q u];exact .grow (O4 f g _ _ _ _ _ _ _ _ c n h1)
  .have A:(aQ t.s c).2.2≠0\/jA t.d (crB c)≠0:=by exact zqta8
   obtain ⟨z,_,y,w,_⟩:=h.do_e c m f A;rw [y,w];exact .same (aA.less (W4 f g _ _ _ _ c n _ z))
 by_cases j:i=2
 .subst j;have e:dH t ⟨2,c,n⟩=(fH t,[],iQ t):=rfl;rw [e];by_cases q:iQ t=0
  .rw [LZ q,q];have:=aA.less (O2 f g _ _ _ _ _ c n (h.snap_ok f q));cases f
   .exact .same this
   .exact .full this
  .rw [L4 q];exact .same (aA.less (O3 f g _ _ _ _ c n _ (h.snap_no f q)))
 by_cases r:i=3
 .subst r;have e:dH t ⟨3,c,n⟩=(t,[],0):=rfl;rw [e];cases f
  .exact .anew t.n t.s (h.dr3 false g c n)
  .exact .wt t.n t.s (h.dr3 true g c n)
 by_cases o:i=5
 .subst o;have e:dH t ⟨5,c,n⟩=(t,[],0):=rfl;rw [e];exact .anew t.n t.s (h.dr5 f g c n)
 .have e:dH t ⟨i,c,n⟩=(t,[],1):=by unfold dH;dsimp only;rw [if_neg l,if_neg j,if_neg i4,if_neg o_]
  rw [e];exact .same (aA.less (aD1 f g _ _ _ _ c i n l j r i4 o))
def HZ(n:Int)(g:ax):aq 4 [ii n] [bT g] (.ret (.ref 1 0)) (drN g (rS n).d.size [] 0 tF):=aD0 g n tF 0 ((kb0 n).dop true false g)
def aEa(s:Sta):(aQ s Cmd.zero).1=s/\(aQ s Cmd.zero).2.2=1:=by unfold aQ;rw [if_pos d_];exact ⟨rfl,(by show C8.chk Cmd.zero=1;decide)⟩
def KB.stt{t:Kst}{k:Nat}(h:KB t k)(f:Bool)(g:ax):aq 9 [.ref 0 0] (drS f f g t.d.size t.d.safe t.n t.s) (.ret t.s.av) (drS f f g t.d.size t.d.safe t.n t.s):=by have a:=h.sap Cmd.zero (λ e=>by cases e);have h1:=X5 t.s _ a t.n f t.d.size t.d.safe;rw [(aEa t.s).1] at h1;exact SL f f id g _ _ _ _ _ h1
open Go.ChangeShapes Go.WideShapes Go.ChangeAt Go.RowKit
set_option maxRecDepth 10000
def Kstp.cs(p:Kstp):ay:=ii p.k::(p.x.cs++[ii p.n])
def Kstp.av(p:Kstp):aa:=.agg p.cs
abbrev stv(l:List Kstp):ay:=l.map Kstp.av
def aL6{n:Nat}{cs:ay}(h:TyN Tryz.prog 1048576 (n+7) 38 cs):∃ p:Kstp,cs=p.cs/\CmSm p.x:=by unfold TyN at h;rw [Tryz.underlying38] at h;obtain ⟨d,r,rfl,b,e,r,rfl,h1,f,r,rfl,a,rfl⟩:=h;obtain ⟨k,rfl⟩:=iO b;obtain ⟨x,rfl,c⟩:=aL8 (n:=n) h1;obtain ⟨m,rfl⟩:=iO a;exact ⟨⟨k,x,m⟩,rfl,c⟩
section
variable {H:Type} {enc:TypeId×Value->H} {W:World} {r:Reach} {base b0:Nat} {spare:Nat->Bool} {held:Bool} {v:Value} {d:DataW H} {ps:List MemPlace}
def YU(c:La Tryz.prog W r b0 22 v)(h:DataW.Trod enc Tryz.prog W base spare held 22 v d ps)(i:Rows.uptoBulk d<=1048576):∃ l:List Kstp,Rep (Mw W) [] v (.slice 17 (stv l) .no)/\l.length<=1048576/\∀ x∈l,CmSm x.x:=by
 obtain ⟨xs,a,g,b⟩:=TJ (n:=7) (aNC H 1048576) Tryz.underlying22 (by kernel_rfl) c h i;have e:Tryz.prog.cellsOf 38=17:=by kernel_rfl
 obtain ⟨l,rfl,hl⟩:=XI (av:=Kstp.av) (Q:=λ p=>CmSm p.x) (P:=λ x=>x∈xs) (λ x hm=>by
  obtain ⟨cs,rfl⟩:=(b x hm).2.1 (by kernel_rfl);obtain ⟨p,hp,f⟩:=aL6 (n:=0) (b _ hm).1
  exact ⟨p,by unfold Kstp.av;rw [<-hp];rfl,f⟩) xs λ x hm=>hm
 rw [e] at a;exact ⟨l,a,by simpa using g,hl⟩
end
noncomputable abbrev fPl:Func:=Tryz.f13
abbrev aN4(a:bg×Int):aa:=kO a.1 a.2
abbrev anv(l:List (bg×Int)):ay:=l.map aN4
abbrev aLZ:ab:=LC
abbrev plO(f:Bool)(g:ax)(t:Kst):au:=match f with
 | true=>[bT g,aLZ,.cells tDr [.ref 3 0,.ref 6 0],dkC t.d.size (sfV true 4 t.d.safe) bA false,.tail 0 1 5,jnO 3 t.n,.cells tSt (.ref 5 0::t.s.cs),.tail 0 2 42]
 | false=>[bT g,aLZ,.cells tDr [.ref 3 0,.ref 5 0],dkC t.d.size (sfV false 4 t.d.safe) bA false,jnO 3 t.n,.cells tSt (.ref 4 0::t.s.cs),.tail 0 2 42]
abbrev plN(f:Bool):Nat:=match f with | true=>7 | false=>6
def aGv(L:List Kstp)(B:L.length<=57)(o:∀ p∈L,p.x.c.sm)(g:ax)(R:Kst)(A:List (bg×Int)):∀ (m i:Nat) (t:Kst) (bs:List (bg×Int)) (f:Bool),i+m=L.length->bs.length=i->KB t i->mS (L.drop i) t=R->bs++xM (L.drop i) t=A->
  To (Eo [7] []) fPl (.full 1 (.ret (.tup [.slice 2 (anv A) .no,R.s.av])) [bT g]) (.head (stk fPl 0) [(5,.ref 1 0),(6,.ref 2 0),(7,.slice 2 (anv bs) (.own (plN f) 0)),(12,.slice 17 (stv L) .no),(13,.int .i64 ((stv L).length:Nat)),(14,ii i)] (plO f g t)):=by
 have v:(stv L).length=L.length:=by simp
 intro m;induction m with
 | zero=>
  intro i t bs f z y j b a;rw [Ah o_] at b a;have b:t=R:=b;have a:bs++[]=A:=a;rw [Ar] at a;subst b a;have hs:=j.stt f g;clear j;cases f
  .refine gV ?_;refine aF λ h=>?_
   repeat' first | (refine gN (hEo [7] []) ?_;conv=>whnf) | refine .eff [] [2,3,0,4,5] _ _ rfl hs ?_ | exact zx [0] | exact rfl | refine zt ?_ | refine zu ?_ ?_ | intro h | fail
  .refine gV ?_;refine aF λ h=>?_
   repeat' first | (refine gN (hEo [7] []) ?_;conv=>whnf) | refine .eff [] [2,3,4,0,5,6] _ _ rfl hs ?_ | exact zx [0] | exact rfl | refine zt ?_ | refine zu ?_ ?_ | intro h | fail
 | succ m n=>
  intro i t bs f z y j b a;have d:i<L.length:=o_;rw [Ae d] at b a;have get:(stv L)[i]? =some L[i].av:=by simp [d]
  have hp:=o L[i] (Bf d);generalize L[i]=p at b a get hp;have w:=j.dr o_ f g p (λ_=>hp);have k:=j.step o_ p (λ_=>hp);have next:=n (i+1) (dH t p).1 (bs++[(dH t p).2])
  have u:anv (bs++[(dH t p).2])=anv bs++[kO (dH t p).2.1 (dH t p).2.2]:=by simp
  rw [u] at next
  have l:(anv bs).length<=1048576:=by simp;omega
  replace next:=λ f=>next f o_ q_ k b (by rw [Af];exact a)
  generalize dH t p=r at *
  obtain ⟨C,ev,e⟩:=r;dsimp only at *
  clear n b a u j k o hp;cases f
  all_goals
   cases w
  all_goals
   rename_i q;refine gV ?_;refine aT λ h=>?_
   repeat' first | (refine gN (hEo [7] []) ?_;conv=>whnf) | refine ⟨i,rfl,?_⟩ | refine ⟨_,get,?_⟩ | refine .eff [] [2,3,0,4,5] _ _ rfl q ?_ | refine .eff [] [2,3,4,0,5,6] _ _ rfl q ?_ | refine Ac (xB l d_) ?_ | exact rfl | refine zt ?_ | refine zu ?_ ?_ | intro h | fail
   first
    | exact To.part [5,6,7,12,13,14] [0,1,2,3,4,5,6] rfl rfl rfl (next false)
    | exact To.part [5,6,7,12,13,14] [0,1,2,3,8,4,5,6] rfl rfl rfl (next true)
    | exact To.part [5,6,7,12,13,14] [0,1,2,3,8,9,6] rfl rfl rfl (next false)
    | exact To.part [5,6,7,12,13,14] [0,1,2,3,8,9,10,6] rfl rfl rfl (next true)
    | exact To.part [5,6,7,12,13,14] [0,1,2,3,9,10,6] rfl rfl rfl (next false)
    | exact To.part [5,6,7,12,13,14] [0,1,2,3,4,5,6,7] rfl rfl rfl (next true)
    | exact To.part [5,6,7,12,13,14] [0,1,2,3,5,6,7] rfl rfl rfl (next false)
    | exact To.part [5,6,7,12,13,14] [0,1,2,3,4,9,10,7] rfl rfl rfl (next true)
    | exact To.part [5,6,7,12,13,14] [0,1,2,3,9,10,7] rfl rfl rfl (next false)
def aGu(n:Int)(L:List Kstp)(d:L.length<=57)(b:∀ p∈L,p.x.c.sm)(g:ax):
  aq 13 [ii n,.slice 17 (stv L) .no] [bT g] (.ret (.tup [.slice 2 (anv (xM L (rS n))) .no,(mS L (rS n)).s.av])) [bT g]:=by
 have h:=aGv L d b g (mS L (rS n)) (xM L (rS n)) L.length 0 (rS n) [] false o_ rfl (kb0 n) (by rw [Cq]) (by rw [Cq];rfl);have a:=HZ n g;generalize mS L (rS n)=R at *
 generalize xM L (rS n)=A at *
 refine cT (E:=(Eo [7] [])) (fn:=Tryz.f13) (g:=.full 1 _ _) λ_=>?_
 repeat' first | (refine gN (hEo [7] []) ?_;conv=>whnf) | refine .eff [] [0] _ _ rfl a ?_ | exact rfl | refine zt ?_ | refine zu ?_ ?_ | intro h | fail
 refine To.part [5,6,7,12,13,14] [0,1,2,3,4,5,6] rfl rfl rfl ?_;exact h
set_option maxRecDepth 100000
def SK:ax:=[115,116,111,114,101,58,32,110,111,32,114,101,99,111,114,100]
def own:ownKnob Tryz.prog.godebug=none:=by kernel_rfl
def aDX: "*" ++ "errors.errorString" = "*errors.errorString" :=by decide
def aNk(u:TypeId)(h:Tryz.prog.typeName? 3 u=some "*errors.errorString"):u=399:=
 typeName_ptr_named (nm:= "errors.errorString") (by rw [aDX];kernel_rfl) (by kernel_rfl) d_ u (by rw [aDX];exact h)
noncomputable def yB(os:Os):World:=
 let N:=(World.settled Tryz.prog os).heap.size
 let w0:=World.holding Tryz.prog os ⟨#[.cells #[.string ⟨SK.toArray⟩] 421],#[],[]⟩
 {w0 with heap:=w0.heap.modify 0 fun
   | .cells _ t a=>.cells #[.iface 399 (.pointer (some ⟨N,0,none⟩))] t a
   | o=>o}
def aCI(os:Os)(args:Array Value):laidMet Tryz.prog [("tithebarn/store.errBad",Rows.laid_tithebarn_store_errBad)] ((yB os).forCall (λ_ _=>0) ⟨#[],args,[]⟩).memory:=
 laidMet_of_run' 8 (by kernel_rfl) (by kernel_rfl)
def OV{W:World}(h:laidMet Tryz.prog [("tithebarn/store.errBad",Rows.laid_tithebarn_store_errBad)] W):∃ u,W.cell? ⟨0,0,none⟩=some u∧u.oneCell'=true∧Rep (Mg W 0 (ZY SK)) [] u (ZY SK):=by
 obtain ⟨a,s,m,f,hs,hm⟩:=laid_sentinel (g:=0) h (by kernel_rfl) (by kernel_rfl) Tryz.underlying110 aNk Tryz.underlying399 Tryz.underlying421 rfl rfl Tryz.underlying9 (by kernel_rfl) (by kernel_rfl);have n:W.cell? ⟨0,0,none⟩=some (.iface 399 (.pointer (some a))):=by have:=World.var?_cell (g:=0) (by kernel_rfl) m 0;simpa using this
 obtain ⟨b,o,l⟩:=a;have i:l=none:=by
  cases l with
  | none=>rfl
  | some x=>
   unfold Kk at f;dsimp only at f;split at f
   .simp at f
   .cases f
 subst i;refine ⟨_,n,rfl,.iface _ _ _ (.ptr b o _ λ j c k=>?_)⟩;cases j with
 | zero=>
  cases k;refine .inl ⟨_,f,rfl,?_⟩;have e:s=⟨SK.toArray⟩:=by obtain ⟨d⟩:=s;have hs:d.toList=SK:=hs;rw [<-hs]
  rw [e];exact .str SK d_
 | succ j=>simp at k
set_option maxRecDepth 10000
def wgt(c:Con):Int:=1+((nav c.ns).length:Nat)+((hav c.hs).length:Nat)
def smR(M:Int):List Con->Int->Int
 | [],n=>n
 | c::l,n=>if n<M then smR M l (n+wgt c) else n
def aL1{c:Con}(h:c.sm):1<=wgt c/\wgt c<=2097153:=by
 have l1:(nav c.ns).length=c.ns.length:=by simp
 have l2:(hav c.hs).length=c.hs.length:=by simp
 have:=h.ns;have:=h.hs;unfold wgt;omega
noncomputable abbrev fSm:Func:=Tryz.f5
def QM(l:List Kstp)(n:Int):Int:=if n<500/\l.length<=40 then 1 else 0
def aBd(L:List Kstp)(i:Nat)(n:Int)(h:L.length<=i\/500<=n)(c:i<=1048576):To E fSm (.pure (.ret (ii (QM L n)))) (.head (stk fSm 0) [(0,.slice 17 (stv L) .no),(3,ii n),(4,ii i)] []):=by
 have b:(stv L).length=L.length:=by simp
 by_cases a:n<500
 .by_cases hl:L.length<=40
  .rw [show QM L n=1 from if_pos ⟨a,hl⟩];refine gV ?_
   repeat' first | (refine gN hE ?_;conv=>whnf) | exact rfl | refine zt ?_ | refine zu ?_ ?_ | intro h | fail
  .rw [show QM L n=0 from if_neg λ h=>hl h.2];refine gV ?_
   repeat' first | (refine gN hE ?_;conv=>whnf) | exact rfl | refine zt ?_ | refine zu ?_ ?_ | intro h | fail
 .rw [show QM L n=0 from if_neg λ h=>a h.1];by_cases c:L.length<=i
  .refine gV ?_
   repeat' first | (refine gN hE ?_;conv=>whnf) | exact rfl | refine zt ?_ | refine zu ?_ ?_ | intro h | fail
  .refine gV ?_
   repeat' first | (refine gN hE ?_;conv=>whnf) | exact rfl | refine zt ?_ | refine zu ?_ ?_ | intro h | fail
def aFK(L:List Kstp)(s:L.length<=1048576)(g:∀ p∈L,p.x.c.sm)(R:Int):∀ (m i:Nat) (n:Int),i+m=L.length->0<=n->n<=3000000->smR 500 ((L.drop i).map λ p=>p.x.c) n=R->
  To E fSm (.pure (.ret (ii (QM L R)))) (.head (stk fSm 0) [(0,.slice 17 (stv L) .no),(3,ii n),(4,ii i)] []):=by
 have f:(stv L).length=L.length:=by simp
 intro m;induction m with
 | zero=>
  intro i n l _ _ a;rw [Ah o_] at a;have a:n=R:=a;subst a;exact aBd L i n (.inl o_) o_
 | succ m d=>
  intro i n l q h1 a;have b:i<L.length:=o_;rw [Ae b] at a;have get:(stv L)[i]? =some L[i].av:=by simp [b]
  have hp:=g L[i] (Bf b);generalize L[i]=p at a get hp;rw [Bl] at a;unfold smR at a;by_cases e:n<500
  .rw [if_pos e] at a;obtain ⟨j,k⟩:=aL1 hp;have next:=d (i+1) (n+wgt p.x.c) o_ o_ o_ a
   have l1:(nav p.x.c.ns).length=p.x.c.ns.length:=by simp
   have l2:(hav p.x.c.hs).length=p.x.c.hs.length:=by simp
   have o:=hp.ns;have r:=hp.hs;unfold wgt at next
   clear d a j k;refine gV ?_
   repeat' first | (refine gN hE ?_;conv=>whnf) | refine ⟨i,rfl,?_⟩ | refine ⟨_,get,?_⟩ | exact rfl | refine zt ?_ | refine zu ?_ ?_ | intro h | fail
   refine To.part [0,3,4] [] rfl rfl rfl ?_;exact next
  .rw [if_neg e] at a;subst a;exact aBd L i n (.inr o_) o_
def QL(L:List Kstp)(b:L.length<=1048576)(a:∀ p∈L,p.x.c.sm):∃ r:Int,(r=0\/r=1/\L.length<=40)/\aq 5 [.slice 17 (stv L) .no] [] (.ret (ii r)) []:=by
 refine ⟨QM L (smR 500 (L.map λ p=>p.x.c) 0),?_,?_⟩
 .unfold QM;split
  .rename_i h;exact .inr ⟨rfl,h.2⟩
  .exact .inl rfl
 .have next:=aFK L b a _ L.length 0 0 o_ d_ d_ (by rw [Cq])
  generalize smR 500 (L.map λ p=>p.x.c) 0=R at *
  refine c_ Tryz.f5 λ_=>?_
  repeat' first | (refine gN hE ?_;conv=>whnf) | exact rfl | refine zt ?_ | refine zu ?_ ?_ | intro h | fail
  refine To.part [0,3,4] [] rfl rfl rfl ?_;exact next
end Go.Proofs.YtaeegbkbahgjhaaGreatDoor
