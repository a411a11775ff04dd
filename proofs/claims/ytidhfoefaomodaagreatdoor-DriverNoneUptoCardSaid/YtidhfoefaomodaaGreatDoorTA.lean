/- Part 11 of what the statement rests on. -/
import Derived.Lib.Builder
import Derived.Lib.UnsafeStr
import Derived.Lib.Walk
import Derived.Shelf.RegionOpenPlain
import Derived.ScopeJumps
import Derived.Test.YtidhfoefaomodaaGreatDoorRows
import Derived.Deep.DeepHandedRow
import Derived.Deep.DeepWitnessRowRef
import Derived.Stop.LaidErr
import Derived.LaidLaws
import Derived.ProofKit
import Derived.Test.YtidhfoefaomodaaGreatDoorYA
set_option linter.all false
set_option maxHeartbeats 1000000
open And renaming intro->Ac
open Bool renaming and_eq_true->Ad
open Go.Builtin renaming unsafeSliceData_->Iy,unsafeString_->Js
open Go.Result renaming andThen->Ef
open Go.Value renaming okWide->Lc
open Go.World renaming cell?->Km,shape?->Ji
open Int renaming fdiv_eq_ediv_of_nonneg->Ea,toNat_natCast->Bt
open List renaming append_assoc->Af,append_nil->Av,cons_append->Cc,drop_eq_getElem_cons->Ae,drop_eq_nil_of_le->Ah,drop_left->Jj,drop_zero->Ci,eq_nil_of_length_eq_zero->Ax,getElem_mem->Bh,length_append->Ai,length_cons->Al,length_drop->Ei,length_map->Ch,length_nil->Br,length_pos_iff->Dy,length_take->Dp,map_append->Bm,map_take->Gh,mem_cons->Bb,mem_cons_of_mem->Bd,mem_cons_self->Ap,nil_append->Bn,take_left->Hl,take_length->Ge,take_of_length_le->Cf
open Nat renaming div_one->Ip,le_refl->Bc,le_succ->Hv,le_trans->Cz,mul_le_mul->Gj,pow_le_pow_right->Ew,strongRecOn->Hy,zero_add->Bo,zero_le->Bv,zero_lt_succ->Lx
open Option renaming map_eq_some_iff->Cd
open Prod.mk renaming injEq->Ke
open UInt8 renaming ofNat->Dm,toNat_ofNat'->Gw
namespace Go.Proofs.YtidhfoefaomodaaGreatDoor
open Go Go.AW Go.Proofs
def zqta0 {P:Prop} (h:P:=by
 cases f
 .refine cT (E:=E) (fn:=Tryz.f128) (g:=.full 1 _ _) λ_=>?_;exact zW
 .refine cT (E:=E) (fn:=Tryz.f128) (g:=.full 2 _ _) λ_=>?_
  exact zW):P:=h
def zqta1 {P:Prop} (h:P:=by
 cases f
 .refine cT (E:=E) (fn:=Tryz.f140) (g:=.full 1 _ _) λ_=>?_;exact zW
 .refine cT (E:=E) (fn:=Tryz.f140) (g:=.full 2 _ _) λ_=>?_
  exact zW):P:=h
def zqta2 {P:Prop} (h:P:=by
 cases f
 .refine cT (E:=E) (fn:=Tryz.f68) (g:=.full 1 _ _) λ_=>?_;exact zW
 .refine cT (E:=E) (fn:=Tryz.f68) (g:=.full 2 _ _) λ_=>?_
  exact zW):P:=h
def zqta3 {P:Prop} (h:P:=by
 refine cT (E:=E) (fn:=Tryz.f60) (g:=.full 2 _ _) λ_=>?_
 exact zW):P:=h
def zqta4 {P:Prop} (h:P:=by
 cases e<;>first | exact j | skip
 rcases j with ⟨rfl,i,f⟩ | ⟨rfl,i,f⟩
 .exact ⟨.inl ⟨rfl,i⟩,f⟩
 .exact ⟨.inr ⟨rfl,i⟩,f⟩):P:=h
def zqta5 {P:Prop} (h:P:=by
 refine cT (E:=E) (fn:=Tryz.f129) (g:=.full 1 _ _) λ_=>?_
 exact zW):P:=h
def zqta6 {P:Prop} (h:P:=by
 refine cT (E:=E) (fn:=Tryz.f129) (g:=.full 2 _ _) λ_=>?_
 exact zW):P:=h
def zqta7 {P:Prop} (h:P:=by
 refine cT (E:=E) (fn:=Tryz.f148) (g:=.full 1 _ _) λ_=>?_
 exact zW):P:=h
def zqta8 {P:Prop} (h:P:=by
 by_cases a:(aV t.s c).2.2=0
 .exact .inr λ b=>q ⟨a,b⟩
 .exact .inl a):P:=h
def aHr:Nat->Int->Int
 | 0,x=>x
 | k+1,x=>aHr k (bits .xor .u32 (x / 2) (bits .and .u32 2197175160 (-bits .and .u32 x 1 % 4294967296)))
def DX:List UInt8->Int->Int
 | [],x=>x
 | b::r,x=>DX r (aHr 8 (bits .xor .u32 x ((b.toNat:Int) % 4294967296)))
def wO (s:List UInt8):Int:=bits .xor .u32 IntKind.u32.max (DX s 4294967295)
def iL (op:BinOp) (x y:Int):0<=bits op .u32 x y/\bits op .u32 x y<4294967296:=by have h:inR .u32 (bits op .u32 x y):=jQ .u32 _;simp only [inR,cJ,bE] at h;omega
def lH (n:Nat):List UInt8:=[Dm n,Dm (n / 256),Dm (n / 65536),Dm (n / 16777216)]
def dW:List UInt8->Nat
 | a::b::c::d::_=>a.toNat+256*b.toNat+65536*c.toNat+16777216*d.toNat
 | _=>0
def sF (n:Nat) (r:List UInt8) (h:n<4294967296):dW (lH n++r)=n:=by simp only [lH,dW,Cc,Gw];omega
def frm (s:List UInt8):List UInt8:=lH s.length++lH (wO s).toNat++s
def jN (s:List UInt8):Int:=
 if s.length<8 then 10 else if 16384<dW s then 8 else if (s.length:Int)-8<dW s then 10
 else if wO ((s.drop 8).take (dW s))≠(dW (s.drop 4):Int) then 11 else 0
def qM (s:List UInt8):List UInt8:=(s.drop 8).take (dW s)
def dN (s:List UInt8):(frm s).length=s.length+8:=by simp [frm,lH]
def RH (s:List UInt8):0<=wO s/\wO s<4294967296:=by exact iL _ _ _
def aAX (s r:List UInt8) (h:s.length<=16384):jN (frm s++r)=0/\qM (frm s++r)=s:=by
 have b:dW (frm s++r)=s.length:=by unfold frm;rw [Af,Af,sF _ _ o_]
 have d:(frm s++r).drop 4=lH (wO s).toNat++(s++r):=by unfold frm;rw [Af,Af];rfl
 have c:(frm s++r).drop 8=s++r:=by unfold frm;rw [Af,Af];rfl
 obtain ⟨e,f⟩:=RH s;have hl:(frm s++r).length=s.length+8+r.length:=by rw [Ai,dN]
 have a:qM (frm s++r)=s:=by unfold qM;rw [b,c,Hl]
 refine ⟨?_,a⟩;unfold jN;unfold qM at a;rw [hl,b] at *
 rw [a,d,sF _ _ o_,if_neg o_,if_neg o_,if_neg o_,if_neg o_]
def aAY (s:List UInt8) (k:Nat) (h:s.length<=16384) (c:k<s.length+8):jN ((frm s).take k)≠0:=by
 have hl:((frm s).take k).length=k:=by rw [Dp,dN];omega
 unfold jN;rw [hl];by_cases a:k<8
 .rw [if_pos a];decide
 .rw [if_neg a];have b:dW ((frm s).take k)=s.length:=by
   have:(frm s).take k=lH s.length++((lH (wO s).toNat++s).take (k-4)):=by unfold frm;rw [Af,List.take_append,Cf (by simp [lH];omega)];rfl
   rw [this,sF _ _ o_]
  rw [b,if_neg o_,if_pos o_];decide
def aAW:jN []≠0:=by decide
def nL:List (List UInt8)->Nat
 | []=>0
 | t::l=>t.length+8+nL l
def dY:List (List UInt8)->List UInt8
 | []=>[]
 | t::l=>frm t++dY l
def qV:∀ l:List (List UInt8),(dY l).length=nL l
 | []=>rfl
 | t::l=>by rw [dY,nL,Ai,dN,qV l]
def NI:∀ (l m:List (List UInt8)),dY (l++m)=dY l++dY m
 | [],_=>rfl
 | t::l,m=>by rw [Cc,dY,dY,NI l m,Af]
structure Dk where
 size:Int
 safe:List UInt8
 waits:List UInt8
 sw:Bool
def Dk.new (n:Int):Dk:=⟨min (max n 0) 1048576,[],[],false⟩
def Dk.free (d:Dk):Int:=if d.sw then d.size-d.waits.length else d.size-d.waits.length-d.safe.length
end Go.Proofs.YtidhfoefaomodaaGreatDoor
namespace Go.Proofs.YtidhfoefaomodaaGreatDoor.TB
open Go Go.AW Go.Proofs Go.RowKit
set_option maxRecDepth 100000
set_option maxHeartbeats 2000000
abbrev tWr:TypeId:=158
def vQ:liesAt Tryz.prog Tryz.prog.depth tWr (2 / Tryz.prog.cellsOf tWr) 0 158 1=true:=by kernel_rfl
def uR:(Tryz.prog.info? 158).map (·.size)=some 2:=by kernel_rfl
def KM:Tryz.prog.underlying 156=some (.pointer 158):=by kernel_rfl
def KL:Tryz.prog.underlying 334=some .unsafePointer:=by kernel_rfl
def NP:Tryz.prog.funcs[225]? =some Tryz.f225:=by kernel_rfl
def fW (b:Nat) (w:World) (h:w.cell? ⟨b,0,none⟩=some (.pointer none)) (a:w.shape? b=some (tWr,2)) (g:w.frozen? ⟨b,0,none⟩=false):
  Calls Tryz.prog 151 #[.pointer (some ⟨b,0,none⟩)] w λ e w'=>e= .returned (.tuple #[])/\w'=w.setCell ⟨b,0,none⟩ (.pointer (some ⟨b,0,none⟩)):=by
 obtain ⟨j,d,c⟩:=Cd.1 uR
 go_enter Tryz.func151,Tryz.ntmps151
 go_wp2
 rw [Lib.run_to_unsafe w ⟨b,0,none⟩ KM KL d (by rw [c];decide) a (Lx 1)];simp only [Ef];rw [Oper.upon_value]
 go_wp2
 rw [run_callFunc_extern NP (by kernel_rfl) (by kernel_rfl) (by kernel_rfl) (e:=Extern.AbiNoEscape.same) (by kernel_rfl)];rw [Lib.run_noEscape];simp only [Ef];rw [Oper.upon_value]
 go_wp2
 rw [Lib.run_from_unsafe w ⟨b,0,none⟩ KL KM d a vQ];simp only [Ef];rw [Oper.upon_value]
 go_wp2
 go_end0;exact ⟨rfl,rfl⟩
def ZY:Tryz.prog.underlying 254=some (.pointer 5):=by kernel_rfl
def aDI:Tryz.prog.cellsOf 5=1:=by kernel_rfl
def nG (b g cap:Nat) (p:Value) (a:Array Value) (l:List UInt8) (w:World) (d:w.heap[b]? =some (.cells #[p,.slice (some ⟨g,0,none⟩) l.length cap] tWr (0,0))) (u:w.heap[g]? =some (.cells a 5 (0,0))) (n:l≠[])
  (o:l.length<=cap) (m:cap<=maxLen) (s:a.size=cap) (c:∀ (j:Nat) x,l[j]? =some x->w.cell? ⟨g,j,none⟩=some (.int .u8 x.toNat)):
  Calls Tryz.prog 90 #[.pointer (some ⟨b,0,none⟩)] w λ e w'=>e= .returned (.string ⟨l.toArray⟩)/\HL g l.length w w':=by
 have h:l.length≠0:=by simpa using n
 have y:w.drew.cell? ⟨b,1,none⟩=some (.slice (some ⟨g,0,none⟩) l.length cap):=by have:w.drew.heap[b]? =some (.cells #[p,.slice (some ⟨g,0,none⟩) l.length cap] tWr (0,0)):=d;rw [Lib.cell_of_heap this];rfl
 have r:(Iy #[132] 254 #[.slice (some ⟨g,0,none⟩) l.length cap]).run Tryz.prog w.drew= .ok (.pointer (some ⟨g,0,none⟩)) w.drew:=
  Lib.run_unsafeSliceData_row _ _ _ _ _ _ o_
 have q:(Js #[254,3] 9 #[.pointer (some ⟨g,0,none⟩),.int .i64 l.length]).run Tryz.prog w.drew= .ok (.string ⟨l.toArray⟩) (w.drew.freeze ⟨g,0,none⟩ l.length):=by refine Lib.run_unsafeString_row w.drew 254 3 9 5 ZY aDI g a.size (by have k:w.drew.heap[g]? =some (.cells a 5 (0,0)):=u;simp [Ji,k]) l n o_ (by unfold maxLen at m;omega) ?_;intro j x v;rw [bA,Bo];exact c j x v
 have i:Tryz.prog.follows Departure.mixedOrders=true:=hE.mix
 go_enter Tryz.func90,Tryz.ntmps90
 go_wp2
 go_region_o
 all_goals (go_wp2;go_ret;exact ⟨rfl,QL h⟩)
def cc_fresh (s:aa):ar 151 [.ref 0 0] [.cells tWr [.nilptr,s]] (.ret (.tup [])) [.cells tWr [.ref 0 0,s]]:=
 mZ (λ_ _=>by rfl) fW s
def str_ok (l:List UInt8) (a:l≠[]) (p:aa):ar 90 [.ref 0 0] [.cells tWr [p,.slice 1 (l.map ub) (.own 1 0)],.tail 0 1 5] (.ret (.str l)) [.dead,.dead]:=
 lO (λ_ _=>by rfl) nG l a p
end Go.Proofs.YtidhfoefaomodaaGreatDoor.TB
namespace Go.Proofs.YtidhfoefaomodaaGreatDoor
open Go Go.AW Go.Proofs
set_option maxRecDepth 100000
def tJ (J:Nat->Act->World->Prop) (Q:Exit->Act->World->Prop):Exit->Act->World->Prop
 | .goto l,a,w=>J l a w
 | e,a,w=>Q e a w
def zQ {P:Program} {a:Act} {w:World} {Q:Exit->Act->World->Prop} {c:Code} (rest:Nat->Code) (J:Nat->Act->World->Prop) (μ:Nat->Act->World->Nat) (A:∀ l a w,J l a w->findLabel c l=some (rest l))
  (first:c.wp P (tJ J Q) a w) (p:∀ l a w,J l a w->(rest l).wp P (tJ (λ o q w'=>J o q w'/\μ o q w'<μ l a w) Q) a w):(Code.scope c).wp P Q a w:=by
 intro b k cs;have y:∀ l a w,J l a w->gotoIn l (.inScope c::k)=some (.code (rest l):: .inScope c::k):=λ l a w h=>by simp [gotoIn,A l a w h]
 have key:∀ n l a w,μ l a w=n->J l a w->∃ e q w',Q e q w'/\Arrives P (lone (b.at a (.code (rest l):: .inScope c::k)) cs w) b k cs e q w':=by
  intro n;induction n using Hy with
  | _ n D=>
   intro l a w F B;obtain ⟨e,j,i,g,d⟩:=p l a w B b (.inScope c::k) cs;cases e with
   | normal=>exact ⟨.normal,j,i,g,Steps.trans d (.one step_inScope)⟩
   | exit id=>exact ⟨.exit id,j,i,g,λ t s=>d t (by simp [exitTo,s])⟩
   | goto o=>
    obtain ⟨r,C⟩:=g;obtain ⟨v,x,u,m,f⟩:=D _ o_ o j i rfl r;exact ⟨v,x,u,m,.of_steps (d _ (y _ _ _ r)) f⟩
   | ret=>exact ⟨_,j,i,g,d⟩
   | panic z=>exact ⟨_,j,i,g,d⟩
   | outgrown=>exact ⟨_,j,i,g,d⟩
 obtain ⟨e,j,i,g,d⟩:=first b (.inScope c::k) cs
 cases e with
 | normal=>exact ⟨.normal,j,i,g,.head step_scope (Steps.trans d (.one step_inScope))⟩
 | exit id=>exact ⟨.exit id,j,i,g,λ t s=>.head step_scope (d t (by simp [exitTo,s]))⟩
 | goto o=>
  obtain ⟨v,x,u,m,f⟩:=key _ o j i rfl g;exact ⟨v,x,u,m,.of_steps (.head step_scope (d _ (y _ _ _ g))) f⟩
 | ret=>exact ⟨_,j,i,g,.of_steps (.one step_scope) d⟩
 | panic z=>exact ⟨_,j,i,g,.of_steps (.one step_scope) d⟩
 | outgrown=>exact ⟨_,j,i,g,.of_steps (.one step_scope) d⟩
def HN {P:Program} {a:Act} {w:World} {Q:Exit->Act->World->Prop} {c m n:Code} (k J1:Act->World->Prop) (μ0 μ1:Act->World->Nat) (o:findLabel c 0=some m) (h1:findLabel c 1=some n)
  (first:c.wp P (tJ (λ l a w=>(l=0/\k a w)\/(l=1/\J1 a w)) Q) a w)
  (g:∀ a w,k a w->m.wp P (tJ (λ l b w'=>(l=0/\k b w'/\μ0 b w'<μ0 a w)\/(l=1/\J1 b w'/\μ1 b w'<μ0 a w)) Q) a w)
  (d:∀ a w,J1 a w->n.wp P (tJ (λ l b w'=>(l=0/\k b w'/\μ0 b w'<μ1 a w)\/(l=1/\J1 b w'/\μ1 b w'<μ1 a w)) Q) a w):(Code.scope c).wp P Q a w:=by
 refine zQ (λ l=>if l=0 then m else n) (λ l a w=>(l=0/\k a w)\/(l=1/\J1 a w)) (λ l a w=>if l=0 then μ0 a w else μ1 a w) (λ l a w h=>?_) first λ l a w h=>?_
 .rcases h with ⟨rfl,_⟩ | ⟨rfl,_⟩
  .exact o
  .exact h1
 .rcases h with ⟨rfl,h⟩ | ⟨rfl,h⟩
  .refine wp_mono (g a w h) λ e b w' j=>?_;exact zqta4
  .refine wp_mono (d a w h) λ e b w' j=>?_;exact zqta4
def aB8 (k:Nat) (a:Act):Int:=match a.tmps[k]? with | some (.int _ n)=>n | _=>0
def aK7 (s:List UInt8) (w:World) (a:Act) (w':World):Prop:=w'=w/\∃ (x:Int) (i k:Nat) (B C D F r v t n d o y A p g e h f j l b u c q m z:Value),a={tmps:= #[.string ⟨s.toArray⟩,undef,.int .u32 0,.int .u32 x,.int .i64 i,.int .i64 k,B,C,D,F,r,v,t,n,d,o,y,A,p,g,e,h,f,j,l,b,u,c,q,m,z],defers:=[]}/\0<=x/\x<4294967296/\i<=s.length/\DX (s.drop i) x=DX s 4294967295
def aK6 (s:List UInt8) (w:World) (a:Act) (w':World):Prop:=w'=w/\∃ (x:Int) (i k:Nat) (B C D F r v t n d o y A p g e h f j l b u c q m z:Value),a={tmps:= #[.string ⟨s.toArray⟩,undef,.int .u32 0,.int .u32 x,.int .i64 i,.int .i64 k,B,C,D,F,r,v,t,n,d,o,y,A,p,g,e,h,f,j,l,b,u,c,q,m,z],defers:=[]}/\0<=x/\x<4294967296/\i<=s.length/\1<=k/\k<8/\DX (s.drop i) (aHr (8-k) x)=DX s 4294967295
def aK5 (s:List UInt8) (a:Act):Nat:=(s.length-(aB8 4 a).toNat)*10
def aK4 (s:List UInt8) (a:Act):Nat:=(s.length-(aB8 4 a).toNat)*10+9-(aB8 5 a).toNat
def N5 {s:List UInt8} {i:Nat} {x:Int} (h:i<s.length) (a:DX (s.drop i) x=DX s 4294967295):
  DX (s.drop (i+1)) (aHr (8-1) (bits .xor .u32 (bits .xor .u32 x ((s[i].toNat:Int) % 4294967296) / 2) (bits .and .u32 2197175160 (-bits .and .u32 (bits .xor .u32 x ((s[i].toNat:Int) % 4294967296)) 1 % 4294967296))))=DX s 4294967295:=by
 rw [Ae h] at a;exact a
def WP (s:List UInt8) (hs:(s.length:Int)<=9223372036854775807) (w:World):Calls Tryz.prog 215 #[.string ⟨s.toArray⟩] w λ e w'=>e= .returned (.int .u32 (wO s))/\w'=w:=by
 go_enter Tryz.func215,Tryz.ntmps215
 go_wp2
 refine HN (aK7 s w) (aK6 s w) (λ a _=>aK5 s a) (λ a _=>aK4 s a) rfl rfl ?_ (λ a w' d=>?_) (λ a w' d=>?_)
 .go_wp2
  go_step3
  go_wp2
  .have b:((0:Int)==(s.length:Int))=true:=by assumption
   simp only [tJ]
   go_ret
   have:s=[]:=Ax (by have:=beq_iff_eq.1 b;omega);subst this;exact ⟨rfl,rfl⟩
  .have b:0<s.length:=by assumption
   go_step3
   go_wp2
   go_step3
   exact .inr ⟨rfl,rfl,_,1,1,_,_,_,_,_,_,_,_,_,_,_,_,_,_,_,_,_,_,_,_,_,_,_,_,_,rfl,(iL _ _ _).1,(iL _ _ _).2,b,by decide,by decide,N5 b rfl⟩
  .have b:((0:Int)==(s.length:Int))=false:=by assumption
   have h1:¬ 0<s.length:=by assumption
   have:=beq_eq_false_iff_ne.1 b;omega
 .obtain ⟨rfl,x,i,k,J,O,M,N,B,G,C,t,j,u,H,F,v,n,l,o,m,p,q,g,D,h,y,r,I,rfl,K,L,z,c⟩:=d
  go_wp2
  .have b:((i:Int)==(s.length:Int))=true:=by assumption
   simp only [tJ]
   go_ret
   have b:=beq_iff_eq.1 b;rw [Ah o_] at c;have c:x=DX s 4294967295:=c;subst c;exact ⟨rfl,rfl⟩
  .have b:i<s.length:=by assumption
   go_step3
   go_wp2
   go_step3
   refine .inr ⟨rfl,⟨rfl,_,i+1,1,_,_,_,_,_,_,_,_,_,_,_,_,_,_,_,_,_,_,_,_,_,_,_,_,_,rfl,(iL _ _ _).1,(iL _ _ _).2,b,by decide,by decide,N5 b c⟩,?_⟩;show (s.length-((i:Int)+1).toNat)*10+9-(1:Int).toNat<(s.length-(i:Int).toNat)*10;omega
  .have b:((i:Int)==(s.length:Int))=false:=by assumption
   have h1:¬ i<s.length:=by assumption
   have:=beq_eq_false_iff_ne.1 b;omega
 .obtain ⟨rfl,x,i,k,J,O,M,N,B,G,C,t,j,u,H,F,v,n,l,o,m,p,q,g,D,h,y,r,I,rfl,K,L,z,P,Q,c⟩:=d
  go_wp2
  .go_step3
   rename_i b;have e:8-k=8-(k+1)+1:=o_;rw [e] at c;refine .inr ⟨rfl,⟨rfl,_,i,k+1,_,_,_,_,_,_,_,_,_,_,_,_,_,_,_,_,_,_,_,_,_,_,_,_,_,rfl,(iL _ _ _).1,(iL _ _ _).2,z,by omega,by omega,c⟩,?_⟩;show (s.length-(i:Int).toNat)*10+9-((k:Int)+1).toNat<(s.length-(i:Int).toNat)*10+9-(k:Int).toNat;omega
  .go_step3
   rename_i b;have e:8-k=0+1:=o_;rw [e] at c;refine .inl ⟨rfl,⟨rfl,_,i,k+1,_,_,_,_,_,_,_,_,_,_,_,_,_,_,_,_,_,_,_,_,_,_,_,_,_,rfl,(iL _ _ _).1,(iL _ _ _).2,z,c⟩,?_⟩;show (s.length-(i:Int).toNat)*10<(s.length-(i:Int).toNat)*10+9-(k:Int).toNat;omega
def G7 (s:List UInt8):ar 215 [.str s] [] (.ret (.int .u32 (wO s))) []:=by
 intro M ob w a hm b;obtain ⟨hl,b⟩:=b
 match a,hl with
 | [v],_=>
 have h:=b 0 _ _ rfl rfl;cases h with
 | str _ hs=>
 refine .inl ⟨(show nC Tryz.prog 215 from λ_ _=>by rfl) _ _,(WP s hs w).mono λ e w' ⟨c,d⟩=>?_⟩;subst c d;exact ⟨M,ob,Ext.refl _ _ _ _,hm,.int _ _ (by have:=RH s;simp only [inR,cJ,bE];omega)⟩
set_option maxRecDepth 10000
abbrev i4 (n:Int):aa:=.int .u32 n
def aCL (n k:Nat):((n:Int).fdiv (2 ^ k))=((n / 2 ^ k:Nat):Int):=by rw [Ea _ (by exact Int.le_of_lt (Int.pow_pos d_))];simp
def wB (n k:Nat):IntKind.u8.wrap ((n:Int).fdiv (2 ^ k))=((Dm (n / 2 ^ k)).toNat:Int):=by rw [aCL,HM,Gw]
def UX (n:Nat):ar 214 [i4 n] [] (.ret (.str (lH n))) []:=by
 have d:=wB n 0;have c:=wB n 8;have a:=wB n 16;have b:=wB n 24;refine cT (E:=(Er [3,5] [])) (fn:=Tryz.f214) (g:=.pure _) λ_=>?_
 repeat' first
  | (refine gW (hEr [3,5] []) ?_;conv=>whnf)
  | exact rfl
  | refine aY ?_
  | refine aN ?_
  | refine aT λ h=>?_
  | refine aF λ h=>?_
  | refine ⟨_,rfl,?_⟩
  | refine aJ ?_
  | refine .inr ?_ | refine Ac (by first | decide | (simp only [maxLen];omega) | simp) ?_
  | refine aD ?_
  | fail
 refine ⟨lH n,?_,by simp [lH],?_⟩
 .show [aa.int .u8 (IntKind.u8.wrap ((n:Int).fdiv (2 ^ 0))),aa.int .u8 (IntKind.u8.wrap ((n:Int).fdiv (2 ^ 8))),aa.int .u8 (IntKind.u8.wrap ((n:Int).fdiv (2 ^ 16))),aa.int .u8 (IntKind.u8.wrap ((n:Int).fdiv (2 ^ 24)))]=_;rw [d,c,a,b,Nat.pow_zero,Ip];rfl
 .exact zW
def orU (x c i:Nat) (a:x<2 ^ i) (h:x+c*2 ^ i<4294967296):dF .or .u32 (x:Int) ((c:Int)*2 ^ i)=((x+c*2 ^ i:Nat):Int):=by
 have e:(c:Int)*2 ^ i=((c*2 ^ i:Nat):Int):=by simp
 rw [e,nZ .u32 x (c*2 ^ i) (by simp only [bE];omega) (by simp only [bE];omega),Go.AW.CC a]
def aDO (a b c d:UInt8) (r:List UInt8):dF .or .u32 (dF .or .u32 (dF .or .u32 (dF .or .u32 0 ((a.toNat:Int)*2 ^ 0)) ((b.toNat:Int)*2 ^ 8)) ((c.toNat:Int)*2 ^ 16)) ((d.toNat:Int)*2 ^ 24)=((dW (a::b::c::d::r):Nat):Int):=by
 have g:=a.toNat_lt;have j:=b.toNat_lt;have h:=c.toNat_lt;have i:=d.toNat_lt;have e:=orU 0 a.toNat 0 d_ o_;have h1:=orU (0+a.toNat*2 ^ 0) b.toNat 8 o_ o_;have f:=orU (0+a.toNat*2 ^ 0+b.toNat*2 ^ 8) c.toNat 16 o_ o_;have h3:=orU (0+a.toNat*2 ^ 0+b.toNat*2 ^ 8+c.toNat*2 ^ 16) d.toNat 24 o_ o_;have e:dF .or .u32 0 ((a.toNat:Int)*2 ^ 0)=_:=e;rw [e,h1,f,h3];show ((_:Nat):Int)=((a.toNat+256*b.toNat+65536*c.toNat+16777216*d.toNat:Nat):Int)
 congr 1;omega
def H2 (c:UInt8) (i:Nat) (h:i<=24):i<=32/\inR .u32 ((c.toNat:Int)*2 ^ i):=by
 have a:=c.toNat_lt;have e:(c.toNat:Int)*2 ^ i=((c.toNat*2 ^ i:Nat):Int):=by simp
 have h1:2 ^ i<=2 ^ 24:=Ew d_ h;have b:c.toNat*2 ^ i<=255*2 ^ 24:=Gj o_ h1;refine ⟨by omega,?_⟩;rw [e];simp only [inR,cJ,bE];omega
def aDH (a b c d:UInt8) (r:List UInt8):ar 224 [.str (a::b::c::d::r)] [] (.ret (i4 (dW (a::b::c::d::r):Nat))) []:=by
 have e:=a.toNat_lt;have k:=b.toNat_lt;have i:=c.toNat_lt;have j:=d.toNat_lt;refine c_ Tryz.f224 λ_=>?_
 repeat' first
  | (refine gW hE ?_;conv=>whnf)
  | exact rfl
  | refine aY ?_
  | refine aN ?_
  | refine aT λ h=>?_
  | refine aF λ h=>?_
  | refine ⟨_,rfl,?_⟩
  | refine aJ ?_
  | refine .inl ⟨H2 _ 0 d_,?_⟩ | refine .inl ⟨H2 _ 8 d_,?_⟩ | refine .inl ⟨H2 _ 16 d_,?_⟩ | refine .inl ⟨H2 _ 24 d_,?_⟩ | exact congrArg (λ n=>Res.ret (aa.int .u32 n)) (aDO a b c d r)
  | refine aD ?_
  | fail
def NK (n:Nat):(lH n).length=4:=rfl
def nX (s:List UInt8) (h:s.length<=16384):ar 141 [.str s] [] (.ret (.str (frm s))) []:=by
 have h1:=G7 s;obtain ⟨c,b⟩:=RH s;have a:=UX (wO s).toNat;rw [show (((wO s).toNat:Nat):Int)=wO s by omega] at a;have h3:=UX s.length;unfold frm;have l1:=NK (wO s).toNat;have l2:=NK s.length;generalize lH (wO s).toNat=x at *
 generalize lH s.length=y at *
 refine c_ Tryz.f141 λ_=>?_
 repeat' first | (refine gN hE ?_;conv=>whnf) | refine .pure _ [] h1 ?_ | refine .pure _ [] a ?_ | refine .pure _ [] h3 ?_ | refine Ac (by simp only [Ai];omega) ?_ | exact rfl | (refine zt ?_;try intro h) | refine zu (λ h=>?_) λ h=>?_ | fail
def rdT (s:List UInt8):List UInt8:=if jN s=0 then qM s else []
def rdN (s:List UInt8):Int:=if jN s=0 then (dW s:Int)+8 else 0
def YU (s:List UInt8) (hm:s.length<=1000000000) (N M:Nat) (x:Int) (hl:¬ s.length<8) (m:N<4294967296) (c:ar 224 [.str s] [] (.ret (i4 N)) []) (b:ar 224 [.str (s.drop 4)] [] (.ret (i4 M)) [])
  (hs:ar 215 [.str ((s.take (8+N)).drop 8)] [] (.ret (i4 x)) []) (T:List UInt8) (n e:Int)
  (a:(T,n,e)=if 16384<N then ([],0,8) else if (s.length:Int)-8<N then ([],0,10) else if x≠M then ([],0,11) else ((s.take (8+N)).drop 8,(N:Int)+8,0)):
  ar 149 [.str s] [] (.ret (.tup [.str T,ii n,ii e])) []:=by
 have l:(8:Int)+N=((8+N:Nat):Int):=by simp
 by_cases j:16384<N
 .rw [if_pos j] at a;cases a;refine c_ Tryz.f149 λ_=>?_
  repeat' first | (refine gN hE ?_;conv=>whnf) | refine .pure _ [] c ?_ | refine .pure _ [] b ?_ | refine ⟨4,rfl,?_⟩ | exact rfl | (refine zt ?_;try intro h) | refine zu (λ h=>?_) λ h=>?_ | fail
 rw [if_neg j] at a;by_cases k:(s.length:Int)-8<N
 .rw [if_pos k] at a;cases a;refine c_ Tryz.f149 λ_=>?_
  repeat' first | (refine gN hE ?_;conv=>whnf) | refine .pure _ [] c ?_ | refine .pure _ [] b ?_ | refine ⟨4,rfl,?_⟩ | exact rfl | (refine zt ?_;try intro h) | refine zu (λ h=>?_) λ h=>?_ | fail
 rw [if_neg k] at a;by_cases d:x=M
 .rw [if_neg (by simpa using d)] at a;cases a;have i:(x !=(M:Int))=false:=by simpa using d
  refine c_ Tryz.f149 λ_=>?_
  repeat' first | (refine gN hE ?_;conv=>whnf) | refine .pure _ [] c ?_ | refine .pure _ [] b ?_ | refine .pure _ [] hs ?_ | refine ⟨4,rfl,?_⟩ | refine ⟨8,rfl,?_⟩ | refine ⟨8+N,l,?_⟩ | refine zF i ?_ | exact rfl | (refine zt ?_;try intro h) | refine zu (λ h=>?_) λ h=>?_ | fail
 .rw [if_pos (by simpa using d)] at a;cases a;have i:(x !=(M:Int))=true:=by simpa using d
  refine c_ Tryz.f149 λ_=>?_
  repeat' first | (refine gN hE ?_;conv=>whnf) | refine .pure _ [] c ?_ | refine .pure _ [] b ?_ | refine .pure _ [] hs ?_ | refine ⟨4,rfl,?_⟩ | refine ⟨8,rfl,?_⟩ | refine ⟨8+N,l,?_⟩ | refine zE i ?_ | exact rfl | (refine zt ?_;try intro h) | refine zu (λ h=>?_) λ h=>?_ | fail
def aHL (s:List UInt8):dW s<4294967296:=by
 unfold dW;split
 .rename_i a b c d _;have:=a.toNat_lt;have:=b.toNat_lt;have:=c.toNat_lt;have:=d.toNat_lt;omega
 .decide
def OS (s:List UInt8) (h:4<=s.length):ar 224 [.str s] [] (.ret (i4 (dW s:Nat))) []:=by
 match s,h with
 | a::b::c::d::r,_=>exact aDH a b c d r
 | [],h | [_],h | [_,_],h | [_,_,_],h=>simp at h
def N4 (s:List UInt8) (hm:s.length<=1000000000):ar 149 [.str s] [] (.ret (.tup [.str (rdT s),ii (rdN s),ii (jN s)])) []:=by
 by_cases q:s.length<8
 .have e:jN s=10:=if_pos q;unfold rdT rdN;rw [e];refine c_ Tryz.f149 λ_=>?_
  repeat' first | (refine gN hE ?_;conv=>whnf) | exact rfl | (refine zt ?_;try intro h) | refine zu (λ h=>?_) λ h=>?_ | fail
 .refine YU s hm (dW s) (dW (s.drop 4)) _ q (aHL s) (OS s o_) (OS _ (by rw [Ei];omega)) (G7 _) _ _ _ ?_;have d:(s.take (8+dW s)).drop 8=qM s:=by rw [List.drop_take];simp [qM]
  rw [d];unfold rdT rdN jN;rw [if_neg q];by_cases a:16384<dW s
  .rw [if_pos a,if_pos a];rfl
  by_cases b:(s.length:Int)-8<dW s
  .rw [if_neg a,if_neg a,if_pos b,if_pos b];rfl
  rw [if_neg a,if_neg a,if_neg b,if_neg b];have e:(s.drop 8).take (dW s)=qM s:=rfl;rw [e];generalize wO (qM s)=X;generalize ((dW (s.drop 4):Nat):Int)=Y;by_cases c:X=Y
  .simp [c]
  .simp [c]
abbrev tDk:TypeId:=134
abbrev bP:aa:=.slice 1 [] .nil
abbrev wtB (x:List UInt8):aa:=.slice 1 (x.map ub) .no
def sfV (f:Bool) (k:Nat) (s:List UInt8):aa:=.slice 1 (s.map ub) (match f with | true=>.own k 0 | false=>.full)
def sfT (f:Bool):List ab:=match f with | true=>[.tail 0 1 5] | false=>[]
def sgV (f:Bool) (k:Nat) (s:List UInt8):aa:=.slice 1 (s.map ub) (match f with | true=>.own k 1 | false=>.own k 0)
def sgT (f:Bool):List ab:=match f with | true=>[.tail 1 1 5] | false=>[.tail 0 1 5]
abbrev dkC (n:Int) (safe w:aa) (sw:Bool):ab:=.cells tDk [ii n,safe,w,.bool sw]
abbrev dkO (f:Bool) (n:Int) (s:List UInt8) (w:aa) (sw:Bool):List ab:=dkC n (sfV f 1 s) w sw::sfT f
def aHg (n:Int):ar 25 [ii n] [] (.ret (.ref 0 0)) [dkC (min (max n 0) 1048576) (.slice 1 [] .nil) bP false]:=by refine cT (E:=E) (fn:=Tryz.f25) (g:=.full 0 _ _) λ_=>?_;exact zW
def tQ (f:Bool) (n:Int) (s:List UInt8) (hs:(s.length:Int)<=9223372036854775807):ar 83 [.ref 0 0] (dkO f n s bP false) (.ret (.str s)) (dkO f n s bP false):=by
 have a:s.map ub=s.map ub:=rfl;cases f
 .refine cT (E:=E) (fn:=Tryz.f83) (g:=.full 1 _ _) λ_=>?_;exact zW
 .refine cT (E:=E) (fn:=Tryz.f83) (g:=.full 2 _ _) λ_=>?_;exact zW
def BC (f:Bool) (n:Int) (s x:List UInt8) (b:Bool):ar 202 [.ref 0 0] (dkO f n s (wtB x) b) (.ret (ii ((x.map ub).length:Nat))) (dkO f n s (wtB x) b):=by
 cases f
 .refine cT (E:=E) (fn:=Tryz.f202) (g:=.full 1 _ _) λ_=>?_;exact zW
 .refine cT (E:=E) (fn:=Tryz.f202) (g:=.full 2 _ _) λ_=>?_;exact zW
def N3 (f:Bool) (n:Int) (s:List UInt8) (a:0<=n) (h1:n<=1048576) (hs:(s.length:Int)<=1048576):ar 213 [.ref 0 0] (dkO f n s bP false) (.ret (ii (n-((0:Nat):Int)-((s.map ub).length:Nat)))) (dkO f n s bP false):=by
 have hl:(s.map ub).length=s.length:=by simp
 have hz:([]:List aa).length=0:=rfl;cases f
 .refine cT (E:=E) (fn:=Tryz.f213) (g:=.full 1 _ _) λ_=>?_;exact zW
 .refine cT (E:=E) (fn:=Tryz.f213) (g:=.full 2 _ _) λ_=>?_;exact zW
def GZ (f:Bool) (n:Int) (s x:List UInt8) (a:0<=n) (h1:n<=1048576) (hs:(s.length:Int)<=1048576) (b:n-s.length<x.length):ar 140 [.ref 0 0,.str x] (dkO f n s bP false) (.ret (ii 9)) (dkO f n s bP false):=by
 have hl:(s.map ub).length=s.length:=by simp
 have h:=N3 f n s a h1 hs;exact zqta1
def GY (f:Bool) (n:Int) (s x:List UInt8) (b:0<=n) (h1:n<=1048576) (hs:(s.length:Int)<=1048576) (c:(x.length:Int)<=n-s.length):
  ar 140 [.ref 0 0,.str x] (dkO f n s bP false) (.ret (ii 0)) (dkO f n s (.slice 1 (x.map ub) (.own (match f with | true=>2 | false=>1) 0)) false++[.tail 0 1 5]):=by
 have hl:(s.map ub).length=s.length:=by simp
 have a:(x.map ub).length=x.length:=by simp
 have h:=N3 f n s b h1 hs;exact zqta1
def aFc (f:Bool) (n:Int) (s x:List UInt8) (a:n<x.length):ar 128 [.ref 0 0,.str x] (dkO f n s bP false) (.ret (ii 9)) (dkO f n s bP false):=by exact zqta0
def TO (f:Bool) (n:Int) (s x:List UInt8) (a:(x.length:Int)<=n):ar 128 [.ref 0 0,.str x] (dkO f n s bP false) (.ret (ii 0)) (dkO f n s (wtB x) true):=by exact zqta0
def dZ (keep:Int) (m:Nat):Nat:=(min (max keep 0) (m:Int)).toNat
def I4 (keep:Int) (m:Nat):min (max keep 0) (m:Int)=((dZ keep m:Nat):Int)/\dZ keep m<=m:=by unfold dZ;omega
def RJ (f:Bool) (n:Int) (s x:List UInt8):ar 60 [.ref 0 0,ii ((x.map ub).length:Nat)] (dkO f n s (wtB x) true) (.ret (.tup [])) (dkC n (.slice 1 (x.map ub) .full) bP false::sfT f):=by
 have key:∀ y,(x.map ub).take (x.map ub).length=y->ar 60 [.ref 0 0,ii ((x.map ub).length:Nat)] (dkO f n s (wtB x) true) (.ret (.tup [])) (dkC n (.slice 1 y .full) bP false::sfT f):=by
  intro y b;subst b;have a:min (max ((x.map ub).length:Int) 0) ((x.map ub).length:Int)=((x.map ub).length:Int):=o_;have c:(min (max ((x.map ub).length:Int) 0) ((x.map ub).length:Int)==((x.map ub).length:Int))=true:=by rw [a];exact beq_self_eq_true _
  cases f
  .refine cT (E:=E) (fn:=Tryz.f60) (g:=.full 1 _ _) λ_=>?_;exact zW
  .exact zqta3
 exact key _ (Ge)
def G8 (n:Int) (s x:List UInt8) (keep:Int) (hs:s.length<=1048576) (i:x.length<=1048576):
  ar 60 [.ref 0 0,ii keep] (dkO true n s (wtB x) false) (.ret (.tup [])) (dkC n (sgV true 1 (s++x.take (dZ keep x.length))) bP false::sgT true):=by
 have a:(x.map ub).length=x.length:=by simp
 have e:(s.map ub).length=s.length:=by simp
 obtain ⟨h,b⟩:=I4 keep x.length;rw [<-a] at h b;have c:((x.map ub).take (dZ keep (x.map ub).length)).length<=x.length:=by rw [Dp];omega
 have key:∀ y,s.map ub++(x.map ub).take (dZ keep (x.map ub).length)=y->ar 60 [.ref 0 0,ii keep] (dkO true n s (wtB x) false) (.ret (.tup [])) (dkC n (.slice 1 y (.own 1 1)) bP false::sgT true):=by intro y d;subst d;exact zqta3
 refine key _ ?_;rw [a,Bm,Gh]
def DY (n:Int) (s x:List UInt8) (keep:Int) (hs:s.length<=1048576) (k:x.length<=1048576) (c:x.take (dZ keep x.length)≠[]):
  ar 60 [.ref 0 0,ii keep] (dkO false n s (wtB x) false) (.ret (.tup [])) (dkC n (sgV false 1 (s++x.take (dZ keep x.length))) bP false::sgT false):=by
 have a:(x.map ub).length=x.length:=by simp
 have e:(s.map ub).length=s.length:=by simp
 obtain ⟨h,b⟩:=I4 keep x.length;rw [<-a] at h b;have j:((x.map ub).take (dZ keep (x.map ub).length)).length<=x.length:=by rw [Dp];omega
 have d:(x.map ub).take (dZ keep (x.map ub).length)≠[]:=by rw [a,<-Gh];simpa using c
 have key:∀ y,s.map ub++(x.map ub).take (dZ keep (x.map ub).length)=y->ar 60 [.ref 0 0,ii keep] (dkO false n s (wtB x) false) (.ret (.tup [])) (dkC n (.slice 1 y (.own 1 0)) bP false::sgT false):=by intro y i;subst i;refine cT (E:=(Eo [34] [])) (fn:=Tryz.f60) (g:=.full 1 _ _) λ_=>?_;exact zW
 refine key _ ?_;rw [a,Bm,Gh]
def RL (n:Int) (s x:List UInt8) (keep:Int) (hs:s.length<=1048576) (k:x.length<=1048576) (d:x.take (dZ keep x.length)=[]):
  ar 60 [.ref 0 0,ii keep] (dkO false n s (wtB x) false) (.ret (.tup [])) (dkO false n s bP false):=by
 have b:(x.map ub).length=x.length:=by simp
 have i:(s.map ub).length=s.length:=by simp
 obtain ⟨e,c⟩:=I4 keep x.length;rw [<-b] at e c;have a:(x.map ub).take (dZ keep (x.map ub).length)=[]:=by rw [b,<-Gh,d];rfl
 have j:((x.map ub).take (dZ keep (x.map ub).length)).length=0:=by rw [a];rfl
 refine cT (E:=(Ex [34] [34] [])) (fn:=Tryz.f60) (g:=.full 1 _ _) λ_=>?_
 repeat' first | (refine gN (hEx [34] [34] []) ?_;conv=>whnf) | refine ⟨_,e,?_⟩ | refine Ac a ?_ | refine Ac (wD o_ d_) ?_ | refine zM ?_ | exact rfl | (refine zt ?_;try intro h) | refine zu (λ h=>?_) λ h=>?_ | fail
 exact zx [0]
def RM (n:Int) (s:List UInt8) (keep:Int) (hs:s.length<=1048576):
  ar 60 [.ref 0 0,ii keep] (dkO true n s bP false) (.ret (.tup [])) (dkC n (sgV true 1 s) bP false::sgT true):=by
 have a:(s.map ub).length=s.length:=by simp
 have c:min (max keep 0) ((([]:List aa).length:Nat):Int)=((0:Nat):Int):=by show min (max keep 0) 0=0;omega
 have key:∀ y,s.map ub++[]=y->ar 60 [.ref 0 0,ii keep] (dkO true n s bP false) (.ret (.tup [])) (dkC n (.slice 1 y (.own 1 1)) bP false::sgT true):=by intro y b;subst b;exact zqta3
 exact key _ (Av _)
def RN (n:Int) (s:List UInt8) (keep:Int) (hs:s.length<=1048576):
  ar 60 [.ref 0 0,ii keep] (dkO false n s bP false) (.ret (.tup [])) (dkO false n s bP false):=by
 have a:(s.map ub).length=s.length:=by simp
 have b:min (max keep 0) ((([]:List aa).length:Nat):Int)=((0:Nat):Int):=by show min (max keep 0) 0=0;omega
 refine cT (E:=(Ex [34] [34] [])) (fn:=Tryz.f60) (g:=.full 1 _ _) λ_=>?_
 repeat' first | (refine gN (hEx [34] [34] []) ?_;conv=>whnf) | refine ⟨_,b,?_⟩ | refine Ac rfl ?_ | refine Ac (wD o_ d_) ?_ | refine zM ?_ | exact rfl | (refine zt ?_;try intro h) | refine zu (λ h=>?_) λ h=>?_ | fail
 exact zx [0]
def CX (x:List UInt8):x.take (dZ ((x.map ub).length:Nat) x.length)=x:=by
 have e:dZ ((x.map ub).length:Nat) x.length=x.length:=by unfold dZ;rw [Ch];omega
 rw [e,Ge]
def aEy (f:Bool) (n:Int) (s x:List UInt8) (hs:s.length<=1048576) (c:x.length<=1048576) (a:x≠[]):
  ar 129 [.ref 0 0] (dkO f n s (wtB x) false) (.ret (.tup [])) (dkC n (sgV f 1 (s++x)) bP false::sgT f):=by
 have h:=BC f n s x false;cases f
 .have b:=DY n s x ((x.map ub).length:Nat) hs c (by rw [CX];exact a);rw [CX] at b;exact zqta5
 .have b:=G8 n s x ((x.map ub).length:Nat) hs c;rw [CX] at b;exact zqta6
def FA (f:Bool) (n:Int) (s x:List UInt8):ar 129 [.ref 0 0] (dkO f n s (wtB x) true) (.ret (.tup [])) (dkC n (.slice 1 (x.map ub) .full) bP false::sfT f):=by
 have h:=BC f n s x true;have a:=RJ f n s x;cases f
 .exact zqta5
 .exact zqta6
abbrev tJn:TypeId:=220
abbrev jnO (d:Nat) (m:Int):ab:=.cells tJn [.ref d 0,ii m]
abbrev jdO (m:Int) (f:Bool) (n:Int) (s:List UInt8):List ab:=jnO 1 m::dkC n (sfV f 2 s) bP false::sfT f
def XT (f:Bool) (m n:Int) (s x:List UInt8) (a:16384<x.length):ar 72 [.ref 0 0,.str x] (jdO m f n s) (.ret (ii 8)) (jdO m f n s):=by
 cases f
 .refine cT (E:=E) (fn:=Tryz.f72) (g:=.full 2 _ _) λ_=>?_;exact zW
 .refine cT (E:=E) (fn:=Tryz.f72) (g:=.full 3 _ _) λ_=>?_;exact zW
def aGd (f:Bool) (m n:Int) (s x:List UInt8) (d:x.length<=16384) (c:0<=n) (h1:n<=1048576) (hs:(s.length:Int)<=1048576) (e:n-s.length<x.length+8):
  ar 72 [.ref 0 0,.str x] (jdO m f n s) (.ret (ii 9)) (jdO m f n s):=by
 have a:=nX x d;have b:=GZ f n s (frm x) c h1 hs (by rw [dN];omega);cases f
 all_goals
  refine cT (E:=E) (fn:=Tryz.f72) (g:=.full _ _ _) λ_=>?_
  repeat' first | (refine gN hE ?_;conv=>whnf) | refine .pure _ [] a ?_ | refine .sole rfl (.eff [] [1] _ _ rfl b ?_) | refine .sole rfl (.eff [] [1,2] _ _ rfl b ?_) | exact zx [0,1] | exact zx [0,1,2] | exact rfl | (refine zt ?_;try intro h) | refine zu (λ h=>?_) λ h=>?_ | fail
def aGc (f:Bool) (m n:Int) (s x:List UInt8) (hm:0<=m/\m<=1000000) (i:x.length<=16384) (d:0<=n) (h1:n<=1048576) (hs:(s.length:Int)<=1048576) (j:(x.length:Int)+8<=n-s.length):
  ar 72 [.ref 0 0,.str x] (jdO m f n s) (.ret (ii 0)) (jnO 1 (m+1)::dkC n (sgV f 2 (s++frm x)) bP false::sgT f):=by
 have a:=nX x i;have hl:=dN x;have c:=GY f n s (frm x) d h1 hs (by rw [dN];omega);have b:=aEy f n s (frm x) o_ o_ (by intro e;rw [e] at hl;simp at hl);cases f
 all_goals
  refine cT (E:=E) (fn:=Tryz.f72) (g:=.full _ _ _) λ_=>?_
  repeat' first | (refine gN hE ?_;conv=>whnf) | refine .pure _ [] a ?_ | refine .sole rfl (.eff [] [1] _ _ rfl c ?_) | refine .sole rfl (.eff [] [1,2] _ _ rfl c ?_) | refine .eff [] [1] _ _ rfl b ?_ | refine .eff [] [1,2] _ _ rfl b ?_ | exact zx [0,1,3] | exact zx [0,1,2] | exact rfl | (refine zt ?_;try intro h) | refine zu (λ h=>?_) λ h=>?_ | fail
def XS (f:Bool) (m n:Int) (s x:List UInt8) (a:16384<x.length):ar 80 [.ref 0 0,.str x] (jdO m f n s) (.ret (ii 8)) (jdO m f n s):=by
 cases f
 .refine cT (E:=E) (fn:=Tryz.f80) (g:=.full 2 _ _) λ_=>?_;exact zW
 .refine cT (E:=E) (fn:=Tryz.f80) (g:=.full 3 _ _) λ_=>?_;exact zW
def aF9 (f:Bool) (m n:Int) (s x:List UInt8) (d:x.length<=16384) (c:0<=n) (h1:n<=1048576) (hs:(s.length:Int)<=1048576) (e:n-s.length<x.length+8):
  ar 80 [.ref 0 0,.str x] (jdO m f n s) (.ret (ii 9)) (jdO m f n s):=by
 have a:=nX x d;have b:=GZ f n s (frm x) c h1 hs (by rw [dN];omega);cases f
 all_goals
  refine cT (E:=E) (fn:=Tryz.f80) (g:=.full _ _ _) λ_=>?_
  repeat' first | (refine gN hE ?_;conv=>whnf) | refine .pure _ [] a ?_ | refine .sole rfl (.eff [] [1] _ _ rfl b ?_) | refine .sole rfl (.eff [] [1,2] _ _ rfl b ?_) | exact zx [0,1] | exact zx [0,1,2] | exact rfl | (refine zt ?_;try intro h) | refine zu (λ h=>?_) λ h=>?_ | fail
def aF8 (f:Bool) (m n:Int) (s x:List UInt8) (d:x.length<=16384) (c:0<=n) (h1:n<=1048576) (hs:(s.length:Int)<=1048576) (e:(x.length:Int)+8<=n-s.length):
  ar 80 [.ref 0 0,.str x] (jdO m f n s) (.ret (ii 0)) (jnO 1 m::dkC n (sfV f 2 s) (wtB (frm x)) false::sfT f):=by
 have a:=nX x d;have b:=GY f n s (frm x) c h1 hs (by rw [dN];omega);cases f
 all_goals
  refine cT (E:=E) (fn:=Tryz.f80) (g:=.full _ _ _) λ_=>?_
  repeat' first | (refine gN hE ?_;conv=>whnf) | refine .pure _ [] a ?_ | refine .sole rfl (.eff [] [1] _ _ rfl b ?_) | refine .sole rfl (.eff [] [1,2] _ _ rfl b ?_) | exact zx [0,1] | exact zx [0,1,2] | exact rfl | (refine zt ?_;try intro h) | refine zu (λ h=>?_) λ h=>?_ | fail
abbrev tB:TypeId:=158
def SF (x:List UInt8) (b:x.length<=1048576):ar 87 [.ref 0 0,.str x] [.cells tB [.nilptr,bP]] (.ret (.tup [ii (x.length:Nat),.nilif])) [.cells tB [.ref 0 0,.slice 1 (x.map ub) (.own 1 0)],.tail 0 1 5]:=by
 have a:(x.map ub).length=x.length:=by simp
 have h1:=TB.cc_fresh bP;refine cT (E:=E) (fn:=Tryz.f87) (g:=.full 1 _ _) λ_=>?_;exact zW
def aGa (f:Bool) (m n:Int) (s x:List UInt8) (j:x.length<=16384) (k:(x.length:Int)+8<=n):
  ar 74 [.ref 0 0,.slice 1 [.str x] .no] (jdO m f n s) (.ret (ii 0)) (jnO 1 1::dkC n (sfV false 2 (frm x)) bP false::sfT f):=by
 have d:=nX x j;have hl:=dN x;have i:frm x≠[]:=λ e=>by rw [e] at hl;simp at hl
 have b:=SF (frm x) o_;have hst:=TB.str_ok (frm x) i (.ref 0 0);have c:=TO f n s (frm x) o_;have a:=FA f n s (frm x);cases f
 all_goals
  refine cT (E:=E) (fn:=Tryz.f74) (g:=.full _ _ _) λ_=>?_
  repeat' first | (refine gN hE ?_;conv=>whnf) | exact rfl | (refine zt ?_;try intro h) | refine zu (λ h=>?_) λ h=>?_ | fail
  refine gV ?_;refine aT (h:=λ h=>?_) (by show (0:Int)<((1:Nat):Int);decide)
  repeat' first | (refine gN hE ?_;conv=>whnf) | refine .pure _ [] d ?_ | refine .eff [] [2] _ _ rfl b ?_ | refine .eff [] [3] _ _ rfl b ?_ | exact rfl | (refine zt ?_;try intro h) | refine zu (λ h=>?_) λ h=>?_ | fail
  refine gV ?_;refine aF (h:=λ h=>?_) (by show ¬ (0:Int)+1<((1:Nat):Int);decide);refine cO hE 2 ?_;conv=>whnf
  refine To.permAt hE [0,1,2,3] [4,5,6] (by rfl) ?_;conv=>whnf
  repeat (refine aL ?_;conv=>whnf;(try conv=>whnf))
  first
   | refine .eff [] [2,3] _ _ rfl hst ?_
   | refine .eff [] [3,4] _ _ rfl hst ?_;conv=>whnf
  repeat (refine aL ?_;conv=>whnf;(try conv=>whnf))
  first
   | refine .eff [] [1] _ _ rfl c ?_
   | refine .eff [] [1,2] _ _ rfl c ?_;conv=>whnf
  repeat (refine aL ?_;conv=>whnf;(try conv=>whnf))
  repeat' first | (refine gN hE ?_;conv=>whnf) | refine .eff [] [1] _ _ rfl a ?_ | refine .eff [] [1,2] _ _ rfl a ?_ | exact zx [0,1] | exact zx [0,1,2] | exact rfl | (refine zt ?_;try intro h) | refine zu (λ h=>?_) λ h=>?_ | fail
def aLM {n a:Nat} (h:n<=1048576) (b:a<=1000):zX (n+1) a:=Ac (by simp only [maxLen];omega) (Cz (Gj (show n+1<=1048577 by omega) b) d_)
abbrev stO (s:List UInt8):ab:=.cells 9 [.str s]
abbrev nxF:aa:=.func (.func 148) [] [.ref 1 0]
def X6 (s:List UInt8):ar 85 [.str s] [] (.ret (.func (.func 148) [] [.ref 0 0])) [stO s]:=by refine cT (E:=E) (fn:=Tryz.f85) (g:=.full 0 _ _) λ_=>?_;exact zW
def aJy (s:List UInt8) (hm:s.length<=1000000000) (h:jN s≠0):ar 148 [.ref 0 0] [stO s] (.ret (.tup [.str [],ii 0,.bool false])) [stO s]:=by
 have h1:=N4 s hm;have a:(jN s !=0)=true:=by simpa using h
 generalize jN s=e at *
 generalize rdT s=t at *
 generalize rdN s=n at *
 exact zqta7
def aFD (s:List UInt8) (hm:s.length<=1000000000) (h:jN s=0) (b:dW s+8<=s.length):ar 148 [.ref 0 0] [stO s] (.ret (.tup [.str (qM s),ii ((dW s:Int)+8),.bool true])) [stO (s.drop (dW s+8))]:=by
 have h1:=N4 s hm;unfold rdT rdN at h1;rw [h,if_pos rfl,if_pos rfl] at h1;have a:(dW s:Int)+8=((dW s+8:Nat):Int):=by simp
 generalize qM s=t at *
 generalize dW s=n at *
 exact zqta7
abbrev nH (l:List (List UInt8)):List aa:=l.map aa.str
noncomputable abbrev aId:Func:=Tryz.f39
def FJ (r:List UInt8) (f:jN r≠0) (R:List (List UInt8)) (N:Int) (j:0<=N/\N<=1000000000):∀ (l a:List (List UInt8)) (at':Int),(∀ t∈l,t.length<=16384)->(dY l++r).length<=1000000000->a.length+l.length<=1000000->0<=at'->a++l=R->at'+nL l=N->
  To (Eo [4] []) aId (.pure (.ret (.tup [.slice 1 (nH R) .no,ii N]))) (.head (stk aId 0) [(4,.slice 1 (nH a) (.own 0 0)),(5,ii at'),(6,nxF)] [.tail 0 1 9,stO (dY l++r)])
 | [],a,at',_,hm,_,_,hR,c=>by
  have h1:=aJy (dY []++r) hm f;rw [Av] at hR;have c:at'+((0:Nat):Int)=N:=c;have c:at'=N:=o_;subst hR c;refine gV ?_
  repeat' first | (refine gN (hEo [4] []) ?_;conv=>whnf) | refine .eff [] [1] _ _ rfl h1 ?_ | exact rfl | (refine zt ?_;try intro h) | refine zu (λ h=>?_) λ h=>?_ | fail
 | t::l,a,at',hl,hm,ha,h0,hR,c=>by
  have o:dY (t::l)++r=frm t++(dY l++r):=Af ..;have g:=hl t (Ap ..);obtain ⟨m,i⟩:=aAX t (dY l++r) g;have e:dW (frm t++(dY l++r))=t.length:=by unfold frm;rw [Af,Af,sF _ _ o_]
  rw [o] at hm⊢;have b:=dN t;rw [Ai,b] at hm;have h1:=aFD (frm t++(dY l++r)) (by rw [Ai,b];exact hm) m (by rw [e,Ai,b];omega);rw [i,e,show t.length+8=(frm t).length from b.symm,Jj] at h1;have hs:nL (t::l)=t.length+8+nL l:=rfl;rw [hs] at c;simp only [Al] at ha;have ao:=FJ r f R N j l (a++[t]) (at'+((t.length:Int)+8)) (λ x k=>hl x (Bd _ k)) o_ q_ o_ (by rw [Af];exact hR) o_
  have n:nH (a++[t])=nH a++[.str t]:=by simp
  rw [n] at ao
  have d:(nH a).length<=1048576:=by simp;omega
  generalize frm t++(dY l++r)=s at *
  refine gV ?_
  repeat' first | (refine gN (hEo [4] []) ?_;conv=>whnf) | refine .eff [] [1] _ _ rfl h1 ?_ | refine Ac (aLM d d_) ?_ | exact rfl | (refine zt ?_;try intro h) | refine zu (λ h=>?_) λ h=>?_ | fail
  refine To.part [4,5,6] [0,1] rfl rfl rfl ?_;exact ao
def TE (l:List (List UInt8)) (r:List UInt8) (a:jN r≠0) (hl:∀ t∈l,t.length<=16384) (hm:(dY l++r).length<=1000000):ar 39 [.str (dY l++r)] [] (.ret (.tup [.slice 1 (nH l) .no,ii (nL l)])) []:=by
 have h1:=X6 (dY l++r);have b:=qV l;have h3:∀ l:List (List UInt8),l.length<=nL l:=λ l=>by
  induction l with
  | nil=>exact Bc _
  | cons t l d=>show l.length+1<=t.length+8+nL l;omega
 have c:=h3 l;rw [Ai] at hm;have ao:=FJ r a l (nL l) o_ l [] 0 hl (by rw [Ai];omega) q_ o_ rfl o_
 refine cT (E:=(Eo [4] [])) (fn:=Tryz.f39) (g:=.pure _) λ_=>?_
 repeat' first | (refine gN (hEo [4] []) ?_;conv=>whnf) | refine .pure _ _ h1 ?_ | exact rfl | (refine zt ?_;try intro h) | refine zu (λ h=>?_) λ h=>?_ | fail
 refine To.part [4,5,6] [0,1] rfl rfl rfl ?_;exact ao
abbrev jdN (f:Bool):Nat:=match f with | true=>2 | false=>1
def aB6 (f:Bool) (n:Int) (l:List (List UInt8)) (hl:∀ t∈l,t.length<=16384) (hm:(dY l).length<=1000000):
  ar 68 [.ref 0 0] (dkO f n (dY l) bP false) (.ret (.tup [.ref (jdN f) 0,.slice 1 (nH l) .no])) (dkO f n (dY l) bP false++[jnO 0 l.length]):=by
 have h1:=tQ f n (dY l) o_;have b:=TE l [] aAW hl (by rw [Av];exact hm);rw [Av] at b;have h3:=qV l;generalize dY l=s at *
 have a:(nH l).length=l.length:=by simp
 rw [<-a];generalize nL l=k at *
 exact zqta2
def QA (f:Bool) (n:Int) (l:List (List UInt8)) (r:List UInt8) (i:jN r≠0) (a:r≠[]) (hl:∀ t∈l,t.length<=16384) (hm:(dY l++r).length<=1000000) (c:((dY l).length:Int)<=n):
  ar 68 [.ref 0 0] (dkO f n (dY l++r) bP false) (.ret (.tup [.ref (jdN f) 0,.slice 1 (nH l) .no])) (dkC n (sfV false 1 (dY l)) bP false::sfT f++[jnO 0 l.length]):=by
 have h1:=tQ f n (dY l++r) o_;have d:=TE l r i hl hm;have h3:=qV l;have m:((dY l++r).length:Int)=(dY l).length+r.length:=by rw [Ai];omega
 have o:0<r.length:=Dy.2 a;have b:(dY l++r).take (dY l).length=dY l:=Hl ..;have k:=TO f n (dY l++r) ((dY l++r).take (dY l).length) (by rw [b];exact c);have e:=FA f n (dY l++r) ((dY l++r).take (dY l).length);rw [<-h3] at d;generalize dY l=s at *
 generalize s++r=sr at *
 have h:(nH l).length=l.length:=by simp
 rw [<-h]
 suffices key:∀ y,sr.take s.length=y->ar 68 [.ref 0 0] (dkO f n sr bP false) (.ret (.tup [.ref (jdN f) 0,.slice 1 (nH l) .no])) (dkC n (sfV false 1 y) bP false::sfT f++[jnO 0 (nH l).length]) from key _ b
 intro y j;subst j;exact zqta2
end Go.Proofs.YtidhfoefaomodaaGreatDoor
namespace Go.AW
def aA.wk1 {P:Program} {f:FuncId} {args:List aa} {r:Res} {T:TypeId} {cs cs':List aa} (h:aA P f args [] r [.cells T cs]) (hl:cs'.length=cs.length)
  (C:∀ (M:Imm) (ob:Hs) (i:Nat) v m,cs'[i]? =some m->∃ a,cs[i]? =some a/\(Rep M ob v a->Rep M ob v m)):aA P f args [] r [.cells T cs']:=
 λ M ob w g hm z=>cI.mono (λ e w' ⟨M',ob',d,j,A⟩=>by
  have n:∀ {k b},aG ob' [.cells T cs'] k b->aG ob' [.cells T cs] k b:=λ{k b} ⟨c,hs,e1,e2,e3,e4⟩=>by
   cases k with
   | zero=>exact ⟨_,hs,rfl,rfl,e3,e4⟩
   | succ k=>simp at e1
  refine ⟨M',ob',⟨d.imm,d.new,d.hs,d.os,d.tape,d.output,d.size,d.keep,λ k b l=>d.fresh k b (n l)⟩,⟨j.imm,j.len,λ k c o=>?_,λ k b l=>j.lt k b (n l),λ k t b h1 p=>j.inj k t b (n h1) (n p)⟩,A⟩;cases k with
  | zero=>
   simp at o;subst o;obtain ⟨hs,h1,b,p,h3,cv,q,y,s,B⟩:=j.obj 0 _ rfl;refine ⟨hs,h1,b,p,h3,cv,q,by rw [y,hl],s,λ i v m x l=>?_⟩;obtain ⟨a,D,u⟩:=C M' ob' i v m l;exact u (B i v a x D)
  | succ k=>simp at o) (h M ob w g hm z)
end Go.AW
namespace Go.Proofs.YtidhfoefaomodaaGreatDoor
open Go Go.AW Go.Proofs
set_option maxRecDepth 10000
def YR (n:Int):ar 25 [ii n] [] (.ret (.ref 0 0)) [dkC (min (max n 0) 1048576) (sfV false 1 []) bP false]:=by
 refine (aHg n).wk1 rfl λ M ob i v l c=>?_
 match i with
 | 0=>exact ⟨_,rfl,λ h=>by cases c;exact h⟩
 | 1=>
  refine ⟨_,rfl,λ h=>?_⟩;cases c;cases h with
  | slnil e t d=>exact .slnil _ _ ⟨_,_,rfl⟩
  | slemp e t a cap d=>cases d
  | sl e b o n cap xs t g j hm hz h d=>cases d
 | 2=>exact ⟨_,rfl,λ h=>by cases c;exact h⟩
 | 3=>exact ⟨_,rfl,λ h=>by cases c;exact h⟩
 | k+4=>simp at c
abbrev YN (m:List UInt8):aa:=.iface 416 (.ptr [.str m])
def aLC (m:List UInt8):ar 70 [.nilif,YN m] [] (.ret (.bool false)) []:=by exact c_ Tryz.f70 λ_=>zW
def aGb (f:Bool) (m n:Int) (s x:List UInt8) (i:x.length<=16384) (j:n<(x.length:Int)+8):
  ar 74 [.ref 0 0,.slice 1 [.str x] .no] (jdO m f n s) (.ret (ii 9)) (jdO m f n s):=by
 have c:=nX x i;have hl:=dN x;have d:frm x≠[]:=λ e=>by rw [e] at hl;simp at hl
 have a:=SF (frm x) o_;have hst:=TB.str_ok (frm x) d (.ref 0 0);have b:=aFc f n s (frm x) o_;cases f
 all_goals
  refine cT (E:=E) (fn:=Tryz.f74) (g:=.full _ _ _) λ_=>?_
  repeat' first | (refine gN hE ?_;conv=>whnf) | exact rfl | (refine zt ?_;try intro h) | refine zu (λ h=>?_) λ h=>?_ | fail
  refine gV ?_;refine aT (h:=λ h=>?_) (by show (0:Int)<((1:Nat):Int);decide)
  repeat' first | (refine gN hE ?_;conv=>whnf) | refine .pure _ [] c ?_ | refine .eff [] [2] _ _ rfl a ?_ | refine .eff [] [3] _ _ rfl a ?_ | exact rfl | (refine zt ?_;try intro h) | refine zu (λ h=>?_) λ h=>?_ | fail
  refine gV ?_;refine aF (h:=λ h=>?_) (by show ¬ (0:Int)+1<((1:Nat):Int);decide);refine cO hE 2 ?_;conv=>whnf
  refine To.permAt hE [0,1,2,3] [4,5,6] (by rfl) ?_;conv=>whnf
  repeat (refine aL ?_;conv=>whnf;(try conv=>whnf))
  first
   | refine .eff [] [2,3] _ _ rfl hst ?_
   | refine .eff [] [3,4] _ _ rfl hst ?_;conv=>whnf
  repeat (refine aL ?_;conv=>whnf;(try conv=>whnf))
  first
   | refine .eff [] [1] _ _ rfl b ?_
   | refine .eff [] [1,2] _ _ rfl b ?_;conv=>whnf
  repeat (refine aL ?_;conv=>whnf;(try conv=>whnf))
  repeat' first | (refine gN hE ?_;conv=>whnf) | exact zx [0,1] | exact zx [0,1,2] | exact rfl | (refine zt ?_;try intro h) | refine zu (λ h=>?_) λ h=>?_ | fail
inductive Rec where
 | c (x:Cmd)
 | s (x:Sta)
def Rec.b:Rec->List UInt8
 | .c x=>67::C8.encB x
 | .s x=>83::bW x
def Rec.to (r:Rec) (s:Sta):Sta:=match r with
 | .c x=>(aV s x).1
 | .s x=>x
def Rec.ok (r:Rec) (s:Sta):Prop:=match r with
 | .c x=>(aV s x).2.2=0/\(x.k=1->x.c.sm)/\s.nxt<1099511627776
 | .s x=>OkT x
def toL:List Rec->Sta->Sta
 | [],s=>s
 | r::l,s=>toL l (r.to s)
def okR:List Rec->Sta->Prop
 | [],_=>True
 | r::l,s=>r.ok s/\(r.b).length<=16384/\okR l (r.to s)
def SV:∀ (l m:List Rec) (s:Sta),toL (l++m) s=toL m (toL l s)
 | [],_,_=>rfl
 | r::l,m,s=>SV l m (r.to s)
def TZ:∀ (l m:List Rec) (s:Sta),okR (l++m) s↔okR l s/\okR m (toL l s)
 | [],_,_=>⟨λ h=>⟨trivial,h⟩,λ h=>h.2⟩
 | r::l,m,s=>by show r.ok s/\_/\okR (l++m) (r.to s)↔(r.ok s/\_/\okR l (r.to s))/\okR m (toL l (r.to s));rw [TZ l m];exact ⟨λ⟨a,b,c,d⟩=>⟨⟨a,b,c⟩,d⟩,λ⟨⟨a,b,c⟩,d⟩=>⟨a,b,c,d⟩⟩
def Rec.okT {r:Rec} {s:Sta} (h:OkT s) (a:r.ok s):OkT (r.to s):=by
 cases r with
 | c x=>exact (h.apply a.2.2 x).1
 | s x=>exact a
def Z4:∀ {l:List Rec} {s:Sta},OkT s->okR l s->OkT (toL l s)
 | [],_,h,_=>h
 | r::l,s,h,hr=>Z4 (l:=l) (s:=r.to s) (r.okT h hr.1) hr.2.2
def aHQ {s:Sta} {x:Cmd} (h:(aV s x).2.2=0):C8.chk x=0:=by
 unfold aV at h;by_cases q:C8.chk x=0
 .exact q
 .rw [if_pos q] at h;exact h
structure Clean (d:Dk):Prop where
 w:d.waits=[]
 sw:d.sw=false
 le:(d.safe.length:Int)<=d.size
 size:d.size<=1048576
structure Kst where
 d:Dk
 n:Int
 s:Sta
structure Kept (t:Kst) (l:List Rec):Prop where
 cl:Clean t.d
 safe:t.d.safe=dY (l.map Rec.b)
 n:t.n=l.length
 ok:okR l oN
 s:t.s=toL l oN
def aHS (d:Dk) (r:List UInt8):Dk:=⟨d.size,d.safe++frm r,[],false⟩
def jA (d:Dk) (r:List UInt8):Int:=if 16384<r.length then 8 else if d.size-d.safe.length<r.length+8 then 9 else 0
def doS (t:Kst) (x:Cmd):Kst×List Ev×Int:=
 if (aV t.s x).2.2≠0 then (t,[],(aV t.s x).2.2)
 else if jA t.d (Rec.b (.c x))≠0 then (t,[],jA t.d (Rec.b (.c x)))
 else (⟨aHS t.d (Rec.b (.c x)),t.n+1,(aV t.s x).1⟩,(aV t.s x).2.1,0)
def kG (t:Kst):Int:=if 16384<(Rec.b (.s t.s)).length then 8 else if t.d.size<(Rec.b (.s t.s)).length+8 then 9 else 0
def pK (t:Kst):Kst:=if kG t=0 then ⟨⟨t.d.size,frm (Rec.b (.s t.s)),[],false⟩,1,t.s⟩ else t
def Kept.do {t:Kst} {l:List Rec} (h:Kept t l) (x:Cmd) (i:x.k=1->x.c.sm) (g:t.s.nxt<1099511627776):∃ f,Kept (doS t x).1 f/\f.length<=l.length+1:=by
 unfold doS;by_cases q:(aV t.s x).2.2=0
 .rw [if_neg (by simpa using q)];by_cases a:jA t.d (Rec.b (.c x))=0
  .rw [if_neg (by simpa using a)];unfold jA at a;split at a
   .cases a
   split at a
   .cases a
   have e:toL (l++[.c x]) oN=(aV t.s x).1:=by rw [SV,<-h.s];rfl
   refine ⟨l++[.c x],⟨⟨rfl,rfl,?_,h.cl.size⟩,?_,?_,?_,e.symm⟩,by simp⟩
   .show ((t.d.safe++frm _).length:Int)<=t.d.size;rw [Ai,dN];omega
   .show t.d.safe++frm _=_;rw [h.safe,Bm,NI];show _=_++(frm _++[])
    rw [Av]
   .show t.n+1=_;rw [h.n,Ai];rfl
   .rw [TZ,<-h.s];exact ⟨h.ok,⟨q,i,g⟩,by omega,trivial⟩
  .rw [if_pos a];exact ⟨l,h,Hv _⟩
 .rw [if_pos q];exact ⟨l,h,Hv _⟩
def Kept.okT {t:Kst} {l:List Rec} (h:Kept t l):OkT t.s:=by rw [h.s];exact Z4 HZ h.ok
def Kept.snap {t:Kst} {l:List Rec} (h:Kept t l):∃ a,Kept (pK t) a/\a.length<=l.length+1:=by
 unfold pK;by_cases q:kG t=0
 .rw [if_pos q];unfold kG at q;split at q
  .cases q
  split at q
  .cases q
  refine ⟨[.s t.s],⟨⟨rfl,rfl,?_,h.cl.size⟩,?_,rfl,⟨h.okT,by omega,trivial⟩,rfl⟩,by simp⟩
  .show ((frm _).length:Int)<=t.d.size;rw [dN];omega
  .show frm _=frm _++[]
   rw [Av]
 .rw [if_neg q];exact ⟨l,h,Hv _⟩
def aLn {s:Sta} {x:Cmd} (h:(aV s x).2.2=0):C8.decX (C8.encB x)=x/\C8.decE (C8.encB x)=0:=C8.dec_enc (aHQ h)
def aLm {s:Sta} (h:OkT s):YT (bW s)=some s:=aHm (JR h.ok) h.lt
def AN:∀ {l:List Rec} {s:Sta},okR l s->∀ t∈l.map Rec.b,t.length<=16384
 | [],_,_,t,h=>by simp at h
 | r::l,s,h,t,a=>by
  rcases Bb.1 a with rfl | a
  .exact h.2.1
  .exact AN h.2.2 t a
structure Kstp where
 k:Int
 x:Cmd
 n:Int
def wrE (t:Kst) (x:Cmd):Int:=if (aV t.s x).2.2≠0 then (aV t.s x).2.2 else jA t.d (Rec.b (.c x))
def ZC (x:Cmd) (n:Int):Bool:=decide (((Rec.b (.c x)).length:Int)+8<=n)
def cM (t:Kst) (p:Kstp):Kst×List Ev×Int:=
 if p.k=1 then doS t p.x
 else if p.k=2 then (pK t,[],kG t)
 else if p.k=4 then (if wrE t p.x≠0 then (t,[],wrE t p.x) else (if ZC p.x p.n then (doS t p.x).1 else t,[],0))
 else if p.k=3\/p.k=5 then (t,[],0)
 else (t,[],1)
def Kept.stepL {t:Kst} {l:List Rec} (h:Kept t l) (p:Kstp) (b:p.x.k=1->p.x.c.sm) (a:t.s.nxt<1099511627776):∃ d,Kept (cM t p).1 d/\d.length<=l.length+1:=by
 unfold cM;split
 .exact h.do p.x b a
 split
 .exact h.snap
 split
 .split
  .exact ⟨l,h,Hv _⟩
  .dsimp only;split
   .exact h.do p.x b a
   .exact ⟨l,h,Hv _⟩
 split
 .exact ⟨l,h,Hv _⟩
 .exact ⟨l,h,Hv _⟩
def aHf (t:Kst) (x:Cmd) (h:OkT t.s) (a:t.s.nxt<1099511627776):(doS t x).1.s.nxt<=t.s.nxt+1:=by
 have:=(h.apply a x).2.1;unfold doS;split
 .show t.s.nxt<=_;omega
 split
 .show t.s.nxt<=_;omega
 .exact this
def S8 (t:Kst):(pK t).s=t.s:=by unfold pK;split<;>rfl
def WR (t:Kst) (p:Kstp) (h:OkT t.s) (a:t.s.nxt<1099511627776):(cM t p).1.s.nxt<=t.s.nxt+1:=by
 have h1:=aHf t p.x h a;unfold cM;split
 .exact h1
 split
 .show (pK t).s.nxt<=_;rw [S8];omega
 split
 .split
  .show t.s.nxt<=_;omega
  .dsimp only;split
   .exact h1
   .omega
 split
 .show t.s.nxt<=_;omega
 .show t.s.nxt<=_;omega
abbrev tSt:TypeId:=144
abbrev stS (s:Sta) (m:Int) (f:Bool) (n:Int) (x:List UInt8):List ab:=.cells tSt (.ref 1 0::s.cs)::jnO 2 m::dkC n (sfV f 3 x) bP false::sfT f
abbrev crB (x:Cmd):List UInt8:=67::C8.encB x
def ID (x:Cmd) (b:(C8.encB x).length<=1000000000):ar 73 [x.av] [] (.ret (.str (crB x))) []:=by
 have h1:=C8.enc_ok x;have a:((1+(C8.encB x).length:Nat):Int)<=9223372036854775807:=o_;refine c_ Tryz.f73 λ_=>?_
 repeat' first | (refine gN hE ?_;conv=>whnf) | refine .pure _ [] h1 ?_ | refine Ac a ?_ | exact rfl | (refine zt ?_;try intro h) | refine zu (λ h=>?_) λ h=>?_ | fail
def YW (s:Sta) (R:Sta×List Ev×Int) (h1:kK s Cmd.zero R):ar 79 [s.av] [] (.ret (.tup [R.1.av,ii R.2.2])) []:=by exact c_ Tryz.f79 λ_=>zW
def WS (s:Sta) (R:Sta×List Ev×Int) (a:kK s Cmd.zero R) (m:Int) (f:Bool) (n:Int) (x:List UInt8):ar 30 [.ref 0 0] (stS s m f n x) (.ret R.1.av) (stS s m f n x):=by
 have h1:=YW s R a;cases f
 .refine cT (E:=E) (fn:=Tryz.f30) (g:=.full 3 _ _) λ_=>?_;exact zW
 .refine cT (E:=E) (fn:=Tryz.f30) (g:=.full 4 _ _) λ_=>?_
  repeat' first | (refine gN hE ?_;conv=>whnf) | refine .pure _ [] h1 ?_ | exact rfl | (refine zt ?_;try intro h) | refine zu (λ h=>?_) λ h=>?_ | fail
  exact zx [0,1,2,3]
def aLc (s:Sta) (c:Cmd) (R:Sta×List Ev×Int) (h1:kK s c R) (a:R.2.2≠0) (m:Int) (f:Bool) (n:Int) (x:List UInt8):
  ar 27 [.ref 0 0,c.av] (stS s m f n x) (.ret (.tup [.slice 3 [] .nil,ii R.2.2])) (stS s m f n x):=by
 obtain ⟨S,ev,e⟩:=R;have b:(e !=0)=true:=by simpa using a
 cases f
 .refine cT (E:=(Er [] [7,8,20,21])) (fn:=Tryz.f27) (g:=.full 3 _ _) λ_=>?_;exact zW
 .refine cT (E:=(Er [] [7,8,20,21])) (fn:=Tryz.f27) (g:=.full 4 _ _) λ_=>?_
  repeat' first | (refine gN (hEr [] [7,8,20,21]) ?_;conv=>whnf) | refine .pure _ [] h1 ?_ | exact zx [0,1,2,3] | exact rfl | (refine zt ?_;try intro h) | refine zu (λ h=>?_) λ h=>?_ | fail
  all_goals (exfalso;clear h1;simp_all)
def aLd (s:Sta) (c:Cmd) (S:Sta) (ev:List Ev) (h1:kK s c (S,ev,0)) (b:(C8.encB c).length<=1000000000) (m:Int) (f:Bool) (n:Int) (x:List UInt8) (e:Int) (a:e≠0)
  (h3:ar 72 [.ref 0 0,.str (crB c)] (jdO m f n x) (.ret (ii e)) (jdO m f n x)):
  ar 27 [.ref 0 0,c.av] (stS s m f n x) (.ret (.tup [.slice 3 [] .nil,ii e])) (stS s m f n x):=by
 have d:=ID c b;have i:(e !=0)=true:=by simpa using a
 cases f
 all_goals
  refine cT (E:=(Er [] [7,8,20,21])) (fn:=Tryz.f27) (g:=.full _ _ _) λ_=>?_
  repeat' first | (refine gN (hEr [] [7,8,20,21]) ?_;conv=>whnf) | refine .pure _ [] h1 ?_ | refine .pure _ [] d ?_ | refine .sole rfl (.eff [] [1,2] _ _ rfl h3 ?_) | refine .sole rfl (.eff [] [1,2,3] _ _ rfl h3 ?_) | exact zx [0,1,2] | exact zx [0,1,2,3] | exact rfl | (refine zt ?_;try intro h) | refine zu (λ h=>?_) λ h=>?_ | fail
 all_goals (exfalso;clear h1;simp_all)
abbrev stG (s:Sta) (m:Int) (f:Bool) (n:Int) (x:List UInt8):List ab:=.cells tSt (.ref 1 0::s.cs)::jnO 2 m::dkC n (sgV f 3 x) bP false::sgT f
def aIW (s:Sta) (c:Cmd) (S:Sta) (ev:List Ev) (h1:kK s c (S,ev,0)) (a:(C8.encB c).length<=1000000000) (m:Int) (f:Bool) (n:Int) (x:List UInt8)
  (h3:ar 72 [.ref 0 0,.str (crB c)] (jdO m f n x) (.ret (ii 0)) (jnO 1 (m+1)::dkC n (sgV f 2 (x++frm (crB c))) bP false::sgT f)):
  ar 27 [.ref 0 0,c.av] (stS s m f n x) (.ret (.tup [.slice 3 (evv ev) .no,ii 0])) (stG S (m+1) f n (x++frm (crB c))):=by
 have b:=ID c a;cases f
 all_goals
  refine cT (E:=(Er [] [7,8,20,21])) (fn:=Tryz.f27) (g:=.full _ _ _) λ_=>?_
  repeat' first | (refine gN (hEr [] [7,8,20,21]) ?_;conv=>whnf) | refine .pure _ [] h1 ?_ | refine .pure _ [] b ?_ | refine .sole rfl (.eff [] [1,2] _ _ rfl h3 ?_) | refine .sole rfl (.eff [] [1,2,3] _ _ rfl h3 ?_) | exact zx [0,1,2,5] | exact zx [0,1,2,3] | exact rfl | (refine zt ?_;try intro h) | refine zu (λ h=>?_) λ h=>?_ | fail
def aIK (s:Sta) (c:Cmd) (R:Sta×List Ev×Int) (h1:kK s c R) (a:R.2.2≠0) (m:Int) (f:Bool) (n:Int) (x:List UInt8):
  ar 31 [.ref 0 0,c.av] (stS s m f n x) (.ret (ii R.2.2)) (stS s m f n x):=by
 obtain ⟨S,ev,e⟩:=R;have b:(e !=0)=true:=by simpa using a
 cases f
 all_goals
  refine cT (E:=(Er [] [6,7,18,19])) (fn:=Tryz.f31) (g:=.full _ _ _) λ_=>?_
  repeat' first | (refine gN (hEr [] [6,7,18,19]) ?_;conv=>whnf) | refine .pure _ [] h1 ?_ | exact zx [0,1,2] | exact zx [0,1,2,3] | exact rfl | (refine zt ?_;try intro h) | refine zu (λ h=>?_) λ h=>?_ | fail
 all_goals (exfalso;clear h1;simp_all)
def aIL (s:Sta) (c:Cmd) (S:Sta) (ev:List Ev) (h1:kK s c (S,ev,0)) (a:(C8.encB c).length<=1000000000) (m:Int) (f:Bool) (n:Int) (x:List UInt8) (e:Int)
  (h3:ar 80 [.ref 0 0,.str (crB c)] (jdO m f n x) (.ret (ii e)) (jdO m f n x)):
  ar 31 [.ref 0 0,c.av] (stS s m f n x) (.ret (ii e)) (stS s m f n x):=by
 have b:=ID c a;cases f
 all_goals
  refine cT (E:=(Er [] [6,7,18,19])) (fn:=Tryz.f31) (g:=.full _ _ _) λ_=>?_
  repeat' first | (refine gN (hEr [] [6,7,18,19]) ?_;conv=>whnf) | refine .pure _ [] h1 ?_ | refine .pure _ [] b ?_ | refine .sole rfl (.eff [] [1,2] _ _ rfl h3 ?_) | refine .sole rfl (.eff [] [1,2,3] _ _ rfl h3 ?_) | exact zx [0,1,2] | exact zx [0,1,2,3] | exact rfl | (refine zt ?_;try intro h) | refine zu (λ h=>?_) λ h=>?_ | fail
def aEC (s:Sta) (c:Cmd) (S:Sta) (ev:List Ev) (h1:kK s c (S,ev,0)) (a:(C8.encB c).length<=1000000000) (m:Int) (f:Bool) (n:Int) (x:List UInt8)
  (h3:ar 80 [.ref 0 0,.str (crB c)] (jdO m f n x) (.ret (ii 0)) (jnO 1 m::dkC n (sfV f 2 x) (wtB (frm (crB c))) false::sfT f)):
  ar 31 [.ref 0 0,c.av] (stS s m f n x) (.ret (ii 0)) (.cells tSt (.ref 1 0::s.cs)::jnO 2 m::dkC n (sfV f 3 x) (wtB (frm (crB c))) false::sfT f):=by
 have b:=ID c a;cases f
 all_goals
  refine cT (E:=(Er [] [6,7,18,19])) (fn:=Tryz.f31) (g:=.full _ _ _) λ_=>?_
  repeat' first | (refine gN (hEr [] [6,7,18,19]) ?_;conv=>whnf) | refine .pure _ [] h1 ?_ | refine .pure _ [] b ?_ | refine .sole rfl (.eff [] [1,2] _ _ rfl h3 ?_) | refine .sole rfl (.eff [] [1,2,3] _ _ rfl h3 ?_) | exact zx [0,1,2] | exact zx [0,1,2,3] | exact rfl | (refine zt ?_;try intro h) | refine zu (λ h=>?_) λ h=>?_ | fail
def aAi (s:Sta) (b:List UInt8) (h1:ar 40 [s.av] [] (.ret (.tup [.str b,ii 0])) []) (d:b.length<=1000000000) (m:Int) (f:Bool) (n:Int) (x:List UInt8) (e:Int)
  (h3:ar 74 [.ref 0 0,.slice 1 [.str (83::b)] .no] (jdO m f n x) (.ret (ii e)) (jdO m f n x)):
  ar 28 [.ref 0 0] (stS s m f n x) (.ret (ii e)) (stS s m f n x):=by
 have a:=aA.strip (args:=[.ref 0 0,.slice 1 [.str (83::b)] .full]) h3;have c:((1+b.length:Nat):Int)<=9223372036854775807:=o_;cases f
 all_goals
  refine cT (E:=E) (fn:=Tryz.f28) (g:=.full _ _ _) λ_=>?_
  repeat' first | (refine gN hE ?_;conv=>whnf) | refine .pure _ [] h1 ?_ | refine Ac c ?_ | refine .eff [] [1,2] _ _ rfl a ?_ | refine .eff [] [1,2,3] _ _ rfl a ?_ | exact zx [0,1,2] | exact zx [0,1,2,3] | exact rfl | (refine zt ?_;try intro h) | refine zu (λ h=>?_) λ h=>?_ | fail
def aAh (s:Sta) (b:List UInt8) (h1:ar 40 [s.av] [] (.ret (.tup [.str b,ii 0])) []) (d:b.length<=1000000000) (m:Int) (f:Bool) (n:Int) (x:List UInt8)
  (h3:ar 74 [.ref 0 0,.slice 1 [.str (83::b)] .no] (jdO m f n x) (.ret (ii 0)) (jnO 1 1::dkC n (sfV false 2 (frm (83::b))) bP false::sfT f)):
  ar 28 [.ref 0 0] (stS s m f n x) (.ret (ii 0)) (.cells tSt (.ref 1 0::s.cs)::jnO 2 1::dkC n (sfV false 3 (frm (83::b))) bP false::sfT f):=by
 have a:=aA.strip (args:=[.ref 0 0,.slice 1 [.str (83::b)] .full]) h3;have c:((1+b.length:Nat):Int)<=9223372036854775807:=o_;cases f
 all_goals
  refine cT (E:=E) (fn:=Tryz.f28) (g:=.full _ _ _) λ_=>?_
  repeat' first | (refine gN hE ?_;conv=>whnf) | refine .pure _ [] h1 ?_ | refine Ac c ?_ | refine .eff [] [1,2] _ _ rfl a ?_ | refine .eff [] [1,2,3] _ _ rfl a ?_ | exact zx [0,1,2] | exact zx [0,1,2,3] | exact rfl | (refine zt ?_;try intro h) | refine zu (λ h=>?_) λ h=>?_ | fail
def aEI (b:List UInt8) (x:Cmd) (h1:ar 43 [.str b] [] (.ret (.tup [x.av,ii 0])) []) (hl:b.length<=1000000):
  ar 130 [.str (67::b)] [] (.ret (.tup [x.av,Sta.nil.av,.bool false,.nilif])) []:=by
 have hz:1<=(67::b).length:=Nat.succ_le_succ (Bv _);refine cT (E:=(Er [] [4,5])) (fn:=Tryz.f130) (g:=.pure _) λ_=>?_
 repeat' first | (refine gN (hEr [] [4,5]) ?_;conv=>whnf) | refine Ac hz ?_ | refine .pure _ [] h1 ?_ | exact rfl | (refine zt ?_;try intro h) | refine zu (λ h=>?_) λ h=>?_ | fail
def aEH (b:List UInt8) (x:Sta) (h1:ar 41 [.str b] [] (.ret (.tup [x.av,ii 0])) []) (hl:b.length<=1000000):
  ar 130 [.str (83::b)] [] (.ret (.tup [Cmd.zero.av,x.av,.bool true,.nilif])) []:=by
 have hz:1<=(83::b).length:=Nat.succ_le_succ (Bv _);refine cT (E:=(Er [] [4,5])) (fn:=Tryz.f130) (g:=.pure _) λ_=>?_
 repeat' first | (refine gN (hEr [] [4,5]) ?_;conv=>whnf) | refine Ac hz ?_ | exact rfl | (refine zt ?_;try intro h) | refine zu (λ h=>?_) λ h=>?_ | fail
 refine .pure _ [] h1 ?_;refine gV ?_;refine Ac (λ_=>?_) (λ h=>absurd h s_);refine cO (hEr [] [4,5]) 1 ?_;conv=>whnf
 refine To.permAt (hEr [] [4,5]) [0,1] [2,3,4,5] (by rfl) ?_;conv=>whnf
 repeat (refine aL ?_;conv=>whnf;(try conv=>whnf))
 exact zW
noncomputable abbrev YD:Func:=Tryz.f69
def PO:Rec->Prop
 | .c x=>ar 130 [.str (67::C8.encB x)] [] (.ret (.tup [x.av,Sta.nil.av,.bool false,.nilif])) []
 | .s x=>ar 130 [.str (83::bW x)] [] (.ret (.tup [Cmd.zero.av,x.av,.bool true,.nilif])) []
def PX (s:Sta):Rec->Prop
 | .c x=>kK s x ((aV s x).1,(aV s x).2.1,0)
 | .s _=>True
def aAG (L:List Rec) (p:L.length<=1000000) (g:Sta->List Rec->Prop) (n:∀ s r l,g s (r::l)->PO r/\PX s r/\g (r.to s) l) (R:Sta):∀ (m i:Nat) (s:Sta),i+m=L.length->g s (L.drop i)->toL (L.drop i) s=R->
  To E YD (.pure (.ret (.tup [R.av,.nilif]))) (.head (stk YD 0) [(2,.ref 0 0),(4,.ref 1 0),(5,.nilif),(14,.slice 1 (nH (L.map Rec.b)) .no),(15,.int .i64 ((nH (L.map Rec.b)).length:Nat)),(16,ii i)] [KC,qF s]):=by
 have k:(nH (L.map Rec.b)).length=L.length:=by simp
 intro m;induction m with
 | zero=>
  intro i s o _ a;rw [Ah o_] at a;have a:s=R:=a;subst a;refine gV ?_;exact zW
 | succ m j=>
  intro i s o e a;have d:i<L.length:=o_;rw [Ae d] at a e;have get:(nH (L.map Rec.b))[i]? =some (.str L[i].b):=by simp [d]
  generalize L[i]=r at a e get;obtain ⟨h1,h,h3⟩:=n _ _ _ e;have ao:=j (i+1) (r.to s) o_ h3 a
  clear j a h3 e;cases r with
  | c x=>
   have h1:ar 130 [.str (67::C8.encB x)] [] (.ret (.tup [x.av,Sta.nil.av,.bool false,.nilif])) []:=h1;have h:kK s x ((aV s x).1,(aV s x).2.1,0):=h;have get:(nH (L.map Rec.b))[i]? =some (.str (67::C8.encB x)):=get;replace ao:To E YD _ (.head (stk YD 0) _ [KC,qF (aV s x).1]):=ao
   generalize (67::C8.encB x)=t at *
   generalize (aV s x).1=S at *
   generalize (aV s x).2.1=ev at *
   refine gV ?_;exact zW
  | s x=>
   have h1:ar 130 [.str (83::bW x)] [] (.ret (.tup [Cmd.zero.av,x.av,.bool true,.nilif])) []:=h1;have get:(nH (L.map Rec.b))[i]? =some (.str (83::bW x)):=get;replace ao:To E YD _ (.head (stk YD 0) _ [KC,qF x]):=ao
   generalize (83::bW x)=t at *
   refine gV ?_;exact zW
def W5 (L:List Rec) (c:L.length<=1000000) (a:Sta->List Rec->Prop) (e:∀ s r l,a s (r::l)->PO r/\PX s r/\a (r.to s) l) (d:a oN L):
  ar 69 [.slice 1 (nH (L.map Rec.b)) .no] [] (.ret (.tup [(toL L oN).av,.nilif])) []:=by
 have h:=aAG L c a e (toL L oN) L.length 0 oN o_ (by rw [Ci];exact d) (by rw [Ci]);have i:=S7;generalize toL L oN=R at *
 generalize L.map Rec.b=V at *
 exact c_ Tryz.f69 λ_=>zW
abbrev fC (m:List UInt8):ab:=.bun 0 (QK 0 (YN m))
def KY (f a:Bool) (c:a=true->f=true) (g:List UInt8) (n:Int) (x y:List UInt8) (S:Sta) (V:List aa) (m:Int)
  (h1:ar 68 [.ref 0 0] (dkO f n x bP false) (.ret (.tup [.ref (jdN f) 0,.slice 1 V .no])) (dkC n (sfV a 1 y) bP false::sfT f++[jnO 0 m]))
  (b:ar 69 [.slice 1 V .no] [] (.ret (.tup [S.av,.nilif])) []):
  ar 26 [.ref 0 0] (dkO f n x bP false++[fC g]) (.ret (.tup [.ref (jdN f+2) 0,ii 0])) (dkC n (sfV a 1 y) bP false::sfT f++[fC g,jnO 0 m,.cells tSt (.ref (jdN f+1) 0::S.cs)]):=by
 have h3:=aLC g;cases f<;>cases a
 case false.true=>exact absurd (c rfl) d_
 all_goals
  refine cT (E:=E) (fn:=Tryz.f26) (g:=.full _ _ _) λ_=>?_
  repeat' first | (refine gN hE ?_;conv=>whnf) | refine .eff [] [0] _ _ rfl h1 ?_ | refine .eff [] [0,1] _ _ rfl h1 ?_ | exact rfl | (refine zt ?_;try intro h) | refine zu (λ h=>?_) λ h=>?_ | fail
  refine .pure _ [] b ?_;refine cO hE 22 ?_;conv=>whnf
  refine To.glob hE 1 [] (by rfl) (by rfl) (by rfl) (by rfl) ?_;conv=>whnf
  first
   | refine .mk 1 0 (YN g) _ (by rfl) (by rfl) ?_
   | refine .mk 2 0 (YN g) _ (by rfl) (by rfl) ?_
  repeat' first | (refine gN hE ?_;conv=>whnf) | refine .pure _ [] h3 ?_ | exact zx [0,1,2,4] | exact zx [0,1,2,3,5] | exact rfl | (refine zt ?_;try intro h) | refine zu (λ h=>?_) λ h=>?_ | fail
abbrev wV (k:Int) (c:Cmd) (n:Int):aa:=.agg (ii k::(c.av.cells++[ii n]))
def aML (k:Int) (c:Cmd) (n:Int):ar 20 [.nilptr,wV k c n] [] (.ret (.agg [ii 1,.slice 3 [] .no])) []:=by exact c_ Tryz.f20 λ_=>zW
def aFL:ar 22 [.nilptr] [] (.ret oN.av) []:=by have h1:=S7;exact c_ Tryz.f22 λ_=>zW
def aJA:ar 37 [.nilptr] [] (.ret (.str [])) []:=by exact c_ Tryz.f37 λ_=>zW
abbrev tDr:TypeId:=121
abbrev pv (b:Bool):aa:=match b with | true=>.nilptr | false=>.undef
abbrev drS (f f':Bool) (g:List UInt8) (n:Int) (x:List UInt8) (m:Int) (S:Sta):List ab:=.cells tDr [.ref 1 0,.ref (jdN f+3) 0]::dkC n (sfV f' 2 x) bP false::sfT f++[fC g,jnO 1 m,.cells tSt (.ref (jdN f+2) 0::S.cs)]
def N1 (b f a:Bool) (g:List UInt8) (n:Int) (x y:List UInt8) (S:Sta) (m:Int)
  (h1:ar 26 [.ref 0 0] (dkO f n x bP false++[fC g]) (.ret (.tup [.ref (jdN f+2) 0,ii 0])) (dkC n (sfV a 1 y) bP false::sfT f++[fC g,jnO 0 m,.cells tSt (.ref (jdN f+1) 0::S.cs)])):
  ar 59 [.ref 0 0] (.cells tDr [.ref 1 0,pv b]::dkC n (sfV f 2 x) bP false::sfT f++[fC g]) (.ret (ii 0)) (drS f a g n y m S):=by
 cases b<;>cases f<;>cases a
 all_goals
  refine cT (E:=E) (fn:=Tryz.f59) (g:=.full _ _ _) λ_=>?_
  repeat' first | (refine gN hE ?_;conv=>whnf) | refine .eff [] [1,2] _ _ rfl h1 ?_ | refine .eff [] [1,2,3] _ _ rfl h1 ?_ | exact zx [0,1,2,3,4] | exact zx [0,1,2,3,4,5] | exact rfl | (refine zt ?_;try intro h) | refine zu (λ h=>?_) λ h=>?_ | fail
abbrev drN (g:List UInt8) (n:Int) (x:List UInt8) (m:Int) (S:Sta):List ab:=[fC g,.cells tDr [.ref 2 0,.ref 4 0],dkC n (sfV false 3 x) bP false,jnO 2 m,.cells tSt (.ref 3 0::S.cs)]
def aDd (g:List UInt8) (n:Int) (S:Sta) (m:Int) (a:ar 59 [.ref 0 0] (.cells tDr [.ref 1 0,pv true]::dkC (min (max n 0) 1048576) (sfV false 2 []) bP false::sfT false++[fC g]) (.ret (ii 0)) (drS false false g (min (max n 0) 1048576) [] m S)):
  ar 18 [ii n] [fC g] (.ret (.ref 1 0)) (drN g (min (max n 0) 1048576) [] m S):=by
 have h1:=YR n;generalize min (max n 0) 1048576=N at *
 refine cT (E:=E) (fn:=Tryz.f18) (g:=.full 1 _ _) λ_=>?_
 repeat' first | (refine gN hE ?_;conv=>whnf) | refine .pure _ _ h1 ?_ | refine .eff [] [2,1,0] _ _ rfl a ?_ | exact rfl | (refine zt ?_;try intro h) | refine zu (λ h=>?_) λ h=>?_ | fail
 exact zx [0,2,1,3,4]
def Q6 (f a:Bool) (b:a=true->f=true) (g:List UInt8) (n:Int) (x:List UInt8) (m:Int) (S R:Sta)
  (h1:ar 30 [.ref 0 0] (stS S m a n x) (.ret R.av) (stS S m a n x)):
  ar 22 [.ref 0 0] (drS f a g n x m S) (.ret R.av) (drS f a g n x m S):=by
 cases f<;>cases a
 case false.true=>exact absurd (b rfl) d_
 all_goals
  refine cT (E:=E) (fn:=Tryz.f22) (g:=.full _ _ _) λ_=>?_
  repeat' first | (refine gN hE ?_;conv=>whnf) | refine .eff [] [4,3,1] _ _ rfl h1 ?_ | refine .eff [] [5,4,1] _ _ rfl h1 ?_ | refine .eff [] [5,4,1,2] _ _ rfl h1 ?_ | exact zx [0,1,2,3,4] | exact zx [0,1,2,3,4,5] | exact rfl | (refine zt ?_;try intro h) | refine zu (λ h=>?_) λ h=>?_ | fail
def aHa (f:Bool) (g:List UInt8) (n:Int) (x:List UInt8) (m:Int) (S:Sta) (c:Cmd) (p e:Int)
  (h1:ar 27 [.ref 0 0,c.av] (stS S m f n x) (.ret (.tup [.slice 3 [] .nil,ii e])) (stS S m f n x)):
  ar 20 [.ref 0 0,wV 1 c p] (drS f f g n x m S) (.ret (.agg [ii e,.slice 3 [] .nil])) (drS f f g n x m S):=by
 cases f
 all_goals
  refine cT (E:=(Er [] [28,29,30,31])) (fn:=Tryz.f20) (g:=.full _ _ _) λ_=>?_
  repeat' first | (refine gN (hEr [] [28,29,30,31]) ?_;conv=>whnf) | refine .sole rfl (.eff [] [4,3,1] _ _ rfl h1 ?_) | refine .sole rfl (.eff [] [5,4,1,2] _ _ rfl h1 ?_) | exact zx [0,1,2,3,4] | exact zx [0,1,2,3,4,5] | exact rfl | (refine zt ?_;try intro h) | refine zu (λ h=>?_) λ h=>?_ | fail
abbrev drG (f:Bool) (g:List UInt8) (n:Int) (x:List UInt8) (m:Int) (S:Sta):List ab:=match f with
 | true=>[.cells tDr [.ref 1 0,.ref 5 0],dkC n (sgV true 2 x) bP false,.tail 1 1 5,fC g,jnO 1 m,.cells tSt (.ref 4 0::S.cs)]
 | false=>[.cells tDr [.ref 1 0,.ref 4 0],dkC n (sgV false 5 x) bP false,fC g,jnO 1 m,.cells tSt (.ref 3 0::S.cs),.tail 0 1 5]
def N0 (f:Bool) (g:List UInt8) (n:Int) (x y:List UInt8) (m b:Int) (S a:Sta) (ev:List Ev) (c:Cmd) (p:Int)
  (h1:ar 27 [.ref 0 0,c.av] (stS S m f n x) (.ret (.tup [.slice 3 (evv ev) .no,ii 0])) (stG a b f n y)):
  ar 20 [.ref 0 0,wV 1 c p] (drS f f g n x m S) (.ret (.agg [ii 0,.slice 3 (evv ev) .no])) (drG f g n y b a):=by
 cases f
 all_goals
  refine cT (E:=(Er [] [28,29,30,31])) (fn:=Tryz.f20) (g:=.full _ _ _) λ_=>?_
  repeat' first | (refine gN (hEr [] [28,29,30,31]) ?_;conv=>whnf) | refine .sole rfl (.eff [] [4,3,1] _ _ rfl h1 ?_) | refine .sole rfl (.eff [] [5,4,1,2] _ _ rfl h1 ?_) | exact zx [0,1,2,3,4,7] | exact zx [0,1,2,3,4,5] | exact rfl | (refine zt ?_;try intro h) | refine zu (λ h=>?_) λ h=>?_ | fail
def aDi (f:Bool) (g:List UInt8) (n:Int) (x:List UInt8) (m:Int) (S:Sta) (c:Cmd) (p e:Int)
  (h1:ar 28 [.ref 0 0] (stS S m f n x) (.ret (ii e)) (stS S m f n x)):
  ar 20 [.ref 0 0,wV 2 c p] (drS f f g n x m S) (.ret (.agg [ii e,.slice 3 [] .nil])) (drS f f g n x m S):=by
 cases f
 all_goals
  refine cT (E:=E) (fn:=Tryz.f20) (g:=.full _ _ _) λ_=>?_
  repeat' first | (refine gN hE ?_;conv=>whnf) | refine .eff [] [4,3,1] _ _ rfl h1 ?_ | refine .eff [] [5,4,1,2] _ _ rfl h1 ?_ | exact zx [0,1,2,3,4] | exact zx [0,1,2,3,4,5] | exact rfl | (refine zt ?_;try intro h) | refine zu (λ h=>?_) λ h=>?_ | fail
def aDh (f:Bool) (g:List UInt8) (n:Int) (x y:List UInt8) (m:Int) (S:Sta) (c:Cmd) (p:Int)
  (h1:ar 28 [.ref 0 0] (stS S m f n x) (.ret (ii 0)) (.cells tSt (.ref 1 0::S.cs)::jnO 2 1::dkC n (sfV false 3 y) bP false::sfT f)):
  ar 20 [.ref 0 0,wV 2 c p] (drS f f g n x m S) (.ret (.agg [ii 0,.slice 3 [] .nil])) (drS f false g n y 1 S):=by
 cases f
 all_goals
  refine cT (E:=E) (fn:=Tryz.f20) (g:=.full _ _ _) λ_=>?_
  repeat' first | (refine gN hE ?_;conv=>whnf) | refine .eff [] [4,3,1] _ _ rfl h1 ?_ | refine .eff [] [5,4,1,2] _ _ rfl h1 ?_ | exact zx [0,1,2,3,4] | exact zx [0,1,2,3,4,5] | exact rfl | (refine zt ?_;try intro h) | refine zu (λ h=>?_) λ h=>?_ | fail
abbrev drR (f f':Bool) (g:List UInt8) (n:Int) (y:List UInt8) (m m':Int) (S S':Sta):List ab:=match f with
 | true=>[.cells tDr [.ref 1 0,.ref 7 0],dkC n (sfV f' 2 y) bP false,.tail 0 1 5,fC g,jnO 1 m,.cells tSt (.ref 4 0::S.cs),jnO 1 m',.cells tSt (.ref 6 0::S'.cs)]
 | false=>[.cells tDr [.ref 1 0,.ref 6 0],dkC n (sfV f' 2 y) bP false,fC g,jnO 1 m,.cells tSt (.ref 3 0::S.cs),jnO 1 m',.cells tSt (.ref 5 0::S'.cs)]
def aDf (f:Bool) (g:List UInt8) (n:Int) (x y:List UInt8) (m b:Int) (S a:Sta) (c:Cmd) (p:Int)
  (h1:ar 59 [.ref 0 0] (.cells tDr [.ref 1 0,pv false]::dkC n (sfV f 2 x) bP false::sfT f++[fC g]) (.ret (ii 0)) (drS f f g n y b a)):
  ar 20 [.ref 0 0,wV 5 c p] (drS f f g n x m S) (.ret (.agg [ii 0,.slice 3 [] .nil])) (drR f f g n y m b S a):=by
 cases f
 all_goals
  refine cT (E:=E) (fn:=Tryz.f20) (g:=.full _ _ _) λ_=>?_
  repeat' first | (refine gN hE ?_;conv=>whnf) | refine .eff [] [0,1,2] _ _ rfl h1 ?_ | refine .eff [] [0,1,2,3] _ _ rfl h1 ?_ | exact zx [0,1,2,3,4,7,8] | exact zx [0,1,2,3,4,5,8,9] | exact rfl | (refine zt ?_;try intro h) | refine zu (λ h=>?_) λ h=>?_ | fail
def aDe (f:Bool) (g:List UInt8) (n:Int) (x:List UInt8) (m:Int) (S:Sta) (c:Cmd) (k p:Int) (h1:k≠1) (a:k≠2) (h3:k≠3) (b:k≠4) (d:k≠5):
  ar 20 [.ref 0 0,wV k c p] (drS f f g n x m S) (.ret (.agg [ii 1,.slice 3 [] .nil])) (drS f f g n x m S):=by
 have o:(k==1)=false:=by simpa using h1
 have l:(k==2)=false:=by simpa using a
 have e:(k==3)=false:=by simpa using h3
 have i:(k==4)=false:=by simpa using b
 have j:(k==5)=false:=by simpa using d
 cases f
 all_goals
  refine cT (E:=E) (fn:=Tryz.f20) (g:=.full _ _ _) λ_=>?_
  repeat' first | (refine gN hE ?_;conv=>whnf) | exact zx [0,1,2,3,4] | exact zx [0,1,2,3,4,5] | exact rfl | (refine zt ?_;try intro h) | refine zu (λ h=>?_) λ h=>?_ | fail
 all_goals (exfalso;simp_all)
def YO (f:Bool) (g:List UInt8) (n:Int) (x:List UInt8) (m:Int) (S:Sta) (hs:(x.length:Int)<=9223372036854775807):
  ar 37 [.ref 0 0] (drS f f g n x m S) (.ret (.str x)) (drS f f g n x m S):=by
 have h1:=tQ f n x hs;cases f
 all_goals
  refine cT (E:=E) (fn:=Tryz.f37) (g:=.full _ _ _) λ_=>?_
  repeat' first | (refine gN hE ?_;conv=>whnf) | refine .eff [] [1] _ _ rfl h1 ?_ | refine .eff [] [1,2] _ _ rfl h1 ?_ | exact zx [0,1,2,3,4] | exact zx [0,1,2,3,4,5] | exact rfl | (refine zt ?_;try intro h) | refine zu (λ h=>?_) λ h=>?_ | fail
abbrev aMc (f:Bool) (g:List UInt8) (n:Int) (y:List UInt8) (m m':Int) (S S':Sta):List ab:=match f with
 | true=>[.cells tDr [.ref 1 0,.ref 7 0],dkC n (sgV true 2 y) bP false,.tail 1 1 5,fC g,jnO 1 m,.cells tSt (.ref 4 0::S.cs),jnO 1 m',.cells tSt (.ref 6 0::S'.cs)]
 | false=>[.cells tDr [.ref 1 0,.ref 6 0],dkC n (sfV false 2 y) bP false,fC g,jnO 1 m,.cells tSt (.ref 3 0::S.cs),jnO 1 m',.cells tSt (.ref 5 0::S'.cs)]
def aDg (f:Bool) (g:List UInt8) (n:Int) (x y:List UInt8) (m d:Int) (S b:Sta) (c:Cmd) (p:Int) (e:x.length<=1048576)
  (h1:ar 59 [.ref 0 0] (.cells tDr [.ref 1 0,pv false]::dkC n (sfV f 2 x) bP false::sfT f++[fC g]) (.ret (ii 0)) (drS f f g n y d b)):
  ar 20 [.ref 0 0,wV 3 c p] (drS f f g n x m S) (.ret (.agg [ii 0,.slice 3 [] .nil])) (aMc f g n y m d S b):=by
 cases f
 .have a:=RN n x p e;refine cT (E:=E) (fn:=Tryz.f20) (g:=.full 5 _ _) λ_=>?_
  repeat' first | (refine gN hE ?_;conv=>whnf) | refine .sole rfl (.eff [] [1] _ _ rfl a ?_) | refine .eff [] [0,1,2] _ _ rfl h1 ?_ | exact rfl | (refine zt ?_;try intro h) | refine zu (λ h=>?_) λ h=>?_ | fail
  exact zx [0,1,2,3,4,7,8]
 .have a:=RM n x p e;refine cT (E:=E) (fn:=Tryz.f20) (g:=.full 6 _ _) λ_=>?_
  repeat' first | (refine gN hE ?_;conv=>whnf) | refine .sole rfl (.eff [] [1,2] _ _ rfl a ?_) | refine .eff [] [0,1,2,3] _ _ rfl h1 ?_ | exact rfl | (refine zt ?_;try intro h) | refine zu (λ h=>?_) λ h=>?_ | fail
  exact zx [0,1,2,3,4,5,8,9]
def aG9 (f:Bool) (g:List UInt8) (n:Int) (x:List UInt8) (m:Int) (S:Sta) (c:Cmd) (p e:Int) (a:e≠0)
  (h1:ar 31 [.ref 0 0,c.av] (stS S m f n x) (.ret (ii e)) (stS S m f n x)):
  ar 20 [.ref 0 0,wV 4 c p] (drS f f g n x m S) (.ret (.agg [ii e,.slice 3 [] .nil])) (drS f f g n x m S):=by
 have b:(e !=0)=true:=by simpa using a
 cases f
 all_goals
  refine cT (E:=E) (fn:=Tryz.f20) (g:=.full _ _ _) λ_=>?_
  repeat' first | (refine gN hE ?_;conv=>whnf) | refine .sole rfl (.eff [] [4,3,1] _ _ rfl h1 ?_) | refine .sole rfl (.eff [] [5,4,1,2] _ _ rfl h1 ?_) | exact zx [0,1,2,3,4] | exact zx [0,1,2,3,4,5] | exact rfl | (refine zt ?_;try intro h) | refine zu (λ h=>?_) λ h=>?_ | fail
 all_goals (exfalso;clear h1;simp_all)
abbrev drW (f':Bool) (g:List UInt8) (n:Int) (y:List UInt8) (m m':Int) (S S':Sta):List ab:=[.cells tDr [.ref 1 0,.ref 7 0],dkC n (match f' with | true=>sgV true 2 y | false=>sfV false 2 y) bP false,.tail 1 1 5,fC g,jnO 1 m,.cells tSt (.ref 4 0::S.cs),jnO 1 m',.cells tSt (.ref 6 0::S'.cs)]
def xW (a:Bool) (g:List UInt8) (n:Int) (x b y:List UInt8) (m i:Int) (S d:Sta) (c:Cmd) (p:Int) (k:x.length<=1048576) (j:b.length<=1048576)
  (h1:ar 31 [.ref 0 0,c.av] (stS S m true n x) (.ret (ii 0)) (.cells tSt (.ref 1 0::S.cs)::jnO 2 m::dkC n (sfV true 3 x) (wtB b) false::sfT true))
  (h3:ar 59 [.ref 0 0] (.cells tDr [.ref 1 0,pv false]::dkC n (sfV true 2 (x++b.take (dZ p b.length))) bP false::sfT true++[fC g]) (.ret (ii 0)) (drS true a g n y i d)):
  ar 20 [.ref 0 0,wV 4 c p] (drS true true g n x m S) (.ret (.agg [ii 0,.slice 3 [] .nil])) (drW a g n y m i S d):=by
 have e:=G8 n x b p k j;cases a
 .refine cT (E:=E) (fn:=Tryz.f20) (g:=.full 6 _ _) λ_=>?_
  repeat' first | (refine gN hE ?_;conv=>whnf) | refine .sole rfl (.eff [] [5,4,1,2] _ _ rfl h1 ?_) | refine .sole rfl (.eff [] [1,2] _ _ rfl e ?_) | refine .eff [] [0,1,2,3] _ _ rfl h3 ?_ | exact rfl | (refine zt ?_;try intro h) | refine zu (λ h=>?_) λ h=>?_ | fail
  exact zx [0,1,2,3,4,5,8,9]
 .refine cT (E:=E) (fn:=Tryz.f20) (g:=.full 6 _ _) λ_=>?_
  repeat' first | (refine gN hE ?_;conv=>whnf) | refine .sole rfl (.eff [] [5,4,1,2] _ _ rfl h1 ?_) | refine .sole rfl (.eff [] [1,2] _ _ rfl e ?_) | refine .eff [] [0,1,2,3] _ _ rfl h3 ?_ | exact rfl | (refine zt ?_;try intro h) | refine zu (λ h=>?_) λ h=>?_ | fail
  exact zx [0,1,2,3,4,5,8,9]
abbrev drX (f':Bool) (g:List UInt8) (n:Int) (y:List UInt8) (m m':Int) (S S':Sta):List ab:=[.cells tDr [.ref 1 0,.ref 7 0],dkC n (match f' with | true=>.slice 1 (y.map ub) (.own 5 0) | false=>sfV false 2 y) bP false,fC g,jnO 1 m,.cells tSt (.ref 3 0::S.cs),.tail 0 1 5,jnO 1 m',.cells tSt (.ref 6 0::S'.cs)]
def DW (d:Bool) (g:List UInt8) (n:Int) (x b y:List UInt8) (m j:Int) (S e:Sta) (c:Cmd) (p:Int) (l:x.length<=1048576) (k:b.length<=1048576) (a:b.take (dZ p b.length)≠[])
  (h1:ar 31 [.ref 0 0,c.av] (stS S m false n x) (.ret (ii 0)) (.cells tSt (.ref 1 0::S.cs)::jnO 2 m::dkC n (sfV false 3 x) (wtB b) false::sfT false))
  (h3:ar 59 [.ref 0 0] (.cells tDr [.ref 1 0,pv false]::dkC n (sfV true 2 (x++b.take (dZ p b.length))) bP false::sfT true++[fC g]) (.ret (ii 0)) (drS true d g n y j e)):
  ar 20 [.ref 0 0,wV 4 c p] (drS false false g n x m S) (.ret (.agg [ii 0,.slice 3 [] .nil])) (drX d g n y m j S e):=by
 have i:=DY n x b p l k a;cases d
 .refine cT (E:=E) (fn:=Tryz.f20) (g:=.full 5 _ _) λ_=>?_
  repeat' first | (refine gN hE ?_;conv=>whnf) | refine .sole rfl (.eff [] [4,3,1] _ _ rfl h1 ?_) | refine .sole rfl (.eff [] [1] _ _ rfl i ?_) | refine .eff [] [0,1,7,2] _ _ rfl h3 ?_ | exact rfl | (refine zt ?_;try intro h) | refine zu (λ h=>?_) λ h=>?_ | fail
  exact zx [0,1,2,3,4,7,8,9]
 .refine cT (E:=E) (fn:=Tryz.f20) (g:=.full 5 _ _) λ_=>?_
  repeat' first | (refine gN hE ?_;conv=>whnf) | refine .sole rfl (.eff [] [4,3,1] _ _ rfl h1 ?_) | refine .sole rfl (.eff [] [1] _ _ rfl i ?_) | refine .eff [] [0,1,7,2] _ _ rfl h3 ?_ | exact rfl | (refine zt ?_;try intro h) | refine zu (λ h=>?_) λ h=>?_ | fail
  exact zx [0,1,2,3,4,7,8,9]
def Q7 (g:List UInt8) (n:Int) (x b:List UInt8) (m e:Int) (S d:Sta) (c:Cmd) (p:Int) (k:x.length<=1048576) (j:b.length<=1048576) (a:b.take (dZ p b.length)=[])
  (h1:ar 31 [.ref 0 0,c.av] (stS S m false n x) (.ret (ii 0)) (.cells tSt (.ref 1 0::S.cs)::jnO 2 m::dkC n (sfV false 3 x) (wtB b) false::sfT false))
  (h3:ar 59 [.ref 0 0] (.cells tDr [.ref 1 0,pv false]::dkC n (sfV false 2 x) bP false::sfT false++[fC g]) (.ret (ii 0)) (drS false false g n x e d)):
  ar 20 [.ref 0 0,wV 4 c p] (drS false false g n x m S) (.ret (.agg [ii 0,.slice 3 [] .nil])) (drR false false g n x m e S d):=by
 have i:=RL n x b p k j a;refine cT (E:=E) (fn:=Tryz.f20) (g:=.full 5 _ _) λ_=>?_
 repeat' first | (refine gN hE ?_;conv=>whnf) | refine .sole rfl (.eff [] [4,3,1] _ _ rfl h1 ?_) | refine .sole rfl (.eff [] [1] _ _ rfl i ?_) | refine .eff [] [0,1,2] _ _ rfl h3 ?_ | exact rfl | (refine zt ?_;try intro h) | refine zu (λ h=>?_) λ h=>?_ | fail
 exact zx [0,1,2,3,4,7,8]
def B4:List Kstp->Kst->Kst
 | [],t=>t
 | p::l,t=>B4 l (cM t p).1
def R6:List Kstp->Kst->List (List Ev×Int)
 | [],_=>[]
 | p::l,t=>(cM t p).2::R6 l (cM t p).1
def sM (n:Int):Kst:=⟨Dk.new n,0,oN⟩
def J6 (t:Kst) (m:Int):Prop:=(t.d.safe.length:Int)+m<=t.d.size
def TQ (x:Cmd) (k:Nat) (h:x.il.length<=k) (a:∀ n∈x.il,n<=9223372036854775807):((Rec.b (.c x)).length:Int)<=10*k+1:=by show (((67:UInt8)::C8.encB x).length:Int)<=_;have:=C8.pl_len a;unfold C8.encB;split<;>simp<;>omega
def HY {t:Kst} {c:Cmd} {S:Sta} {ev:List Ev} (n:Int) (k:Nat) (m:Int) (h:aV t.s c=(S,ev,0)) (h1:c.il.length<=k) (e:∀ n∈c.il,n<=9223372036854775807) (f:k<=1000) (a:J6 t (m+10*k+9)) (hm:0<=m:=by decide):
  ∃ d i,cM t ⟨1,c,n⟩=(⟨d,i,S⟩,ev,0)/\d=aHS t.d (Rec.b (.c c))/\J6 ⟨d,i,S⟩ m:=by
 have hl:=TQ c k h1 e;unfold J6 at a;have q:jA t.d (Rec.b (.c c))=0:=by unfold jA;rw [if_neg o_,if_neg o_]
 refine ⟨aHS t.d (Rec.b (.c c)),t.n+1,?_,rfl,?_⟩
 .show doS t c=_;unfold doS;rw [h,if_neg s_,if_neg (by simpa using q)]
 .show ((t.d.safe++frm _).length:Int)+m<=t.d.size;rw [Ai,dN];omega
def FC {t:Kst} {c:Cmd} {S:Sta} {ev:List Ev} (n:Int) (k:Nat) (m:Int) (h:aV t.s c=(S,ev,0)) (h1:c.il.length<=k) (g:∀ n∈c.il,n<=9223372036854775807) (l:k<=1000) (j:J6 t (m+10*k+9)) (hm:0<=m) (b:Bool) (a:if b=true then 10*(k:Int)+9<=n else n<8):
  ∃ d i,cM t ⟨4,c,n⟩=(⟨d,i,if b=true then S else t.s⟩,[],0)/\J6 ⟨d,i,if b=true then S else t.s⟩ m:=by
 have hl:=TQ c k h1 g;have f:=j;unfold J6 at j;have q:jA t.d (Rec.b (.c c))=0:=by unfold jA;rw [if_neg o_,if_neg o_]
 have r:wrE t c=0:=by unfold wrE;rw [h,if_neg s_,q]
 have o:cM t ⟨4,c,n⟩=if wrE t c≠0 then (t,[],wrE t c) else (if ZC c n then (doS t c).1 else t,[],0):=rfl
 rw [o,if_neg (by simpa using r)];cases b with
 | true=>
  have a:10*(k:Int)+9<=n:=a;obtain ⟨d,i,e,_,p⟩:=HY (t:=t) n k m h h1 g l f hm;have e:doS t c=_:=e;have u:ZC c n=true:=decide_eq_true o_;rw [if_pos u,e];exact ⟨d,i,rfl,p⟩
 | false=>
  have a:n<8:=a;rw [if_neg (by unfold ZC;simp;omega)];exact ⟨t.d,t.n,rfl,by unfold J6;show (t.d.safe.length:Int)+m<=t.d.size;omega⟩
def tk (k n keep:Int):Kstp:=⟨k,kQ n,keep⟩
def V9:List Kstp:=[tk 1 1 0,tk 4 2 3,tk 4 4 100000,⟨2,Cmd.zero,0⟩,⟨9,Cmd.zero,0⟩]
def tH (n:Int):Sta:={oN with now:=n}
def aMC:aV oN (kQ 1)=(tH 1,[],0):=by decide+kernel
def aMB:aV (tH 1) (kQ 2)=(tH 3,[],0):=by decide+kernel
def aMA:aV (tH 1) (kQ 4)=(tH 5,[],0):=by decide+kernel
def aMz:aV oN (kQ 7)=(tH 7,[],0):=by decide+kernel
def w27:∃ e:Int,R6 V9 (sM 1000)=[([],0),([],0),([],0),([],e),([],1)]/\(B4 V9 (sM 1000)).s=tH 5:=by
 obtain ⟨h,j,d,_,p⟩:=HY (t:=sM 1000) (c:=kQ 1) 0 2 900 aMC d_ d_ d_ (by show ((0:Nat):Int)+_<=_;decide);obtain ⟨g,f,a,n⟩:=FC (t:=⟨h,j,tH 1⟩) (c:=kQ 2) 3 2 800 aMB d_ d_ d_ (by unfold J6 at *;dsimp only at *;omega) d_ false d_;obtain ⟨k,i,b,o⟩:=FC (t:=⟨g,f,tH 1⟩) (c:=kQ 4) 100000 2 700 aMA d_ d_ d_ (by unfold J6 at *;dsimp only at *;omega) d_ true d_;refine ⟨kG ⟨k,i,tH 5⟩,?_⟩;have d:cM (sM 1000) (tk 1 1 0)=_:=d;have a:cM ⟨h,j,tH 1⟩ (tk 4 2 3)=(⟨g,f,tH 1⟩,[],0):=a;have b:cM ⟨g,f,tH 1⟩ (tk 4 4 100000)=(⟨k,i,tH 5⟩,[],0):=b;have m:∀ t,cM t ⟨2,Cmd.zero,0⟩=(pK t,[],kG t):=λ_=>rfl;have l:∀ t,cM t ⟨9,Cmd.zero,0⟩=(t,[],1):=λ_=>rfl;constructor
 .simp only [V9,R6,d,a,b,m,l]
 .simp only [V9,B4,d,a,b,m,l,S8]
def aIH (n:Nat) (h:n<128):C8.encB (kQ n)=[5,Dm n]:=by
 have p:∀ k:Nat,k<128->C8.putN k=[Dm k]:=λ k b=>by rw [C8.putN,if_pos b]
 unfold C8.encB
 rw [if_pos (by
  have c:C8.chkL (kQ n)=0:=rfl;have a:okI [(n:Int)]=true:=by simp only [okI,nV,Ad,decide_eq_true_eq,and_true];omega
  show (if aHw.tok=true then (if Gan.zero.ok=true then (if okI [(n:Int)]=true then C8.chkL (kQ n) else 1) else 1) else 1)=0
  rw [if_pos d_,if_pos d_,if_pos a,c])]
 show C8.putN 5++(C8.putN (n:Int).toNat++[])=_;rw [Bt,p 5 d_,p n h];rfl
def aMx:∃ d i,cM (sM 1000) (tk 1 7 0)=(⟨d,i,tH 7⟩,[],0)/\d.safe.length=11:=by obtain ⟨d,i,e,a,_⟩:=HY (t:=sM 1000) (c:=kQ 7) 0 2 900 aMz d_ d_ d_ (by show ((0:Nat):Int)+_<=_;decide);refine ⟨d,i,e,?_⟩;subst a;show (([]:List UInt8)++frm ((67:UInt8)::C8.encB (kQ (7:Nat)))).length=11;rw [aIH 7 d_,Bn,dN];rfl
def aFn {s:Sta} (e:lW s=true) (C:s.hist.length<=12) (D:s.pend.length+s.run.length<=32):(bW s).length<=16000:=by
 have w0:=N7 e;obtain ⟨z,⟨n1,n2,L,q⟩,I,w,A,k,o⟩:=RX e;have H:(C8.putN (lV s).length).length<=10:=by have:=C8.pn_len (n:=((lV s).length:Int)) o_;rw [Bt] at this;omega
 have t:(C8.pl [s.now,s.nxt,(s.hist.length:Int)]).length<=30:=by have:=C8.pl_len (l:=[s.now,s.nxt,(s.hist.length:Int)]) (λ n a=>by simp at a;omega);simpa using this
 have F:(C8.pl [(s.pend.length:Int)]).length<=10:=by have:=C8.pl_len (l:=[(s.pend.length:Int)]) (λ n a=>by simp at a;omega);simpa using this
 have K:(C8.pl [(s.run.length:Int)]).length<=10:=by have:=C8.pl_len (l:=[(s.run.length:Int)]) (λ n a=>by simp at a;omega);simpa using this
 have G:=C7 s.hist;have p:∀ (l:List Pn),(∀ x∈l,x.g.ok=true/\okI [x.seq,x.at']=true)->(sI l).length<=110*l.length:=by
  intro l;induction l with
  | nil=>intro _;exact Bv _
  | cons x r b=>
   intro h;obtain ⟨h1,c⟩:=h x (Ap ..);have m:=vY x.g h1;have j:=C8.pl_len (mT c);have f:=b λ y d=>h y (Bd _ d);simp only [sI,Ai,Al,Br] at *
   omega
 have i:∀ (l:List Rn),(∀ x∈l,x.g.ok=true/\okI [x.seq,x.at',x.st,x.fl]=true/\okI x.hs=true/\x.hs≠[]/\x.hs.length<=16)->(oP l).length<=290*l.length:=by
  intro l;induction l with
  | nil=>intro _;exact Bv _
  | cons x r b=>
   intro h;obtain ⟨h1,c,h3,_,B⟩:=h x (Ap ..);have m:=vY x.g h1;have j:=C8.pl_len (mT c);have f:=C8.pl_len (mT h3);have u:=b λ y d=>h y (Bd _ d);simp only [oP,Ai,Al,Br] at *
   omega
 have J:=p s.pend k;have v:=i s.run o;unfold bW;simp only [Ai];omega
def OkT.small {s:Sta} (h:OkT s):Sm s.run/\s.hist.length<=1048576:=by have h1:=(h.ok.st h.lt).run;exact ⟨h1.sm.run,h1.ord.hl⟩
def OkT.len {s:Sta} (h:OkT s):(bW s).length<=16000:=aFn (JR h.ok) (by have:=h.ok.hist;have:=(vW h.ok.head).ns;omega) h.ok.few
def K8:∀ {l:List (List UInt8)},(∀ t∈l,t.length<=16384)->nL l<=16392*l.length
 | [],_=>Bv _
 | t::l,h=>by have h1:=h t (Ap ..);have b:=K8 λ y a=>h y (Bd _ a);simp only [nL,Al];omega
structure KB (t:Kst) (k:Nat):Prop where
 ex:∃ l,Kept t l/\l.length<=k
 nxt:t.s.nxt<=1+k
 few:k<=58
def KB.lens {t:Kst} {k:Nat} (h:KB t k):t.d.safe.length<=960000/\0<=t.d.size/\t.d.size<=1048576/\(t.d.safe.length:Int)<=t.d.size/\0<=t.n/\t.n<=1000000:=by obtain ⟨l,h1,g⟩:=h.ex;have a:=K8 (AN h1.ok);rw [<-qV,<-h1.safe,Ch] at a;have f:=h1.cl.le;have e:=h1.cl.size;have b:=h1.n;have c:=h.few;omega
def KB.okT {t:Kst} {k:Nat} (h:KB t k):OkT t.s:=h.ex.elim λ_ h=>h.1.okT
def KB.sap {t:Kst} {k:Nat} (h:KB t k) (c:Cmd) (a:c.k=1->c.c.sm):kK t.s c (aV t.s c):=FK t.s c (h.okT.ok.st h.okT.lt) a
def KB.step {t:Kst} {k:Nat} (h:KB t k) (f:k<58) (p:Kstp) (b:p.x.k=1->p.x.c.sm):KB (cM t p).1 (k+1):=by
 obtain ⟨l,h1,g⟩:=h.ex;have e:=h.nxt;have a:t.s.nxt<1099511627776:=o_;refine ⟨?_,?_,by omega⟩
 .obtain ⟨d,h3,i⟩:=h1.stepL p b a;exact ⟨d,h3,by omega⟩
 .have:=WR t p h.okT a;omega
def KB.le {t:Kst} {k a:Nat} (h:KB t k) (c:k<=a) (b:a<=58):KB t a:=⟨h.ex.elim λ l h=>⟨l,h.1,by omega⟩,by have:=h.nxt;omega,b⟩
def kb0 (n:Int):KB (sM n) 0:=⟨⟨[],⟨⟨rfl,rfl,by show (0:Int)<=_;simp only [sM,Dk.new];omega,by show (Dk.new n).size<=_;simp only [Dk.new];omega⟩,rfl,rfl,trivial,rfl⟩,Bc _⟩,(by show (1:Int)<=1+0;decide),by decide⟩
def Z5 {R:Sta×List Ev×Int} (h:R.2.2=0):R=(R.1,R.2.1,0):=by obtain ⟨a,b,c⟩:=R;subst h;rfl
def W9 {s:Sta} {r:Rec} {l:List Rec} (h:OkT s/\okR (r::l) s):PO r/\PX s r/\OkT (r.to s)/\okR l (r.to s):=by
 obtain ⟨h1,b,h3,f⟩:=h;refine ⟨?_,?_,r.okT h1 b,f⟩
 .cases r with
  | c x=>
   obtain ⟨e,d⟩:=aLn b.1;have a:=C8.decode_ok (C8.encB x) (by have:(67::C8.encB x).length<=16384:=h3;simp at this;omega);rw [e,d] at a;exact aEI _ x a (by have:(67::C8.encB x).length<=16384:=h3;simp at this;omega)
  | s x=>
   have a:=aES (bW x) (by have:(83::bW x).length<=16384:=h3;simp at this;omega);unfold aAt aKy at a;rw [aLm b] at a;exact aEH _ x a (by have:(83::bW x).length<=16384:=h3;simp at this;omega)
 .cases r with
  | c x=>
   have a:=FK s x (h1.ok.st h1.lt) b.2.1;rw [Z5 b.1] at a;exact a
  | s x=>trivial
def KB.rpl {t:Kst} {k:Nat} {l:List Rec} (h:Kept t l) (hl:l.length<=1000000):ar 69 [.slice 1 (nH (l.map Rec.b)) .no] [] (.ret (.tup [t.s.av,.nilif])) []:=by have:=W5 l hl (λ s l=>OkT s/\okR l s) (λ s r l h=>W9 h) ⟨HZ,h.ok⟩;rw [<-h.s] at this;exact this
def KB.sop {t:Kst} {k:Nat} (h:KB t k) (f:Bool) (g:List UInt8):ar 26 [.ref 0 0] (dkO f t.d.size t.d.safe bP false++[fC g]) (.ret (.tup [.ref (jdN f+2) 0,ii 0])) (dkC t.d.size (sfV f 1 t.d.safe) bP false::sfT f++[fC g,jnO 0 t.n,.cells tSt (.ref (jdN f+1) 0::t.s.cs)]):=by have c:=h.lens;obtain ⟨l,h1,a⟩:=h.ex;have h3:=aB6 f t.d.size (l.map Rec.b) (AN h1.ok) (by rw [<-h1.safe];omega);rw [<-h1.safe,Ch,<-h1.n] at h3;exact KY f f id g _ _ _ t.s _ t.n h3 (KB.rpl (k:=k) h1 (by have:=h.few;omega))
def KB.sopT {t:Kst} {k:Nat} (h:KB t k) (f:Bool) (g:List UInt8) (r:List UInt8) (c:r.length<=16384) (j:Nat) (i:j≠0) (a:j<r.length+8):ar 26 [.ref 0 0] (dkO f t.d.size (t.d.safe++(frm r).take j) bP false++[fC g]) (.ret (.tup [.ref (jdN f+2) 0,ii 0])) (dkC t.d.size (sfV false 1 t.d.safe) bP false::sfT f++[fC g,jnO 0 t.n,.cells tSt (.ref (jdN f+1) 0::t.s.cs)]):=by
 have p:=h.lens;obtain ⟨l,h1,o⟩:=h.ex;have e:((frm r).take j).length=j:=by rw [Dp,dN];omega
 have h3:=QA f t.d.size (l.map Rec.b) ((frm r).take j) (aAY r j c a) (λ m=>i (by rw [<-e,m];rfl)) (AN h1.ok) (by rw [<-h1.safe,Ai];omega) (by rw [<-h1.safe];omega);rw [<-h1.safe,Ch,<-h1.n] at h3;exact KY f false (λ h=>by cases h) g _ _ _ t.s _ t.n h3 (KB.rpl (k:=k) h1 (by have:=h.few;omega))
def KB.dop {t:Kst} {k:Nat} (h:KB t k) (b f:Bool) (g:List UInt8):ar 59 [.ref 0 0] (.cells tDr [.ref 1 0,pv b]::dkC t.d.size (sfV f 2 t.d.safe) bP false::sfT f++[fC g]) (.ret (ii 0)) (drS f f g t.d.size t.d.safe t.n t.s):=N1 b f f g _ _ _ _ _ (h.sop f g)
def KB.dopT {t:Kst} {k:Nat} (h:KB t k) (b f:Bool) (g:List UInt8) (r:List UInt8) (c:r.length<=16384) (j:Nat) (e:j≠0) (a:j<r.length+8):ar 59 [.ref 0 0] (.cells tDr [.ref 1 0,pv b]::dkC t.d.size (sfV f 2 (t.d.safe++(frm r).take j)) bP false::sfT f++[fC g]) (.ret (ii 0)) (drS f false g t.d.size t.d.safe t.n t.s):=N1 b f false g _ _ _ _ _ (h.sopT f g r c j e a)
def KB.enc {t:Kst} {k:Nat} (h:KB t k):ar 40 [t.s.av] [] (.ret (.tup [.str (bW t.s),ii 0])) []:=by have a:=JR h.okT.ok;have:=aEQ t.s h.okT.ok.base.c h.okT.small.1 RX;unfold aKh at this;rw [if_pos a,if_pos a] at this;exact this
def Y8 {t:Kst} {k:Nat} (h:KB t k) (c:Cmd) (f:Bool) (e:jA t.d (crB c)≠0):ar 72 [.ref 0 0,.str (crB c)] (jdO t.n f t.d.size t.d.safe) (.ret (ii (jA t.d (crB c)))) (jdO t.n f t.d.size t.d.safe)/\ar 80 [.ref 0 0,.str (crB c)] (jdO t.n f t.d.size t.d.safe) (.ret (ii (jA t.d (crB c)))) (jdO t.n f t.d.size t.d.safe):=by
 have b:=h.lens;unfold jA at *
 by_cases q:16384<(crB c).length
 .rw [if_pos q];exact ⟨XT _ _ _ _ _ q,XS _ _ _ _ _ q⟩
 .rw [if_neg q] at *
  by_cases a:t.d.size-t.d.safe.length<(crB c).length+8
  .rw [if_pos a];exact ⟨aGd _ _ _ _ _ o_ b.2.1 b.2.2.1 o_ a,aF9 _ _ _ _ _ o_ b.2.1 b.2.2.1 o_ a⟩
  .rw [if_neg a] at e;exact absurd rfl e
def OV {t:Kst} {c:Cmd} (a:jA t.d (crB c)=0):(crB c).length<=16384/\((crB c).length:Int)+8<=t.d.size-t.d.safe.length:=by
 unfold jA at a;split at a
 .cases a
 split at a
 .cases a
 .omega
open C8 (nodL hosL pl pl_append pl_len pn_len il_len ih_len okI_b) in
def aGX (x:Cmd):(C8.encB x).length<=1000000000:=by
 have i:∀ (l:List Nod),tX l=true->(pl (nodL l)).length<=110*l.length:=by
  intro l;induction l with
  | nil=>intro _;simp [nodL,pl]
  | cons x r b=>
   intro h;simp only [tX,Ad] at h;have h1:=il_len x h.1;have a:=b h.2;simp only [nodL,pl_append,Ai,Al];omega
 have j:∀ (l:List Hos),qB l=true->(pl (hosL l)).length<=60*l.length:=by
  intro l;induction l with
  | nil=>intro _;simp [hosL,pl]
  | cons x r b=>
   intro h;simp only [qB,Ad] at h;have h1:=ih_len x h.1;have a:=b h.2;simp only [hosL,pl_append,Ai,Al];omega
 unfold C8.encB;split
 .rename_i h;have T:=C8.chk_told h;have l1:=T.ln;have l2:=T.lh;have d:=T.cok;simp only [Con.tok,Ad] at d;obtain ⟨⟨h1,a⟩,h3⟩:=d;have y:=i _ h1;have q:=j _ a;have A:(nav x.c.ns).length=x.c.ns.length:=by simp
  have v:(hav x.c.hs).length=x.c.hs.length:=by simp
  have o:=pn_len (n:=x.k) (by have:=T.k;omega);have f:=pn_len (n:=x.n) (by have:=T.nok;omega);have u:=pn_len (n:=((nav x.c.ns).length:Int)) o_;have z:=pn_len (n:=((hav x.c.hs).length:Int)) o_;have w:=pn_len (n:=x.c.half) (by have:=okI_b h3 x.c.half s_;omega);have t:=pn_len (n:=x.c.age) (by have:=okI_b h3 x.c.age s_;omega);have m:(pl x.c.il).length<=3000:=by simp only [Con.il,pl_append,pl,Ai,Br];omega
  have p:=vY x.g T.gok;have s:(pl [x.n]).length<=10:=by simpa [pl] using f
  have e:=C8.il_cons x _ rfl;rw [<-e,Ai];split
  .omega
  .split
   .omega
   .split
    .simp [pl];omega
    .omega
 .simp
def KB.do_e {t:Kst} {k:Nat} (h:KB t k) (c:Cmd) (j:c.k=1->c.c.sm) (f:Bool) (e:(aV t.s c).2.2≠0\/jA t.d (crB c)≠0):
  ar 27 [.ref 0 0,c.av] (stS t.s t.n f t.d.size t.d.safe) (.ret (.tup [.slice 3 [] .nil,ii (doS t c).2.2])) (stS t.s t.n f t.d.size t.d.safe)/\
  ar 31 [.ref 0 0,c.av] (stS t.s t.n f t.d.size t.d.safe) (.ret (ii (doS t c).2.2)) (stS t.s t.n f t.d.size t.d.safe)/\(doS t c).1=t/\(doS t c).2.1=[]/\wrE t c=(doS t c).2.2/\(doS t c).2.2≠0:=by
 have hs:=h.sap c j;unfold doS wrE;by_cases q:(aV t.s c).2.2=0
 .have a:jA t.d (crB c)≠0:=e.resolve_left λ h=>h q;have l:jA t.d (Rec.b (.c c))≠0:=a;rw [if_neg (by simpa using q),if_pos l,if_neg (by simpa using q)];rw [Z5 q] at hs;obtain ⟨g,i⟩:=Y8 h c f a;exact ⟨aLd _ _ _ _ hs (aGX c) _ _ _ _ _ a g,aIL _ _ _ _ hs (aGX c) _ _ _ _ _ i,rfl,rfl,rfl,a⟩
 .rw [if_pos q,if_pos q];exact ⟨aLc _ _ _ hs q _ _ _ _,aIK _ _ _ hs q _ _ _ _,rfl,rfl,rfl,q⟩
def KB.do_ok {t:Kst} {k:Nat} (h:KB t k) (c:Cmd) (i:c.k=1->c.c.sm) (f:Bool) (q:(aV t.s c).2.2=0) (g:jA t.d (crB c)=0):
  ar 27 [.ref 0 0,c.av] (stS t.s t.n f t.d.size t.d.safe) (.ret (.tup [.slice 3 (evv (aV t.s c).2.1) .no,ii 0])) (stG (aV t.s c).1 (t.n+1) f t.d.size (t.d.safe++frm (crB c)))/\
  ar 31 [.ref 0 0,c.av] (stS t.s t.n f t.d.size t.d.safe) (.ret (ii 0)) (.cells tSt (.ref 1 0::t.s.cs)::jnO 2 t.n::dkC t.d.size (sfV f 3 t.d.safe) (wtB (frm (crB c))) false::sfT f):=by
 have a:=h.lens;have hs:=h.sap c i;rw [Z5 q] at hs;obtain ⟨b,e⟩:=OV g
 exact ⟨aIW _ _ _ _ hs (aGX c) _ _ _ _ (aGc f t.n t.d.size t.d.safe (crB c) ⟨a.2.2.2.2.1,a.2.2.2.2.2⟩ b a.2.1 a.2.2.1 o_ e),
  aEC _ _ _ _ hs (aGX c) _ _ _ _ (aF8 f t.n t.d.size t.d.safe (crB c) b a.2.1 a.2.2.1 o_ e)⟩
def Q8 {t:Kst} {c:Cmd} (q:(aV t.s c).2.2=0) (a:jA t.d (crB c)=0):doS t c=(⟨aHS t.d (crB c),t.n+1,(aV t.s c).1⟩,(aV t.s c).2.1,0):=by have e:jA t.d (Rec.b (.c c))=0:=a;unfold doS;rw [if_neg (by simpa using q),if_neg (by simpa using e)];rfl
def KB.snap_any {t:Kst} {k:Nat} (h:KB t k):kG t=0/\((83::bW t.s).length:Int)+8<=t.d.size\/kG t=9/\t.d.size<((83::bW t.s).length:Int)+8:=by
 have hl:(83::bW t.s).length<=16384:=by have:=h.okT.len;simp only [Al];omega
 have e:(Rec.b (.s t.s))=83::bW t.s:=rfl;unfold kG;rw [e,if_neg o_];split
 .rename_i q;exact .inr ⟨rfl,q⟩
 .exact .inl ⟨rfl,by omega⟩
def KB.snap_no {t:Kst} {k:Nat} (h:KB t k) (f:Bool) (q:kG t≠0):ar 28 [.ref 0 0] (stS t.s t.n f t.d.size t.d.safe) (.ret (ii (kG t))) (stS t.s t.n f t.d.size t.d.safe):=by
 have hl:=h.okT.len;rcases h.snap_any with ⟨e,_⟩ | ⟨e,a⟩
 .exact absurd e q
 .rw [e];exact aAi t.s (bW t.s) h.enc o_ _ _ _ _ _ (aGb f t.n t.d.size t.d.safe (83::bW t.s) (by simp only [Al];omega) a)
def KB.snap_ok {t:Kst} {k:Nat} (h:KB t k) (f:Bool) (q:kG t=0):ar 28 [.ref 0 0] (stS t.s t.n f t.d.size t.d.safe) (.ret (ii 0)) (.cells tSt (.ref 1 0::t.s.cs)::jnO 2 1::dkC t.d.size (sfV false 3 (frm (83::bW t.s))) bP false::sfT f):=by
 have hl:=h.okT.len;rcases h.snap_any with ⟨e,a⟩ | ⟨e,_⟩
 .exact aAh t.s (bW t.s) h.enc o_ _ _ _ _ (aGa f t.n t.d.size t.d.safe (83::bW t.s) (by simp only [Al];omega) a)
 .rw [e] at q;cases q
def aAp {t:Kst} (q:kG t=0):pK t=⟨⟨t.d.size,frm (83::bW t.s),[],false⟩,1,t.s⟩:=by unfold pK;rw [if_pos q];rfl
def aAq {t:Kst} (q:kG t≠0):pK t=t:=by unfold pK;rw [if_neg q]
abbrev R5 (ev:List Ev) (e:Int):aa:=.agg [ii e,.slice 3 (evv ev) .no]
abbrev cDo (f:Bool) (g:List UInt8) (t:Kst) (p:Kstp) (a:aa) (O:List ab):Prop:=ar 20 [.ref 0 0,wV p.k p.x p.n] (drS f f g t.d.size t.d.safe t.n t.s) (.ret a) O
inductive DoO (g:List UInt8) (t t':Kst) (p:Kstp) (a:aa):Bool->Prop
 | same {f} (h:cDo f g t p a (drS f f g t'.d.size t'.d.safe t'.n t'.s)):DoO g t t' p a f
 | full (h:cDo true g t p a (drS true false g t'.d.size t'.d.safe t'.n t'.s)):DoO g t t' p a true
 | grow {f} (h:cDo f g t p a (drG f g t'.d.size t'.d.safe t'.n t'.s)):DoO g t t' p a f
 | anew {f} (m:Int) (S:Sta) (h:cDo f g t p a (drR f f g t'.d.size t'.d.safe m t'.n S t'.s)):DoO g t t' p a f
 | wt (m:Int) (S:Sta) (h:cDo true g t p a (drW true g t'.d.size t'.d.safe m t'.n S t'.s)):DoO g t t' p a true
 | wf (m:Int) (S:Sta) (h:cDo true g t p a (drW false g t'.d.size t'.d.safe m t'.n S t'.s)):DoO g t t' p a true
 | xt (m:Int) (S:Sta) (h:cDo false g t p a (drX true g t'.d.size t'.d.safe m t'.n S t'.s)):DoO g t t' p a false
 | xf (m:Int) (S:Sta) (h:cDo false g t p a (drX false g t'.d.size t'.d.safe m t'.n S t'.s)):DoO g t t' p a false
def KB.dr3 {t:Kst} {k:Nat} (h:KB t k) (f:Bool) (g:List UInt8) (c:Cmd) (n:Int):cDo f g t ⟨3,c,n⟩ (R5 [] 0) (aMc f g t.d.size t.d.safe t.n t.n t.s t.s):=
 aA.less (aDg f g _ _ _ _ _ _ _ c n (by have:=h.lens;omega) (h.dop false f g))
def KB.dr5 {t:Kst} {k:Nat} (h:KB t k) (f:Bool) (g:List UInt8) (c:Cmd) (n:Int):cDo f g t ⟨5,c,n⟩ (R5 [] 0) (drR f f g t.d.size t.d.safe t.n t.n t.s t.s):=
 aA.less (aDf f g _ _ _ _ _ _ _ c n (h.dop false f g))
def KB.dr4 {t:Kst} {k:Nat} (h:KB t k) (C:k<58) (f:Bool) (g:List UInt8) (c:Cmd) (n:Int) (p:c.k=1->c.c.sm):DoO g t (cM t ⟨4,c,n⟩).1 ⟨4,c,n⟩ (R5 (cM t ⟨4,c,n⟩).2.1 (cM t ⟨4,c,n⟩).2.2) f:=by
 have N:=h.lens;have y:cM t ⟨4,c,n⟩=if wrE t c≠0 then (t,[],wrE t c) else (if ZC c n then (doS t c).1 else t,[],0):=rfl
 by_cases q:(aV t.s c).2.2=0/\jA t.d (crB c)=0
 .obtain ⟨q,o⟩:=q;have H:wrE t c=0:=by have J:jA t.d (Rec.b (.c c))=0:=o;unfold wrE;rw [if_neg (by simpa using q),J]
  have v:=(h.step C ⟨1,c,0⟩ p)
  replace v:KB (doS t c).1 (k+1):=v;have G:=Q8 q o;have j:=(h.do_ok c p f q o).2;obtain ⟨D,O⟩:=OV o;have fl:=dN (crB c);rw [y,if_neg (by simpa using H)];obtain ⟨A,I⟩:=I4 n (frm (crB c)).length;have z:(Rec.b (.c c))=crB c:=rfl;by_cases m:ZC c n=true
  .have u:=of_decide_eq_true m;rw [z] at u;have K:dZ n (frm (crB c)).length=(frm (crB c)).length:=o_;have l:(frm (crB c)).take (dZ n (frm (crB c)).length)=frm (crB c):=by rw [K,Ge]
   rw [if_pos m];have i:=v.dop false true g;rw [G] at i⊢;cases f
   .exact .xt t.n t.s (aA.less (DW true g _ _ _ _ _ _ _ _ c n o_ o_ (by rw [l];intro e;rw [e] at fl;simp at fl) j (by rw [l];exact i)))
   .exact .wt t.n t.s (aA.less (xW true g _ _ _ _ _ _ _ _ c n o_ o_ j (by rw [l];exact i)))
  .have u:¬ (((Rec.b (.c c)).length:Int)+8<=n):=λ e=>m (decide_eq_true e);rw [z] at u;rw [if_neg m];by_cases r:dZ n (frm (crB c)).length=0
   .have l:(frm (crB c)).take (dZ n (frm (crB c)).length)=[]:=by rw [r];rfl
    cases f
    .exact .anew t.n t.s (aA.less (Q7 g _ _ _ _ _ _ _ c n o_ o_ l j (h.dop false false g)))
    .exact .wt t.n t.s (aA.less (xW true g _ _ _ _ _ _ _ _ c n o_ o_ j (by rw [l,Av];exact h.dop false true g)))
   .have hl:((frm (crB c)).take (dZ n (frm (crB c)).length)).length=dZ n (frm (crB c)).length:=by rw [Dp];omega
    have i:=h.dopT false true g (crB c) D (dZ n (frm (crB c)).length) r o_;cases f
    .exact .xf t.n t.s (aA.less (DW false g _ _ _ _ _ _ _ _ c n o_ o_ (λ e=>r (by rw [<-hl,e];rfl)) j i))
    .exact .wf t.n t.s (aA.less (xW false g _ _ _ _ _ _ _ _ c n o_ o_ j i))
 .have B:(aV t.s c).2.2≠0\/jA t.d (crB c)≠0:=by exact zqta8
  obtain ⟨_,x,M,L,F,w⟩:=h.do_e c p f B;rw [<-F] at x w;rw [y,if_pos w];exact .same (aA.less (aG9 f g _ _ _ _ c n _ w x))
def KB.dr {t:Kst} {k:Nat} (h:KB t k) (z:k<58) (f:Bool) (g:List UInt8) (p:Kstp) (l:p.x.k=1->p.x.c.sm):DoO g t (cM t p).1 p (R5 (cM t p).2.1 (cM t p).2.2) f:=by
 obtain ⟨i,c,n⟩:=p;by_cases i4:i=4
 .subst i4;exact h.dr4 z f g c n l
 by_cases m:i=1
 .subst m;have e:cM t ⟨1,c,n⟩=doS t c:=rfl;rw [e];by_cases q:(aV t.s c).2.2=0/\jA t.d (crB c)=0
  .obtain ⟨q,u⟩:=q;have h1:=(h.do_ok c l f q u).1;rw [Q8 q u];exact .grow (N0 f g _ _ _ _ _ _ _ _ c n h1)
  .have y:(aV t.s c).2.2≠0\/jA t.d (crB c)≠0:=by exact zqta8
   obtain ⟨A,_,w,v,_⟩:=h.do_e c l f y;rw [w,v];exact .same (aA.less (aHa f g _ _ _ _ c n _ A))
 by_cases j:i=2
 .subst j;have e:cM t ⟨2,c,n⟩=(pK t,[],kG t):=rfl;rw [e];by_cases q:kG t=0
  .rw [aAp q,q];have:=aA.less (aDh f g _ _ _ _ _ c n (h.snap_ok f q));cases f
   .exact .same this
   .exact .full this
  .rw [aAq q];exact .same (aA.less (aDi f g _ _ _ _ c n _ (h.snap_no f q)))
 by_cases r:i=3
 .subst r;have e:cM t ⟨3,c,n⟩=(t,[],0):=rfl;rw [e];cases f
  .exact .anew t.n t.s (h.dr3 false g c n)
  .exact .wt t.n t.s (h.dr3 true g c n)
 by_cases o:i=5
 .subst o;have e:cM t ⟨5,c,n⟩=(t,[],0):=rfl;rw [e];exact .anew t.n t.s (h.dr5 f g c n)
 .have e:cM t ⟨i,c,n⟩=(t,[],1):=by unfold cM;dsimp only;rw [if_neg m,if_neg j,if_neg i4,if_neg o_]
  rw [e];exact .same (aA.less (aDe f g _ _ _ _ c i n m j r i4 o))
def G4 (n:Int) (g:List UInt8):ar 18 [ii n] [fC g] (.ret (.ref 1 0)) (drN g (sM n).d.size [] 0 oN):=aDd g n oN 0 ((kb0 n).dop true false g)
def aDq (s:Sta):(aV s Cmd.zero).1=s/\(aV s Cmd.zero).2.2=1:=by unfold aV;rw [if_pos d_];exact ⟨rfl,(by show C8.chk Cmd.zero=1;decide)⟩
def KB.stt {t:Kst} {k:Nat} (h:KB t k) (f:Bool) (g:List UInt8):ar 22 [.ref 0 0] (drS f f g t.d.size t.d.safe t.n t.s) (.ret t.s.av) (drS f f g t.d.size t.d.safe t.n t.s):=by have a:=h.sap Cmd.zero (λ e=>by cases e);have h1:=WS t.s _ a t.n f t.d.size t.d.safe;rw [(aDq t.s).1] at h1;exact Q6 f f id g _ _ _ _ _ h1
def KB.dsk {t:Kst} {k:Nat} (h:KB t k) (f:Bool) (g:List UInt8):ar 37 [.ref 0 0] (drS f f g t.d.size t.d.safe t.n t.s) (.ret (.str t.d.safe)) (drS f f g t.d.size t.d.safe t.n t.s):=YO f g _ _ _ _ (by have:=h.lens;omega)
open Go.ChangeShapes Go.WideShapes Go.ChangeAt Go.RowKit
set_option maxRecDepth 10000
def Kstp.cs (p:Kstp):List aa:=ii p.k::(p.x.cs++[ii p.n])
def Kstp.av (p:Kstp):aa:=.agg p.cs
abbrev stv (l:List Kstp):List aa:=l.map Kstp.av
def aKZ {n:Nat} {cs:List aa} (h:TyN Tryz.prog 1048576 (n+7) 60 cs):∃ p:Kstp,cs=p.cs/\CmSm p.x:=by unfold TyN at h;rw [Tryz.underlying60] at h;obtain ⟨d,r,rfl,a,e,r,rfl,h1,f,r,rfl,b,rfl⟩:=h;obtain ⟨k,rfl⟩:=iC a;obtain ⟨x,rfl,c⟩:=aK1 (n:=n) h1;obtain ⟨m,rfl⟩:=iC b;exact ⟨⟨k,x,m⟩,rfl,c⟩
section
variable {H:Type} {enc:TypeId×Value->H} {W:World} {r:Reach} {base b0:Nat} {spare:Nat->Bool} {held:Bool} {v:Value} {d:DataW H} {ps:List MemPlace}
def aBp (b:Lc Tryz.prog W r b0 60 v) (h:DataW.Trod enc Tryz.prog W base spare held 60 v d ps) (e:Rows.uptoBulk d<=1048576):∃ p:Kstp,Rep (Mw W) [] v p.av/\CmSm p.x:=by obtain ⟨g,c,a⟩:=aDU (n:=7) (aMt H 1048576) (by kernel_rfl) (by kernel_rfl) b h e;obtain ⟨x,rfl,f⟩:=aKZ (n:=0) a;exact ⟨x,c,f⟩
end
noncomputable abbrev fPl:Func:=Tryz.f35
abbrev aMY (a:List Ev×Int):aa:=R5 a.1 a.2
abbrev anv (l:List (List Ev×Int)):List aa:=l.map aMY
abbrev aKU:ab:=KC
abbrev plO (f:Bool) (g:List UInt8) (t:Kst):List ab:=match f with
 | true=>[fC g,aKU,.cells tDr [.ref 3 0,.ref 6 0],dkC t.d.size (sfV true 4 t.d.safe) bP false,.tail 0 1 5,jnO 3 t.n,.cells tSt (.ref 5 0::t.s.cs),.tail 0 2 63]
 | false=>[fC g,aKU,.cells tDr [.ref 3 0,.ref 5 0],dkC t.d.size (sfV false 4 t.d.safe) bP false,jnO 3 t.n,.cells tSt (.ref 4 0::t.s.cs),.tail 0 2 63]
abbrev plN (f:Bool):Nat:=match f with | true=>7 | false=>6
def aFv (L:List Kstp) (B:L.length<=57) (q:∀ p∈L,p.x.c.sm) (g:List UInt8) (R:Kst) (A:List (List Ev×Int)):∀ (m i:Nat) (t:Kst) (bs:List (List Ev×Int)) (f:Bool),i+m=L.length->bs.length=i->KB t i->B4 (L.drop i) t=R->bs++R6 (L.drop i) t=A->
  To (Eo [7] []) fPl (.full 1 (.ret (.tup [.slice 2 (anv A) .no,R.s.av])) [fC g]) (.head (stk fPl 0) [(5,.ref 1 0),(6,.ref 2 0),(7,.slice 2 (anv bs) (.own (plN f) 0)),(12,.slice 17 (stv L) .no),(13,.int .i64 ((stv L).length:Nat)),(14,ii i)] (plO f g t)):=by
 have v:(stv L).length=L.length:=by simp
 intro m;induction m with
 | zero=>
  intro i t bs f w z j b a;rw [Ah o_] at b a;have b:t=R:=b;have a:bs++[]=A:=a;rw [Av] at a;subst b a;have hs:=j.stt f g;clear j;cases f
  .refine gV ?_;refine aF λ h=>?_
   repeat' first | (refine gN (hEo [7] []) ?_;conv=>whnf) | refine .eff [] [2,3,0,4,5] _ _ rfl hs ?_ | exact zx [0] | exact rfl | (refine zt ?_;try intro h) | refine zu (λ h=>?_) λ h=>?_ | fail
  .refine gV ?_;refine aF λ h=>?_
   repeat' first | (refine gN (hEo [7] []) ?_;conv=>whnf) | refine .eff [] [2,3,4,0,5,6] _ _ rfl hs ?_ | exact zx [0] | exact rfl | (refine zt ?_;try intro h) | refine zu (λ h=>?_) λ h=>?_ | fail
 | succ m u=>
  intro i t bs f w z j b a;have d:i<L.length:=o_;rw [Ae d] at b a;have get:(stv L)[i]? =some L[i].av:=by simp [d]
  have hp:=q L[i] (Bh d);generalize L[i]=p at b a get hp;have y:=j.dr o_ f g p (λ_=>hp);have k:=j.step o_ p (λ_=>hp);have ao:=u (i+1) (cM t p).1 (bs++[(cM t p).2])
  have o:anv (bs++[(cM t p).2])=anv bs++[R5 (cM t p).2.1 (cM t p).2.2]:=by simp
  rw [o] at ao
  have l:(anv bs).length<=1048576:=by simp;omega
  replace ao:=λ f=>ao f o_ q_ k b (by rw [Af];exact a)
  generalize cM t p=r at *
  obtain ⟨C,ev,e⟩:=r;dsimp only at *
  clear u b a o j k q hp;cases f
  all_goals
   cases y
  all_goals
   rename_i n;refine gV ?_;refine aT λ h=>?_
   repeat' first | (refine gN (hEo [7] []) ?_;conv=>whnf) | refine ⟨i,rfl,?_⟩ | refine ⟨_,get,?_⟩ | refine .eff [] [2,3,0,4,5] _ _ rfl n ?_ | refine .eff [] [2,3,4,0,5,6] _ _ rfl n ?_ | refine Ac (wD l d_) ?_ | exact rfl | (refine zt ?_;try intro h) | refine zu (λ h=>?_) λ h=>?_ | fail
   first
    | exact To.part [5,6,7,12,13,14] [0,1,2,3,4,5,6] rfl rfl rfl (ao false)
    | exact To.part [5,6,7,12,13,14] [0,1,2,3,8,4,5,6] rfl rfl rfl (ao true)
    | exact To.part [5,6,7,12,13,14] [0,1,2,3,8,9,6] rfl rfl rfl (ao false)
    | exact To.part [5,6,7,12,13,14] [0,1,2,3,8,9,10,6] rfl rfl rfl (ao true)
    | exact To.part [5,6,7,12,13,14] [0,1,2,3,9,10,6] rfl rfl rfl (ao false)
    | exact To.part [5,6,7,12,13,14] [0,1,2,3,4,5,6,7] rfl rfl rfl (ao true)
    | exact To.part [5,6,7,12,13,14] [0,1,2,3,5,6,7] rfl rfl rfl (ao false)
    | exact To.part [5,6,7,12,13,14] [0,1,2,3,4,9,10,7] rfl rfl rfl (ao true)
    | exact To.part [5,6,7,12,13,14] [0,1,2,3,9,10,7] rfl rfl rfl (ao false)
def aFu (n:Int) (L:List Kstp) (b:L.length<=57) (d:∀ p∈L,p.x.c.sm) (g:List UInt8):
  ar 35 [ii n,.slice 17 (stv L) .no] [fC g] (.ret (.tup [.slice 2 (anv (R6 L (sM n))) .no,(B4 L (sM n)).s.av])) [fC g]:=by
 have h:=aFv L b d g (B4 L (sM n)) (R6 L (sM n)) L.length 0 (sM n) [] false o_ rfl (kb0 n) (by rw [Ci]) (by rw [Ci];rfl);have a:=G4 n g;generalize B4 L (sM n)=R at *
 generalize R6 L (sM n)=A at *
 refine cT (E:=(Eo [7] [])) (fn:=Tryz.f35) (g:=.full 1 _ _) λ_=>?_
 repeat' first | (refine gN (hEo [7] []) ?_;conv=>whnf) | refine .eff [] [0] _ _ rfl a ?_ | exact rfl | (refine zt ?_;try intro h) | refine zu (λ h=>?_) λ h=>?_ | fail
 refine To.part [5,6,7,12,13,14] [0,1,2,3,4,5,6] rfl rfl rfl ?_;exact h
def WN (k n p:Int):ar 82 [ii k,ii n,ii p] [] (.ret (Kstp.av ⟨k,kQ n,p⟩)) []:=by exact c_ Tryz.f82 λ_=>zW
def KB.dr1 {t:Kst} {k:Nat} (h:KB t k) (f:Bool) (g:List UInt8) (c:Cmd) (b:c.k=1->c.c.sm) (n:Int) {d:Dk} {i:Int} {S:Sta} {ev:List Ev} (e:cM t ⟨1,c,n⟩=(⟨d,i,S⟩,ev,0)):cDo f g t ⟨1,c,n⟩ (R5 ev 0) (drG f g d.size d.safe i S):=by
 have e:doS t c=(⟨d,i,S⟩,ev,0):=e;by_cases q:(aV t.s c).2.2=0
 .by_cases a:jA t.d (crB c)=0
  .have h1:=(h.do_ok c b f q a).1;rw [Q8 q a] at e;simp only [Ke,Kst.mk.injEq] at e;obtain ⟨⟨rfl,rfl,rfl⟩,rfl,_⟩:=e;exact N0 f g _ _ _ _ _ _ _ _ c n h1
  .have:=(h.do_e c b f (.inr a)).2.2.2.2.2;rw [e] at this;exact absurd rfl this
 .have:=(h.do_e c b f (.inl q)).2.2.2.2.2;rw [e] at this;exact absurd rfl this
def aEf:∀ p∈V9,p.x.c.sm:=by intro p hp;refine ⟨?_,?_⟩<;>(revert p;decide)
set_option maxHeartbeats 1000000 in
def R4 (g:List UInt8):ar 34 [] [fC g] (.ret (.bool true)) [fC g]:=by
 obtain ⟨e,k,m⟩:=w27;obtain ⟨d,i,b,c⟩:=aMx;have hp:=aFu 1000 V9 d_ aEf g;rw [k,m] at hp;have o:=G4 1000 g;have j:=kb0 1000;have p:=j.dr1 false g (kQ 7) (λ h=>by cases h) 0 b;have a:=j.step d_ (tk 1 7 0) (λ h=>by cases h);rw [b] at a;have hs:=a.stt true g;have l:=a.dsk true g;have h1:=WN;clear j a k m b;dsimp only at hs l;generalize d.safe=x at *
 generalize d.size=n at *
 iterate 11 (rcases x with _ | ⟨_,x⟩;· simp at c)
 rcases x with _ | ⟨_,x⟩
 rotate_left
 .simp at c
 clear c;refine cT (E:=E) (fn:=Tryz.f34) (g:=.full 1 _ _) λ_=>?_
 repeat' first | (refine gN hE ?_;conv=>whnf) | refine .pure _ [] (h1 _ _ _) ?_ | refine .eff [] [0] _ _ rfl (aA.strip hp) ?_ | refine .eff [] [0] _ _ rfl o ?_ | refine .eff [] [2,3,0,4,5] _ _ rfl p ?_ | refine .eff [] [2,3,6,0,4,5] _ _ rfl hs ?_ | refine .eff [] [2,3,6,0,4,5] _ _ rfl l ?_ | exact zx [0] | exact rfl | (refine zt ?_;try intro h) | refine zu (λ h=>?_) λ h=>?_ | fail
def aDj (p:Kstp) (g:List UInt8):ar 9 [p.av] [fC g] (.ret (.bool true)) [fC g]:=by
 obtain ⟨k,c,n⟩:=p;have h1:=aML k c n;have a:=aFL;have h3:=aE7;have b:=W0 oN oN HZ.small.1 d_ true (PD oN);have e:=aJA;have d:=R4 g;refine cT (E:=E) (fn:=Tryz.f9) (g:=.full 1 _ _) λ_=>?_
 repeat' first | (refine gN hE ?_;conv=>whnf) | refine .pure _ [] h1 ?_ | refine .pure _ [] a ?_ | refine .pure _ [] h3 ?_ | refine .pure _ [] b ?_ | refine .pure _ [] e ?_ | refine .eff [] [0] _ _ rfl d ?_ | exact zx [0] | exact rfl | (refine zt ?_;try intro h) | refine zu (λ h=>?_) λ h=>?_ | fail
set_option maxRecDepth 100000
def Q5:List UInt8:=[115,116,111,114,101,58,32,110,111,32,114,101,99,111,114,100]
def own:ownKnob Tryz.prog.godebug=none:=by kernel_rfl
def aDa: "*" ++ "errors.errorString" = "*errors.errorString" :=by decide
def aMb (u:TypeId) (h:Tryz.prog.typeName? 3 u=some "*errors.errorString"):u=416:=
 typeName_ptr_named (nm:= "errors.errorString") (by rw [aDa];kernel_rfl) (by kernel_rfl) d_ u (by rw [aDa];exact h)
noncomputable def xI (os:Os):World:=
 let N:=(World.settled Tryz.prog os).heap.size
 let w0:=World.holding Tryz.prog os ⟨#[.cells #[.string ⟨Q5.toArray⟩] 438],#[],[]⟩
 {w0 with heap:=w0.heap.modify 0 fun
   | .cells _ t a=>.cells #[.iface 416 (.pointer (some ⟨N,0,none⟩))] t a
   | o=>o}
def aBZ (os:Os) (args:Array Value):laidMet Tryz.prog [("tithebarn/store.errBad",Rows.laid_tithebarn_store_errBad)] ((xI os).forCall (λ_ _=>0) ⟨#[],args,[]⟩).memory:=
 laidMet_of_run' 8 (by kernel_rfl) (by kernel_rfl)
def NU {W:World} (h:laidMet Tryz.prog [("tithebarn/store.errBad",Rows.laid_tithebarn_store_errBad)] W):∃ u,W.cell? ⟨0,0,none⟩=some u∧u.oneCell'=true∧Rep (Mg W 0 (YN Q5)) [] u (YN Q5):=by
 obtain ⟨a,s,m,f,hs,hm⟩:=laid_sentinel (g:=0) h (by kernel_rfl) (by kernel_rfl) Tryz.underlying139 aMb Tryz.underlying416 Tryz.underlying438 rfl rfl Tryz.underlying9 (by kernel_rfl) (by kernel_rfl);have n:W.cell? ⟨0,0,none⟩=some (.iface 416 (.pointer (some a))):=by have:=World.var?_cell (g:=0) (by kernel_rfl) m 0;simpa using this
 obtain ⟨b,o,l⟩:=a;have i:l=none:=by
  cases l with
  | none=>rfl
  | some x=>
   unfold Km at f;dsimp only at f;split at f
   .simp at f
   .cases f
 subst i;refine ⟨_,n,rfl,.iface _ _ _ (.ptr b o _ λ j c k=>?_)⟩;cases j with
 | zero=>
  cases k;refine .inl ⟨_,f,rfl,?_⟩;have e:s=⟨Q5.toArray⟩:=by obtain ⟨d⟩:=s;have hs:d.toList=Q5:=hs;rw [<-hs]
  rw [e];exact .str Q5 d_
 | succ j=>simp at k
end Go.Proofs.YtidhfoefaomodaaGreatDoor
