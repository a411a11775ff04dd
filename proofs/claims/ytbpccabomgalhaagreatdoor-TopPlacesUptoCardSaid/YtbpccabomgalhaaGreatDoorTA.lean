/- Part 11 of what the statement rests on. -/
import Derived.Lib.Builder
import Derived.Lib.UnsafeStr
import Derived.Lib.Walk
import Derived.Shelf.RegionOpenPlain
import Derived.ScopeJumps
import Derived.Test.YtbpccabomgalhaaGreatDoorRows
import Derived.Deep.DeepHandedRow
import Derived.Deep.DeepWitnessRowRef
import Derived.Stop.LaidErr
import Derived.LaidLaws
import Derived.ProofKit
import Derived.Test.YtbpccabomgalhaaGreatDoorYA
set_option linter.all false
set_option maxHeartbeats 1000000
open And renaming intro->Ab
open Bool renaming and_eq_true->Ad
open Go.Builtin renaming unsafeSliceData_->Iq,unsafeString_->Jn
open Go.Result renaming andThen->Eb
open Go.World renaming cell?->Kh,shape?->Jc
open Int renaming fdiv_eq_ediv_of_nonneg->Dy,toNat_natCast->Bn
open List renaming append_assoc->Ae,append_nil->Au,cons_append->Ca,drop_eq_getElem_cons->Ag,drop_eq_nil_of_le->Ai,drop_left->Jd,drop_zero->Cg,eq_nil_of_length_eq_zero->Ay,getElem_mem->Bd,length_append->Ah,length_cons->Al,length_drop->Eg,length_map->Cf,length_nil->Br,length_pos_iff->Dw,length_take->Dl,map_append->Bk,map_take->Ga,mem_cons->Bc,mem_cons_of_mem->Bb,mem_cons_self->Ar,take_left->Hg,take_length->Fx,take_of_length_le->Cd
open Nat renaming div_one->Ig,le_refl->Bf,le_succ->Hl,le_trans->Cx,mul_le_mul->Gc,pow_le_pow_right->Ek,strongRecOn->Hq,zero_add->Bw,zero_le->Bt,zero_lt_succ->Lr
open Option renaming map_eq_some_iff->Cb
open UInt8 renaming ofNat->Dt,toNat_ofNat'->Gr
namespace Go.Proofs.YtbpccabomgalhaaGreatDoor
open Go Go.AW Go.Proofs
def zqta0{P:Prop}(h:P:=by
 have h:=OP f n s a h1 hs;cases f
 .refine cT (E:=E) (fn:=Tryz.f143) (g:=.full 1 _ _) λ_=>?_;exact zW
 .refine cT (E:=E) (fn:=Tryz.f143) (g:=.full 2 _ _) λ_=>?_
  exact zW):P:=h
def zqta1{P:Prop}(h:P:=by
 cases f
 .refine cT (E:=E) (fn:=Tryz.f153) (g:=.full 1 _ _) λ_=>?_;exact zW
 .refine cT (E:=E) (fn:=Tryz.f153) (g:=.full 2 _ _) λ_=>?_
  exact zW):P:=h
def zqta2{P:Prop}(h:P:=by
 cases f
 .refine cT (E:=E) (fn:=Tryz.f140) (g:=.full 1 _ _) λ_=>?_;exact zW
 .refine cT (E:=E) (fn:=Tryz.f140) (g:=.full 2 _ _) λ_=>?_
  exact zW):P:=h
def zqta3{P:Prop}(h:P:=by
 refine cT (E:=E) (fn:=Tryz.f58) (g:=.full 2 _ _) λ_=>?_
 exact zW):P:=h
def zqta4{P:Prop}(h:P:=by
 cases e<;>first | exact j | skip
 rcases j with ⟨rfl,g,f⟩ | ⟨rfl,g,f⟩
 .exact ⟨.inl ⟨rfl,g⟩,f⟩
 .exact ⟨.inr ⟨rfl,g⟩,f⟩):P:=h
def zqta5{P:Prop}(h:P:=by
 refine cT (E:=E) (fn:=Tryz.f145) (g:=.full 1 _ _) λ_=>?_
 exact zW):P:=h
def zqta6{P:Prop}(h:P:=by
 refine cT (E:=E) (fn:=Tryz.f145) (g:=.full 2 _ _) λ_=>?_
 exact zW):P:=h
def zqta7{P:Prop}(h:P:=by
 refine cT (E:=E) (fn:=Tryz.f270) (g:=.full 1 _ _) λ_=>?_
 exact zW):P:=h
def zqta8{P:Prop}(h:P:=by
 by_cases a:(aH t.s c).2.2=0
 .exact .inr λ b=>q ⟨a,b⟩
 .exact .inl a):P:=h
def aIo:Nat->Int->Int
 | 0,x=>x
 | k+1,x=>aIo k (bits .xor .u32 (x / 2) (bits .and .u32 2197175160 (-bits .and .u32 x 1 % 4294967296)))
def D8:ay->Int->Int
 | [],x=>x
 | b::r,x=>D8 r (aIo 8 (bits .xor .u32 x ((b.toNat:Int) % 4294967296)))
def wZ(s:ay):Int:=bits .xor .u32 IntKind.u32.max (D8 s 4294967295)
def iO(op:BinOp)(x y:Int):0<=bits op .u32 x y/\bits op .u32 x y<4294967296:=by have h:inR .u32 (bits op .u32 x y):=jY .u32 _;simp only [inR,bW,aW] at h;omega
def lS(n:Nat):ay:=[Dt n,Dt (n / 256),Dt (n / 65536),Dt (n / 16777216)]
def eD:ay->Nat
 | a::b::c::d::_=>a.toNat+256*b.toNat+65536*c.toNat+16777216*d.toNat
 | _=>0
def sX(n:Nat)(r:ay)(h:n<4294967296):eD (lS n++r)=n:=by simp only [lS,eD,Ca,Gr];omega
def frm(s:ay):ay:=lS s.length++lS (wZ s).toNat++s
def jU(s:ay):Int:=
 if s.length<8 then 10 else if 16384<eD s then 8 else if (s.length:Int)-8<eD s then 10
 else if wZ ((s.drop 8).take (eD s))≠(eD (s.drop 4):Int) then 11 else 0
def rF(s:ay):ay:=(s.drop 8).take (eD s)
def eJ(s:ay):(frm s).length=s.length+8:=by simp [frm,lS]
def SC(s:ay):0<=wZ s/\wZ s<4294967296:=by exact iO _ _ _
def aBy(s r:ay)(h:s.length<=16384):jU (frm s++r)=0/\rF (frm s++r)=s:=by
 have b:eD (frm s++r)=s.length:=by unfold frm;rw [Ae,Ae,sX _ _ o_]
 have c:(frm s++r).drop 4=lS (wZ s).toNat++(s++r):=by unfold frm;rw [Ae,Ae];rfl
 have d:(frm s++r).drop 8=s++r:=by unfold frm;rw [Ae,Ae];rfl
 obtain ⟨f,e⟩:=SC s;have hl:(frm s++r).length=s.length+8+r.length:=by rw [Ah,eJ]
 have a:rF (frm s++r)=s:=by unfold rF;rw [b,d,Hg]
 refine ⟨?_,a⟩;unfold jU;unfold rF at a;rw [hl,b] at *
 rw [a,c,sX _ _ o_,if_neg o_,if_neg o_,if_neg o_,if_neg o_]
def aBz(s:ay)(k:Nat)(h:s.length<=16384)(c:k<s.length+8):jU ((frm s).take k)≠0:=by
 have hl:((frm s).take k).length=k:=by rw [Dl,eJ];omega
 unfold jU;rw [hl];by_cases a:k<8
 .rw [if_pos a];decide
 .rw [if_neg a];have b:eD ((frm s).take k)=s.length:=by
   have:(frm s).take k=lS s.length++((lS (wZ s).toNat++s).take (k-4)):=by unfold frm;rw [Ae,List.take_append,Cd (by simp [lS];omega)];rfl
   rw [this,sX _ _ o_]
  rw [b,if_neg o_,if_pos o_];decide
def aBx:jU []≠0:=by decide
def nW:List ay->Nat
 | []=>0
 | t::l=>t.length+8+nW l
def eF:List ay->ay
 | []=>[]
 | t::l=>frm t++eF l
def rS:∀ l:List ay,(eF l).length=nW l
 | []=>rfl
 | t::l=>by rw [eF,nW,Ah,eJ,rS l]
def N4:∀ (l m:List ay),eF (l++m)=eF l++eF m
 | [],_=>rfl
 | t::l,m=>by rw [Ca,eF,eF,N4 l m,Ae]
structure Dk where
 size:Int
 safe:ay
 waits:ay
 sw:Bool
def Dk.new(n:Int):Dk:=⟨min (max n 0) 1048576,[],[],false⟩
def Dk.free(d:Dk):Int:=if d.sw then d.size-d.waits.length else d.size-d.waits.length-d.safe.length
end Go.Proofs.YtbpccabomgalhaaGreatDoor
namespace Go.Proofs.YtbpccabomgalhaaGreatDoor.TB
open Go Go.AW Go.Proofs Go.RowKit
set_option maxRecDepth 100000
set_option maxHeartbeats 2000000
abbrev tWr:TypeId:=270
def wE:liesAt Tryz.prog Tryz.prog.depth tWr (2 / Tryz.prog.cellsOf tWr) 0 270 1=true:=by kernel_rfl
def vP:(Tryz.prog.info? 270).map (·.size)=some 2:=by kernel_rfl
def K7:Tryz.prog.underlying 268=some (.pointer 270):=by kernel_rfl
def K6:Tryz.prog.underlying 328=some .unsafePointer:=by kernel_rfl
def OA:Tryz.prog.funcs[244]? =some Tryz.f244:=by kernel_rfl
def gB(b:Nat)(w:World)(h:w.cell? ⟨b,0,none⟩=some (.pointer none))(a:w.shape? b=some (tWr,2))(g:w.frozen? ⟨b,0,none⟩=false):
  Calls Tryz.prog 204 #[.pointer (some ⟨b,0,none⟩)] w λ e w'=>e= .returned (.tuple #[])/\w'=w.setCell ⟨b,0,none⟩ (.pointer (some ⟨b,0,none⟩)):=by
 obtain ⟨j,d,c⟩:=Cb.1 vP
 go_enter Tryz.func204,Tryz.ntmps204
 go_wp2
 rw [Lib.run_to_unsafe w ⟨b,0,none⟩ K7 K6 d (by rw [c];decide) a (Lr 1)];simp only [Eb];rw [Oper.upon_value]
 go_wp2
 rw [run_callFunc_extern OA (by kernel_rfl) (by kernel_rfl) (by kernel_rfl) (e:=Extern.AbiNoEscape.same) (by kernel_rfl)];rw [Lib.run_noEscape];simp only [Eb];rw [Oper.upon_value]
 go_wp2
 rw [Lib.run_from_unsafe w ⟨b,0,none⟩ K6 K7 d a wE];simp only [Eb];rw [Oper.upon_value]
 go_wp2
 go_end0;exact ⟨rfl,rfl⟩
def aAw:Tryz.prog.underlying 323=some (.pointer 5):=by kernel_rfl
def aEt:Tryz.prog.cellsOf 5=1:=by kernel_rfl
def nR(b g cap:Nat)(p:Value)(a:Array Value)(l:ay)(w:World)(k:w.heap[b]? =some (.cells #[p,.slice (some ⟨g,0,none⟩) l.length cap] tWr (0,0)))(r:w.heap[g]? =some (.cells a 5 (0,0)))(n:l≠[])
  (o:l.length<=cap) (m:cap<=maxLen) (v:a.size=cap) (c:∀ (j:Nat) x,l[j]? =some x->w.cell? ⟨g,j,none⟩=some (.int .u8 x.toNat)):
  Calls Tryz.prog 152 #[.pointer (some ⟨b,0,none⟩)] w λ e w'=>e= .returned (.string ⟨l.toArray⟩)/\H4 g l.length w w':=by
 have h:l.length≠0:=by simpa using n
 have y:w.drew.cell? ⟨b,1,none⟩=some (.slice (some ⟨g,0,none⟩) l.length cap):=by have:w.drew.heap[b]? =some (.cells #[p,.slice (some ⟨g,0,none⟩) l.length cap] tWr (0,0)):=k;rw [Lib.cell_of_heap this];rfl
 have s:(Iq #[195] 323 #[.slice (some ⟨g,0,none⟩) l.length cap]).run Tryz.prog w.drew= .ok (.pointer (some ⟨g,0,none⟩)) w.drew:=
  Lib.run_unsafeSliceData_row _ _ _ _ _ _ o_
 have u:(Jn #[323,3] 9 #[.pointer (some ⟨g,0,none⟩),.int .i64 l.length]).run Tryz.prog w.drew= .ok (.string ⟨l.toArray⟩) (w.drew.freeze ⟨g,0,none⟩ l.length):=by refine Lib.run_unsafeString_row w.drew 323 3 9 5 aAw aEt g a.size (by have i:w.drew.heap[g]? =some (.cells a 5 (0,0)):=r;simp [Jc,i]) l n o_ (by unfold maxLen at m;omega) ?_;intro j x q;rw [aZ,Bw];exact c j x q
 have d:Tryz.prog.follows Departure.mixedOrders=true:=hE.mix
 go_enter Tryz.func152,Tryz.ntmps152
 go_wp2
 go_region_o
 all_goals (go_wp2;go_ret;exact ⟨rfl,RF h⟩)
def cc_fresh(s:aa):aq 204 [.ref 0 0] [.cells tWr [.nilptr,s]] (.ret (.tup [])) [.cells tWr [.ref 0 0,s]]:=
 nN (λ_ _=>by rfl) gB s
def str_ok(l:ay)(a:l≠[])(p:aa):aq 152 [.ref 0 0] [.cells tWr [p,.slice 1 (l.map ub) (.own 1 0)],.tail 0 1 5] (.ret (.str l)) [.dead,.dead]:=
 lZ (λ_ _=>by rfl) nR l a p
end Go.Proofs.YtbpccabomgalhaaGreatDoor.TB
namespace Go.Proofs.YtbpccabomgalhaaGreatDoor
open Go Go.AW Go.Proofs
set_option maxRecDepth 100000
def uH(J:Nat->Act->World->Prop)(Q:Exit->Act->World->Prop):Exit->Act->World->Prop
 | .goto l,a,w=>J l a w
 | e,a,w=>Q e a w
def AG{P:Program}{a:Act}{w:World}{Q:Exit->Act->World->Prop}{c:Code}(rest:Nat->Code)(J:Nat->Act->World->Prop)(μ:Nat->Act->World->Nat)(D:∀ l a w,J l a w->findLabel c l=some (rest l))
  (first:c.wp P (uH J Q) a w) (r:∀ l a w,J l a w->(rest l).wp P (uH (λ o q w'=>J o q w'/\μ o q w'<μ l a w) Q) a w):(Code.scope c).wp P Q a w:=by
 intro b k cs;have y:∀ l a w,J l a w->gotoIn l (.inScope c::k)=some (.code (rest l):: .inScope c::k):=λ l a w h=>by simp [gotoIn,D l a w h]
 have key:∀ n l a w,μ l a w=n->J l a w->∃ e q w',Q e q w'/\Arrives P (lone (b.at a (.code (rest l):: .inScope c::k)) cs w) b k cs e q w':=by
  intro n;induction n using Hq with
  | _ n C=>
   intro l a w F z;obtain ⟨e,i,j,g,d⟩:=r l a w z b (.inScope c::k) cs;cases e with
   | normal=>exact ⟨.normal,i,j,g,Steps.trans d (.one step_inScope)⟩
   | exit id=>exact ⟨.exit id,i,j,g,λ u x=>d u (by simp [exitTo,x])⟩
   | goto o=>
    obtain ⟨p,B⟩:=g;obtain ⟨s,v,t,m,f⟩:=C _ o_ o i j rfl p;exact ⟨s,v,t,m,.of_steps (d _ (y _ _ _ p)) f⟩
   | ret=>exact ⟨_,i,j,g,d⟩
   | panic A=>exact ⟨_,i,j,g,d⟩
   | outgrown=>exact ⟨_,i,j,g,d⟩
 obtain ⟨e,i,j,g,d⟩:=first b (.inScope c::k) cs
 cases e with
 | normal=>exact ⟨.normal,i,j,g,.head step_scope (Steps.trans d (.one step_inScope))⟩
 | exit id=>exact ⟨.exit id,i,j,g,λ u x=>.head step_scope (d u (by simp [exitTo,x]))⟩
 | goto o=>
  obtain ⟨s,v,t,m,f⟩:=key _ o i j rfl g;exact ⟨s,v,t,m,.of_steps (.head step_scope (d _ (y _ _ _ g))) f⟩
 | ret=>exact ⟨_,i,j,g,.of_steps (.one step_scope) d⟩
 | panic A=>exact ⟨_,i,j,g,.of_steps (.one step_scope) d⟩
 | outgrown=>exact ⟨_,i,j,g,.of_steps (.one step_scope) d⟩
def H6{P:Program}{a:Act}{w:World}{Q:Exit->Act->World->Prop}{c m n:Code}(k J1:Act->World->Prop)(μ0 μ1:Act->World->Nat)(o:findLabel c 0=some m)(h1:findLabel c 1=some n)
  (first:c.wp P (uH (λ l a w=>(l=0/\k a w)\/(l=1/\J1 a w)) Q) a w)
  (d:∀ a w,k a w->m.wp P (uH (λ l b w'=>(l=0/\k b w'/\μ0 b w'<μ0 a w)\/(l=1/\J1 b w'/\μ1 b w'<μ0 a w)) Q) a w)
  (i:∀ a w,J1 a w->n.wp P (uH (λ l b w'=>(l=0/\k b w'/\μ0 b w'<μ1 a w)\/(l=1/\J1 b w'/\μ1 b w'<μ1 a w)) Q) a w):(Code.scope c).wp P Q a w:=by
 refine AG (λ l=>if l=0 then m else n) (λ l a w=>(l=0/\k a w)\/(l=1/\J1 a w)) (λ l a w=>if l=0 then μ0 a w else μ1 a w) (λ l a w h=>?_) first λ l a w h=>?_
 .rcases h with ⟨rfl,_⟩ | ⟨rfl,_⟩
  .exact o
  .exact h1
 .rcases h with ⟨rfl,h⟩ | ⟨rfl,h⟩
  .refine wp_mono (d a w h) λ e b w' j=>?_;exact zqta4
  .refine wp_mono (i a w h) λ e b w' j=>?_;exact zqta4
def aCO(k:Nat)(a:Act):Int:=match a.tmps[k]? with | some (.int _ n)=>n | _=>0
def aMb(s:ay)(w:World)(a:Act)(w':World):Prop:=w'=w/\∃ (x:Int) (i k:Nat) (F B D C f g b e c y A q t m z l r u p v j d h n o:Value),a={tmps:= #[.string ⟨s.toArray⟩,undef,.int .u32 0,.int .u32 x,.int .i64 i,.int .i64 k,F,B,D,C,f,g,b,e,c,y,A,q,t,m,z,l,r,u,p,v,j,d,h,n,o],defers:=[]}/\0<=x/\x<4294967296/\i<=s.length/\D8 (s.drop i) x=D8 s 4294967295
def aMa(s:ay)(w:World)(a:Act)(w':World):Prop:=w'=w/\∃ (x:Int) (i k:Nat) (F B D C f g b e c y A q t m z l r u p v j d h n o:Value),a={tmps:= #[.string ⟨s.toArray⟩,undef,.int .u32 0,.int .u32 x,.int .i64 i,.int .i64 k,F,B,D,C,f,g,b,e,c,y,A,q,t,m,z,l,r,u,p,v,j,d,h,n,o],defers:=[]}/\0<=x/\x<4294967296/\i<=s.length/\1<=k/\k<8/\D8 (s.drop i) (aIo (8-k) x)=D8 s 4294967295
def aL9(s:ay)(a:Act):Nat:=(s.length-(aCO 4 a).toNat)*10
def aL8(s:ay)(a:Act):Nat:=(s.length-(aCO 4 a).toNat)*10+9-(aCO 5 a).toNat
def OT{s:ay}{i:Nat}{x:Int}(h:i<s.length)(a:D8 (s.drop i) x=D8 s 4294967295):
  D8 (s.drop (i+1)) (aIo (8-1) (bits .xor .u32 (bits .xor .u32 x ((s[i].toNat:Int) % 4294967296) / 2) (bits .and .u32 2197175160 (-bits .and .u32 (bits .xor .u32 x ((s[i].toNat:Int) % 4294967296)) 1 % 4294967296))))=D8 s 4294967295:=by
 rw [Ag h] at a;exact a
def XI(s:ay)(hs:(s.length:Int)<=9223372036854775807)(w:World):Calls Tryz.prog 194 #[.string ⟨s.toArray⟩] w λ e w'=>e= .returned (.int .u32 (wZ s))/\w'=w:=by
 go_enter Tryz.func194,Tryz.ntmps194
 go_wp2
 refine H6 (aMb s w) (aMa s w) (λ a _=>aL9 s a) (λ a _=>aL8 s a) rfl rfl ?_ (λ a w' F=>?_) (λ a w' F=>?_)
 .go_wp2
  go_step3
  go_wp2
  .have b:((0:Int)==(s.length:Int))=true:=by assumption
   simp only [uH]
   go_ret
   have:s=[]:=Ay (by have:=beq_iff_eq.1 b;omega);subst this;exact ⟨rfl,rfl⟩
  .have b:0<s.length:=by assumption
   go_step3
   go_wp2
   go_step3
   exact .inr ⟨rfl,rfl,_,1,1,_,_,_,_,_,_,_,_,_,_,_,_,_,_,_,_,_,_,_,_,_,_,_,_,_,rfl,(iO _ _ _).1,(iO _ _ _).2,b,by decide,by decide,OT b rfl⟩
  .have b:((0:Int)==(s.length:Int))=false:=by assumption
   have h1:¬ 0<s.length:=by assumption
   have:=beq_eq_false_iff_ne.1 b;omega
 .obtain ⟨rfl,x,i,k,M,J,L,K,m,n,d,l,g,G,I,y,B,r,H,q,z,C,v,D,p,j,o,t,u,rfl,N,O,h,c⟩:=F
  go_wp2
  .have b:((i:Int)==(s.length:Int))=true:=by assumption
   simp only [uH]
   go_ret
   have b:=beq_iff_eq.1 b;rw [Ai o_] at c;have c:x=D8 s 4294967295:=c;subst c;exact ⟨rfl,rfl⟩
  .have b:i<s.length:=by assumption
   go_step3
   go_wp2
   go_step3
   refine .inr ⟨rfl,⟨rfl,_,i+1,1,_,_,_,_,_,_,_,_,_,_,_,_,_,_,_,_,_,_,_,_,_,_,_,_,_,rfl,(iO _ _ _).1,(iO _ _ _).2,b,by decide,by decide,OT b c⟩,?_⟩;show (s.length-((i:Int)+1).toNat)*10+9-(1:Int).toNat<(s.length-(i:Int).toNat)*10;omega
  .have b:((i:Int)==(s.length:Int))=false:=by assumption
   have h1:¬ i<s.length:=by assumption
   have:=beq_eq_false_iff_ne.1 b;omega
 .obtain ⟨rfl,x,i,k,M,J,L,K,m,n,d,l,g,G,I,y,B,r,H,q,z,C,v,D,p,j,o,t,u,rfl,N,O,h,Q,P,c⟩:=F
  go_wp2
  .go_step3
   rename_i b;have e:8-k=8-(k+1)+1:=o_;rw [e] at c;refine .inr ⟨rfl,⟨rfl,_,i,k+1,_,_,_,_,_,_,_,_,_,_,_,_,_,_,_,_,_,_,_,_,_,_,_,_,_,rfl,(iO _ _ _).1,(iO _ _ _).2,h,by omega,by omega,c⟩,?_⟩;show (s.length-(i:Int).toNat)*10+9-((k:Int)+1).toNat<(s.length-(i:Int).toNat)*10+9-(k:Int).toNat;omega
  .go_step3
   rename_i b;have e:8-k=0+1:=o_;rw [e] at c;refine .inl ⟨rfl,⟨rfl,_,i,k+1,_,_,_,_,_,_,_,_,_,_,_,_,_,_,_,_,_,_,_,_,_,_,_,_,_,rfl,(iO _ _ _).1,(iO _ _ _).2,h,c⟩,?_⟩;show (s.length-(i:Int).toNat)*10<(s.length-(i:Int).toNat)*10+9-(k:Int).toNat;omega
def HP(s:ay):aq 194 [.str s] [] (.ret (.int .u32 (wZ s))) []:=by
 intro M ob w a hm b;obtain ⟨hl,b⟩:=b
 match a,hl with
 | [v],_=>
 have h:=b 0 _ _ rfl rfl;cases h with
 | str _ hs=>
 refine .inl ⟨(show kK Tryz.prog 194 from λ_ _=>by rfl) _ _,(XI s hs w).mono λ e w' ⟨c,d⟩=>?_⟩;subst c d;exact ⟨M,ob,Ext.refl _ _ _ _,hm,.int _ _ (by have:=SC s;simp only [inR,bW,aW];omega)⟩
set_option maxRecDepth 10000
abbrev i4(n:Int):aa:=.int .u32 n
def aDv(n k:Nat):((n:Int).fdiv (2 ^ k))=((n / 2 ^ k:Nat):Int):=by rw [Dy _ (by exact Int.le_of_lt (Int.pow_pos d_))];simp
def wR(n k:Nat):IntKind.u8.wrap ((n:Int).fdiv (2 ^ k))=((Dt (n / 2 ^ k)).toNat:Int):=by rw [aDv,H5,Gr]
def VO(n:Nat):aq 193 [i4 n] [] (.ret (.str (lS n))) []:=by
 have b:=wR n 0;have c:=wR n 8;have a:=wR n 16;have d:=wR n 24;refine cT (E:=(Er [3,5] [])) (fn:=Tryz.f193) (g:=.pure _) λ_=>?_
 repeat' first
  | (refine gW (hEr [3,5] []) ?_;conv=>whnf)
  | exact rfl
  | refine aY ?_
  | refine aN ?_
  | refine aT λ h=>?_
  | refine aF λ h=>?_
  | refine ⟨_,rfl,?_⟩
  | refine aJ ?_
  | refine .inr ?_ | refine Ab (by first | decide | (simp only [maxLen];omega) | simp) ?_
  | refine aD ?_
  | fail
 refine ⟨lS n,?_,by simp [lS],?_⟩
 .show [aa.int .u8 (IntKind.u8.wrap ((n:Int).fdiv (2 ^ 0))),aa.int .u8 (IntKind.u8.wrap ((n:Int).fdiv (2 ^ 8))),aa.int .u8 (IntKind.u8.wrap ((n:Int).fdiv (2 ^ 16))),aa.int .u8 (IntKind.u8.wrap ((n:Int).fdiv (2 ^ 24)))]=_;rw [b,c,a,d,Nat.pow_zero,Ig];rfl
 .exact zW
def orU(x c i:Nat)(a:x<2 ^ i)(h:x+c*2 ^ i<4294967296):dK .or .u32 (x:Int) ((c:Int)*2 ^ i)=((x+c*2 ^ i:Nat):Int):=by
 have e:(c:Int)*2 ^ i=((c*2 ^ i:Nat):Int):=by simp
 rw [e,oK .u32 x (c*2 ^ i) (by simp only [aW];omega) (by simp only [aW];omega),QT a]
def aEz(a b c d:UInt8)(r:ay):dK .or .u32 (dK .or .u32 (dK .or .u32 (dK .or .u32 0 ((a.toNat:Int)*2 ^ 0)) ((b.toNat:Int)*2 ^ 8)) ((c.toNat:Int)*2 ^ 16)) ((d.toNat:Int)*2 ^ 24)=((eD (a::b::c::d::r):Nat):Int):=by
 have g:=a.toNat_lt;have h:=b.toNat_lt;have i:=c.toNat_lt;have hd:=d.toNat_lt;have e:=orU 0 a.toNat 0 d_ o_;have h1:=orU (0+a.toNat*2 ^ 0) b.toNat 8 o_ o_;have f:=orU (0+a.toNat*2 ^ 0+b.toNat*2 ^ 8) c.toNat 16 o_ o_;have h3:=orU (0+a.toNat*2 ^ 0+b.toNat*2 ^ 8+c.toNat*2 ^ 16) d.toNat 24 o_ o_;have e:dK .or .u32 0 ((a.toNat:Int)*2 ^ 0)=_:=e;rw [e,h1,f,h3];show ((_:Nat):Int)=((a.toNat+256*b.toNat+65536*c.toNat+16777216*d.toNat:Nat):Int)
 congr 1;omega
def IL(c:UInt8)(i:Nat)(h:i<=24):i<=32/\inR .u32 ((c.toNat:Int)*2 ^ i):=by
 have a:=c.toNat_lt;have e:(c.toNat:Int)*2 ^ i=((c.toNat*2 ^ i:Nat):Int):=by simp
 have h1:2 ^ i<=2 ^ 24:=Ek d_ h;have b:c.toNat*2 ^ i<=255*2 ^ 24:=Gc o_ h1;refine ⟨by omega,?_⟩;rw [e];simp only [inR,bW,aW];omega
def aEs(a b c d:UInt8)(r:ay):aq 298 [.str (a::b::c::d::r)] [] (.ret (i4 (eD (a::b::c::d::r):Nat))) []:=by
 have e:=a.toNat_lt;have i:=b.toNat_lt;have j:=c.toNat_lt;have hd:=d.toNat_lt;refine c_ Tryz.f298 λ_=>?_
 repeat' first
  | (refine gW hE ?_;conv=>whnf)
  | exact rfl
  | refine aY ?_
  | refine aN ?_
  | refine aT λ h=>?_
  | refine aF λ h=>?_
  | refine ⟨_,rfl,?_⟩
  | refine aJ ?_
  | refine .inl ⟨IL _ 0 d_,?_⟩ | refine .inl ⟨IL _ 8 d_,?_⟩ | refine .inl ⟨IL _ 16 d_,?_⟩ | refine .inl ⟨IL _ 24 d_,?_⟩ | exact congrArg (λ n=>Res.ret (aa.int .u32 n)) (aEz a b c d r)
  | refine aD ?_
  | fail
def N5(n:Nat):(lS n).length=4:=rfl
def oI(s:ay)(h:s.length<=16384):aq 144 [.str s] [] (.ret (.str (frm s))) []:=by
 have h1:=HP s;obtain ⟨c,b⟩:=SC s;have a:=VO (wZ s).toNat;rw [show (((wZ s).toNat:Nat):Int)=wZ s by omega] at a;have h3:=VO s.length;unfold frm;have l1:=N5 (wZ s).toNat;have l2:=N5 s.length;generalize lS (wZ s).toNat=x at *
 generalize lS s.length=y at *
 refine c_ Tryz.f144 λ_=>?_
 repeat' first | (refine gN hE ?_;conv=>whnf) | refine .pure _ [] h1 ?_ | refine .pure _ [] a ?_ | refine .pure _ [] h3 ?_ | refine Ab (by simp only [Ah];omega) ?_ | exact rfl | refine zt ?_ | refine zu ?_ ?_ | intro h | fail
def rdT(s:ay):ay:=if jU s=0 then rF s else []
def rdN(s:ay):Int:=if jU s=0 then (eD s:Int)+8 else 0
def ZN(s:ay)(hm:s.length<=1000000000)(N M:Nat)(x:Int)(hl:¬ s.length<8)(m:N<4294967296)(b:aq 298 [.str s] [] (.ret (i4 N)) [])(c:aq 298 [.str (s.drop 4)] [] (.ret (i4 M)) [])
  (hs:aq 194 [.str ((s.take (8+N)).drop 8)] [] (.ret (i4 x)) []) (T:ay) (n e:Int)
  (a:(T,n,e)=if 16384<N then ([],0,8) else if (s.length:Int)-8<N then ([],0,10) else if x≠M then ([],0,11) else ((s.take (8+N)).drop 8,(N:Int)+8,0)):
  aq 271 [.str s] [] (.ret (.tup [.str T,ii n,ii e])) []:=by
 have k:(8:Int)+N=((8+N:Nat):Int):=by simp
 by_cases j:16384<N
 .rw [if_pos j] at a;cases a;refine c_ Tryz.f271 λ_=>?_
  repeat' first | (refine gN hE ?_;conv=>whnf) | refine .pure _ [] b ?_ | refine .pure _ [] c ?_ | refine ⟨4,rfl,?_⟩ | exact rfl | refine zt ?_ | refine zu ?_ ?_ | intro h | fail
 rw [if_neg j] at a;by_cases l:(s.length:Int)-8<N
 .rw [if_pos l] at a;cases a;refine c_ Tryz.f271 λ_=>?_
  repeat' first | (refine gN hE ?_;conv=>whnf) | refine .pure _ [] b ?_ | refine .pure _ [] c ?_ | refine ⟨4,rfl,?_⟩ | exact rfl | refine zt ?_ | refine zu ?_ ?_ | intro h | fail
 rw [if_neg l] at a;by_cases d:x=M
 .rw [if_neg (by simpa using d)] at a;cases a;have i:(x !=(M:Int))=false:=by simpa using d
  refine c_ Tryz.f271 λ_=>?_
  repeat' first | (refine gN hE ?_;conv=>whnf) | refine .pure _ [] b ?_ | refine .pure _ [] c ?_ | refine .pure _ [] hs ?_ | refine ⟨4,rfl,?_⟩ | refine ⟨8,rfl,?_⟩ | refine ⟨8+N,k,?_⟩ | refine zF i ?_ | exact rfl | refine zt ?_ | refine zu ?_ ?_ | intro h | fail
 .rw [if_pos (by simpa using d)] at a;cases a;have i:(x !=(M:Int))=true:=by simpa using d
  refine c_ Tryz.f271 λ_=>?_
  repeat' first | (refine gN hE ?_;conv=>whnf) | refine .pure _ [] b ?_ | refine .pure _ [] c ?_ | refine .pure _ [] hs ?_ | refine ⟨4,rfl,?_⟩ | refine ⟨8,rfl,?_⟩ | refine ⟨8+N,k,?_⟩ | refine zE i ?_ | exact rfl | refine zt ?_ | refine zu ?_ ?_ | intro h | fail
def aIH(s:ay):eD s<4294967296:=by
 unfold eD;split
 .rename_i a b c d _;have:=a.toNat_lt;have:=b.toNat_lt;have:=c.toNat_lt;have:=d.toNat_lt;omega
 .decide
def PE(s:ay)(h:4<=s.length):aq 298 [.str s] [] (.ret (i4 (eD s:Nat))) []:=by
 match s,h with
 | a::b::c::d::r,_=>exact aEs a b c d r
 | [],h | [_],h | [_,_],h | [_,_,_],h=>simp at h
def OS(s:ay)(hm:s.length<=1000000000):aq 271 [.str s] [] (.ret (.tup [.str (rdT s),ii (rdN s),ii (jU s)])) []:=by
 by_cases q:s.length<8
 .have e:jU s=10:=if_pos q;unfold rdT rdN;rw [e];refine c_ Tryz.f271 λ_=>?_
  repeat' first | (refine gN hE ?_;conv=>whnf) | exact rfl | refine zt ?_ | refine zu ?_ ?_ | intro h | fail
 .refine ZN s hm (eD s) (eD (s.drop 4)) _ q (aIH s) (PE s o_) (PE _ (by rw [Eg];omega)) (HP _) _ _ _ ?_;have d:(s.take (8+eD s)).drop 8=rF s:=by rw [List.drop_take];simp [rF]
  rw [d];unfold rdT rdN jU;rw [if_neg q];by_cases a:16384<eD s
  .rw [if_pos a,if_pos a];rfl
  by_cases b:(s.length:Int)-8<eD s
  .rw [if_neg a,if_neg a,if_pos b,if_pos b];rfl
  rw [if_neg a,if_neg a,if_neg b,if_neg b];have e:(s.drop 8).take (eD s)=rF s:=rfl;rw [e];generalize wZ (rF s)=X;generalize ((eD (s.drop 4):Nat):Int)=Y;by_cases c:X=Y
  .simp [c]
  .simp [c]
abbrev tDk:TypeId:=197
abbrev bO:aa:=.slice 1 [] .nil
abbrev wtB(x:ay):aa:=.slice 1 (x.map ub) .no
def sfV(f:Bool)(k:Nat)(s:ay):aa:=.slice 1 (s.map ub) (match f with | true=>.own k 0 | false=>.full)
def sfT(f:Bool):au:=match f with | true=>[.tail 0 1 5] | false=>[]
def sgV(f:Bool)(k:Nat)(s:ay):aa:=.slice 1 (s.map ub) (match f with | true=>.own k 1 | false=>.own k 0)
def sgT(f:Bool):au:=match f with | true=>[.tail 1 1 5] | false=>[.tail 0 1 5]
abbrev dkC(n:Int)(safe w:aa)(sw:Bool):ab:=.cells tDk [ii n,safe,w,.bool sw]
abbrev dkO(f:Bool)(n:Int)(s:ay)(w:aa)(sw:Bool):au:=dkC n (sfV f 1 s) w sw::sfT f
def aId(n:Int):aq 53 [ii n] [] (.ret (.ref 0 0)) [dkC (min (max n 0) 1048576) (.slice 1 [] .nil) bO false]:=by refine cT (E:=E) (fn:=Tryz.f53) (g:=.full 0 _ _) λ_=>?_;exact zW
def EA(f:Bool)(n:Int)(s:ay)(hs:(s.length:Int)<=9223372036854775807):aq 187 [.ref 0 0] (dkO f n s bO false) (.ret (.str s)) (dkO f n s bO false):=by
 have a:s.map ub=s.map ub:=rfl;cases f
 .refine cT (E:=E) (fn:=Tryz.f187) (g:=.full 1 _ _) λ_=>?_;exact zW
 .refine cT (E:=E) (fn:=Tryz.f187) (g:=.full 2 _ _) λ_=>?_;exact zW
def BS(f:Bool)(n:Int)(s x:ay)(b:Bool):aq 195 [.ref 0 0] (dkO f n s (wtB x) b) (.ret (ii ((x.map ub).length:Nat))) (dkO f n s (wtB x) b):=by
 cases f
 .refine cT (E:=E) (fn:=Tryz.f195) (g:=.full 1 _ _) λ_=>?_;exact zW
 .refine cT (E:=E) (fn:=Tryz.f195) (g:=.full 2 _ _) λ_=>?_;exact zW
def OP(f:Bool)(n:Int)(s:ay)(a:0<=n)(h1:n<=1048576)(hs:(s.length:Int)<=1048576):aq 192 [.ref 0 0] (dkO f n s bO false) (.ret (ii (n-((0:Nat):Int)-((s.map ub).length:Nat)))) (dkO f n s bO false):=by
 have hl:(s.map ub).length=s.length:=by simp
 have hz:([]:ax).length=0:=rfl;cases f
 .refine cT (E:=E) (fn:=Tryz.f192) (g:=.full 1 _ _) λ_=>?_;exact zW
 .refine cT (E:=E) (fn:=Tryz.f192) (g:=.full 2 _ _) λ_=>?_;exact zW
def HK(f:Bool)(n:Int)(s x:ay)(a:0<=n)(h1:n<=1048576)(hs:(s.length:Int)<=1048576)(b:n-s.length<x.length):aq 143 [.ref 0 0,.str x] (dkO f n s bO false) (.ret (ii 9)) (dkO f n s bO false):=by
 have hl:(s.map ub).length=s.length:=by simp
 exact zqta0
def HJ(f:Bool)(n:Int)(s x:ay)(a:0<=n)(h1:n<=1048576)(hs:(s.length:Int)<=1048576)(c:(x.length:Int)<=n-s.length):
  aq 143 [.ref 0 0,.str x] (dkO f n s bO false) (.ret (ii 0)) (dkO f n s (.slice 1 (x.map ub) (.own (match f with | true=>2 | false=>1) 0)) false++[.tail 0 1 5]):=by
 have hl:(s.map ub).length=s.length:=by simp
 have b:(x.map ub).length=x.length:=by simp
 exact zqta0
def aF2(f:Bool)(n:Int)(s x:ay)(a:n<x.length):aq 153 [.ref 0 0,.str x] (dkO f n s bO false) (.ret (ii 9)) (dkO f n s bO false):=by exact zqta1
def UG(f:Bool)(n:Int)(s x:ay)(a:(x.length:Int)<=n):aq 153 [.ref 0 0,.str x] (dkO f n s bO false) (.ret (ii 0)) (dkO f n s (wtB x) true):=by exact zqta1
def eG(keep:Int)(m:Nat):Nat:=(min (max keep 0) (m:Int)).toNat
def JM(keep:Int)(m:Nat):min (max keep 0) (m:Int)=((eG keep m:Nat):Int)/\eG keep m<=m:=by unfold eG;omega
def SD(f:Bool)(n:Int)(s x:ay):aq 58 [.ref 0 0,ii ((x.map ub).length:Nat)] (dkO f n s (wtB x) true) (.ret (.tup [])) (dkC n (.slice 1 (x.map ub) .full) bO false::sfT f):=by
 have key:∀ y,(x.map ub).take (x.map ub).length=y->aq 58 [.ref 0 0,ii ((x.map ub).length:Nat)] (dkO f n s (wtB x) true) (.ret (.tup [])) (dkC n (.slice 1 y .full) bO false::sfT f):=by
  intro y a;subst a;have b:min (max ((x.map ub).length:Int) 0) ((x.map ub).length:Int)=((x.map ub).length:Int):=o_;have c:(min (max ((x.map ub).length:Int) 0) ((x.map ub).length:Int)==((x.map ub).length:Int))=true:=by rw [b];exact beq_self_eq_true _
  cases f
  .refine cT (E:=E) (fn:=Tryz.f58) (g:=.full 1 _ _) λ_=>?_;exact zW
  .exact zqta3
 exact key _ (Fx)
def HQ(n:Int)(s x:ay)(keep:Int)(hs:s.length<=1048576)(i:x.length<=1048576):
  aq 58 [.ref 0 0,ii keep] (dkO true n s (wtB x) false) (.ret (.tup [])) (dkC n (sgV true 1 (s++x.take (eG keep x.length))) bO false::sgT true):=by
 have a:(x.map ub).length=x.length:=by simp
 have c:(s.map ub).length=s.length:=by simp
 obtain ⟨h,b⟩:=JM keep x.length;rw [<-a] at h b;have e:((x.map ub).take (eG keep (x.map ub).length)).length<=x.length:=by rw [Dl];omega
 have key:∀ y,s.map ub++(x.map ub).take (eG keep (x.map ub).length)=y->aq 58 [.ref 0 0,ii keep] (dkO true n s (wtB x) false) (.ret (.tup [])) (dkC n (.slice 1 y (.own 1 1)) bO false::sgT true):=by intro y d;subst d;exact zqta3
 refine key _ ?_;rw [a,Bk,Ga]
def D9(n:Int)(s x:ay)(keep:Int)(hs:s.length<=1048576)(k:x.length<=1048576)(c:x.take (eG keep x.length)≠[]):
  aq 58 [.ref 0 0,ii keep] (dkO false n s (wtB x) false) (.ret (.tup [])) (dkC n (sgV false 1 (s++x.take (eG keep x.length))) bO false::sgT false):=by
 have a:(x.map ub).length=x.length:=by simp
 have i:(s.map ub).length=s.length:=by simp
 obtain ⟨j,b⟩:=JM keep x.length;rw [<-a] at j b;have h:((x.map ub).take (eG keep (x.map ub).length)).length<=x.length:=by rw [Dl];omega
 have d:(x.map ub).take (eG keep (x.map ub).length)≠[]:=by rw [a,<-Ga];simpa using c
 have key:∀ y,s.map ub++(x.map ub).take (eG keep (x.map ub).length)=y->aq 58 [.ref 0 0,ii keep] (dkO false n s (wtB x) false) (.ret (.tup [])) (dkC n (.slice 1 y (.own 1 0)) bO false::sgT false):=by intro y e;subst e;refine cT (E:=(Eo [34] [])) (fn:=Tryz.f58) (g:=.full 1 _ _) λ_=>?_;exact zW
 refine key _ ?_;rw [a,Bk,Ga]
def SE(n:Int)(s x:ay)(keep:Int)(hs:s.length<=1048576)(k:x.length<=1048576)(d:x.take (eG keep x.length)=[]):
  aq 58 [.ref 0 0,ii keep] (dkO false n s (wtB x) false) (.ret (.tup [])) (dkO false n s bO false):=by
 have b:(x.map ub).length=x.length:=by simp
 have j:(s.map ub).length=s.length:=by simp
 obtain ⟨e,c⟩:=JM keep x.length;rw [<-b] at e c;have a:(x.map ub).take (eG keep (x.map ub).length)=[]:=by rw [b,<-Ga,d];rfl
 have i:((x.map ub).take (eG keep (x.map ub).length)).length=0:=by rw [a];rfl
 refine cT (E:=(Ex [34] [34] [])) (fn:=Tryz.f58) (g:=.full 1 _ _) λ_=>?_
 repeat' first | (refine gN (hEx [34] [34] []) ?_;conv=>whnf) | refine ⟨_,e,?_⟩ | refine Ab a ?_ | refine Ab (wT o_ d_) ?_ | refine zM ?_ | exact rfl | refine zt ?_ | refine zu ?_ ?_ | intro h | fail
 exact zx [0]
def SF(n:Int)(s:ay)(keep:Int)(hs:s.length<=1048576):
  aq 58 [.ref 0 0,ii keep] (dkO true n s bO false) (.ret (.tup [])) (dkC n (sgV true 1 s) bO false::sgT true):=by
 have a:(s.map ub).length=s.length:=by simp
 have c:min (max keep 0) ((([]:ax).length:Nat):Int)=((0:Nat):Int):=by show min (max keep 0) 0=0;omega
 have key:∀ y,s.map ub++[]=y->aq 58 [.ref 0 0,ii keep] (dkO true n s bO false) (.ret (.tup [])) (dkC n (.slice 1 y (.own 1 1)) bO false::sgT true):=by intro y b;subst b;exact zqta3
 exact key _ (Au _)
def SG(n:Int)(s:ay)(keep:Int)(hs:s.length<=1048576):
  aq 58 [.ref 0 0,ii keep] (dkO false n s bO false) (.ret (.tup [])) (dkO false n s bO false):=by
 have a:(s.map ub).length=s.length:=by simp
 have b:min (max keep 0) ((([]:ax).length:Nat):Int)=((0:Nat):Int):=by show min (max keep 0) 0=0;omega
 refine cT (E:=(Ex [34] [34] [])) (fn:=Tryz.f58) (g:=.full 1 _ _) λ_=>?_
 repeat' first | (refine gN (hEx [34] [34] []) ?_;conv=>whnf) | refine ⟨_,b,?_⟩ | refine Ab rfl ?_ | refine Ab (wT o_ d_) ?_ | refine zM ?_ | exact rfl | refine zt ?_ | refine zu ?_ ?_ | intro h | fail
 exact zx [0]
def DG(x:ay):x.take (eG ((x.map ub).length:Nat) x.length)=x:=by
 have e:eG ((x.map ub).length:Nat) x.length=x.length:=by unfold eG;rw [Cf];omega
 rw [e,Fx]
def aFk(f:Bool)(n:Int)(s x:ay)(hs:s.length<=1048576)(c:x.length<=1048576)(a:x≠[]):
  aq 145 [.ref 0 0] (dkO f n s (wtB x) false) (.ret (.tup [])) (dkC n (sgV f 1 (s++x)) bO false::sgT f):=by
 have h:=BS f n s x false;cases f
 .have b:=D9 n s x ((x.map ub).length:Nat) hs c (by rw [DG];exact a);rw [DG] at b;exact zqta5
 .have b:=HQ n s x ((x.map ub).length:Nat) hs c;rw [DG] at b;exact zqta6
def FQ(f:Bool)(n:Int)(s x:ay):aq 145 [.ref 0 0] (dkO f n s (wtB x) true) (.ret (.tup [])) (dkC n (.slice 1 (x.map ub) .full) bO false::sfT f):=by
 have h:=BS f n s x true;have a:=SD f n s x;cases f
 .exact zqta5
 .exact zqta6
abbrev tJn:TypeId:=263
abbrev jnO(d:Nat)(m:Int):ab:=.cells tJn [.ref d 0,ii m]
abbrev jdO(m:Int)(f:Bool)(n:Int)(s:ay):au:=jnO 1 m::dkC n (sfV f 2 s) bO false::sfT f
def YM(f:Bool)(m n:Int)(s x:ay)(a:16384<x.length):aq 93 [.ref 0 0,.str x] (jdO m f n s) (.ret (ii 8)) (jdO m f n s):=by
 cases f
 .refine cT (E:=E) (fn:=Tryz.f93) (g:=.full 2 _ _) λ_=>?_;exact zW
 .refine cT (E:=E) (fn:=Tryz.f93) (g:=.full 3 _ _) λ_=>?_;exact zW
def aG6(f:Bool)(m n:Int)(s x:ay)(d:x.length<=16384)(c:0<=n)(h1:n<=1048576)(hs:(s.length:Int)<=1048576)(e:n-s.length<x.length+8):
  aq 93 [.ref 0 0,.str x] (jdO m f n s) (.ret (ii 9)) (jdO m f n s):=by
 have a:=oI x d;have b:=HK f n s (frm x) c h1 hs (by rw [eJ];omega);cases f
 all_goals
  refine cT (E:=E) (fn:=Tryz.f93) (g:=.full _ _ _) λ_=>?_
  repeat' first | (refine gN hE ?_;conv=>whnf) | refine .pure _ [] a ?_ | refine .sole rfl (.eff [] [1] _ _ rfl b ?_) | refine .sole rfl (.eff [] [1,2] _ _ rfl b ?_) | exact zx [0,1] | exact zx [0,1,2] | exact rfl | refine zt ?_ | refine zu ?_ ?_ | intro h | fail
def aG5(f:Bool)(m n:Int)(s x:ay)(hm:0<=m/\m<=1000000)(i:x.length<=16384)(d:0<=n)(h1:n<=1048576)(hs:(s.length:Int)<=1048576)(j:(x.length:Int)+8<=n-s.length):
  aq 93 [.ref 0 0,.str x] (jdO m f n s) (.ret (ii 0)) (jnO 1 (m+1)::dkC n (sgV f 2 (s++frm x)) bO false::sgT f):=by
 have a:=oI x i;have hl:=eJ x;have c:=HJ f n s (frm x) d h1 hs (by rw [eJ];omega);have b:=aFk f n s (frm x) o_ o_ (by intro e;rw [e] at hl;simp at hl);cases f
 all_goals
  refine cT (E:=E) (fn:=Tryz.f93) (g:=.full _ _ _) λ_=>?_
  repeat' first | (refine gN hE ?_;conv=>whnf) | refine .pure _ [] a ?_ | refine .sole rfl (.eff [] [1] _ _ rfl c ?_) | refine .sole rfl (.eff [] [1,2] _ _ rfl c ?_) | refine .eff [] [1] _ _ rfl b ?_ | refine .eff [] [1,2] _ _ rfl b ?_ | exact zx [0,1,3] | exact zx [0,1,2] | exact rfl | refine zt ?_ | refine zu ?_ ?_ | intro h | fail
def YL(f:Bool)(m n:Int)(s x:ay)(a:16384<x.length):aq 97 [.ref 0 0,.str x] (jdO m f n s) (.ret (ii 8)) (jdO m f n s):=by
 cases f
 .refine cT (E:=E) (fn:=Tryz.f97) (g:=.full 2 _ _) λ_=>?_;exact zW
 .refine cT (E:=E) (fn:=Tryz.f97) (g:=.full 3 _ _) λ_=>?_;exact zW
def aG2(f:Bool)(m n:Int)(s x:ay)(d:x.length<=16384)(c:0<=n)(h1:n<=1048576)(hs:(s.length:Int)<=1048576)(e:n-s.length<x.length+8):
  aq 97 [.ref 0 0,.str x] (jdO m f n s) (.ret (ii 9)) (jdO m f n s):=by
 have a:=oI x d;have b:=HK f n s (frm x) c h1 hs (by rw [eJ];omega);cases f
 all_goals
  refine cT (E:=E) (fn:=Tryz.f97) (g:=.full _ _ _) λ_=>?_
  repeat' first | (refine gN hE ?_;conv=>whnf) | refine .pure _ [] a ?_ | refine .sole rfl (.eff [] [1] _ _ rfl b ?_) | refine .sole rfl (.eff [] [1,2] _ _ rfl b ?_) | exact zx [0,1] | exact zx [0,1,2] | exact rfl | refine zt ?_ | refine zu ?_ ?_ | intro h | fail
def aG1(f:Bool)(m n:Int)(s x:ay)(d:x.length<=16384)(c:0<=n)(h1:n<=1048576)(hs:(s.length:Int)<=1048576)(e:(x.length:Int)+8<=n-s.length):
  aq 97 [.ref 0 0,.str x] (jdO m f n s) (.ret (ii 0)) (jnO 1 m::dkC n (sfV f 2 s) (wtB (frm x)) false::sfT f):=by
 have a:=oI x d;have b:=HJ f n s (frm x) c h1 hs (by rw [eJ];omega);cases f
 all_goals
  refine cT (E:=E) (fn:=Tryz.f97) (g:=.full _ _ _) λ_=>?_
  repeat' first | (refine gN hE ?_;conv=>whnf) | refine .pure _ [] a ?_ | refine .sole rfl (.eff [] [1] _ _ rfl b ?_) | refine .sole rfl (.eff [] [1,2] _ _ rfl b ?_) | exact zx [0,1] | exact zx [0,1,2] | exact rfl | refine zt ?_ | refine zu ?_ ?_ | intro h | fail
abbrev tB:TypeId:=270
def S9(x:ay)(b:x.length<=1048576):aq 149 [.ref 0 0,.str x] [.cells tB [.nilptr,bO]] (.ret (.tup [ii (x.length:Nat),.nilif])) [.cells tB [.ref 0 0,.slice 1 (x.map ub) (.own 1 0)],.tail 0 1 5]:=by
 have a:(x.map ub).length=x.length:=by simp
 have h1:=TB.cc_fresh bO;refine cT (E:=E) (fn:=Tryz.f149) (g:=.full 1 _ _) λ_=>?_;exact zW
def aG3(f:Bool)(m n:Int)(s x:ay)(j:x.length<=16384)(k:(x.length:Int)+8<=n):
  aq 96 [.ref 0 0,.slice 1 [.str x] .no] (jdO m f n s) (.ret (ii 0)) (jnO 1 1::dkC n (sfV false 2 (frm x)) bO false::sfT f):=by
 have i:=oI x j;have hl:=eJ x;have d:frm x≠[]:=λ e=>by rw [e] at hl;simp at hl
 have a:=S9 (frm x) o_;have hst:=TB.str_ok (frm x) d (.ref 0 0);have b:=UG f n s (frm x) o_;have c:=FQ f n s (frm x);cases f
 all_goals
  refine cT (E:=E) (fn:=Tryz.f96) (g:=.full _ _ _) λ_=>?_
  repeat' first | (refine gN hE ?_;conv=>whnf) | exact rfl | refine zt ?_ | refine zu ?_ ?_ | intro h | fail
  refine gV ?_;refine aT (h:=λ h=>?_) (by show (0:Int)<((1:Nat):Int);decide)
  repeat' first | (refine gN hE ?_;conv=>whnf) | refine .pure _ [] i ?_ | refine .eff [] [2] _ _ rfl a ?_ | refine .eff [] [3] _ _ rfl a ?_ | exact rfl | refine zt ?_ | refine zu ?_ ?_ | intro h | fail
  refine gV ?_;refine aF (h:=λ h=>?_) (by show ¬ (0:Int)+1<((1:Nat):Int);decide);refine cJ hE 2 ?_;conv=>whnf
  refine To.permC hE [0,1,2,3] [4,5,6] (by rfl) ?_;conv=>whnf
  repeat (refine aLC ?_;conv=>whnf;(try conv=>whnf))
  first
   | refine .eff [] [2,3] _ _ rfl hst ?_
   | refine .eff [] [3,4] _ _ rfl hst ?_;conv=>whnf
  repeat (refine aLC ?_;conv=>whnf;(try conv=>whnf))
  first
   | refine .eff [] [1] _ _ rfl b ?_
   | refine .eff [] [1,2] _ _ rfl b ?_;conv=>whnf
  repeat (refine aLC ?_;conv=>whnf;(try conv=>whnf))
  repeat' first | (refine gN hE ?_;conv=>whnf) | refine .eff [] [1] _ _ rfl c ?_ | refine .eff [] [1,2] _ _ rfl c ?_ | exact zx [0,1] | exact zx [0,1,2] | exact rfl | refine zt ?_ | refine zu ?_ ?_ | intro h | fail
def aM0{n a:Nat}(h:n<=1048576)(b:a<=1000):AO (n+1) a:=Ab (by simp only [maxLen];omega) (Cx (Gc (show n+1<=1048577 by omega) b) d_)
abbrev stO(s:ay):ab:=.cells 9 [.str s]
abbrev nxF:aa:=.func (.func 270) [] [.ref 1 0]
def YZ(s:ay):aq 235 [.str s] [] (.ret (.func (.func 270) [] [.ref 0 0])) [stO s]:=by refine cT (E:=E) (fn:=Tryz.f235) (g:=.full 0 _ _) λ_=>?_;exact zW
def aKy(s:ay)(hm:s.length<=1000000000)(h:jU s≠0):aq 270 [.ref 0 0] [stO s] (.ret (.tup [.str [],ii 0,.bool false])) [stO s]:=by
 have h1:=OS s hm;have a:(jU s !=0)=true:=by simpa using h
 generalize jU s=e at *
 generalize rdT s=t at *
 generalize rdN s=n at *
 exact zqta7
def aGw(s:ay)(hm:s.length<=1000000000)(h:jU s=0)(a:eD s+8<=s.length):aq 270 [.ref 0 0] [stO s] (.ret (.tup [.str (rF s),ii ((eD s:Int)+8),.bool true])) [stO (s.drop (eD s+8))]:=by
 have h1:=OS s hm;unfold rdT rdN at h1;rw [h,if_pos rfl,if_pos rfl] at h1;have b:(eD s:Int)+8=((eD s+8:Nat):Int):=by simp
 generalize rF s=t at *
 generalize eD s=n at *
 exact zqta7
abbrev nS(l:List ay):ax:=l.map aa.str
noncomputable abbrev aI7:Func:=Tryz.f188
def FY(r:ay)(e:jU r≠0)(R:List ay)(N:Int)(k:0<=N/\N<=1000000000):∀ (l a:List ay) (at':Int),(∀ t∈l,t.length<=16384)->(eF l++r).length<=1000000000->a.length+l.length<=1000000->0<=at'->a++l=R->at'+nW l=N->
  To (Eo [4] []) aI7 (.pure (.ret (.tup [.slice 1 (nS R) .no,ii N]))) (.head (stk aI7 0) [(4,.slice 1 (nS a) (.own 0 0)),(5,ii at'),(6,nxF)] [.tail 0 1 9,stO (eF l++r)])
 | [],a,at',_,hm,_,_,hR,c=>by
  have h1:=aKy (eF []++r) hm e;rw [Au] at hR;have c:at'+((0:Nat):Int)=N:=c;have c:at'=N:=o_;subst hR c;refine gV ?_
  repeat' first | (refine gN (hEo [4] []) ?_;conv=>whnf) | refine .eff [] [1] _ _ rfl h1 ?_ | exact rfl | refine zt ?_ | refine zu ?_ ?_ | intro h | fail
 | t::l,a,at',hl,hm,ha,h0,hR,c=>by
  have n:eF (t::l)++r=frm t++(eF l++r):=Ae ..;have o:=hl t (Ar ..);obtain ⟨m,i⟩:=aBy t (eF l++r) o;have f:eD (frm t++(eF l++r))=t.length:=by unfold frm;rw [Ae,Ae,sX _ _ o_]
  rw [n] at hm⊢;have b:=eJ t;rw [Ah,b] at hm;have h1:=aGw (frm t++(eF l++r)) (by rw [Ah,b];exact hm) m (by rw [f,Ah,b];omega);rw [i,f,show t.length+8=(frm t).length from b.symm,Jd] at h1;have hs:nW (t::l)=t.length+8+nW l:=rfl;rw [hs] at c;simp only [Al] at ha;have next:=FY r e R N k l (a++[t]) (at'+((t.length:Int)+8)) (λ x j=>hl x (Bb _ j)) o_ q_ o_ (by rw [Ae];exact hR) o_
  have g:nS (a++[t])=nS a++[.str t]:=by simp
  rw [g] at next
  have d:(nS a).length<=1048576:=by simp;omega
  generalize frm t++(eF l++r)=s at *
  refine gV ?_
  repeat' first | (refine gN (hEo [4] []) ?_;conv=>whnf) | refine .eff [] [1] _ _ rfl h1 ?_ | refine Ab (aM0 d d_) ?_ | exact rfl | refine zt ?_ | refine zu ?_ ?_ | intro h | fail
  refine To.part [4,5,6] [0,1] rfl rfl rfl ?_;exact next
def T8(l:List ay)(r:ay)(a:jU r≠0)(hl:∀ t∈l,t.length<=16384)(hm:(eF l++r).length<=1000000):aq 188 [.str (eF l++r)] [] (.ret (.tup [.slice 1 (nS l) .no,ii (nW l)])) []:=by
 have h1:=YZ (eF l++r);have b:=rS l;have h3:∀ l:List ay,l.length<=nW l:=λ l=>by
  induction l with
  | nil=>exact Bf _
  | cons t l d=>show l.length+1<=t.length+8+nW l;omega
 have c:=h3 l;rw [Ah] at hm;have next:=FY r a l (nW l) o_ l [] 0 hl (by rw [Ah];omega) q_ o_ rfl o_
 refine cT (E:=(Eo [4] [])) (fn:=Tryz.f188) (g:=.pure _) λ_=>?_
 repeat' first | (refine gN (hEo [4] []) ?_;conv=>whnf) | refine .pure _ _ h1 ?_ | exact rfl | refine zt ?_ | refine zu ?_ ?_ | intro h | fail
 refine To.part [4,5,6] [0,1] rfl rfl rfl ?_;exact next
abbrev jdN(f:Bool):Nat:=match f with | true=>2 | false=>1
def aCM(f:Bool)(n:Int)(l:List ay)(hl:∀ t∈l,t.length<=16384)(hm:(eF l).length<=1000000):
  aq 140 [.ref 0 0] (dkO f n (eF l) bO false) (.ret (.tup [.ref (jdN f) 0,.slice 1 (nS l) .no])) (dkO f n (eF l) bO false++[jnO 0 l.length]):=by
 have h1:=EA f n (eF l) o_;have b:=T8 l [] aBx hl (by rw [Au];exact hm);rw [Au] at b;have h3:=rS l;generalize eF l=s at *
 have a:(nS l).length=l.length:=by simp
 rw [<-a];generalize nW l=k at *
 exact zqta2
def Q3(f:Bool)(n:Int)(l:List ay)(r:ay)(d:jU r≠0)(a:r≠[])(hl:∀ t∈l,t.length<=16384)(hm:(eF l++r).length<=1000000)(h:((eF l).length:Int)<=n):
  aq 140 [.ref 0 0] (dkO f n (eF l++r) bO false) (.ret (.tup [.ref (jdN f) 0,.slice 1 (nS l) .no])) (dkC n (sfV false 1 (eF l)) bO false::sfT f++[jnO 0 l.length]):=by
 have h1:=EA f n (eF l++r) o_;have j:=T8 l r d hl hm;have h3:=rS l;have m:((eF l++r).length:Int)=(eF l).length+r.length:=by rw [Ah];omega
 have o:0<r.length:=Dw.2 a;have b:(eF l++r).take (eF l).length=eF l:=Hg ..;have e:=UG f n (eF l++r) ((eF l++r).take (eF l).length) (by rw [b];exact h);have k:=FQ f n (eF l++r) ((eF l++r).take (eF l).length);rw [<-h3] at j;generalize eF l=s at *
 generalize s++r=sr at *
 have c:(nS l).length=l.length:=by simp
 rw [<-c]
 suffices key:∀ y,sr.take s.length=y->aq 140 [.ref 0 0] (dkO f n sr bO false) (.ret (.tup [.ref (jdN f) 0,.slice 1 (nS l) .no])) (dkC n (sfV false 1 y) bO false::sfT f++[jnO 0 (nS l).length]) from key _ b
 intro y i;subst i;exact zqta2
end Go.Proofs.YtbpccabomgalhaaGreatDoor
namespace Go.AW
def aA.wk1{P:Program}{f:FuncId}{args:ax}{r:Res}{T:TypeId}{cs cs':ax}(h:aA P f args [] r [.cells T cs])(hl:cs'.length=cs.length)
  (D:∀ (M:Imm) (ob:Hs) (i:Nat) v n,cs'[i]? =some n->∃ a,cs[i]? =some a/\(Rep M ob v a->Rep M ob v n)):aA P f args [] r [.cells T cs']:=
 λ M ob w g hm u=>cE.mono (λ e w' ⟨M',ob',d,j,t⟩=>by
  have m:∀ {k b},aG ob' [.cells T cs'] k b->aG ob' [.cells T cs] k b:=λ{k b} ⟨c,hs,e1,e2,e3,e4⟩=>by
   cases k with
   | zero=>exact ⟨_,hs,rfl,rfl,e3,e4⟩
   | succ k=>simp at e1
  refine ⟨M',ob',⟨d.imm,d.new,d.hs,d.os,d.tape,d.output,d.size,d.keep,λ k b l=>d.fresh k b (m l)⟩,⟨j.imm,j.len,λ k c p=>?_,λ k b l=>j.lt k b (m l),λ k z b h1 o=>j.inj k z b (m h1) (m o)⟩,t⟩;cases k with
  | zero=>
   simp at p;subst p;obtain ⟨hs,h1,b,o,h3,cv,y,C,A,q⟩:=j.obj 0 _ rfl;refine ⟨hs,h1,b,o,h3,cv,y,by rw [C,hl],A,λ i v n s l=>?_⟩;obtain ⟨a,B,x⟩:=D M' ob' i v n l;exact x (q i v a s B)
  | succ k=>simp at p) (h M ob w g hm u)
end Go.AW
namespace Go.Proofs.YtbpccabomgalhaaGreatDoor
open Go Go.AW Go.Proofs
set_option maxRecDepth 10000
def ZK(n:Int):aq 53 [ii n] [] (.ret (.ref 0 0)) [dkC (min (max n 0) 1048576) (sfV false 1 []) bO false]:=by
 refine (aId n).wk1 rfl λ M ob i v l c=>?_
 match i with
 | 0=>exact ⟨_,rfl,λ h=>by cases c;exact h⟩
 | 1=>
  refine ⟨_,rfl,λ h=>?_⟩;cases c;cases h with
  | slnil e t d=>exact .slnil _ _ ⟨_,_,rfl⟩
  | slemp e t a cap d=>cases d
  | sl e b o n cap xs t g j hm hz h d=>cases d
 | 2=>exact ⟨_,rfl,λ h=>by cases c;exact h⟩
 | 3=>exact ⟨_,rfl,λ h=>by cases c;exact h⟩
 | k+4=>simp at c
abbrev ZF(m:ay):aa:=.iface 445 (.ptr [.str m])
def aMO(m:ay):aq 142 [.nilif,ZF m] [] (.ret (.bool false)) []:=by exact c_ Tryz.f142 λ_=>zW
def aG4(f:Bool)(m n:Int)(s x:ay)(i:x.length<=16384)(j:n<(x.length:Int)+8):
  aq 96 [.ref 0 0,.slice 1 [.str x] .no] (jdO m f n s) (.ret (ii 9)) (jdO m f n s):=by
 have d:=oI x i;have hl:=eJ x;have c:frm x≠[]:=λ e=>by rw [e] at hl;simp at hl
 have a:=S9 (frm x) o_;have hst:=TB.str_ok (frm x) c (.ref 0 0);have b:=aF2 f n s (frm x) o_;cases f
 all_goals
  refine cT (E:=E) (fn:=Tryz.f96) (g:=.full _ _ _) λ_=>?_
  repeat' first | (refine gN hE ?_;conv=>whnf) | exact rfl | refine zt ?_ | refine zu ?_ ?_ | intro h | fail
  refine gV ?_;refine aT (h:=λ h=>?_) (by show (0:Int)<((1:Nat):Int);decide)
  repeat' first | (refine gN hE ?_;conv=>whnf) | refine .pure _ [] d ?_ | refine .eff [] [2] _ _ rfl a ?_ | refine .eff [] [3] _ _ rfl a ?_ | exact rfl | refine zt ?_ | refine zu ?_ ?_ | intro h | fail
  refine gV ?_;refine aF (h:=λ h=>?_) (by show ¬ (0:Int)+1<((1:Nat):Int);decide);refine cJ hE 2 ?_;conv=>whnf
  refine To.permC hE [0,1,2,3] [4,5,6] (by rfl) ?_;conv=>whnf
  repeat (refine aLC ?_;conv=>whnf;(try conv=>whnf))
  first
   | refine .eff [] [2,3] _ _ rfl hst ?_
   | refine .eff [] [3,4] _ _ rfl hst ?_;conv=>whnf
  repeat (refine aLC ?_;conv=>whnf;(try conv=>whnf))
  first
   | refine .eff [] [1] _ _ rfl b ?_
   | refine .eff [] [1,2] _ _ rfl b ?_;conv=>whnf
  repeat (refine aLC ?_;conv=>whnf;(try conv=>whnf))
  repeat' first | (refine gN hE ?_;conv=>whnf) | exact zx [0,1] | exact zx [0,1,2] | exact rfl | refine zt ?_ | refine zu ?_ ?_ | intro h | fail
inductive Rec where
 | c (x:Cmd)
 | s (x:Sta)
def Rec.b:Rec->ay
 | .c x=>67::C8.encB x
 | .s x=>83::cW x
def Rec.to(r:Rec)(s:Sta):Sta:=match r with
 | .c x=>(aH s x).1
 | .s x=>x
def Rec.ok(r:Rec)(s:Sta):Prop:=match r with
 | .c x=>(aH s x).2.2=0/\(x.k=1->x.c.sm)/\s.nxt<1099511627776
 | .s x=>OkT x
def toL:List Rec->Sta->Sta
 | [],s=>s
 | r::l,s=>toL l (r.to s)
def okR:List Rec->Sta->Prop
 | [],_=>True
 | r::l,s=>r.ok s/\(r.b).length<=16384/\okR l (r.to s)
def TT:∀ (l m:List Rec) (s:Sta),toL (l++m) s=toL m (toL l s)
 | [],_,_=>rfl
 | r::l,m,s=>TT l m (r.to s)
def UO:∀ (l m:List Rec) (s:Sta),okR (l++m) s↔okR l s/\okR m (toL l s)
 | [],_,_=>⟨λ h=>⟨trivial,h⟩,λ h=>h.2⟩
 | r::l,m,s=>by show r.ok s/\_/\okR (l++m) (r.to s)↔(r.ok s/\_/\okR l (r.to s))/\okR m (toL l (r.to s));rw [UO l m];exact ⟨λ⟨a,b,c,d⟩=>⟨⟨a,b,c⟩,d⟩,λ⟨⟨a,b,c⟩,d⟩=>⟨a,b,c,d⟩⟩
def Rec.okT{r:Rec}{s:Sta}(h:OkT s)(a:r.ok s):OkT (r.to s):=by
 cases r with
 | c x=>exact (h.apply a.2.2 x).1
 | s x=>exact a
def aAF:∀ {l:List Rec} {s:Sta},OkT s->okR l s->OkT (toL l s)
 | [],_,h,_=>h
 | r::l,s,h,hr=>aAF (l:=l) (s:=r.to s) (r.okT h hr.1) hr.2.2
def aIM{s:Sta}{x:Cmd}(h:(aH s x).2.2=0):C8.chk x=0:=by
 unfold aH at h;by_cases q:C8.chk x=0
 .exact q
 .rw [if_pos q] at h;exact h
structure Clean(d:Dk):Prop where
 w:d.waits=[]
 sw:d.sw=false
 le:(d.safe.length:Int)<=d.size
 size:d.size<=1048576
structure Kst where
 d:Dk
 n:Int
 s:Sta
structure Kept(t:Kst)(l:List Rec):Prop where
 cl:Clean t.d
 safe:t.d.safe=eF (l.map Rec.b)
 n:t.n=l.length
 ok:okR l fC
 s:t.s=toL l fC
def aIO(d:Dk)(r:ay):Dk:=⟨d.size,d.safe++frm r,[],false⟩
def kV(d:Dk)(r:ay):Int:=if 16384<r.length then 8 else if d.size-d.safe.length<r.length+8 then 9 else 0
def doS(t:Kst)(x:Cmd):Kst×bg×Int:=
 if (aH t.s x).2.2≠0 then (t,[],(aH t.s x).2.2)
 else if kV t.d (Rec.b (.c x))≠0 then (t,[],kV t.d (Rec.b (.c x)))
 else (⟨aIO t.d (Rec.b (.c x)),t.n+1,(aH t.s x).1⟩,(aH t.s x).2.1,0)
def mO(t:Kst):Int:=if 16384<(Rec.b (.s t.s)).length then 8 else if t.d.size<(Rec.b (.s t.s)).length+8 then 9 else 0
def qZ(t:Kst):Kst:=if mO t=0 then ⟨⟨t.d.size,frm (Rec.b (.s t.s)),[],false⟩,1,t.s⟩ else t
def Kept.do{t:Kst}{l:List Rec}(h:Kept t l)(x:Cmd)(i:x.k=1->x.c.sm)(g:t.s.nxt<1099511627776):∃ f,Kept (doS t x).1 f/\f.length<=l.length+1:=by
 unfold doS;by_cases q:(aH t.s x).2.2=0
 .rw [if_neg (by simpa using q)];by_cases a:kV t.d (Rec.b (.c x))=0
  .rw [if_neg (by simpa using a)];unfold kV at a;split at a
   .cases a
   split at a
   .cases a
   have e:toL (l++[.c x]) fC=(aH t.s x).1:=by rw [TT,<-h.s];rfl
   refine ⟨l++[.c x],⟨⟨rfl,rfl,?_,h.cl.size⟩,?_,?_,?_,e.symm⟩,by simp⟩
   .show ((t.d.safe++frm _).length:Int)<=t.d.size;rw [Ah,eJ];omega
   .show t.d.safe++frm _=_;rw [h.safe,Bk,N4];show _=_++(frm _++[])
    rw [Au]
   .show t.n+1=_;rw [h.n,Ah];rfl
   .rw [UO,<-h.s];exact ⟨h.ok,⟨q,i,g⟩,by omega,trivial⟩
  .rw [if_pos a];exact ⟨l,h,Hl _⟩
 .rw [if_pos q];exact ⟨l,h,Hl _⟩
def Kept.okT{t:Kst}{l:List Rec}(h:Kept t l):OkT t.s:=by rw [h.s];exact aAF IG h.ok
def Kept.snap{t:Kst}{l:List Rec}(h:Kept t l):∃ a,Kept (qZ t) a/\a.length<=l.length+1:=by
 unfold qZ;by_cases q:mO t=0
 .rw [if_pos q];unfold mO at q;split at q
  .cases q
  split at q
  .cases q
  refine ⟨[.s t.s],⟨⟨rfl,rfl,?_,h.cl.size⟩,?_,rfl,⟨h.okT,by omega,trivial⟩,rfl⟩,by simp⟩
  .show ((frm _).length:Int)<=t.d.size;rw [eJ];omega
  .show frm _=frm _++[]
   rw [Au]
 .rw [if_neg q];exact ⟨l,h,Hl _⟩
def aMt{s:Sta}{x:Cmd}(h:(aH s x).2.2=0):C8.decX (C8.encB x)=x/\C8.decE (C8.encB x)=0:=C8.dec_enc (aIM h)
def aMs{s:Sta}(h:OkT s):ZM (cW s)=some s:=aIj (KE h.ok) h.lt
def A5:∀ {l:List Rec} {s:Sta},okR l s->∀ t∈l.map Rec.b,t.length<=16384
 | [],_,_,t,h=>by simp at h
 | r::l,s,h,t,a=>by
  rcases Bc.1 a with rfl | a
  .exact h.2.1
  .exact A5 h.2.2 t a
structure Kstp where
 k:Int
 x:Cmd
 n:Int
def wrE(t:Kst)(x:Cmd):Int:=if (aH t.s x).2.2≠0 then (aH t.s x).2.2 else kV t.d (Rec.b (.c x))
def aLV(x:Cmd)(n:Int):Bool:=decide (((Rec.b (.c x)).length:Int)+8<=n)
def dI(t:Kst)(p:Kstp):Kst×bg×Int:=
 if p.k=1 then doS t p.x
 else if p.k=2 then (qZ t,[],mO t)
 else if p.k=4 then (if wrE t p.x≠0 then (t,[],wrE t p.x) else (if aLV p.x p.n then (doS t p.x).1 else t,[],0))
 else if p.k=3\/p.k=5 then (t,[],0)
 else (t,[],1)
def Kept.stepL{t:Kst}{l:List Rec}(h:Kept t l)(p:Kstp)(b:p.x.k=1->p.x.c.sm)(a:t.s.nxt<1099511627776):∃ d,Kept (dI t p).1 d/\d.length<=l.length+1:=by
 unfold dI;split
 .exact h.do p.x b a
 split
 .exact h.snap
 split
 .split
  .exact ⟨l,h,Hl _⟩
  .dsimp only;split
   .exact h.do p.x b a
   .exact ⟨l,h,Hl _⟩
 split
 .exact ⟨l,h,Hl _⟩
 .exact ⟨l,h,Hl _⟩
def aIc(t:Kst)(x:Cmd)(h:OkT t.s)(a:t.s.nxt<1099511627776):(doS t x).1.s.nxt<=t.s.nxt+1:=by
 have:=(h.apply a x).2.1;unfold doS;split
 .show t.s.nxt<=_;omega
 split
 .show t.s.nxt<=_;omega
 .exact this
def aFA(t:Kst):(qZ t).s=t.s:=by unfold qZ;split<;>rfl
def XK(t:Kst)(p:Kstp)(h:OkT t.s)(a:t.s.nxt<1099511627776):(dI t p).1.s.nxt<=t.s.nxt+1:=by
 have h1:=aIc t p.x h a;unfold dI;split
 .exact h1
 split
 .show (qZ t).s.nxt<=_;rw [aFA];omega
 split
 .split
  .show t.s.nxt<=_;omega
  .dsimp only;split
   .exact h1
   .omega
 split
 .show t.s.nxt<=_;omega
 .show t.s.nxt<=_;omega
abbrev tSt:TypeId:=202
abbrev stS(s:Sta)(m:Int)(f:Bool)(n:Int)(x:ay):au:=.cells tSt (.ref 1 0::s.cs)::jnO 2 m::dkC n (sfV f 3 x) bO false::sfT f
abbrev crB(x:Cmd):ay:=67::C8.encB x
def IW(x:Cmd)(b:(C8.encB x).length<=1000000000):aq 94 [x.av] [] (.ret (.str (crB x))) []:=by
 have h1:=C8.enc_ok x;have a:((1+(C8.encB x).length:Nat):Int)<=9223372036854775807:=o_;refine c_ Tryz.f94 λ_=>?_
 repeat' first | (refine gN hE ?_;conv=>whnf) | refine .pure _ [] h1 ?_ | refine Ab a ?_ | exact rfl | refine zt ?_ | refine zu ?_ ?_ | intro h | fail
def ZP(s:Sta)(R:Sta×bg×Int)(h1:jA s Cmd.zero R):aq 98 [s.av] [] (.ret (.tup [R.1.av,ii R.2.2])) []:=by exact c_ Tryz.f98 λ_=>zW
def XL(s:Sta)(R:Sta×bg×Int)(a:jA s Cmd.zero R)(m:Int)(f:Bool)(n:Int)(x:ay):aq 59 [.ref 0 0] (stS s m f n x) (.ret R.1.av) (stS s m f n x):=by
 have h1:=ZP s R a;cases f
 .refine cT (E:=E) (fn:=Tryz.f59) (g:=.full 3 _ _) λ_=>?_;exact zW
 .refine cT (E:=E) (fn:=Tryz.f59) (g:=.full 4 _ _) λ_=>?_
  repeat' first | (refine gN hE ?_;conv=>whnf) | refine .pure _ [] h1 ?_ | exact rfl | refine zt ?_ | refine zu ?_ ?_ | intro h | fail
  exact zx [0,1,2,3]
def aMg(s:Sta)(c:Cmd)(R:Sta×bg×Int)(h1:jA s c R)(a:R.2.2≠0)(m:Int)(f:Bool)(n:Int)(x:ay):
  aq 55 [.ref 0 0,c.av] (stS s m f n x) (.ret (.tup [.slice 3 [] .nil,ii R.2.2])) (stS s m f n x):=by
 obtain ⟨S,ev,e⟩:=R;have b:(e !=0)=true:=by simpa using a
 cases f
 .refine cT (E:=(Er [] [7,8,20,21])) (fn:=Tryz.f55) (g:=.full 3 _ _) λ_=>?_;exact zW
 .refine cT (E:=(Er [] [7,8,20,21])) (fn:=Tryz.f55) (g:=.full 4 _ _) λ_=>?_
  repeat' first | (refine gN (hEr [] [7,8,20,21]) ?_;conv=>whnf) | refine .pure _ [] h1 ?_ | exact zx [0,1,2,3] | exact rfl | refine zt ?_ | refine zu ?_ ?_ | intro h | fail
  all_goals (exfalso;clear h1;simp_all)
def aMh(s:Sta)(c:Cmd)(S:Sta)(ev:bg)(h1:jA s c (S,ev,0))(b:(C8.encB c).length<=1000000000)(m:Int)(f:Bool)(n:Int)(x:ay)(e:Int)(d:e≠0)
  (h3:aq 93 [.ref 0 0,.str (crB c)] (jdO m f n x) (.ret (ii e)) (jdO m f n x)):
  aq 55 [.ref 0 0,c.av] (stS s m f n x) (.ret (.tup [.slice 3 [] .nil,ii e])) (stS s m f n x):=by
 have a:=IW c b;have i:(e !=0)=true:=by simpa using d
 cases f
 all_goals
  refine cT (E:=(Er [] [7,8,20,21])) (fn:=Tryz.f55) (g:=.full _ _ _) λ_=>?_
  repeat' first | (refine gN (hEr [] [7,8,20,21]) ?_;conv=>whnf) | refine .pure _ [] h1 ?_ | refine .pure _ [] a ?_ | refine .sole rfl (.eff [] [1,2] _ _ rfl h3 ?_) | refine .sole rfl (.eff [] [1,2,3] _ _ rfl h3 ?_) | exact zx [0,1,2] | exact zx [0,1,2,3] | exact rfl | refine zt ?_ | refine zu ?_ ?_ | intro h | fail
 all_goals (exfalso;clear h1;simp_all)
abbrev stG(s:Sta)(m:Int)(f:Bool)(n:Int)(x:ay):au:=.cells tSt (.ref 1 0::s.cs)::jnO 2 m::dkC n (sgV f 3 x) bO false::sgT f
def aJT(s:Sta)(c:Cmd)(S:Sta)(ev:bg)(h1:jA s c (S,ev,0))(b:(C8.encB c).length<=1000000000)(m:Int)(f:Bool)(n:Int)(x:ay)
  (h3:aq 93 [.ref 0 0,.str (crB c)] (jdO m f n x) (.ret (ii 0)) (jnO 1 (m+1)::dkC n (sgV f 2 (x++frm (crB c))) bO false::sgT f)):
  aq 55 [.ref 0 0,c.av] (stS s m f n x) (.ret (.tup [.slice 3 (evv ev) .no,ii 0])) (stG S (m+1) f n (x++frm (crB c))):=by
 have a:=IW c b;cases f
 all_goals
  refine cT (E:=(Er [] [7,8,20,21])) (fn:=Tryz.f55) (g:=.full _ _ _) λ_=>?_
  repeat' first | (refine gN (hEr [] [7,8,20,21]) ?_;conv=>whnf) | refine .pure _ [] h1 ?_ | refine .pure _ [] a ?_ | refine .sole rfl (.eff [] [1,2] _ _ rfl h3 ?_) | refine .sole rfl (.eff [] [1,2,3] _ _ rfl h3 ?_) | exact zx [0,1,2,5] | exact zx [0,1,2,3] | exact rfl | refine zt ?_ | refine zu ?_ ?_ | intro h | fail
def aJH(s:Sta)(c:Cmd)(R:Sta×bg×Int)(h1:jA s c R)(a:R.2.2≠0)(m:Int)(f:Bool)(n:Int)(x:ay):
  aq 57 [.ref 0 0,c.av] (stS s m f n x) (.ret (ii R.2.2)) (stS s m f n x):=by
 obtain ⟨S,ev,e⟩:=R;have b:(e !=0)=true:=by simpa using a
 cases f
 all_goals
  refine cT (E:=(Er [] [6,7,18,19])) (fn:=Tryz.f57) (g:=.full _ _ _) λ_=>?_
  repeat' first | (refine gN (hEr [] [6,7,18,19]) ?_;conv=>whnf) | refine .pure _ [] h1 ?_ | exact zx [0,1,2] | exact zx [0,1,2,3] | exact rfl | refine zt ?_ | refine zu ?_ ?_ | intro h | fail
 all_goals (exfalso;clear h1;simp_all)
def aJI(s:Sta)(c:Cmd)(S:Sta)(ev:bg)(h1:jA s c (S,ev,0))(b:(C8.encB c).length<=1000000000)(m:Int)(f:Bool)(n:Int)(x:ay)(e:Int)
  (h3:aq 97 [.ref 0 0,.str (crB c)] (jdO m f n x) (.ret (ii e)) (jdO m f n x)):
  aq 57 [.ref 0 0,c.av] (stS s m f n x) (.ret (ii e)) (stS s m f n x):=by
 have a:=IW c b;cases f
 all_goals
  refine cT (E:=(Er [] [6,7,18,19])) (fn:=Tryz.f57) (g:=.full _ _ _) λ_=>?_
  repeat' first | (refine gN (hEr [] [6,7,18,19]) ?_;conv=>whnf) | refine .pure _ [] h1 ?_ | refine .pure _ [] a ?_ | refine .sole rfl (.eff [] [1,2] _ _ rfl h3 ?_) | refine .sole rfl (.eff [] [1,2,3] _ _ rfl h3 ?_) | exact zx [0,1,2] | exact zx [0,1,2,3] | exact rfl | refine zt ?_ | refine zu ?_ ?_ | intro h | fail
def aFo(s:Sta)(c:Cmd)(S:Sta)(ev:bg)(h1:jA s c (S,ev,0))(b:(C8.encB c).length<=1000000000)(m:Int)(f:Bool)(n:Int)(x:ay)
  (h3:aq 97 [.ref 0 0,.str (crB c)] (jdO m f n x) (.ret (ii 0)) (jnO 1 m::dkC n (sfV f 2 x) (wtB (frm (crB c))) false::sfT f)):
  aq 57 [.ref 0 0,c.av] (stS s m f n x) (.ret (ii 0)) (.cells tSt (.ref 1 0::s.cs)::jnO 2 m::dkC n (sfV f 3 x) (wtB (frm (crB c))) false::sfT f):=by
 have a:=IW c b;cases f
 all_goals
  refine cT (E:=(Er [] [6,7,18,19])) (fn:=Tryz.f57) (g:=.full _ _ _) λ_=>?_
  repeat' first | (refine gN (hEr [] [6,7,18,19]) ?_;conv=>whnf) | refine .pure _ [] h1 ?_ | refine .pure _ [] a ?_ | refine .sole rfl (.eff [] [1,2] _ _ rfl h3 ?_) | refine .sole rfl (.eff [] [1,2,3] _ _ rfl h3 ?_) | exact zx [0,1,2] | exact zx [0,1,2,3] | exact rfl | refine zt ?_ | refine zu ?_ ?_ | intro h | fail
def aAU(s:Sta)(b:ay)(h1:aq 95 [s.av] [] (.ret (.tup [.str b,ii 0])) [])(d:b.length<=1000000000)(m:Int)(f:Bool)(n:Int)(x:ay)(e:Int)
  (h3:aq 96 [.ref 0 0,.slice 1 [.str (83::b)] .no] (jdO m f n x) (.ret (ii e)) (jdO m f n x)):
  aq 56 [.ref 0 0] (stS s m f n x) (.ret (ii e)) (stS s m f n x):=by
 have a:=aA.strip (args:=[.ref 0 0,.slice 1 [.str (83::b)] .full]) h3;have c:((1+b.length:Nat):Int)<=9223372036854775807:=o_;cases f
 all_goals
  refine cT (E:=E) (fn:=Tryz.f56) (g:=.full _ _ _) λ_=>?_
  repeat' first | (refine gN hE ?_;conv=>whnf) | refine .pure _ [] h1 ?_ | refine Ab c ?_ | refine .eff [] [1,2] _ _ rfl a ?_ | refine .eff [] [1,2,3] _ _ rfl a ?_ | exact zx [0,1,2] | exact zx [0,1,2,3] | exact rfl | refine zt ?_ | refine zu ?_ ?_ | intro h | fail
def aAT(s:Sta)(b:ay)(h1:aq 95 [s.av] [] (.ret (.tup [.str b,ii 0])) [])(d:b.length<=1000000000)(m:Int)(f:Bool)(n:Int)(x:ay)
  (h3:aq 96 [.ref 0 0,.slice 1 [.str (83::b)] .no] (jdO m f n x) (.ret (ii 0)) (jnO 1 1::dkC n (sfV false 2 (frm (83::b))) bO false::sfT f)):
  aq 56 [.ref 0 0] (stS s m f n x) (.ret (ii 0)) (.cells tSt (.ref 1 0::s.cs)::jnO 2 1::dkC n (sfV false 3 (frm (83::b))) bO false::sfT f):=by
 have a:=aA.strip (args:=[.ref 0 0,.slice 1 [.str (83::b)] .full]) h3;have c:((1+b.length:Nat):Int)<=9223372036854775807:=o_;cases f
 all_goals
  refine cT (E:=E) (fn:=Tryz.f56) (g:=.full _ _ _) λ_=>?_
  repeat' first | (refine gN hE ?_;conv=>whnf) | refine .pure _ [] h1 ?_ | refine Ab c ?_ | refine .eff [] [1,2] _ _ rfl a ?_ | refine .eff [] [1,2,3] _ _ rfl a ?_ | exact zx [0,1,2] | exact zx [0,1,2,3] | exact rfl | refine zt ?_ | refine zu ?_ ?_ | intro h | fail
def aFw(b:ay)(x:Cmd)(h1:aq 236 [.str b] [] (.ret (.tup [x.av,ii 0])) [])(hl:b.length<=1000000):
  aq 189 [.str (67::b)] [] (.ret (.tup [x.av,Sta.nil.av,.bool false,.nilif])) []:=by
 have hz:1<=(67::b).length:=Nat.succ_le_succ (Bt _);refine cT (E:=(Er [] [4,5])) (fn:=Tryz.f189) (g:=.pure _) λ_=>?_
 repeat' first | (refine gN (hEr [] [4,5]) ?_;conv=>whnf) | refine Ab hz ?_ | refine .pure _ [] h1 ?_ | exact rfl | refine zt ?_ | refine zu ?_ ?_ | intro h | fail
def aFv(b:ay)(x:Sta)(h1:aq 237 [.str b] [] (.ret (.tup [x.av,ii 0])) [])(hl:b.length<=1000000):
  aq 189 [.str (83::b)] [] (.ret (.tup [Cmd.zero.av,x.av,.bool true,.nilif])) []:=by
 have hz:1<=(83::b).length:=Nat.succ_le_succ (Bt _);refine cT (E:=(Er [] [4,5])) (fn:=Tryz.f189) (g:=.pure _) λ_=>?_
 repeat' first | (refine gN (hEr [] [4,5]) ?_;conv=>whnf) | refine Ab hz ?_ | exact rfl | refine zt ?_ | refine zu ?_ ?_ | intro h | fail
 refine .pure _ [] h1 (gV ?_);refine Ab (λ_=>?_) (λ h=>absurd h s_);refine cJ (hEr [] [4,5]) 1 ?_;conv=>whnf
 refine To.permC (hEr [] [4,5]) [0,1] [2,3,4,5] (by rfl) ?_;conv=>whnf
 repeat (refine aLC ?_;conv=>whnf;(try conv=>whnf))
 exact zW
noncomputable abbrev Y5:Func:=Tryz.f141
def QG:Rec->Prop
 | .c x=>aq 189 [.str (67::C8.encB x)] [] (.ret (.tup [x.av,Sta.nil.av,.bool false,.nilif])) []
 | .s x=>aq 189 [.str (83::cW x)] [] (.ret (.tup [Cmd.zero.av,x.av,.bool true,.nilif])) []
def QO(s:Sta):Rec->Prop
 | .c x=>jA s x ((aH s x).1,(aH s x).2.1,0)
 | .s _=>True
def aBg(L:List Rec)(p:L.length<=1000000)(g:Sta->List Rec->Prop)(o:∀ s r l,g s (r::l)->QG r/\QO s r/\g (r.to s) l)(R:Sta):∀ (m i:Nat) (s:Sta),i+m=L.length->g s (L.drop i)->toL (L.drop i) s=R->
  To E Y5 (.pure (.ret (.tup [R.av,.nilif]))) (.head (stk Y5 0) [(2,.ref 0 0),(4,.ref 1 0),(5,.nilif),(14,.slice 1 (nS (L.map Rec.b)) .no),(15,.int .i64 ((nS (L.map Rec.b)).length:Nat)),(16,ii i)] [FH,qH s]):=by
 have k:(nS (L.map Rec.b)).length=L.length:=by simp
 intro m;induction m with
 | zero=>
  intro i s n _ a;rw [Ai o_] at a;have a:s=R:=a;subst a;refine gV ?_;exact zW
 | succ m j=>
  intro i s n e a;have d:i<L.length:=o_;rw [Ag d] at a e;have get:(nS (L.map Rec.b))[i]? =some (.str L[i].b):=by simp [d]
  generalize L[i]=r at a e get;obtain ⟨h1,h,h3⟩:=o _ _ _ e;have next:=j (i+1) (r.to s) o_ h3 a
  clear j a h3 e;cases r with
  | c x=>
   have h1:aq 189 [.str (67::C8.encB x)] [] (.ret (.tup [x.av,Sta.nil.av,.bool false,.nilif])) []:=h1;have h:jA s x ((aH s x).1,(aH s x).2.1,0):=h;have get:(nS (L.map Rec.b))[i]? =some (.str (67::C8.encB x)):=get;replace next:To E Y5 _ (.head (stk Y5 0) _ [FH,qH (aH s x).1]):=next
   generalize (67::C8.encB x)=t at *
   generalize (aH s x).1=S at *
   generalize (aH s x).2.1=ev at *
   refine gV ?_;exact zW
  | s x=>
   have h1:aq 189 [.str (83::cW x)] [] (.ret (.tup [Cmd.zero.av,x.av,.bool true,.nilif])) []:=h1;have get:(nS (L.map Rec.b))[i]? =some (.str (83::cW x)):=get;replace next:To E Y5 _ (.head (stk Y5 0) _ [FH,qH x]):=next
   generalize (83::cW x)=t at *
   refine gV ?_;exact zW
def XT(L:List Rec)(d:L.length<=1000000)(a:Sta->List Rec->Prop)(e:∀ s r l,a s (r::l)->QG r/\QO s r/\a (r.to s) l)(c:a fC L):
  aq 141 [.slice 1 (nS (L.map Rec.b)) .no] [] (.ret (.tup [(toL L fC).av,.nilif])) []:=by
 have h:=aBg L d a e (toL L fC) L.length 0 fC o_ (by rw [Cg];exact c) (by rw [Cg]);have i:=IJ;generalize toL L fC=R at *
 generalize L.map Rec.b=V at *
 exact c_ Tryz.f141 λ_=>zW
abbrev dF(m:ay):ab:=.bun 0 (RE 0 (ZF m))
def LJ(f a:Bool)(c:a=true->f=true)(g:ay)(n:Int)(x y:ay)(S:Sta)(V:ax)(m:Int)
  (h1:aq 140 [.ref 0 0] (dkO f n x bO false) (.ret (.tup [.ref (jdN f) 0,.slice 1 V .no])) (dkC n (sfV a 1 y) bO false::sfT f++[jnO 0 m]))
  (b:aq 141 [.slice 1 V .no] [] (.ret (.tup [S.av,.nilif])) []):
  aq 92 [.ref 0 0] (dkO f n x bO false++[dF g]) (.ret (.tup [.ref (jdN f+2) 0,ii 0])) (dkC n (sfV a 1 y) bO false::sfT f++[dF g,jnO 0 m,.cells tSt (.ref (jdN f+1) 0::S.cs)]):=by
 have h3:=aMO g;cases f<;>cases a
 case false.true=>exact absurd (c rfl) d_
 all_goals
  refine cT (E:=E) (fn:=Tryz.f92) (g:=.full _ _ _) λ_=>?_
  repeat' first | (refine gN hE ?_;conv=>whnf) | refine .eff [] [0] _ _ rfl h1 ?_ | refine .eff [] [0,1] _ _ rfl h1 ?_ | exact rfl | refine zt ?_ | refine zu ?_ ?_ | intro h | fail
  refine .pure _ [] b ?_;refine cJ hE 22 ?_;conv=>whnf
  refine To.glob hE 1 [] (by rfl) (by rfl) (by rfl) (by rfl) ?_;conv=>whnf
  first
   | refine .mk 1 0 (ZF g) _ (by rfl) (by rfl) ?_
   | refine .mk 2 0 (ZF g) _ (by rfl) (by rfl) ?_
  repeat' first | (refine gN hE ?_;conv=>whnf) | refine .pure _ [] h3 ?_ | exact zx [0,1,2,4] | exact zx [0,1,2,3,5] | exact rfl | refine zt ?_ | refine zu ?_ ?_ | intro h | fail
abbrev AJ(k:Int)(c:Cmd)(n:Int):aa:=.agg (ii k::(c.av.cells++[ii n]))
abbrev tDr:TypeId:=157
abbrev pv(b:Bool):aa:=match b with | true=>.nilptr | false=>.undef
abbrev drS(f f':Bool)(g:ay)(n:Int)(x:ay)(m:Int)(S:Sta):au:=.cells tDr [.ref 1 0,.ref (jdN f+3) 0]::dkC n (sfV f' 2 x) bO false::sfT f++[dF g,jnO 1 m,.cells tSt (.ref (jdN f+2) 0::S.cs)]
def ON(b f a:Bool)(g:ay)(n:Int)(x y:ay)(S:Sta)(m:Int)
  (h1:aq 92 [.ref 0 0] (dkO f n x bO false++[dF g]) (.ret (.tup [.ref (jdN f+2) 0,ii 0])) (dkC n (sfV a 1 y) bO false::sfT f++[dF g,jnO 0 m,.cells tSt (.ref (jdN f+1) 0::S.cs)])):
  aq 54 [.ref 0 0] (.cells tDr [.ref 1 0,pv b]::dkC n (sfV f 2 x) bO false::sfT f++[dF g]) (.ret (ii 0)) (drS f a g n y m S):=by
 cases b<;>cases f<;>cases a
 all_goals
  refine cT (E:=E) (fn:=Tryz.f54) (g:=.full _ _ _) λ_=>?_
  repeat' first | (refine gN hE ?_;conv=>whnf) | refine .eff [] [1,2] _ _ rfl h1 ?_ | refine .eff [] [1,2,3] _ _ rfl h1 ?_ | exact zx [0,1,2,3,4] | exact zx [0,1,2,3,4,5] | exact rfl | refine zt ?_ | refine zu ?_ ?_ | intro h | fail
abbrev drN(g:ay)(n:Int)(x:ay)(m:Int)(S:Sta):au:=[dF g,.cells tDr [.ref 2 0,.ref 4 0],dkC n (sfV false 3 x) bO false,jnO 2 m,.cells tSt (.ref 3 0::S.cs)]
def aDX(g:ay)(n:Int)(S:Sta)(m:Int)(a:aq 54 [.ref 0 0] (.cells tDr [.ref 1 0,pv true]::dkC (min (max n 0) 1048576) (sfV false 2 []) bO false::sfT false++[dF g]) (.ret (ii 0)) (drS false false g (min (max n 0) 1048576) [] m S)):
  aq 29 [ii n] [dF g] (.ret (.ref 1 0)) (drN g (min (max n 0) 1048576) [] m S):=by
 have h1:=ZK n;generalize min (max n 0) 1048576=N at *
 refine cT (E:=E) (fn:=Tryz.f29) (g:=.full 1 _ _) λ_=>?_
 repeat' first | (refine gN hE ?_;conv=>whnf) | refine .pure _ _ h1 ?_ | refine .eff [] [2,1,0] _ _ rfl a ?_ | exact rfl | refine zt ?_ | refine zu ?_ ?_ | intro h | fail
 exact zx [0,2,1,3,4]
def R4(f a:Bool)(b:a=true->f=true)(g:ay)(n:Int)(x:ay)(m:Int)(S R:Sta)
  (h1:aq 59 [.ref 0 0] (stS S m a n x) (.ret R.av) (stS S m a n x)):
  aq 31 [.ref 0 0] (drS f a g n x m S) (.ret R.av) (drS f a g n x m S):=by
 cases f<;>cases a
 case false.true=>exact absurd (b rfl) d_
 all_goals
  refine cT (E:=E) (fn:=Tryz.f31) (g:=.full _ _ _) λ_=>?_
  repeat' first | (refine gN hE ?_;conv=>whnf) | refine .eff [] [4,3,1] _ _ rfl h1 ?_ | refine .eff [] [5,4,1] _ _ rfl h1 ?_ | refine .eff [] [5,4,1,2] _ _ rfl h1 ?_ | exact zx [0,1,2,3,4] | exact zx [0,1,2,3,4,5] | exact rfl | refine zt ?_ | refine zu ?_ ?_ | intro h | fail
def aH7(f:Bool)(g:ay)(n:Int)(x:ay)(m:Int)(S:Sta)(c:Cmd)(p e:Int)
  (h1:aq 55 [.ref 0 0,c.av] (stS S m f n x) (.ret (.tup [.slice 3 [] .nil,ii e])) (stS S m f n x)):
  aq 30 [.ref 0 0,AJ 1 c p] (drS f f g n x m S) (.ret (.agg [ii e,.slice 3 [] .nil])) (drS f f g n x m S):=by
 cases f
 all_goals
  refine cT (E:=(Er [] [28,29,30,31])) (fn:=Tryz.f30) (g:=.full _ _ _) λ_=>?_
  repeat' first | (refine gN (hEr [] [28,29,30,31]) ?_;conv=>whnf) | refine .sole rfl (.eff [] [4,3,1] _ _ rfl h1 ?_) | refine .sole rfl (.eff [] [5,4,1,2] _ _ rfl h1 ?_) | exact zx [0,1,2,3,4] | exact zx [0,1,2,3,4,5] | exact rfl | refine zt ?_ | refine zu ?_ ?_ | intro h | fail
abbrev drG(f:Bool)(g:ay)(n:Int)(x:ay)(m:Int)(S:Sta):au:=match f with
 | true=>[.cells tDr [.ref 1 0,.ref 5 0],dkC n (sgV true 2 x) bO false,.tail 1 1 5,dF g,jnO 1 m,.cells tSt (.ref 4 0::S.cs)]
 | false=>[.cells tDr [.ref 1 0,.ref 4 0],dkC n (sgV false 5 x) bO false,dF g,jnO 1 m,.cells tSt (.ref 3 0::S.cs),.tail 0 1 5]
def aD3(f:Bool)(g:ay)(n:Int)(x y:ay)(m a:Int)(S b:Sta)(ev:bg)(c:Cmd)(p:Int)
  (h1:aq 55 [.ref 0 0,c.av] (stS S m f n x) (.ret (.tup [.slice 3 (evv ev) .no,ii 0])) (stG b a f n y)):
  aq 30 [.ref 0 0,AJ 1 c p] (drS f f g n x m S) (.ret (.agg [ii 0,.slice 3 (evv ev) .no])) (drG f g n y a b):=by
 cases f
 all_goals
  refine cT (E:=(Er [] [28,29,30,31])) (fn:=Tryz.f30) (g:=.full _ _ _) λ_=>?_
  repeat' first | (refine gN (hEr [] [28,29,30,31]) ?_;conv=>whnf) | refine .sole rfl (.eff [] [4,3,1] _ _ rfl h1 ?_) | refine .sole rfl (.eff [] [5,4,1,2] _ _ rfl h1 ?_) | exact zx [0,1,2,3,4,7] | exact zx [0,1,2,3,4,5] | exact rfl | refine zt ?_ | refine zu ?_ ?_ | intro h | fail
def aD2(f:Bool)(g:ay)(n:Int)(x:ay)(m:Int)(S:Sta)(c:Cmd)(p e:Int)
  (h1:aq 56 [.ref 0 0] (stS S m f n x) (.ret (ii e)) (stS S m f n x)):
  aq 30 [.ref 0 0,AJ 2 c p] (drS f f g n x m S) (.ret (.agg [ii e,.slice 3 [] .nil])) (drS f f g n x m S):=by
 cases f
 all_goals
  refine cT (E:=E) (fn:=Tryz.f30) (g:=.full _ _ _) λ_=>?_
  repeat' first | (refine gN hE ?_;conv=>whnf) | refine .eff [] [4,3,1] _ _ rfl h1 ?_ | refine .eff [] [5,4,1,2] _ _ rfl h1 ?_ | exact zx [0,1,2,3,4] | exact zx [0,1,2,3,4,5] | exact rfl | refine zt ?_ | refine zu ?_ ?_ | intro h | fail
def aD1(f:Bool)(g:ay)(n:Int)(x y:ay)(m:Int)(S:Sta)(c:Cmd)(p:Int)
  (h1:aq 56 [.ref 0 0] (stS S m f n x) (.ret (ii 0)) (.cells tSt (.ref 1 0::S.cs)::jnO 2 1::dkC n (sfV false 3 y) bO false::sfT f)):
  aq 30 [.ref 0 0,AJ 2 c p] (drS f f g n x m S) (.ret (.agg [ii 0,.slice 3 [] .nil])) (drS f false g n y 1 S):=by
 cases f
 all_goals
  refine cT (E:=E) (fn:=Tryz.f30) (g:=.full _ _ _) λ_=>?_
  repeat' first | (refine gN hE ?_;conv=>whnf) | refine .eff [] [4,3,1] _ _ rfl h1 ?_ | refine .eff [] [5,4,1,2] _ _ rfl h1 ?_ | exact zx [0,1,2,3,4] | exact zx [0,1,2,3,4,5] | exact rfl | refine zt ?_ | refine zu ?_ ?_ | intro h | fail
abbrev drR(f f':Bool)(g:ay)(n:Int)(y:ay)(m m':Int)(S S':Sta):au:=match f with
 | true=>[.cells tDr [.ref 1 0,.ref 7 0],dkC n (sfV f' 2 y) bO false,.tail 0 1 5,dF g,jnO 1 m,.cells tSt (.ref 4 0::S.cs),jnO 1 m',.cells tSt (.ref 6 0::S'.cs)]
 | false=>[.cells tDr [.ref 1 0,.ref 6 0],dkC n (sfV f' 2 y) bO false,dF g,jnO 1 m,.cells tSt (.ref 3 0::S.cs),jnO 1 m',.cells tSt (.ref 5 0::S'.cs)]
def aDZ(f:Bool)(g:ay)(n:Int)(x y:ay)(m a:Int)(S b:Sta)(c:Cmd)(p:Int)
  (h1:aq 54 [.ref 0 0] (.cells tDr [.ref 1 0,pv false]::dkC n (sfV f 2 x) bO false::sfT f++[dF g]) (.ret (ii 0)) (drS f f g n y a b)):
  aq 30 [.ref 0 0,AJ 5 c p] (drS f f g n x m S) (.ret (.agg [ii 0,.slice 3 [] .nil])) (drR f f g n y m a S b):=by
 cases f
 all_goals
  refine cT (E:=E) (fn:=Tryz.f30) (g:=.full _ _ _) λ_=>?_
  repeat' first | (refine gN hE ?_;conv=>whnf) | refine .eff [] [0,1,2] _ _ rfl h1 ?_ | refine .eff [] [0,1,2,3] _ _ rfl h1 ?_ | exact zx [0,1,2,3,4,7,8] | exact zx [0,1,2,3,4,5,8,9] | exact rfl | refine zt ?_ | refine zu ?_ ?_ | intro h | fail
def aDY(f:Bool)(g:ay)(n:Int)(x:ay)(m:Int)(S:Sta)(c:Cmd)(k p:Int)(h1:k≠1)(a:k≠2)(h3:k≠3)(b:k≠4)(d:k≠5):
  aq 30 [.ref 0 0,AJ k c p] (drS f f g n x m S) (.ret (.agg [ii 1,.slice 3 [] .nil])) (drS f f g n x m S):=by
 have i:(k==1)=false:=by simpa using h1
 have o:(k==2)=false:=by simpa using a
 have l:(k==3)=false:=by simpa using h3
 have j:(k==4)=false:=by simpa using b
 have e:(k==5)=false:=by simpa using d
 cases f
 all_goals
  refine cT (E:=E) (fn:=Tryz.f30) (g:=.full _ _ _) λ_=>?_
  repeat' first | (refine gN hE ?_;conv=>whnf) | exact zx [0,1,2,3,4] | exact zx [0,1,2,3,4,5] | exact rfl | refine zt ?_ | refine zu ?_ ?_ | intro h | fail
 all_goals (exfalso;simp_all)
abbrev aNn(f:Bool)(g:ay)(n:Int)(y:ay)(m m':Int)(S S':Sta):au:=match f with
 | true=>[.cells tDr [.ref 1 0,.ref 7 0],dkC n (sgV true 2 y) bO false,.tail 1 1 5,dF g,jnO 1 m,.cells tSt (.ref 4 0::S.cs),jnO 1 m',.cells tSt (.ref 6 0::S'.cs)]
 | false=>[.cells tDr [.ref 1 0,.ref 6 0],dkC n (sfV false 2 y) bO false,dF g,jnO 1 m,.cells tSt (.ref 3 0::S.cs),jnO 1 m',.cells tSt (.ref 5 0::S'.cs)]
def aD0(f:Bool)(g:ay)(n:Int)(x y:ay)(m d:Int)(S e:Sta)(c:Cmd)(p:Int)(b:x.length<=1048576)
  (h1:aq 54 [.ref 0 0] (.cells tDr [.ref 1 0,pv false]::dkC n (sfV f 2 x) bO false::sfT f++[dF g]) (.ret (ii 0)) (drS f f g n y d e)):
  aq 30 [.ref 0 0,AJ 3 c p] (drS f f g n x m S) (.ret (.agg [ii 0,.slice 3 [] .nil])) (aNn f g n y m d S e):=by
 cases f
 .have a:=SG n x p b;refine cT (E:=E) (fn:=Tryz.f30) (g:=.full 5 _ _) λ_=>?_
  repeat' first | (refine gN hE ?_;conv=>whnf) | refine .sole rfl (.eff [] [1] _ _ rfl a ?_) | refine .eff [] [0,1,2] _ _ rfl h1 ?_ | exact rfl | refine zt ?_ | refine zu ?_ ?_ | intro h | fail
  exact zx [0,1,2,3,4,7,8]
 .have a:=SF n x p b;refine cT (E:=E) (fn:=Tryz.f30) (g:=.full 6 _ _) λ_=>?_
  repeat' first | (refine gN hE ?_;conv=>whnf) | refine .sole rfl (.eff [] [1,2] _ _ rfl a ?_) | refine .eff [] [0,1,2,3] _ _ rfl h1 ?_ | exact rfl | refine zt ?_ | refine zu ?_ ?_ | intro h | fail
  exact zx [0,1,2,3,4,5,8,9]
def aH6(f:Bool)(g:ay)(n:Int)(x:ay)(m:Int)(S:Sta)(c:Cmd)(p e:Int)(a:e≠0)
  (h1:aq 57 [.ref 0 0,c.av] (stS S m f n x) (.ret (ii e)) (stS S m f n x)):
  aq 30 [.ref 0 0,AJ 4 c p] (drS f f g n x m S) (.ret (.agg [ii e,.slice 3 [] .nil])) (drS f f g n x m S):=by
 have b:(e !=0)=true:=by simpa using a
 cases f
 all_goals
  refine cT (E:=E) (fn:=Tryz.f30) (g:=.full _ _ _) λ_=>?_
  repeat' first | (refine gN hE ?_;conv=>whnf) | refine .sole rfl (.eff [] [4,3,1] _ _ rfl h1 ?_) | refine .sole rfl (.eff [] [5,4,1,2] _ _ rfl h1 ?_) | exact zx [0,1,2,3,4] | exact zx [0,1,2,3,4,5] | exact rfl | refine zt ?_ | refine zu ?_ ?_ | intro h | fail
 all_goals (exfalso;clear h1;simp_all)
abbrev drW(f':Bool)(g:ay)(n:Int)(y:ay)(m m':Int)(S S':Sta):au:=[.cells tDr [.ref 1 0,.ref 7 0],dkC n (match f' with | true=>sgV true 2 y | false=>sfV false 2 y) bO false,.tail 1 1 5,dF g,jnO 1 m,.cells tSt (.ref 4 0::S.cs),jnO 1 m',.cells tSt (.ref 6 0::S'.cs)]
def yL(a:Bool)(g:ay)(n:Int)(x b y:ay)(m e:Int)(S i:Sta)(c:Cmd)(p:Int)(j:x.length<=1048576)(k:b.length<=1048576)
  (h1:aq 57 [.ref 0 0,c.av] (stS S m true n x) (.ret (ii 0)) (.cells tSt (.ref 1 0::S.cs)::jnO 2 m::dkC n (sfV true 3 x) (wtB b) false::sfT true))
  (h3:aq 54 [.ref 0 0] (.cells tDr [.ref 1 0,pv false]::dkC n (sfV true 2 (x++b.take (eG p b.length))) bO false::sfT true++[dF g]) (.ret (ii 0)) (drS true a g n y e i)):
  aq 30 [.ref 0 0,AJ 4 c p] (drS true true g n x m S) (.ret (.agg [ii 0,.slice 3 [] .nil])) (drW a g n y m e S i):=by
 have d:=HQ n x b p j k;cases a
 .refine cT (E:=E) (fn:=Tryz.f30) (g:=.full 6 _ _) λ_=>?_
  repeat' first | (refine gN hE ?_;conv=>whnf) | refine .sole rfl (.eff [] [5,4,1,2] _ _ rfl h1 ?_) | refine .sole rfl (.eff [] [1,2] _ _ rfl d ?_) | refine .eff [] [0,1,2,3] _ _ rfl h3 ?_ | exact rfl | refine zt ?_ | refine zu ?_ ?_ | intro h | fail
  exact zx [0,1,2,3,4,5,8,9]
 .refine cT (E:=E) (fn:=Tryz.f30) (g:=.full 6 _ _) λ_=>?_
  repeat' first | (refine gN hE ?_;conv=>whnf) | refine .sole rfl (.eff [] [5,4,1,2] _ _ rfl h1 ?_) | refine .sole rfl (.eff [] [1,2] _ _ rfl d ?_) | refine .eff [] [0,1,2,3] _ _ rfl h3 ?_ | exact rfl | refine zt ?_ | refine zu ?_ ?_ | intro h | fail
  exact zx [0,1,2,3,4,5,8,9]
abbrev drX(f':Bool)(g:ay)(n:Int)(y:ay)(m m':Int)(S S':Sta):au:=[.cells tDr [.ref 1 0,.ref 7 0],dkC n (match f' with | true=>.slice 1 (y.map ub) (.own 5 0) | false=>sfV false 2 y) bO false,dF g,jnO 1 m,.cells tSt (.ref 3 0::S.cs),.tail 0 1 5,jnO 1 m',.cells tSt (.ref 6 0::S'.cs)]
def D7(a:Bool)(g:ay)(n:Int)(x b y:ay)(m i:Int)(S j:Sta)(c:Cmd)(p:Int)(k:x.length<=1048576)(l:b.length<=1048576)(d:b.take (eG p b.length)≠[])
  (h1:aq 57 [.ref 0 0,c.av] (stS S m false n x) (.ret (ii 0)) (.cells tSt (.ref 1 0::S.cs)::jnO 2 m::dkC n (sfV false 3 x) (wtB b) false::sfT false))
  (h3:aq 54 [.ref 0 0] (.cells tDr [.ref 1 0,pv false]::dkC n (sfV true 2 (x++b.take (eG p b.length))) bO false::sfT true++[dF g]) (.ret (ii 0)) (drS true a g n y i j)):
  aq 30 [.ref 0 0,AJ 4 c p] (drS false false g n x m S) (.ret (.agg [ii 0,.slice 3 [] .nil])) (drX a g n y m i S j):=by
 have e:=D9 n x b p k l d;cases a
 .refine cT (E:=E) (fn:=Tryz.f30) (g:=.full 5 _ _) λ_=>?_
  repeat' first | (refine gN hE ?_;conv=>whnf) | refine .sole rfl (.eff [] [4,3,1] _ _ rfl h1 ?_) | refine .sole rfl (.eff [] [1] _ _ rfl e ?_) | refine .eff [] [0,1,7,2] _ _ rfl h3 ?_ | exact rfl | refine zt ?_ | refine zu ?_ ?_ | intro h | fail
  exact zx [0,1,2,3,4,7,8,9]
 .refine cT (E:=E) (fn:=Tryz.f30) (g:=.full 5 _ _) λ_=>?_
  repeat' first | (refine gN hE ?_;conv=>whnf) | refine .sole rfl (.eff [] [4,3,1] _ _ rfl h1 ?_) | refine .sole rfl (.eff [] [1] _ _ rfl e ?_) | refine .eff [] [0,1,7,2] _ _ rfl h3 ?_ | exact rfl | refine zt ?_ | refine zu ?_ ?_ | intro h | fail
  exact zx [0,1,2,3,4,7,8,9]
def R5(g:ay)(n:Int)(x b:ay)(m d:Int)(S e:Sta)(c:Cmd)(p:Int)(i:x.length<=1048576)(k:b.length<=1048576)(a:b.take (eG p b.length)=[])
  (h1:aq 57 [.ref 0 0,c.av] (stS S m false n x) (.ret (ii 0)) (.cells tSt (.ref 1 0::S.cs)::jnO 2 m::dkC n (sfV false 3 x) (wtB b) false::sfT false))
  (h3:aq 54 [.ref 0 0] (.cells tDr [.ref 1 0,pv false]::dkC n (sfV false 2 x) bO false::sfT false++[dF g]) (.ret (ii 0)) (drS false false g n x d e)):
  aq 30 [.ref 0 0,AJ 4 c p] (drS false false g n x m S) (.ret (.agg [ii 0,.slice 3 [] .nil])) (drR false false g n x m d S e):=by
 have j:=SE n x b p i k a;refine cT (E:=E) (fn:=Tryz.f30) (g:=.full 5 _ _) λ_=>?_
 repeat' first | (refine gN hE ?_;conv=>whnf) | refine .sole rfl (.eff [] [4,3,1] _ _ rfl h1 ?_) | refine .sole rfl (.eff [] [1] _ _ rfl j ?_) | refine .eff [] [0,1,2] _ _ rfl h3 ?_ | exact rfl | refine zt ?_ | refine zu ?_ ?_ | intro h | fail
 exact zx [0,1,2,3,4,7,8]
def mP:List Kstp->Kst->Kst
 | [],t=>t
 | p::l,t=>mP l (dI t p).1
def xE:List Kstp->Kst->List (bg×Int)
 | [],_=>[]
 | p::l,t=>(dI t p).2::xE l (dI t p).1
def uG(n:Int):Kst:=⟨Dk.new n,0,fC⟩
def PN(t:Kst)(m:Int):Prop:=(t.d.safe.length:Int)+m<=t.d.size
def aF4(x:Cmd)(k:Nat)(h:x.il.length<=k)(a:∀ n∈x.il,n<=9223372036854775807):((Rec.b (.c x)).length:Int)<=10*k+1:=by show (((67:UInt8)::C8.encB x).length:Int)<=_;have:=C8.pl_len a;unfold C8.encB;split<;>simp<;>omega
def aFt{t:Kst}{c:Cmd}{S:Sta}{ev:bg}(n:Int)(k:Nat)(m:Int)(h:aH t.s c=(S,ev,0))(h1:c.il.length<=k)(a:∀ n∈c.il,n<=9223372036854775807)(f:k<=1000)(e:PN t (m+10*k+9))(hm:0<=m:=by decide):
  ∃ d i,dI t ⟨1,c,n⟩=(⟨d,i,S⟩,ev,0)/\d=aIO t.d (Rec.b (.c c))/\PN ⟨d,i,S⟩ m:=by
 have hl:=aF4 c k h1 a;unfold PN at e;have q:kV t.d (Rec.b (.c c))=0:=by unfold kV;rw [if_neg o_,if_neg o_]
 refine ⟨aIO t.d (Rec.b (.c c)),t.n+1,?_,rfl,?_⟩
 .show doS t c=_;unfold doS;rw [h,if_neg s_,if_neg (by simpa using q)]
 .show ((t.d.safe++frm _).length:Int)+m<=t.d.size;rw [Ah,eJ];omega
def tk(k n keep:Int):Kstp:=⟨k,aL1 n,keep⟩
def XE:Con:=⟨[⟨-1,1,V3.zero,V3.zero,V3.zero⟩,⟨0,1,zA,zA,zA⟩,⟨0,1,zA,zA,zA⟩],[⟨0,0,0,zA⟩,⟨0,0,1,zA⟩],10,0⟩
def K9(id t run:Int):Cmd:=⟨2,aEg,⟨id,t,2,⟨2,2,2⟩,run,3,0⟩,0⟩
def aAE:Cmd:=⟨6,aEg,Gan.zero,0⟩
def zG:List Cmd:=[⟨1,XE,Gan.zero,0⟩,K9 1 1 50,K9 2 1 50,aAE]
def vM:List Cmd:=[K9 3 2 9,aAE]
def XD:List Kstp:=zG.map (λ c=>⟨1,c,0⟩)++[⟨3,Cmd.zero,0⟩]++vM.map (λ c=>⟨1,c,0⟩)
def evS:List Cmd->Sta->List (bg×Int)
 | [],_=>[]
 | c::l,s=>(aH s c).2::evS l (aH s c).1
def RS:List Cmd->Sta->Sta
 | [],s=>s
 | c::l,s=>RS l (aH s c).1
def R6:∀ (l:List Cmd) (t:Kst) (m:Int),(∀ c∈l,c.il.length<=60/\∀ n∈c.il,n<=9223372036854775807)->(∀ a∈evS l t.s,a.2=0)->PN t (m+609*l.length)->0<=m->
  ∃ d i,mP (l.map λ c=>⟨1,c,0⟩) t=⟨d,i,RS l t.s⟩/\xE (l.map λ c=>⟨1,c,0⟩) t=evS l t.s/\PN ⟨d,i,RS l t.s⟩ m
 | [],t,m,_,_,hr,_=>⟨t.d,t.n,rfl,rfl,by unfold PN at *;simp at hr;exact hr⟩
 | c::l,t,m,h,he,hr,hm=>by
  obtain ⟨h1,k⟩:=h c (Ar ..);have b:(aH t.s c).2.2=0:=he _ (Ar ..);have v:aH t.s c=((aH t.s c).1,(aH t.s c).2.1,0):=by rw [<-b]
  obtain ⟨d,i,e,_,r⟩:=aFt (t:=t) (c:=c) 0 60 (m+609*l.length) v h1 k d_ (by unfold PN at *;simp only [Al] at hr;omega) o_;obtain ⟨p,g,q,o,f⟩:=R6 l ⟨d,i,(aH t.s c).1⟩ m (λ x j=>h x (Bb _ j)) (λ a u=>he a (Bb _ u)) r hm;refine ⟨p,g,?_,?_,f⟩
  .show mP (l.map λ c=>⟨1,c,0⟩) (dI t ⟨1,c,0⟩).1=_;rw [e];exact q
  .show (dI t ⟨1,c,0⟩).2::xE (l.map λ c=>⟨1,c,0⟩) (dI t ⟨1,c,0⟩).1=(aH t.s c).2::evS l (aH t.s c).1;rw [e];dsimp only;rw [o,<-b]
def sK:∀ (l m:List Kstp) (t:Kst),mP (l++m) t=mP m (mP l t)
 | [],_,_=>rfl
 | p::l,m,t=>sK l m _
def EL:∀ (l m:List Kstp) (t:Kst),xE (l++m) t=xE l t++xE m (mP l t)
 | [],_,_=>rfl
 | p::l,m,t=>by show _::xE (l++m) _=_;rw [EL l m];rfl
def tS1:Sta:=RS zG fC
def tS2:Sta:=RS vM tS1
def w28:xE XD (uG 5000)=evS zG fC++[([],0)]++evS vM tS1/\(mP XD (uG 5000)).s=tS2:=by
 obtain ⟨d,i,e,h,r⟩:=R6 zG (uG 5000) 1300 (by decide+kernel) (by decide+kernel) (by show ((0:Nat):Int)+_<=_;decide) d_;have hs:RS zG (uG 5000).s=tS1:=rfl;have b:evS zG (uG 5000).s=evS zG fC:=rfl;rw [hs] at e r;rw [b] at h;have hz:∀ a∈evS vM tS1,a.2=0:=by decide+kernel
 have hz2:tS2=RS vM tS1:=rfl;have k:∀ c∈vM,c.il.length<=60/\∀ n∈c.il,n<=9223372036854775807:=by decide+kernel
 have hl:vM.length=2:=rfl;clear hs b;unfold XD;rw [hz2];generalize tS1=S at *
 obtain ⟨p,o,m,l,_⟩:=R6 vM ⟨d,i,S⟩ 0 k hz (by unfold PN at *;rw [hl];dsimp only at *;omega) d_;have g:∀ t,dI t ⟨3,Cmd.zero,0⟩=(t,[],0):=λ_=>rfl;have j:xE [⟨3,Cmd.zero,0⟩] ⟨d,i,S⟩=[([],0)]:=by simp only [xE,g]
 have f:mP [⟨3,Cmd.zero,0⟩] ⟨d,i,S⟩=⟨d,i,S⟩:=by simp only [mP,g]
 constructor
 .rw [EL,EL,sK,h,e,j,f,l]
 .rw [sK,sK,e,f,m]
def aNJ:∃ a b c d e f:bg×Int,∃ x y:Ev,evS zG fC++[([],0)]++evS vM tS1=[a,b,c,([x,y],d.2),e,f,([⟨2,2,0⟩,⟨1,3,0⟩],0)]:=by refine ⟨([],0),([],0),([],0),([],0),([],0),([],0),⟨1,1,0⟩,⟨1,2,0⟩,?_⟩;decide+kernel
def aNI:tS2.run.length=2/\tS2.pend.length=1/\(tS2.run[1]?).map (λ r=>r.g.id)=some 3:=by decide+kernel
def aGf{s:Sta}(e:mH s=true)(v:s.hist.length<=12)(G:s.pend.length+s.run.length<=32):(cW s).length<=16000:=by
 have w0:=OV e;obtain ⟨w,⟨n1,n2,z,K⟩,F,q,t,k,m⟩:=SU e;have I:(C8.putN (mG s).length).length<=10:=by have:=C8.pn_len (n:=((mG s).length:Int)) o_;rw [Bn] at this;omega
 have B:(C8.pl [s.now,s.nxt,(s.hist.length:Int)]).length<=30:=by have:=C8.pl_len (l:=[s.now,s.nxt,(s.hist.length:Int)]) (λ n a=>by simp at a;omega);simpa using this
 have H:(C8.pl [(s.pend.length:Int)]).length<=10:=by have:=C8.pl_len (l:=[(s.pend.length:Int)]) (λ n a=>by simp at a;omega);simpa using this
 have D:(C8.pl [(s.run.length:Int)]).length<=10:=by have:=C8.pl_len (l:=[(s.run.length:Int)]) (λ n a=>by simp at a;omega);simpa using this
 have L:=DO s.hist;have p:∀ (l:a7),(∀ x∈l,x.g.ok=true/\okI [x.seq,x.at']=true)->(tC l).length<=110*l.length:=by
  intro l;induction l with
  | nil=>intro _;exact Bt _
  | cons x r d=>
   intro h;obtain ⟨h1,c⟩:=h x (Ar ..);have i:=wM x.g h1;have f:=C8.pl_len (nH c);have o:=d λ y b=>h y (Bb _ b);simp only [tC,Ah,Al,Br] at *
   omega
 have j:∀ (l:a6),(∀ x∈l,x.g.ok=true/\okI [x.seq,x.at',x.st,x.fl]=true/\okI x.hs=true/\x.hs≠[]/\x.hs.length<=16)->(pD l).length<=290*l.length:=by
  intro l;induction l with
  | nil=>intro _;exact Bt _
  | cons x r d=>
   intro h;obtain ⟨h1,c,h3,_,A⟩:=h x (Ar ..);have i:=wM x.g h1;have f:=C8.pl_len (nH c);have o:=C8.pl_len (nH h3);have J:=d λ y b=>h y (Bb _ b);simp only [pD,Ah,Al,Br] at *
   omega
 have u:=p s.pend k;have C:=j s.run m;unfold cW;simp only [Ah];omega
def OkT.small{s:Sta}(h:OkT s):Sm s.run/\s.hist.length<=1048576:=by have h1:=(h.ok.st h.lt).run;exact ⟨h1.sm.run,h1.ord.hl⟩
def OkT.len{s:Sta}(h:OkT s):(cW s).length<=16000:=aGf (KE h.ok) (by have:=h.ok.hist;have:=(wJ h.ok.head).ns;omega) h.ok.few
def LP:∀ {l:List ay},(∀ t∈l,t.length<=16384)->nW l<=16392*l.length
 | [],_=>Bt _
 | t::l,h=>by have h1:=h t (Ar ..);have b:=LP λ y a=>h y (Bb _ a);simp only [nW,Al];omega
structure KB(t:Kst)(k:Nat):Prop where
 ex:∃ l,Kept t l/\l.length<=k
 nxt:t.s.nxt<=1+k
 few:k<=58
def KB.lens{t:Kst}{k:Nat}(h:KB t k):t.d.safe.length<=960000/\0<=t.d.size/\t.d.size<=1048576/\(t.d.safe.length:Int)<=t.d.size/\0<=t.n/\t.n<=1000000:=by obtain ⟨l,h1,f⟩:=h.ex;have a:=LP (A5 h1.ok);rw [<-rS,<-h1.safe,Cf] at a;have c:=h1.cl.le;have e:=h1.cl.size;have g:=h1.n;have b:=h.few;omega
def KB.okT{t:Kst}{k:Nat}(h:KB t k):OkT t.s:=h.ex.elim λ_ h=>h.1.okT
def KB.sap{t:Kst}{k:Nat}(h:KB t k)(c:Cmd)(a:c.k=1->c.c.sm):jA t.s c (aH t.s c):=xK t.s c (h.okT.ok.st h.okT.lt) a
def KB.step{t:Kst}{k:Nat}(h:KB t k)(f:k<58)(p:Kstp)(b:p.x.k=1->p.x.c.sm):KB (dI t p).1 (k+1):=by
 obtain ⟨l,h1,g⟩:=h.ex;have e:=h.nxt;have a:t.s.nxt<1099511627776:=o_;refine ⟨?_,?_,by omega⟩
 .obtain ⟨d,h3,i⟩:=h1.stepL p b a;exact ⟨d,h3,by omega⟩
 .have:=XK t p h.okT a;omega
def KB.le{t:Kst}{k a:Nat}(h:KB t k)(c:k<=a)(b:a<=58):KB t a:=⟨h.ex.elim λ l h=>⟨l,h.1,by omega⟩,by have:=h.nxt;omega,b⟩
def kb0(n:Int):KB (uG n) 0:=⟨⟨[],⟨⟨rfl,rfl,by show (0:Int)<=_;simp only [uG,Dk.new];omega,by show (Dk.new n).size<=_;simp only [Dk.new];omega⟩,rfl,rfl,trivial,rfl⟩,Bf _⟩,(by show (1:Int)<=1+0;decide),by decide⟩
def aAG{R:Sta×bg×Int}(h:R.2.2=0):R=(R.1,R.2.1,0):=by obtain ⟨a,b,c⟩:=R;subst h;rfl
def XX{s:Sta}{r:Rec}{l:List Rec}(h:OkT s/\okR (r::l) s):QG r/\QO s r/\OkT (r.to s)/\okR l (r.to s):=by
 obtain ⟨h1,b,h3,e⟩:=h;refine ⟨?_,?_,r.okT h1 b,e⟩
 .cases r with
  | c x=>
   obtain ⟨f,d⟩:=aMt b.1;have a:=C8.decode_ok (C8.encB x) (by have:(67::C8.encB x).length<=16384:=h3;simp at this;omega);rw [f,d] at a;exact aFw _ x a (by have:(67::C8.encB x).length<=16384:=h3;simp at this;omega)
  | s x=>
   have a:=aFJ (cW x) (by have:(83::cW x).length<=16384:=h3;simp at this;omega);unfold aA7 aLy at a;rw [aMs b] at a;exact aFv _ x a (by have:(83::cW x).length<=16384:=h3;simp at this;omega)
 .cases r with
  | c x=>
   have a:=xK s x (h1.ok.st h1.lt) b.2.1;rw [aAG b.1] at a;exact a
  | s x=>trivial
def KB.rpl{t:Kst}{k:Nat}{l:List Rec}(h:Kept t l)(hl:l.length<=1000000):aq 141 [.slice 1 (nS (l.map Rec.b)) .no] [] (.ret (.tup [t.s.av,.nilif])) []:=by have:=XT l hl (λ s l=>OkT s/\okR l s) (λ s r l h=>XX h) ⟨IG,h.ok⟩;rw [<-h.s] at this;exact this
def KB.sop{t:Kst}{k:Nat}(h:KB t k)(f:Bool)(g:ay):aq 92 [.ref 0 0] (dkO f t.d.size t.d.safe bO false++[dF g]) (.ret (.tup [.ref (jdN f+2) 0,ii 0])) (dkC t.d.size (sfV f 1 t.d.safe) bO false::sfT f++[dF g,jnO 0 t.n,.cells tSt (.ref (jdN f+1) 0::t.s.cs)]):=by have a:=h.lens;obtain ⟨l,h1,c⟩:=h.ex;have h3:=aCM f t.d.size (l.map Rec.b) (A5 h1.ok) (by rw [<-h1.safe];omega);rw [<-h1.safe,Cf,<-h1.n] at h3;exact LJ f f id g _ _ _ t.s _ t.n h3 (KB.rpl (k:=k) h1 (by have:=h.few;omega))
def KB.sopT{t:Kst}{k:Nat}(h:KB t k)(f:Bool)(g:ay)(r:ay)(a:r.length<=16384)(j:Nat)(c:j≠0)(i:j<r.length+8):aq 92 [.ref 0 0] (dkO f t.d.size (t.d.safe++(frm r).take j) bO false++[dF g]) (.ret (.tup [.ref (jdN f+2) 0,ii 0])) (dkC t.d.size (sfV false 1 t.d.safe) bO false::sfT f++[dF g,jnO 0 t.n,.cells tSt (.ref (jdN f+1) 0::t.s.cs)]):=by
 have p:=h.lens;obtain ⟨l,h1,o⟩:=h.ex;have e:((frm r).take j).length=j:=by rw [Dl,eJ];omega
 have h3:=Q3 f t.d.size (l.map Rec.b) ((frm r).take j) (aBz r j a i) (λ m=>c (by rw [<-e,m];rfl)) (A5 h1.ok) (by rw [<-h1.safe,Ah];omega) (by rw [<-h1.safe];omega);rw [<-h1.safe,Cf,<-h1.n] at h3;exact LJ f false (λ h=>by cases h) g _ _ _ t.s _ t.n h3 (KB.rpl (k:=k) h1 (by have:=h.few;omega))
def KB.dop{t:Kst}{k:Nat}(h:KB t k)(b f:Bool)(g:ay):aq 54 [.ref 0 0] (.cells tDr [.ref 1 0,pv b]::dkC t.d.size (sfV f 2 t.d.safe) bO false::sfT f++[dF g]) (.ret (ii 0)) (drS f f g t.d.size t.d.safe t.n t.s):=ON b f f g _ _ _ _ _ (h.sop f g)
def KB.dopT{t:Kst}{k:Nat}(h:KB t k)(b f:Bool)(g:ay)(r:ay)(e:r.length<=16384)(j:Nat)(a:j≠0)(c:j<r.length+8):aq 54 [.ref 0 0] (.cells tDr [.ref 1 0,pv b]::dkC t.d.size (sfV f 2 (t.d.safe++(frm r).take j)) bO false::sfT f++[dF g]) (.ret (ii 0)) (drS f false g t.d.size t.d.safe t.n t.s):=ON b f false g _ _ _ _ _ (h.sopT f g r e j a c)
def KB.enc{t:Kst}{k:Nat}(h:KB t k):aq 95 [t.s.av] [] (.ret (.tup [.str (cW t.s),ii 0])) []:=by have a:=KE h.okT.ok;have:=aFG t.s h.okT.ok.base.c h.okT.small.1 SU;unfold aLf at this;rw [if_pos a,if_pos a] at this;exact this
def Z3{t:Kst}{k:Nat}(h:KB t k)(c:Cmd)(f:Bool)(e:kV t.d (crB c)≠0):aq 93 [.ref 0 0,.str (crB c)] (jdO t.n f t.d.size t.d.safe) (.ret (ii (kV t.d (crB c)))) (jdO t.n f t.d.size t.d.safe)/\aq 97 [.ref 0 0,.str (crB c)] (jdO t.n f t.d.size t.d.safe) (.ret (ii (kV t.d (crB c)))) (jdO t.n f t.d.size t.d.safe):=by
 have a:=h.lens;unfold kV at *
 by_cases q:16384<(crB c).length
 .rw [if_pos q];exact ⟨YM _ _ _ _ _ q,YL _ _ _ _ _ q⟩
 .rw [if_neg q] at *
  by_cases b:t.d.size-t.d.safe.length<(crB c).length+8
  .rw [if_pos b];exact ⟨aG6 _ _ _ _ _ o_ a.2.1 a.2.2.1 o_ b,aG2 _ _ _ _ _ o_ a.2.1 a.2.2.1 o_ b⟩
  .rw [if_neg b] at e;exact absurd rfl e
def PI{t:Kst}{c:Cmd}(a:kV t.d (crB c)=0):(crB c).length<=16384/\((crB c).length:Int)+8<=t.d.size-t.d.safe.length:=by
 unfold kV at a;split at a
 .cases a
 split at a
 .cases a
 .omega
open C8 (nodL hosL pl pl_append pl_len pn_len il_len ih_len okI_b) in
def aHU(x:Cmd):(C8.encB x).length<=1000000000:=by
 have f:∀ (l:bb),uR l=true->(pl (nodL l)).length<=110*l.length:=by
  intro l;induction l with
  | nil=>intro _;simp [nodL,pl]
  | cons x r b=>
   intro h;simp only [uR,Ad] at h;have h1:=il_len x h.1;have a:=b h.2;simp only [nodL,pl_append,Ah,Al];omega
 have j:∀ (l:List Hos),qQ l=true->(pl (hosL l)).length<=60*l.length:=by
  intro l;induction l with
  | nil=>intro _;simp [hosL,pl]
  | cons x r b=>
   intro h;simp only [qQ,Ad] at h;have h1:=ih_len x h.1;have a:=b h.2;simp only [hosL,pl_append,Ah,Al];omega
 unfold C8.encB;split
 .rename_i h;have T:=C8.chk_told h;have l1:=T.ln;have l2:=T.lh;have d:=T.cok;simp only [Con.tok,Ad] at d;obtain ⟨⟨h1,a⟩,h3⟩:=d;have o:=f _ h1;have m:=j _ a;have p:(nav x.c.ns).length=x.c.ns.length:=by simp
  have z:(hav x.c.hs).length=x.c.hs.length:=by simp
  have A:=pn_len (n:=x.k) (by have:=T.k;omega);have i:=pn_len (n:=x.n) (by have:=T.nok;omega);have q:=pn_len (n:=((nav x.c.ns).length:Int)) o_;have u:=pn_len (n:=((hav x.c.hs).length:Int)) o_;have w:=pn_len (n:=x.c.half) (by have:=okI_b h3 x.c.half s_;omega);have v:=pn_len (n:=x.c.age) (by have:=okI_b h3 x.c.age s_;omega);have y:(pl x.c.il).length<=3000:=by simp only [Con.il,pl_append,pl,Ah,Br];omega
  have s:=wM x.g T.gok;have t:(pl [x.n]).length<=10:=by simpa [pl] using i
  have e:=C8.il_cons x _ rfl;rw [<-e,Ah];split
  .omega
  .split
   .omega
   .split
    .simp [pl];omega
    .omega
 .simp
def KB.do_e{t:Kst}{k:Nat}(h:KB t k)(c:Cmd)(i:c.k=1->c.c.sm)(f:Bool)(e:(aH t.s c).2.2≠0\/kV t.d (crB c)≠0):
  aq 55 [.ref 0 0,c.av] (stS t.s t.n f t.d.size t.d.safe) (.ret (.tup [.slice 3 [] .nil,ii (doS t c).2.2])) (stS t.s t.n f t.d.size t.d.safe)/\
  aq 57 [.ref 0 0,c.av] (stS t.s t.n f t.d.size t.d.safe) (.ret (ii (doS t c).2.2)) (stS t.s t.n f t.d.size t.d.safe)/\(doS t c).1=t/\(doS t c).2.1=[]/\wrE t c=(doS t c).2.2/\(doS t c).2.2≠0:=by
 have hs:=h.sap c i;unfold doS wrE;by_cases q:(aH t.s c).2.2=0
 .have a:kV t.d (crB c)≠0:=e.resolve_left λ h=>h q;have l:kV t.d (Rec.b (.c c))≠0:=a;rw [if_neg (by simpa using q),if_pos l,if_neg (by simpa using q)];rw [aAG q] at hs;obtain ⟨j,g⟩:=Z3 h c f a;exact ⟨aMh _ _ _ _ hs (aHU c) _ _ _ _ _ a j,aJI _ _ _ _ hs (aHU c) _ _ _ _ _ g,rfl,rfl,rfl,a⟩
 .rw [if_pos q,if_pos q];exact ⟨aMg _ _ _ hs q _ _ _ _,aJH _ _ _ hs q _ _ _ _,rfl,rfl,rfl,q⟩
def KB.do_ok{t:Kst}{k:Nat}(h:KB t k)(c:Cmd)(g:c.k=1->c.c.sm)(f:Bool)(q:(aH t.s c).2.2=0)(i:kV t.d (crB c)=0):
  aq 55 [.ref 0 0,c.av] (stS t.s t.n f t.d.size t.d.safe) (.ret (.tup [.slice 3 (evv (aH t.s c).2.1) .no,ii 0])) (stG (aH t.s c).1 (t.n+1) f t.d.size (t.d.safe++frm (crB c)))/\
  aq 57 [.ref 0 0,c.av] (stS t.s t.n f t.d.size t.d.safe) (.ret (ii 0)) (.cells tSt (.ref 1 0::t.s.cs)::jnO 2 t.n::dkC t.d.size (sfV f 3 t.d.safe) (wtB (frm (crB c))) false::sfT f):=by
 have a:=h.lens;have hs:=h.sap c g;rw [aAG q] at hs;obtain ⟨b,e⟩:=PI i
 exact ⟨aJT _ _ _ _ hs (aHU c) _ _ _ _ (aG5 f t.n t.d.size t.d.safe (crB c) ⟨a.2.2.2.2.1,a.2.2.2.2.2⟩ b a.2.1 a.2.2.1 o_ e),
  aFo _ _ _ _ hs (aHU c) _ _ _ _ (aG1 f t.n t.d.size t.d.safe (crB c) b a.2.1 a.2.2.1 o_ e)⟩
def aD4{t:Kst}{c:Cmd}(q:(aH t.s c).2.2=0)(e:kV t.d (crB c)=0):doS t c=(⟨aIO t.d (crB c),t.n+1,(aH t.s c).1⟩,(aH t.s c).2.1,0):=by have a:kV t.d (Rec.b (.c c))=0:=e;unfold doS;rw [if_neg (by simpa using q),if_neg (by simpa using a)];rfl
def KB.snap_any{t:Kst}{k:Nat}(h:KB t k):mO t=0/\((83::cW t.s).length:Int)+8<=t.d.size\/mO t=9/\t.d.size<((83::cW t.s).length:Int)+8:=by
 have hl:(83::cW t.s).length<=16384:=by have:=h.okT.len;simp only [Al];omega
 have e:(Rec.b (.s t.s))=83::cW t.s:=rfl;unfold mO;rw [e,if_neg o_];split
 .rename_i q;exact .inr ⟨rfl,q⟩
 .exact .inl ⟨rfl,by omega⟩
def KB.snap_no{t:Kst}{k:Nat}(h:KB t k)(f:Bool)(q:mO t≠0):aq 56 [.ref 0 0] (stS t.s t.n f t.d.size t.d.safe) (.ret (ii (mO t))) (stS t.s t.n f t.d.size t.d.safe):=by
 have hl:=h.okT.len;rcases h.snap_any with ⟨e,_⟩ | ⟨e,a⟩
 .exact absurd e q
 .rw [e];exact aAU t.s (cW t.s) h.enc o_ _ _ _ _ _ (aG4 f t.n t.d.size t.d.safe (83::cW t.s) (by simp only [Al];omega) a)
def KB.snap_ok{t:Kst}{k:Nat}(h:KB t k)(f:Bool)(q:mO t=0):aq 56 [.ref 0 0] (stS t.s t.n f t.d.size t.d.safe) (.ret (ii 0)) (.cells tSt (.ref 1 0::t.s.cs)::jnO 2 1::dkC t.d.size (sfV false 3 (frm (83::cW t.s))) bO false::sfT f):=by
 have hl:=h.okT.len;rcases h.snap_any with ⟨e,a⟩ | ⟨e,_⟩
 .exact aAT t.s (cW t.s) h.enc o_ _ _ _ _ (aG3 f t.n t.d.size t.d.safe (83::cW t.s) (by simp only [Al];omega) a)
 .rw [e] at q;cases q
def aA2{t:Kst}(q:mO t=0):qZ t=⟨⟨t.d.size,frm (83::cW t.s),[],false⟩,1,t.s⟩:=by unfold qZ;rw [if_pos q];rfl
def aA3{t:Kst}(q:mO t≠0):qZ t=t:=by unfold qZ;rw [if_neg q]
abbrev Z7(ev:bg)(e:Int):aa:=.agg [ii e,.slice 3 (evv ev) .no]
abbrev cDo(f:Bool)(g:ay)(t:Kst)(p:Kstp)(a:aa)(O:au):Prop:=aq 30 [.ref 0 0,AJ p.k p.x p.n] (drS f f g t.d.size t.d.safe t.n t.s) (.ret a) O
inductive DoO(g:ay)(t t':Kst)(p:Kstp)(a:aa):Bool->Prop
 | same {f} (h:cDo f g t p a (drS f f g t'.d.size t'.d.safe t'.n t'.s)):DoO g t t' p a f
 | full (h:cDo true g t p a (drS true false g t'.d.size t'.d.safe t'.n t'.s)):DoO g t t' p a true
 | grow {f} (h:cDo f g t p a (drG f g t'.d.size t'.d.safe t'.n t'.s)):DoO g t t' p a f
 | anew {f} (m:Int) (S:Sta) (h:cDo f g t p a (drR f f g t'.d.size t'.d.safe m t'.n S t'.s)):DoO g t t' p a f
 | wt (m:Int) (S:Sta) (h:cDo true g t p a (drW true g t'.d.size t'.d.safe m t'.n S t'.s)):DoO g t t' p a true
 | wf (m:Int) (S:Sta) (h:cDo true g t p a (drW false g t'.d.size t'.d.safe m t'.n S t'.s)):DoO g t t' p a true
 | xt (m:Int) (S:Sta) (h:cDo false g t p a (drX true g t'.d.size t'.d.safe m t'.n S t'.s)):DoO g t t' p a false
 | xf (m:Int) (S:Sta) (h:cDo false g t p a (drX false g t'.d.size t'.d.safe m t'.n S t'.s)):DoO g t t' p a false
def KB.dr3{t:Kst}{k:Nat}(h:KB t k)(f:Bool)(g:ay)(c:Cmd)(n:Int):cDo f g t ⟨3,c,n⟩ (Z7 [] 0) (aNn f g t.d.size t.d.safe t.n t.n t.s t.s):=
 aA.less (aD0 f g _ _ _ _ _ _ _ c n (by have:=h.lens;omega) (h.dop false f g))
def KB.dr5{t:Kst}{k:Nat}(h:KB t k)(f:Bool)(g:ay)(c:Cmd)(n:Int):cDo f g t ⟨5,c,n⟩ (Z7 [] 0) (drR f f g t.d.size t.d.safe t.n t.n t.s t.s):=
 aA.less (aDZ f g _ _ _ _ _ _ _ c n (h.dop false f g))
def KB.dr4{t:Kst}{k:Nat}(h:KB t k)(J:k<58)(f:Bool)(g:ay)(c:Cmd)(n:Int)(v:c.k=1->c.c.sm):DoO g t (dI t ⟨4,c,n⟩).1 ⟨4,c,n⟩ (Z7 (dI t ⟨4,c,n⟩).2.1 (dI t ⟨4,c,n⟩).2.2) f:=by
 have L:=h.lens;have z:dI t ⟨4,c,n⟩=if wrE t c≠0 then (t,[],wrE t c) else (if aLV c n then (doS t c).1 else t,[],0):=rfl
 by_cases q:(aH t.s c).2.2=0/\kV t.d (crB c)=0
 .obtain ⟨q,o⟩:=q;have I:wrE t c=0:=by have A:kV t.d (Rec.b (.c c))=0:=o;unfold wrE;rw [if_neg (by simpa using q),A]
  have w:=(h.step J ⟨1,c,0⟩ v)
  replace w:KB (doS t c).1 (k+1):=w;have hd:=aD4 q o;have j:=(h.do_ok c v f q o).2;obtain ⟨H,K⟩:=PI o;have fl:=eJ (crB c);rw [z,if_neg (by simpa using I)];obtain ⟨D,G⟩:=JM n (frm (crB c)).length;have y:(Rec.b (.c c))=crB c:=rfl;by_cases m:aLV c n=true
  .have r:=of_decide_eq_true m;rw [y] at r;have C:eG n (frm (crB c)).length=(frm (crB c)).length:=o_;have l:(frm (crB c)).take (eG n (frm (crB c)).length)=frm (crB c):=by rw [C,Fx]
   rw [if_pos m];have i:=w.dop false true g;rw [hd] at i⊢;cases f
   .exact .xt t.n t.s (aA.less (D7 true g _ _ _ _ _ _ _ _ c n o_ o_ (by rw [l];intro e;rw [e] at fl;simp at fl) j (by rw [l];exact i)))
   .exact .wt t.n t.s (aA.less (yL true g _ _ _ _ _ _ _ _ c n o_ o_ j (by rw [l];exact i)))
  .have r:¬ (((Rec.b (.c c)).length:Int)+8<=n):=λ e=>m (decide_eq_true e);rw [y] at r;rw [if_neg m];by_cases p:eG n (frm (crB c)).length=0
   .have l:(frm (crB c)).take (eG n (frm (crB c)).length)=[]:=by rw [p];rfl
    cases f
    .exact .anew t.n t.s (aA.less (R5 g _ _ _ _ _ _ _ c n o_ o_ l j (h.dop false false g)))
    .exact .wt t.n t.s (aA.less (yL true g _ _ _ _ _ _ _ _ c n o_ o_ j (by rw [l,Au];exact h.dop false true g)))
   .have hl:((frm (crB c)).take (eG n (frm (crB c)).length)).length=eG n (frm (crB c)).length:=by rw [Dl];omega
    have i:=h.dopT false true g (crB c) H (eG n (frm (crB c)).length) p o_;cases f
    .exact .xf t.n t.s (aA.less (D7 false g _ _ _ _ _ _ _ _ c n o_ o_ (λ e=>p (by rw [<-hl,e];rfl)) j i))
    .exact .wf t.n t.s (aA.less (yL false g _ _ _ _ _ _ _ _ c n o_ o_ j i))
 .have B:(aH t.s c).2.2≠0\/kV t.d (crB c)≠0:=by exact zqta8
  obtain ⟨_,x,M,N,F,u⟩:=h.do_e c v f B;rw [<-F] at x u;rw [z,if_pos u];exact .same (aA.less (aH6 f g _ _ _ _ c n _ u x))
def KB.dr{t:Kst}{k:Nat}(h:KB t k)(A:k<58)(f:Bool)(g:ay)(p:Kstp)(m:p.x.k=1->p.x.c.sm):DoO g t (dI t p).1 p (Z7 (dI t p).2.1 (dI t p).2.2) f:=by
 obtain ⟨i,c,n⟩:=p;by_cases i4:i=4
 .subst i4;exact h.dr4 A f g c n m
 by_cases l:i=1
 .subst l;have e:dI t ⟨1,c,n⟩=doS t c:=rfl;rw [e];by_cases q:(aH t.s c).2.2=0/\kV t.d (crB c)=0
  .obtain ⟨q,u⟩:=q;have h1:=(h.do_ok c m f q u).1;rw [aD4 q u];exact .grow (aD3 f g _ _ _ _ _ _ _ _ c n h1)
  .have w:(aH t.s c).2.2≠0\/kV t.d (crB c)≠0:=by exact zqta8
   obtain ⟨v,_,y,z,_⟩:=h.do_e c m f w;rw [y,z];exact .same (aA.less (aH7 f g _ _ _ _ c n _ v))
 by_cases j:i=2
 .subst j;have e:dI t ⟨2,c,n⟩=(qZ t,[],mO t):=rfl;rw [e];by_cases q:mO t=0
  .rw [aA2 q,q];have:=aA.less (aD1 f g _ _ _ _ _ c n (h.snap_ok f q));cases f
   .exact .same this
   .exact .full this
  .rw [aA3 q];exact .same (aA.less (aD2 f g _ _ _ _ c n _ (h.snap_no f q)))
 by_cases o:i=3
 .subst o;have e:dI t ⟨3,c,n⟩=(t,[],0):=rfl;rw [e];cases f
  .exact .anew t.n t.s (h.dr3 false g c n)
  .exact .wt t.n t.s (h.dr3 true g c n)
 by_cases r:i=5
 .subst r;have e:dI t ⟨5,c,n⟩=(t,[],0):=rfl;rw [e];exact .anew t.n t.s (h.dr5 f g c n)
 .have e:dI t ⟨i,c,n⟩=(t,[],1):=by unfold dI;dsimp only;rw [if_neg l,if_neg j,if_neg i4,if_neg o_]
  rw [e];exact .same (aA.less (aDY f g _ _ _ _ c i n l j o i4 r))
def ZH(n:Int)(g:ay):aq 29 [ii n] [dF g] (.ret (.ref 1 0)) (drN g (uG n).d.size [] 0 fC):=aDX g n fC 0 ((kb0 n).dop true false g)
def aEb(s:Sta):(aH s Cmd.zero).1=s/\(aH s Cmd.zero).2.2=1:=by unfold aH;rw [if_pos d_];exact ⟨rfl,(by show C8.chk Cmd.zero=1;decide)⟩
def KB.stt{t:Kst}{k:Nat}(h:KB t k)(f:Bool)(g:ay):aq 31 [.ref 0 0] (drS f f g t.d.size t.d.safe t.n t.s) (.ret t.s.av) (drS f f g t.d.size t.d.safe t.n t.s):=by have a:=h.sap Cmd.zero (λ e=>by cases e);have h1:=XL t.s _ a t.n f t.d.size t.d.safe;rw [(aEb t.s).1] at h1;exact R4 f f id g _ _ _ _ _ h1
open Go.ChangeShapes Go.WideShapes Go.ChangeAt Go.RowKit
set_option maxRecDepth 10000
def Kstp.cs(p:Kstp):ax:=ii p.k::(p.x.cs++[ii p.n])
def Kstp.av(p:Kstp):aa:=.agg p.cs
abbrev stv(l:List Kstp):ax:=l.map Kstp.av
section
variable {H:Type} {enc:TypeId×Value->H} {W:World} {r:Reach} {base b0:Nat} {spare:Nat->Bool} {held:Bool} {v:Value} {d:DataW H} {ps:List MemPlace}
end
noncomputable abbrev fPl:Func:=Tryz.f15
abbrev aN5(a:bg×Int):aa:=Z7 a.1 a.2
abbrev anv(l:List (bg×Int)):ax:=l.map aN5
abbrev aES:ab:=FH
abbrev plO(f:Bool)(g:ay)(t:Kst):au:=match f with
 | true=>[dF g,aES,.cells tDr [.ref 3 0,.ref 6 0],dkC t.d.size (sfV true 4 t.d.safe) bO false,.tail 0 1 5,jnO 3 t.n,.cells tSt (.ref 5 0::t.s.cs),.tail 0 2 73]
 | false=>[dF g,aES,.cells tDr [.ref 3 0,.ref 5 0],dkC t.d.size (sfV false 4 t.d.safe) bO false,jnO 3 t.n,.cells tSt (.ref 4 0::t.s.cs),.tail 0 2 73]
abbrev plN(f:Bool):Nat:=match f with | true=>7 | false=>6
def aGo(L:List Kstp)(z:L.length<=57)(o:∀ p∈L,p.x.c.sm)(g:ay)(R:Kst)(A:List (bg×Int)):∀ (m i:Nat) (t:Kst) (bs:List (bg×Int)) (f:Bool),i+m=L.length->bs.length=i->KB t i->mP (L.drop i) t=R->bs++xE (L.drop i) t=A->
  To (Eo [7] []) fPl (.full 1 (.ret (.tup [.slice 2 (anv A) .no,R.s.av])) [dF g]) (.head (stk fPl 0) [(5,.ref 1 0),(6,.ref 2 0),(7,.slice 2 (anv bs) (.own (plN f) 0)),(12,.slice 17 (stv L) .no),(13,.int .i64 ((stv L).length:Nat)),(14,ii i)] (plO f g t)):=by
 have v:(stv L).length=L.length:=by simp
 intro m;induction m with
 | zero=>
  intro i t bs f w y j b a;rw [Ai o_] at b a;have b:t=R:=b;have a:bs++[]=A:=a;rw [Au] at a;subst b a;have hs:=j.stt f g;clear j;cases f
  .refine gV ?_;refine aF λ h=>?_
   repeat' first | (refine gN (hEo [7] []) ?_;conv=>whnf) | refine .eff [] [2,3,0,4,5] _ _ rfl hs ?_ | exact zx [0] | exact rfl | refine zt ?_ | refine zu ?_ ?_ | intro h | fail
  .refine gV ?_;refine aF λ h=>?_
   repeat' first | (refine gN (hEo [7] []) ?_;conv=>whnf) | refine .eff [] [2,3,4,0,5,6] _ _ rfl hs ?_ | exact zx [0] | exact rfl | refine zt ?_ | refine zu ?_ ?_ | intro h | fail
 | succ m q=>
  intro i t bs f w y j b a;have d:i<L.length:=o_;rw [Ag d] at b a;have get:(stv L)[i]? =some L[i].av:=by simp [d]
  have hp:=o L[i] (Bd d);generalize L[i]=p at b a get hp;have hd:=j.dr o_ f g p (λ_=>hp);have k:=j.step o_ p (λ_=>hp);have next:=q (i+1) (dI t p).1 (bs++[(dI t p).2])
  have n:anv (bs++[(dI t p).2])=anv bs++[Z7 (dI t p).2.1 (dI t p).2.2]:=by simp
  rw [n] at next
  have l:(anv bs).length<=1048576:=by simp;omega
  replace next:=λ f=>next f o_ q_ k b (by rw [Ae];exact a)
  generalize dI t p=r at *
  obtain ⟨B,ev,e⟩:=r;dsimp only at *
  clear q b a n j k o hp;cases f
  all_goals
   cases hd
  all_goals
   rename_i u;refine gV ?_;refine aT λ h=>?_
   repeat' first | (refine gN (hEo [7] []) ?_;conv=>whnf) | refine ⟨i,rfl,?_⟩ | refine ⟨_,get,?_⟩ | refine .eff [] [2,3,0,4,5] _ _ rfl u ?_ | refine .eff [] [2,3,4,0,5,6] _ _ rfl u ?_ | refine Ab (wT l d_) ?_ | exact rfl | refine zt ?_ | refine zu ?_ ?_ | intro h | fail
   first
    | exact To.part [5,6,7,12,13,14] [0,1,2,3,4,5,6] rfl rfl rfl (next false)
    | exact To.part [5,6,7,12,13,14] [0,1,2,3,8,4,5,6] rfl rfl rfl (next true)
    | exact To.part [5,6,7,12,13,14] [0,1,2,3,8,9,6] rfl rfl rfl (next false)
    | exact To.part [5,6,7,12,13,14] [0,1,2,3,8,9,10,6] rfl rfl rfl (next true)
    | exact To.part [5,6,7,12,13,14] [0,1,2,3,9,10,6] rfl rfl rfl (next false)
    | exact To.part [5,6,7,12,13,14] [0,1,2,3,4,5,6,7] rfl rfl rfl (next true)
    | exact To.part [5,6,7,12,13,14] [0,1,2,3,5,6,7] rfl rfl rfl (next false)
    | exact To.part [5,6,7,12,13,14] [0,1,2,3,4,9,10,7] rfl rfl rfl (next true)
    | exact To.part [5,6,7,12,13,14] [0,1,2,3,9,10,7] rfl rfl rfl (next false)
def aGm(n:Int)(L:List Kstp)(d:L.length<=57)(b:∀ p∈L,p.x.c.sm)(g:ay):
  aq 15 [ii n,.slice 17 (stv L) .no] [dF g] (.ret (.tup [.slice 2 (anv (xE L (uG n))) .no,(mP L (uG n)).s.av])) [dF g]:=by
 have h:=aGo L d b g (mP L (uG n)) (xE L (uG n)) L.length 0 (uG n) [] false o_ rfl (kb0 n) (by rw [Cg]) (by rw [Cg];rfl);have a:=ZH n g;generalize mP L (uG n)=R at *
 generalize xE L (uG n)=A at *
 refine cT (E:=(Eo [7] [])) (fn:=Tryz.f15) (g:=.full 1 _ _) λ_=>?_
 repeat' first | (refine gN (hEo [7] []) ?_;conv=>whnf) | refine .eff [] [0] _ _ rfl a ?_ | exact rfl | refine zt ?_ | refine zu ?_ ?_ | intro h | fail
 refine To.part [5,6,7,12,13,14] [0,1,2,3,4,5,6] rfl rfl rfl ?_;exact h
set_option maxRecDepth 100000
def R1:ay:=[115,116,111,114,101,58,32,110,111,32,114,101,99,111,114,100]
def own:ownKnob Tryz.prog.godebug=none:=by kernel_rfl
def aDU: "*" ++ "errors.errorString" = "*errors.errorString" :=by decide
def aNm(u:TypeId)(h:Tryz.prog.typeName? 3 u=some "*errors.errorString"):u=445:=
 typeName_ptr_named (nm:= "errors.errorString") (by rw [aDU];kernel_rfl) (by kernel_rfl) d_ u (by rw [aDU];exact h)
noncomputable def xX(os:Os):World:=
 let N:=(World.settled Tryz.prog os).heap.size
 let w0:=World.holding Tryz.prog os ⟨#[.cells #[.string ⟨R1.toArray⟩] 467],#[],[]⟩
 {w0 with heap:=w0.heap.modify 0 fun
   | .cells _ t a=>.cells #[.iface 445 (.pointer (some ⟨N,0,none⟩))] t a
   | o=>o}
def aCG(os:Os)(args:Array Value):laidMet Tryz.prog [("tithebarn/store.errBad",Rows.laid_tithebarn_store_errBad)] ((xX os).forCall (λ_ _=>0) ⟨#[],args,[]⟩).memory:=
 laidMet_of_run' 8 (by kernel_rfl) (by kernel_rfl)
def OG{W:World}(h:laidMet Tryz.prog [("tithebarn/store.errBad",Rows.laid_tithebarn_store_errBad)] W):∃ u,W.cell? ⟨0,0,none⟩=some u∧u.oneCell'=true∧Rep (Mg W 0 (ZF R1)) [] u (ZF R1):=by
 obtain ⟨a,s,m,f,hs,hm⟩:=laid_sentinel (g:=0) h (by kernel_rfl) (by kernel_rfl) Tryz.underlying258 aNm Tryz.underlying445 Tryz.underlying467 rfl rfl Tryz.underlying9 (by kernel_rfl) (by kernel_rfl);have n:W.cell? ⟨0,0,none⟩=some (.iface 445 (.pointer (some a))):=by have:=World.var?_cell (g:=0) (by kernel_rfl) m 0;simpa using this
 obtain ⟨b,o,k⟩:=a;have i:k=none:=by
  cases k with
  | none=>rfl
  | some x=>
   unfold Kh at f;dsimp only at f;split at f
   .simp at f
   .cases f
 subst i;refine ⟨_,n,rfl,.iface _ _ _ (.ptr b o _ λ j c l=>?_)⟩;cases j with
 | zero=>
  cases l;refine .inl ⟨_,f,rfl,?_⟩;have e:s=⟨R1.toArray⟩:=by obtain ⟨d⟩:=s;have hs:d.toList=R1:=hs;rw [<-hs]
  rw [e];exact .str R1 d_
 | succ j=>simp at l
set_option maxRecDepth 10000
def wgt(c:Con):Int:=1+((nav c.ns).length:Nat)+((hav c.hs).length:Nat)
def smR(M:Int):List Con->Int->Int
 | [],n=>n
 | c::l,n=>if n<M then smR M l (n+wgt c) else n
def aLZ{c:Con}(h:c.sm):1<=wgt c/\wgt c<=2097153:=by
 have l1:(nav c.ns).length=c.ns.length:=by simp
 have l2:(hav c.hs).length=c.hs.length:=by simp
 have:=h.ns;have:=h.hs;unfold wgt;omega
end Go.Proofs.YtbpccabomgalhaaGreatDoor
