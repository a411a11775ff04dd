/- Part 11 of what the statement rests on. -/
import Derived.Lib.Builder
import Derived.Lib.UnsafeStr
import Derived.Lib.Walk
import Derived.Shelf.RegionOpenPlain
import Derived.ScopeJumps
import Derived.Test.YtenkdioaefckoaaGreatDoorRows
import Derived.Deep.DeepHandedRow
import Derived.Deep.DeepWitnessRowRef
import Derived.Stop.LaidErr
import Derived.LaidLaws
import Derived.ProofKit
import Derived.Test.YtenkdioaefckoaaGreatDoorYP
set_option linter.all false
set_option maxHeartbeats 2000000
open Go.AW.Res renaming ret->Io
open Go.AW.St renaming head->G0
open Go.AW.Tk renaming no->J0
open Go.AW.aa renaming agg->He,bool->DA,int->GE,nilptr->By,ref->G2,slice->CA,str->HA,tup->GT
open Go.AW.ab renaming bun->If,cells->Do,tail->Fr
open Go.IntKind renaming i64->Is
open List renaming length->Z
open Bool renaming true->O,false->S
open Option renaming some->X,none->U
open And renaming intro->Aa
open Bool renaming and_eq_true->Af
open Go.Builtin renaming unsafeSliceData_->Iu,unsafeString_->Jw
open Go.Result renaming andThen->Es
open Go.World renaming cell?->Ku,shape?->Jk
open List renaming append_assoc->Ag,append_nil->Ap,cons_append->Ca,drop_eq_getElem_cons->Ac,drop_eq_nil_of_le->Ae,drop_zero->Bz,getElem_mem->Av,length_append->Ah,length_cons->Al,length_map->Cb,length_nil->Bs,length_take->Dr,map_append->Bh,map_take->Fw,mem_cons_of_mem->Az,mem_cons_self->Aw,take_left->Hq,take_length->Hr
open Nat renaming le_refl->Bc,le_succ->Jg,le_trans->Cl,mul_le_mul->Eb,zero_le->Bn
open UInt8 renaming ofNat->Dn,toNat_ofNat'->Gx
namespace Go.Proofs.YtenkdioaefckoaaGreatDoor
variable{P:Prop}
open Go.Proofs.Tryz
open Go Go.AW Go.Proofs
def zqta0(h:P:=by
 cases f
 .refine eA E f90 1 λ_=>?_;exact zW
 .refine eA E f90 2 λ_=>?_
  exact zW):P:=h
def zqta1(h:P:=by
 cases f
 .refine eA E f104 1 λ_=>?_;exact zW
 .refine eA E f104 2 λ_=>?_
  exact zW):P:=h
def zqta2(h:P:=by
 cases f
 .refine eA E f56 1 λ_=>?_;exact zW
 .refine eA E f56 2 λ_=>?_
  exact zW):P:=h
def zqta3(h:P:=by
 refine eA E f26 2 λ_=>?_
 exact zW):P:=h
def zqta4(h:P:=by
 refine eA E f91 1 λ_=>?_
 exact zW):P:=h
def zqta5(h:P:=by
 refine eA E f91 2 λ_=>?_
 exact zW):P:=h
def zqta6(h:P:=by
 refine eA E f190 1 λ_=>?_
 exact zW):P:=h
def zqta7(h:P:=by
 by_cases a:(aG t.s c).2.2=0
 .exact .inr λb=>q ⟨a,b⟩
 .exact .inl a):P:=h
def aMP:Nat->Int->Int
 |0,x=>x
 |k+1,x=>aMP k (bits .xor .u32 (x/2) (bits .and .u32 2197175160 (-bits .and .u32 x 1%4294967296)))
def HB:ay->Int->Int
 |[],x=>x
 |b::r,x=>HB r (aMP 8 (bits .xor .u32 x ((b.toNat:Int)%4294967296)))
def AC(s:ay):Int:=bits .xor .u32 IntKind.u32.max (HB s 4294967295)
def jO(op:BinOp)(x y:Int):0<=bits op .u32 x y/\bits op .u32 x y<4294967296:=by have h:inR .u32 (bits op .u32 x y):=lE .u32 _;simp only[inR,bV,aW]at h;omega
def nH(n:Nat):ay:=[Dn n,Dn (n/256),Dn (n/65536),Dn (n/16777216)]
def eV:ay->Nat
 |a::b::c::d::_=>a.toNat+256*b.toNat+65536*c.toNat+16777216*d.toNat
 |_=>0
theorem vX(n:Nat)(r:ay)(h:n<4294967296):eV (nH n++r)=n:=by simp only[nH,eV,Ca,Gx];omega
def frm(s:ay):ay:=nH (Z s)++nH (AC s).toNat++s
def kZ(s:ay):Int:=
 if Z s<8 then 10 else if 16384<eV s then 8 else if(Z s:Int)-8<eV s then 10
 else if AC ((s.drop 8).take (eV s))≠(eV (s.drop 4):Int)then 11 else 0
def tH(s:ay):ay:=(s.drop 8).take (eV s)
theorem eO(s:ay):Z (frm s)=Z s+8:=by simp[frm,nH]
def X6(s:ay):0<=AC s/\AC s<4294967296:=by exact jO _ _ _
def aFA(s r:ay)(h:Z s<=16384):kZ (frm s++r)=0/\tH (frm s++r)=s:=by
 have b:eV (frm s++r)=Z s:=by
  unfold frm
  grind[Ag,vX]
 have c:(frm s++r).drop 4=nH (AC s).toNat++(s++r):=by unfold frm;rw[Ag,Ag];rfl
 have d:(frm s++r).drop 8=s++r:=by unfold frm;rw[Ag,Ag];rfl
 obtain⟨e,f⟩:=X6 s;have hl:Z (frm s++r)=Z s+8+Z r:=by rw[Ah,eO]
 have a:tH (frm s++r)=s:=by unfold tH;rw[b,d,Hq]
 refine⟨?_,a⟩;unfold kZ;unfold tH at a;rw[hl,b]at*
 rw[a,c,vX _ _ o_,bt o_,bt o_,bt o_,bt o_]
def aFB(s:ay)(k:Nat)(h:Z s<=16384)(c:k<Z s+8):kZ ((frm s).take k)≠0:=by
 have hl:Z ((frm s).take k)=k:=by rw[Dr,eO];omega
 unfold kZ;rw[hl];by_cases a:k<8
 .rw [bu a];decide
 .rw [bt a];have b:eV ((frm s).take k)=Z s:=by
   have:(frm s).take k=nH (Z s)++((nH (AC s).toNat++s).take (k-4)):=by unfold frm;rw[Ag,List.take_append,List.take_of_length_le (by simp[nH];omega)];rfl
   rw[this,vX _ _ o_]
  rw[b,bt o_,bu o_];decide
def aFz:kZ []≠0:=by decide
def pN:List ay->Nat
 |[]=>0
 |t::l=>Z t+8+pN l
def eW:List ay->ay
 |[]=>[]
 |t::l=>frm t++eW l
def tX:∀l:List ay,Z (eW l)=pN l
 |[]=>rfl
 |t::l=>by rw[eW,pN,Ah,eO,tX l]
def SR:∀(l m:List ay),eW (l++m)=eW l++eW m
 |[],_=>rfl
 |t::l,m=>by rw[Ca,eW,eW,SR l m,Ag]
structure Dk where
 size:Int
 safe:ay
 waits:ay
 sw:Bool
def Dk.new(n:Int):Dk:=⟨min (max n 0) 1048576,[],[],S⟩
def Dk.free(d:Dk):Int:=if d.sw then d.size-Z d.waits else d.size-Z d.waits-Z d.safe
namespace TB
open Go.RowKit
set_option maxRecDepth 100000
abbrev tWr:TypeId:=193
def zC:liesAt Tryz.prog Tryz.prog.depth tWr (2/Tryz.prog.cellsOf tWr) 0 193 1=true:=by kernel_rfl
def yM:(Tryz.prog.info? 193).map (·.size)=X 2:=by kernel_rfl
def O4:Tryz.prog.underlying 191=X (.pointer 193):=by kernel_rfl
def O3:Tryz.prog.underlying 319=X .unsafePointer:=by kernel_rfl
def S0:Tryz.prog.funcs[244]? =X f244:=by kernel_rfl
def gO(b:Nat)(w:World)(h:w.cell? ⟨b,0,U⟩=X (.pointer U))(a:w.shape? b=X (tWr,2))(g:w.frozen? ⟨b,0,U⟩=S):
  Calls Tryz.prog 174 #[.pointer (X ⟨b,0,U⟩)] w λe w'=>e= .returned (.tuple #[])/\w'=w.setCell ⟨b,0,U⟩ (.pointer (X ⟨b,0,U⟩)):=by
 obtain⟨j,d,c⟩:=Option.map_eq_some_iff.1 yM
 go_enter Tryz.func174,Tryz.ntmps174
 go_wp2
 rw[Lib.run_to_unsafe w ⟨b,0,U⟩ O4 O3 d (by rw[c];decide) a (Nat.zero_lt_succ 1)];simp only[Es];rw[Oper.upon_value]
 go_wp2
 rw[run_callFunc_extern S0 (by kernel_rfl) (by kernel_rfl) (by kernel_rfl) (e:=Extern.AbiNoEscape.same) (by kernel_rfl)];rw[Lib.run_noEscape];simp only[Es];rw[Oper.upon_value]
 go_wp2
 rw[Lib.run_from_unsafe w ⟨b,0,U⟩ O3 O4 d a zC];simp only[Es];rw[Oper.upon_value]
 go_wp2
 go_end0;exact⟨rfl,rfl⟩
def aD7:Tryz.prog.underlying 261=X (.pointer 5):=by kernel_rfl
def aID:Tryz.prog.cellsOf 5=1:=by kernel_rfl
def pG(b g cap:Nat)(p:Value)(a:Array Value)(l:ay)(w:World)(d:w.heap[b]? =X (.cells #[p,.slice (X ⟨g,0,U⟩) (Z l) cap] tWr (0,0)))(u:w.heap[g]? =X (.cells a 5 (0,0)))(o:l≠[])
  (n:Z l<=cap) (h:cap<=maxLen) (s:a.size=cap) (c:∀(j:Nat) x,l[j]? =X x->w.cell? ⟨g,j,U⟩=X (.int .u8 x.toNat)):
  Calls Tryz.prog 115 #[.pointer (X ⟨b,0,U⟩)] w λe w'=>e= .returned (.string ⟨l.toArray⟩)/\LV g (Z l) w w':=by
 have i:Z l≠0:=by simpa using o
 have y:w.drew.cell? ⟨b,1,U⟩=X (.slice (X ⟨g,0,U⟩) (Z l) cap):=by have:w.drew.heap[b]? =X (.cells #[p,.slice (X ⟨g,0,U⟩) (Z l) cap] tWr (0,0)):=d;rw[Lib.cell_of_heap this];rfl
 have r:(Iu #[109] 261 #[.slice (X ⟨g,0,U⟩) (Z l) cap]).run Tryz.prog w.drew= .ok (.pointer (X ⟨g,0,U⟩)) w.drew:=
  Lib.run_unsafeSliceData_row _ _ _ _ _ _ o_
 have v:(Jw #[261,3] 9 #[.pointer (X ⟨g,0,U⟩),.int .i64 (Z l)]).run Tryz.prog w.drew= .ok (.string ⟨l.toArray⟩) (w.drew.freeze ⟨g,0,U⟩ (Z l)):=by refine Lib.run_unsafeString_row w.drew 261 3 9 5 aD7 aID g a.size (by have k:w.drew.heap[g]? =X (.cells a 5 (0,0)):=u;simp[Jk,k]) l o o_ (by unfold maxLen at h;omega) ?_;intro j x q;rw[bI,Nat.zero_add];exact c j x q
 have m:Tryz.prog.follows Departure.mixedOrders=true:=hE.mix
 go_enter Tryz.func115,Tryz.ntmps115
 go_wp2
 go_region_o
 all_goals (go_wp2;go_ret;exact⟨rfl,XA i⟩)
def cc_fresh(s:aa):ar 174 [G2 0 0] [Do tWr [By,s]] (Io (GT [])) [Do tWr [G2 0 0,s]]:=
 oZ (λ_ _=>by rfl) gO s
def str_ok(l:ay)(a:l≠[])(p:aa):ar 115 [G2 0 0] [Do tWr [p,CA 1 (l.map ub) (.own 1 0)],Fr 0 1 5] (Io (HA l)) [.dead,.dead]:=
 nR (λ_ _=>by rfl) pG l a p
end TB
set_option maxRecDepth 100000
def xF(J:Nat->Act->World->Prop)(Q:Exit->Act->World->Prop):Exit->Act->World->Prop
 |.goto l,a,w=>J l a w
 |e,a,w=>Q e a w
def CT{P:Program}{a:Act}{w:World}{Q:Exit->Act->World->Prop}{c:Code}(rest:Nat->Code)(J:Nat->Act->World->Prop)(μ:Nat->Act->World->Nat)(z:∀l a w,J l a w->findLabel c l=X (rest l))
  (first:c.wp P (xF J Q) a w) (r:∀l a w,J l a w->(rest l).wp P (xF (λo p w'=>J o p w'/\μ o p w'<μ l a w) Q) a w):(Code.scope c).wp P Q a w:=by
 intro b k cs;have y:∀l a w,J l a w->gotoIn l (.inScope c::k)=X (.code (rest l):: .inScope c::k):=λl a w h=>by simp[gotoIn,z l a w h]
 have key:∀n l a w,μ l a w=n->J l a w->∃e p w',Q e p w'/\Arrives P (lone (b.at a (.code (rest l):: .inScope c::k)) cs w) b k cs e p w':=by
  intro n;induction n using Nat.strongRecOn with
  |_ n B=>
   intro l a w F D;obtain⟨e,j,i,g,d⟩:=r l a w D b (.inScope c::k) cs;cases e with
   |normal=>exact⟨.normal,j,i,g,Steps.trans d (.one step_inScope)⟩
   |exit id=>exact⟨.exit id,j,i,g,λx s=>d x (by simp[exitTo,s])⟩
   |goto o=>
    obtain⟨q,A⟩:=g;obtain⟨v,t,u,m,f⟩:=B _ o_ o j i rfl q;exact⟨v,t,u,m,.of_steps (d _ (y _ _ _ q)) f⟩
   |ret=>exact⟨_,j,i,g,d⟩
   |panic C=>exact⟨_,j,i,g,d⟩
   |outgrown=>exact⟨_,j,i,g,d⟩
 obtain⟨e,j,i,g,d⟩:=first b (.inScope c::k) cs
 cases e with
 |normal=>exact⟨.normal,j,i,g,.head step_scope (Steps.trans d (.one step_inScope))⟩
 |exit id=>exact⟨.exit id,j,i,g,λx s=>.head step_scope (d x (by simp[exitTo,s]))⟩
 |goto o=>
  obtain⟨v,t,u,m,f⟩:=key _ o j i rfl g;exact⟨v,t,u,m,.of_steps (.head step_scope (d _ (y _ _ _ g))) f⟩
 |ret=>exact⟨_,j,i,g,.of_steps (.one step_scope) d⟩
 |panic C=>exact⟨_,j,i,g,.of_steps (.one step_scope) d⟩
 |outgrown=>exact⟨_,j,i,g,.of_steps (.one step_scope) d⟩
def LX{P:Program}{a:Act}{w:World}{Q:Exit->Act->World->Prop}{c i f:Code}(d J1:Act->World->Prop)(μ0 μ1:Act->World->Nat)(j:findLabel c 0=X i)(h1:findLabel c 1=X f)
  (first:c.wp P (xF (λl a w=>(l=0/\d a w)\/(l=1/\J1 a w)) Q) a w)
  (e:∀a w,d a w->i.wp P (xF (λl b w'=>(l=0/\d b w'/\μ0 b w'<μ0 a w)\/(l=1/\J1 b w'/\μ1 b w'<μ0 a w)) Q) a w)
  (g:∀a w,J1 a w->f.wp P (xF (λl b w'=>(l=0/\d b w'/\μ0 b w'<μ1 a w)\/(l=1/\J1 b w'/\μ1 b w'<μ1 a w)) Q) a w):(Code.scope c).wp P Q a w:=by
 refine CT (λl=>if l=0 then i else f) (λl a w=>(l=0/\d a w)\/(l=1/\J1 a w)) (λl a w=>if l=0 then μ0 a w else μ1 a w) (λl a w h=>?_) first λl a w h=>?_
 .grind
 .rcases h with⟨rfl,h⟩|⟨rfl,h⟩
  .grind [wp_mono]
  grind[wp_mono]
def aGZ(k:Nat)(a:Act):Int:=match a.tmps[k]? with|some (.int _ n)=>n|_=>0
def aQ2(s:ay)(w:World)(a:Act)(w':World):Prop:=w'=w/\∃(x:Int) (i k:Nat) (D B F C t n o d f j u h p y c A l m q b g z r e v:Value),a={tmps:= #[.string ⟨s.toArray⟩,undef,.int .u32 0,.int .u32 x,.int .i64 i,.int .i64 k,D,B,F,C,t,n,o,d,f,j,u,h,p,y,c,A,l,m,q,b,g,z,r,e,v],defers:=[]}/\0<=x/\x<4294967296/\i<=Z s/\HB (s.drop i) x=HB s 4294967295
def aQ1(s:ay)(w:World)(a:Act)(w':World):Prop:=w'=w/\∃(x:Int) (i k:Nat) (D B F C t n o d f j u h p y c A l m q b g z r e v:Value),a={tmps:= #[.string ⟨s.toArray⟩,undef,.int .u32 0,.int .u32 x,.int .i64 i,.int .i64 k,D,B,F,C,t,n,o,d,f,j,u,h,p,y,c,A,l,m,q,b,g,z,r,e,v],defers:=[]}/\0<=x/\x<4294967296/\i<=Z s/\1<=k/\k<8/\HB (s.drop i) (aMP (8-k) x)=HB s 4294967295
def aQ0(s:ay)(a:Act):Nat:=(Z s-(aGZ 4 a).toNat)*10
def aQZ(s:ay)(a:Act):Nat:=(Z s-(aGZ 4 a).toNat)*10+9-(aGZ 5 a).toNat
def TR{s:ay}{i:Nat}{x:Int}(h:i<Z s)(a:HB (s.drop i) x=HB s 4294967295):
  HB (s.drop (i+1)) (aMP (8-1) (bits .xor .u32 (bits .xor .u32 x ((s[i].toNat:Int)%4294967296)/2) (bits .and .u32 2197175160 (-bits .and .u32 (bits .xor .u32 x ((s[i].toNat:Int)%4294967296)) 1%4294967296))))=HB s 4294967295:=by
 rw[Ac h]at a;exact a
def aBX(s:ay)(hs:Ig (Z s))(w:World):Calls Tryz.prog 165 #[.string ⟨s.toArray⟩] w λe w'=>e= .returned (.int .u32 (AC s))/\w'=w:=by
 go_enter Tryz.func165,Tryz.ntmps165
 go_wp2
 refine LX (aQ2 s w) (aQ1 s w) (λa _=>aQ0 s a) (λa _=>aQZ s a) rfl rfl ?_ (λa w' u=>?_) (λa w' u=>?_)
 .go_wp2
  go_step3
  go_wp2
  .have b:((0:Int)==(Z s:Int))=true:=by assumption
   simp only[xF]
   go_ret
   have:s=[]:=List.eq_nil_of_length_eq_zero (by have:=beq_iff_eq.1 b;omega);subst this;exact⟨rfl,rfl⟩
  .have b:0<Z s:=by assumption
   go_step3
   go_wp2
   go_step3
   exact .inr ⟨rfl,rfl,_,1,1,_,_,_,_,_,_,_,_,_,_,_,_,_,_,_,_,_,_,_,_,_,_,_,_,_,rfl,(jO _ _ _).1,(jO _ _ _).2,b,by decide,by decide,TR b rfl⟩
  grind[beq_eq_false_iff_ne]
 .obtain ⟨rfl,x,i,k,M,J,N,L,C,t,v,h,l,p,D,o,y,G,g,I,q,r,z,d,m,H,B,j,F,rfl,As,K,n,c⟩:=u
  go_wp2
  .have b:((i:Int)==(Z s:Int))=true:=by assumption
   simp only[xF]
   go_ret
   have b:=beq_iff_eq.1 b;rw[Ae o_]at c;have c:x=HB s 4294967295:=c;subst c;exact⟨rfl,rfl⟩
  .have b:i<Z s:=by assumption
   go_step3
   go_wp2
   go_step3
   refine .inr ⟨rfl,⟨rfl,_,i+1,1,_,_,_,_,_,_,_,_,_,_,_,_,_,_,_,_,_,_,_,_,_,_,_,_,_,rfl,(jO _ _ _).1,(jO _ _ _).2,b,by decide,by decide,TR b c⟩,?_⟩;show(Z s-((i:Int)+1).toNat)*10+9-(1:Int).toNat<(Z s-(i:Int).toNat)*10;omega
  grind[beq_eq_false_iff_ne]
 .obtain ⟨rfl,x,i,k,M,J,N,L,C,t,v,h,l,p,D,o,y,G,g,I,q,r,z,d,m,H,B,j,F,rfl,As,K,n,Q,P,c⟩:=u
  go_wp2
  .go_step3
   rename_i b;have e:8-k=8-(k+1)+1:=o_;rw[e]at c;refine .inr ⟨rfl,⟨rfl,_,i,k+1,_,_,_,_,_,_,_,_,_,_,_,_,_,_,_,_,_,_,_,_,_,_,_,_,_,rfl,(jO _ _ _).1,(jO _ _ _).2,n,by omega,by omega,c⟩,?_⟩;show(Z s-(i:Int).toNat)*10+9-((k:Int)+1).toNat<(Z s-(i:Int).toNat)*10+9-(k:Int).toNat;omega
  .go_step3
   rename_i b;have e:8-k=0+1:=o_;rw[e]at c;refine .inl ⟨rfl,⟨rfl,_,i,k+1,_,_,_,_,_,_,_,_,_,_,_,_,_,_,_,_,_,_,_,_,_,_,_,_,_,rfl,(jO _ _ _).1,(jO _ _ _).2,n,c⟩,?_⟩;show(Z s-(i:Int).toNat)*10<(Z s-(i:Int).toNat)*10+9-(k:Int).toNat;omega
def LF(s:ay):bj 165 [.str s] (.int .u32 (AC s)):=by
 intro M ob w a hm b;obtain⟨hl,b⟩:=b
 match a,hl with
 |[v],_=>
 have h:=b 0 _ _ rfl rfl;cases h with
 |str _ hs=>
 refine .inl ⟨(show pD Tryz.prog 165 from λ_ _=>by rfl) _ _,(aBX s hs w).mono λe w' ⟨d,c⟩=>?_⟩;subst d c;exact⟨M,ob,Ext.refl _ _ _ _,hm,.int _ _ (by have:=X6 s;simp only[inR,bV,aW];omega)⟩
set_option maxRecDepth 10000
abbrev i4(n:Int):aa:=GE .u32 n
def aHx(n k:Nat):((n:Int).fdiv (2^k))=((n/2^k:Nat):Int):=by rw[Int.fdiv_eq_ediv_of_nonneg _ (by exact Int.le_of_lt (Int.pow_pos d_))];simp
def zQ(n k:Nat):IntKind.u8.wrap ((n:Int).fdiv (2^k))=((Dn (n/2^k)).toNat:Int):=by rw[aHx,LW,Gx]
def aAV(n:Nat):bj 164 [i4 n] (HA (nH n)):=by
 have b:=zQ n 0;have c:=zQ n 8;have d:=zQ n 16;have a:=zQ n 24;refine gA (Er [3,5] []) f164 λ_=>?_
 repeat' first
  |(refine gW (hEr [3,5] []) ?_;conv=>whnf)
  |exact rfl
  |refine aY ?_
  |refine aN ?_
  |refine aT λh=>?_
  |refine aF λh=>?_
  |refine⟨_,rfl,?_⟩
  |refine aJ ?_
  |refine .inr ?_|refine Aa (by first|decide|(simp only[maxLen];omega)|simp) ?_
  |refine aD ?_
  |fail
 refine⟨nH n,?_,by simp[nH],?_⟩
 .show [aa.int .u8 (IntKind.u8.wrap ((n:Int).fdiv (2^0))),aa.int .u8 (IntKind.u8.wrap ((n:Int).fdiv (2^8))),aa.int .u8 (IntKind.u8.wrap ((n:Int).fdiv (2^16))),aa.int .u8 (IntKind.u8.wrap ((n:Int).fdiv (2^24)))]=_;rw[b,c,d,a,Nat.pow_zero,Nat.div_one];rfl
 .exact zW
def orU(x c i:Nat)(a:x<2^i)(h:x+c*2^i<4294967296):dB .or .u32 (x:Int) ((c:Int)*2^i)=((x+c*2^i:Nat):Int):=by
 have e:(c:Int)*2^i=((c*2^i:Nat):Int):=by simp
 rw[e,nN .u32 x (c*2^i) (by simp only[aW];omega) (by simp only[aW];omega),WM a]
def aIK(a b c d:UInt8)(r:ay):dB .or .u32 (dB .or .u32 (dB .or .u32 (dB .or .u32 0 ((a.toNat:Int)*2^0)) ((b.toNat:Int)*2^8)) ((c.toNat:Int)*2^16)) ((d.toNat:Int)*2^24)=((eV (a::b::c::d::r):Nat):Int):=by
 have g:=a.toNat_lt;have i:=b.toNat_lt;have j:=c.toNat_lt;have h:=d.toNat_lt;have e:=orU 0 a.toNat 0 d_ o_;have h1:=orU (0+a.toNat*2^0) b.toNat 8 o_ o_;have f:=orU (0+a.toNat*2^0+b.toNat*2^8) c.toNat 16 o_ o_;have h3:=orU (0+a.toNat*2^0+b.toNat*2^8+c.toNat*2^16) d.toNat 24 o_ o_;have e:dB .or .u32 0 ((a.toNat:Int)*2^0)=_:=e;rw[e,h1,f,h3];show((_:Nat):Int)=((a.toNat+256*b.toNat+65536*c.toNat+16777216*d.toNat:Nat):Int)
 congr 1;omega
def MI(c:UInt8)(i:Nat)(h:i<=24):i<=32/\inR .u32 ((c.toNat:Int)*2^i):=by
 have b:=c.toNat_lt;have e:(c.toNat:Int)*2^i=((c.toNat*2^i:Nat):Int):=by simp
 have h1:2^i<=2^24:=Nat.pow_le_pow_right d_ h;have a:c.toNat*2^i<=255*2^24:=Eb o_ h1;refine⟨by omega,?_⟩;rw[e];simp only[inR,bV,aW];omega
def aIC(a b c d:UInt8)(r:ay):bj 259 [HA (a::b::c::d::r)] (i4 (eV (a::b::c::d::r):Nat)):=by
 have e:=a.toNat_lt;have j:=b.toNat_lt;have k:=c.toNat_lt;have i:=d.toNat_lt;refine c_ f259 λ_=>?_
 repeat' first
  |(refine gW hE ?_;conv=>whnf)
  |exact rfl
  |refine aY ?_
  |refine aN ?_
  |refine aT λh=>?_
  |refine aF λh=>?_
  |refine⟨_,rfl,?_⟩
  |refine aJ ?_
  |refine .inl ⟨MI _ 0 d_,?_⟩|refine .inl ⟨MI _ 8 d_,?_⟩|refine .inl ⟨MI _ 16 d_,?_⟩|refine .inl ⟨MI _ 24 d_,?_⟩|exact congrArg (λn=>Res.ret (aa.int .u32 n)) (aIK a b c d r)
  |refine aD ?_
  |fail
def SV(n:Nat):Z (nH n)=4:=rfl
def qG(s:ay)(h:Z s<=16384):bj 105 [HA s] (HA (frm s)):=by
 have h1:=LF s;obtain⟨b,e⟩:=X6 s;have a:=aAV (AC s).toNat;rw[show(((AC s).toNat:Nat):Int)=AC s by omega]at a;have h3:=aAV (Z s);unfold frm;have c:=SV (AC s).toNat;have d:=SV (Z s);generalize nH (AC s).toNat=x at*
 generalize nH (Z s)=y at*
 refine c_ f105 λ_=>?_
 repeat' first|refine pA ?_|refine .p h1 ?_|refine .p a ?_|refine .p h3 ?_|refine Aa (by simp only[Ah];omega) ?_|exact rfl|refine lA ?_ ?_|intro h
def rdT(s:ay):ay:=if kZ s=0 then tH s else[]
def rdN(s:ay):Int:=if kZ s=0 then(eV s:Int)+8 else 0
def aDs(s:ay)(hm:Z s<=1000000000)(N M:Nat)(x:Int)(hl:¬ Z s<8)(m:N<4294967296)(b:bj 259 [HA s] (i4 N))(c:bj 259 [HA (s.drop 4)] (i4 M))
  (hs:bj 165 [HA ((s.take (8+N)).drop 8)] (i4 x)) (T:ay) (n e:Int)
  (a:(T,n,e)=if 16384<N then([],0,8)else if(Z s:Int)-8<N then([],0,10)else if x≠M then([],0,11)else((s.take (8+N)).drop 8,(N:Int)+8,0)):
  bj 191 [HA s] (GT [HA T,ii n,ii e]):=by
 have k:(8:Int)+N=((8+N:Nat):Int):=by simp
 by_cases j:16384<N
 .rw [bu j]at a;cases a;refine c_ f191 λ_=>?_
  repeat' first|refine pA ?_|refine .p b ?_|refine .p c ?_|refine⟨4,rfl,?_⟩|exact rfl|refine lA ?_ ?_|intro h
 rw[bt j]at a;by_cases l:(Z s:Int)-8<N
 .rw [bu l]at a;cases a;refine c_ f191 λ_=>?_
  repeat' first|refine pA ?_|refine .p b ?_|refine .p c ?_|refine⟨4,rfl,?_⟩|exact rfl|refine lA ?_ ?_|intro h
 rw[bt l]at a;by_cases d:x=M
 .rw [bt (by simpa using d)]at a;cases a;have i:(x !=(M:Int))=false:=by simpa using d
  refine c_ f191 λ_=>?_
  repeat' first|refine pA ?_|refine .p b ?_|refine .p c ?_|refine .p hs ?_|refine⟨4,rfl,?_⟩|refine⟨8,rfl,?_⟩|refine⟨8+N,k,?_⟩|refine zF i ?_|exact rfl|refine lA ?_ ?_|intro h
 .rw [bu (by simpa using d)]at a;cases a;have i:(x !=(M:Int))=true:=by simpa using d
  refine c_ f191 λ_=>?_
  repeat' first|refine pA ?_|refine .p b ?_|refine .p c ?_|refine .p hs ?_|refine⟨4,rfl,?_⟩|refine⟨8,rfl,?_⟩|refine⟨8+N,k,?_⟩|refine zE i ?_|exact rfl|refine lA ?_ ?_|intro h
def aM5(s:ay):eV s<4294967296:=by
 unfold eV;split
 .rename_i a b c d _;have:=a.toNat_lt;have:=b.toNat_lt;have:=c.toNat_lt;have:=d.toNat_lt;omega
 .decide
def UG(s:ay)(h:4<=Z s):bj 259 [HA s] (i4 (eV s:Nat)):=by
 match s,h with
 |a::b::c::d::r,_=>exact aIC a b c d r
 |[],h | [_],h | [_,_],h | [_,_,_],h=>simp at h
def TQ(s:ay)(hm:Z s<=1000000000):bj 191 [HA s] (GT [HA (rdT s),ii (rdN s),ii (kZ s)]):=by
 by_cases q:Z s<8
 .have e:kZ s=10:=bu q;unfold rdT rdN;rw[e];refine c_ f191 λ_=>?_
  repeat' first|refine pA ?_|exact rfl|refine lA ?_ ?_|intro h
 .refine aDs s hm (eV s) (eV (s.drop 4)) _ q (aM5 s) (UG s o_) (UG _ (by rw[List.length_drop];omega)) (LF _) _ _ _ ?_;have d:(s.take (8+eV s)).drop 8=tH s:=by rw[List.drop_take];simp[tH]
  rw[d];unfold rdT rdN kZ;rw[bt q];by_cases a:16384<eV s
  .rw [bu a,bu a];rfl
  by_cases b:(Z s:Int)-8<eV s
  .rw [bt a,bt a,bu b,bu b];rfl
  rw[bt a,bt a,bt b,bt b];have e:(s.drop 8).take (eV s)=tH s:=rfl;rw[e];generalize AC (tH s)=An;generalize ((eV (s.drop 4):Nat):Int)=Y;by_cases c:An=Y
  .simp [c]
  .simp [c]
abbrev tDk:TypeId:=111
abbrev bM:aa:=CA 1 [] .nil
abbrev wtB(x:ay):aa:=CA 1 (x.map ub) J0
def sfV(f:Bool)(k:Nat)(s:ay):aa:=CA 1 (s.map ub) (match f with|true=>.own k 0|false=>.full)
def sfT(f:Bool):aw:=match f with|true=>[Fr 0 1 5]|false=>[]
def sgV(f:Bool)(k:Nat)(s:ay):aa:=CA 1 (s.map ub) (match f with|true=>.own k 1|false=>.own k 0)
def sgT(f:Bool):aw:=match f with|true=>[Fr 1 1 5]|false=>[Fr 0 1 5]
abbrev dkC(n:Int)(safe w:aa)(sw:Bool):ab:=Do tDk [ii n,safe,w,DA sw]
abbrev dkO(f:Bool)(n:Int)(s:ay)(w:aa)(sw:Bool):aw:=dkC n (sfV f 1 s) w sw::sfT f
def aMD(n:Int):ar 18 [ii n] [] (Io (G2 0 0)) [dkC (min (max n 0) 1048576) (CA 1 [] .nil) bM S]:=by refine eA E f18 0 λ_=>?_;exact zW
def xM(f:Bool)(n:Int)(s:ay)(hs:Ig (Z s)):ar 21 [G2 0 0] (dkO f n s bM S) (Io (HA s)) (dkO f n s bM S):=by
 have a:s.map ub=s.map ub:=rfl;cases f
 .refine eA E f21 1 λ_=>?_;exact zW
 .refine eA E f21 2 λ_=>?_;exact zW
def EG(f:Bool)(n:Int)(s x:ay)(b:Bool):ar 25 [G2 0 0] (dkO f n s (wtB x) b) (Io (ii (Z (x.map ub):Nat))) (dkO f n s (wtB x) b):=by
 cases f
 .refine eA E f25 1 λ_=>?_;exact zW
 .refine eA E f25 2 λ_=>?_;exact zW
def TO(f:Bool)(n:Int)(s:ay)(a:0<=n)(h1:n<=1048576)(hs:(Z s:Int)<=1048576):ar 163 [G2 0 0] (dkO f n s bM S) (Io (ii (n-((0:Nat):Int)-(Z (s.map ub):Nat)))) (dkO f n s bM S):=by
 have hl:Z (s.map ub)=Z s:=by simp
 have hz:Z ([]:az)=0:=rfl;cases f
 .refine eA E f163 1 λ_=>?_;exact zW
 .refine eA E f163 2 λ_=>?_;exact zW
def K9(f:Bool)(n:Int)(s x:ay)(a:0<=n)(h1:n<=1048576)(hs:(Z s:Int)<=1048576)(b:n-Z s<Z x):ar 104 [G2 0 0,HA x] (dkO f n s bM S) (Io (ii 9)) (dkO f n s bM S):=by
 have hl:Z (s.map ub)=Z s:=by simp
 have h:=TO f n s a h1 hs;exact zqta1
def K8(f:Bool)(n:Int)(s x:ay)(b:0<=n)(h1:n<=1048576)(hs:(Z s:Int)<=1048576)(c:(Z x:Int)<=n-Z s):
  ar 104 [G2 0 0,HA x] (dkO f n s bM S) (Io (ii 0)) (dkO f n s (CA 1 (x.map ub) (.own (match f with|true=>2|false=>1) 0)) S++[Fr 0 1 5]):=by
 have hl:Z (s.map ub)=Z s:=by simp
 have a:Z (x.map ub)=Z x:=by simp
 have h:=TO f n s b h1 hs;exact zqta1
def aKl(f:Bool)(n:Int)(s x:ay)(a:n<Z x):ar 90 [G2 0 0,HA x] (dkO f n s bM S) (Io (ii 9)) (dkO f n s bM S):=by exact zqta0
def Z8(f:Bool)(n:Int)(s x:ay)(a:(Z x:Int)<=n):ar 90 [G2 0 0,HA x] (dkO f n s bM S) (Io (ii 0)) (dkO f n s (wtB x) O):=by exact zqta0
def eX(keep:Int)(m:Nat):Nat:=(min (max keep 0) (m:Int)).toNat
def NQ(keep:Int)(m:Nat):min (max keep 0) (m:Int)=((eX keep m:Nat):Int)/\eX keep m<=m:=by unfold eX;omega
def X7(f:Bool)(n:Int)(s x:ay):ar 26 [G2 0 0,ii (Z (x.map ub):Nat)] (dkO f n s (wtB x) O) (Io (GT [])) (dkC n (CA 1 (x.map ub) .full) bM S::sfT f):=by
 have key:∀y,(x.map ub).take (Z (x.map ub))=y->ar 26 [G2 0 0,ii (Z (x.map ub):Nat)] (dkO f n s (wtB x) O) (Io (GT [])) (dkC n (CA 1 y .full) bM S::sfT f):=by
  intro y b;subst b;have a:min (max (Z (x.map ub):Int) 0) (Z (x.map ub):Int)=(Z (x.map ub):Int):=o_;have c:(min (max (Z (x.map ub):Int) 0) (Z (x.map ub):Int)==(Z (x.map ub):Int))=true:=by rw[a];exact beq_self_eq_true _
  cases f
  .refine eA E f26 1 λ_=>?_;exact zW
  .exact zqta3
 exact key _ (Hr)
def LG(n:Int)(s x:ay)(keep:Int)(hs:Z s<=1048576)(i:Z x<=1048576):
  ar 26 [G2 0 0,ii keep] (dkO O n s (wtB x) S) (Io (GT [])) (dkC n (sgV O 1 (s++x.take (eX keep (Z x)))) bM S::sgT O):=by
 have a:Z (x.map ub)=Z x:=by simp
 have h:Z (s.map ub)=Z s:=by simp
 obtain⟨d,b⟩:=NQ keep (Z x);rw[<-a]at d b;have c:Z ((x.map ub).take (eX keep (Z (x.map ub))))<=Z x:=by rw[Dr];omega
 have key:∀y,s.map ub++(x.map ub).take (eX keep (Z (x.map ub)))=y->ar 26 [G2 0 0,ii keep] (dkO O n s (wtB x) S) (Io (GT [])) (dkC n (CA 1 y (.own 1 1)) bM S::sgT O):=by intro y e;subst e;exact zqta3
 refine key _ ?_;rw[a,Bh,Fw]
def HC(n:Int)(s x:ay)(keep:Int)(hs:Z s<=1048576)(k:Z x<=1048576)(b:x.take (eX keep (Z x))≠[]):
  ar 26 [G2 0 0,ii keep] (dkO S n s (wtB x) S) (Io (GT [])) (dkC n (sgV S 1 (s++x.take (eX keep (Z x)))) bM S::sgT S):=by
 have a:Z (x.map ub)=Z x:=by simp
 have h:Z (s.map ub)=Z s:=by simp
 obtain⟨i,c⟩:=NQ keep (Z x);rw[<-a]at i c;have j:Z ((x.map ub).take (eX keep (Z (x.map ub))))<=Z x:=by rw[Dr];omega
 have d:(x.map ub).take (eX keep (Z (x.map ub)))≠[]:=by rw[a,<-Fw];simpa using b
 have key:∀y,s.map ub++(x.map ub).take (eX keep (Z (x.map ub)))=y->ar 26 [G2 0 0,ii keep] (dkO S n s (wtB x) S) (Io (GT [])) (dkC n (CA 1 y (.own 1 0)) bM S::sgT S):=by intro y e;subst e;refine eA (Eo [34] []) f26 1 λ_=>?_;exact zW
 refine key _ ?_;rw[a,Bh,Fw]
def X8(n:Int)(s x:ay)(keep:Int)(hs:Z s<=1048576)(k:Z x<=1048576)(c:x.take (eX keep (Z x))=[]):
  ar 26 [G2 0 0,ii keep] (dkO S n s (wtB x) S) (Io (GT [])) (dkO S n s bM S):=by
 have b:Z (x.map ub)=Z x:=by simp
 have i:Z (s.map ub)=Z s:=by simp
 obtain⟨e,d⟩:=NQ keep (Z x);rw[<-b]at e d;have a:(x.map ub).take (eX keep (Z (x.map ub)))=[]:=by rw[b,<-Fw,c];rfl
 have j:Z ((x.map ub).take (eX keep (Z (x.map ub))))=0:=by rw[a];rfl
 refine eA (Ex [34] [34] []) f26 1 λ_=>?_
 repeat' first|refine pA ?_|refine⟨_,e,?_⟩|refine Aa a ?_|refine Aa (qH o_ d_) ?_|refine zM ?_|exact rfl|refine lA ?_ ?_|intro h
 exact zx [0]
def X9(n:Int)(s:ay)(keep:Int)(hs:Z s<=1048576):
  ar 26 [G2 0 0,ii keep] (dkO O n s bM S) (Io (GT [])) (dkC n (sgV O 1 s) bM S::sgT O):=by
 have b:Z (s.map ub)=Z s:=by simp
 have c:min (max keep 0) ((Z ([]:az):Nat):Int)=((0:Nat):Int):=by show min (max keep 0) 0=0;omega
 have key:∀y,s.map ub++[]=y->ar 26 [G2 0 0,ii keep] (dkO O n s bM S) (Io (GT [])) (dkC n (CA 1 y (.own 1 1)) bM S::sgT O):=by intro y a;subst a;exact zqta3
 exact key _ (Ap _)
def YB(n:Int)(s:ay)(keep:Int)(hs:Z s<=1048576):
  ar 26 [G2 0 0,ii keep] (dkO S n s bM S) (Io (GT [])) (dkO S n s bM S):=by
 have b:Z (s.map ub)=Z s:=by simp
 have a:min (max keep 0) ((Z ([]:az):Nat):Int)=((0:Nat):Int):=by show min (max keep 0) 0=0;omega
 refine eA (Ex [34] [34] []) f26 1 λ_=>?_
 repeat' first|refine pA ?_|refine⟨_,a,?_⟩|refine Aa rfl ?_|refine Aa (qH o_ d_) ?_|refine zM ?_|exact rfl|refine lA ?_ ?_|intro h
 exact zx [0]
def F3(x:ay):x.take (eX (Z (x.map ub):Nat) (Z x))=x:=by
 have e:eX (Z (x.map ub):Nat) (Z x)=Z x:=by unfold eX;rw[Cb];omega
 rw[e,Hr]
def aJw(f:Bool)(n:Int)(s x:ay)(hs:Z s<=1048576)(c:Z x<=1048576)(b:x≠[]):
  ar 91 [G2 0 0] (dkO f n s (wtB x) S) (Io (GT [])) (dkC n (sgV f 1 (s++x)) bM S::sgT f):=by
 have h:=EG f n s x S;cases f
 .have a:=HC n s x (Z (x.map ub):Nat) hs c (by rw[F3];exact b);rw[F3]at a;exact zqta4
 .have a:=LG n s x (Z (x.map ub):Nat) hs c;rw[F3]at a;exact zqta5
def IU(f:Bool)(n:Int)(s x:ay):ar 91 [G2 0 0] (dkO f n s (wtB x) O) (Io (GT [])) (dkC n (CA 1 (x.map ub) .full) bM S::sfT f):=by
 have h:=EG f n s x O;have a:=X7 f n s x;cases f
 .exact zqta4
 .exact zqta5
abbrev tJn:TypeId:=159
abbrev jnO(d:Nat)(m:Int):ab:=Do tJn [G2 d 0,ii m]
abbrev jdO(m:Int)(f:Bool)(n:Int)(s:ay):aw:=jnO 1 m::dkC n (sfV f 2 s) bM S::sfT f
def aCT(f:Bool)(m n:Int)(s x:ay)(a:16384<Z x):ar 61 [G2 0 0,HA x] (jdO m f n s) (Io (ii 8)) (jdO m f n s):=by
 cases f
 .refine eA E f61 2 λ_=>?_;exact zW
 .refine eA E f61 3 λ_=>?_;exact zW
def aLu(f:Bool)(m n:Int)(s x:ay)(c:Z x<=16384)(d:0<=n)(h1:n<=1048576)(hs:(Z s:Int)<=1048576)(e:n-Z s<Z x+8):
  ar 61 [G2 0 0,HA x] (jdO m f n s) (Io (ii 9)) (jdO m f n s):=by
 have a:=qG x c;have b:=K9 f n s (frm x) d h1 hs (by rw[eO];omega);cases f
 all_goals
  refine eA E f61 _ λ_=>?_
  repeat' first|refine pA ?_|refine .p a ?_|refine .sole rfl (.eff [] [1] _ _ rfl b ?_)|refine .sole rfl (.eff [] [1,2] _ _ rfl b ?_)|exact zx [0,1]|exact zx [0,1,2]|exact rfl|refine lA ?_ ?_|intro h
def aLt(f:Bool)(m n:Int)(s x:ay)(hm:0<=m/\m<=1000000)(d:Z x<=16384)(i:0<=n)(h1:n<=1048576)(hs:(Z s:Int)<=1048576)(j:(Z x:Int)+8<=n-Z s):
  ar 61 [G2 0 0,HA x] (jdO m f n s) (Io (ii 0)) (jnO 1 (m+1)::dkC n (sgV f 2 (s++frm x)) bM S::sgT f):=by
 have a:=qG x d;have hl:=eO x;have c:=K8 f n s (frm x) i h1 hs (by rw[eO];omega);have b:=aJw f n s (frm x) o_ o_ (by intro e;rw[e]at hl;simp at hl);cases f
 all_goals
  refine eA E f61 _ λ_=>?_
  repeat' first|refine pA ?_|refine .p a ?_|refine .sole rfl (.eff [] [1] _ _ rfl c ?_)|refine .sole rfl (.eff [] [1,2] _ _ rfl c ?_)|refine .eff [] [1] _ _ rfl b ?_|refine .eff [] [1,2] _ _ rfl b ?_|exact zx [0,1,3]|exact zx [0,1,2]|exact rfl|refine lA ?_ ?_|intro h
def aCS(f:Bool)(m n:Int)(s x:ay)(a:16384<Z x):ar 64 [G2 0 0,HA x] (jdO m f n s) (Io (ii 8)) (jdO m f n s):=by
 cases f
 .refine eA E f64 2 λ_=>?_;exact zW
 .refine eA E f64 3 λ_=>?_;exact zW
def aLq(f:Bool)(m n:Int)(s x:ay)(c:Z x<=16384)(d:0<=n)(h1:n<=1048576)(hs:(Z s:Int)<=1048576)(e:n-Z s<Z x+8):
  ar 64 [G2 0 0,HA x] (jdO m f n s) (Io (ii 9)) (jdO m f n s):=by
 have a:=qG x c;have b:=K9 f n s (frm x) d h1 hs (by rw[eO];omega);cases f
 all_goals
  refine eA E f64 _ λ_=>?_
  repeat' first|refine pA ?_|refine .p a ?_|refine .sole rfl (.eff [] [1] _ _ rfl b ?_)|refine .sole rfl (.eff [] [1,2] _ _ rfl b ?_)|exact zx [0,1]|exact zx [0,1,2]|exact rfl|refine lA ?_ ?_|intro h
def aLp(f:Bool)(m n:Int)(s x:ay)(c:Z x<=16384)(d:0<=n)(h1:n<=1048576)(hs:(Z s:Int)<=1048576)(e:(Z x:Int)+8<=n-Z s):
  ar 64 [G2 0 0,HA x] (jdO m f n s) (Io (ii 0)) (jnO 1 m::dkC n (sfV f 2 s) (wtB (frm x)) S::sfT f):=by
 have a:=qG x c;have b:=K8 f n s (frm x) d h1 hs (by rw[eO];omega);cases f
 all_goals
  refine eA E f64 _ λ_=>?_
  repeat' first|refine pA ?_|refine .p a ?_|refine .sole rfl (.eff [] [1] _ _ rfl b ?_)|refine .sole rfl (.eff [] [1,2] _ _ rfl b ?_)|exact zx [0,1]|exact zx [0,1,2]|exact rfl|refine lA ?_ ?_|intro h
abbrev tB:TypeId:=193
def Y2(x:ay)(b:Z x<=1048576):ar 112 [G2 0 0,HA x] [Do tB [By,bM]] (Io (GT [ii (Z x:Nat),.nilif])) [Do tB [G2 0 0,CA 1 (x.map ub) (.own 1 0)],Fr 0 1 5]:=by
 have a:Z (x.map ub)=Z x:=by simp
 have h1:=TB.cc_fresh bM;refine eA E f112 1 λ_=>?_;exact zW
def aLr(f:Bool)(m n:Int)(s x:ay)(j:Z x<=16384)(k:(Z x:Int)+8<=n):
  ar 68 [G2 0 0,CA 1 [HA x] J0] (jdO m f n s) (Io (ii 0)) (jnO 1 1::dkC n (sfV S 2 (frm x)) bM S::sfT f):=by
 have i:=qG x j;have hl:=eO x;have d:frm x≠[]:=λe=>by rw[e]at hl;simp at hl
 have b:=Y2 (frm x) o_;have hst:=TB.str_ok (frm x) d (G2 0 0);have c:=Z8 f n s (frm x) o_;have a:=IU f n s (frm x);cases f
 all_goals
  refine eA E f68 _ λ_=>?_
  repeat' first|refine pA ?_|exact rfl|refine lA ?_ ?_|intro h
  refine gV ?_;refine aT (h:=λh=>?_) (by show(0:Int)<((1:Nat):Int);decide)
  repeat' first|refine pA ?_|refine .p i ?_|refine .eff [] [2] _ _ rfl b ?_|refine .eff [] [3] _ _ rfl b ?_|exact rfl|refine lA ?_ ?_|intro h
  refine gV ?_;refine aF (h:=λh=>?_) (by show ¬ (0:Int)+1<((1:Nat):Int);decide);refine bO hE 2 ?_;conv=>whnf
  refine To.permC hE [0,1,2,3] [4,5,6] (by rfl) ?_;conv=>whnf
  repeat (refine aLC ?_;conv=>whnf;(try conv=>whnf))
  first
   |refine .eff [] [2,3] _ _ rfl hst ?_
   |refine .eff [] [3,4] _ _ rfl hst ?_;conv=>whnf
  repeat (refine aLC ?_;conv=>whnf;(try conv=>whnf))
  first
   |refine .eff [] [1] _ _ rfl c ?_
   |refine .eff [] [1,2] _ _ rfl c ?_;conv=>whnf
  repeat (refine aLC ?_;conv=>whnf;(try conv=>whnf))
  repeat' first|refine pA ?_|refine .eff [] [1] _ _ rfl a ?_|refine .eff [] [1,2] _ _ rfl a ?_|exact zx [0,1]|exact zx [0,1,2]|exact rfl|refine lA ?_ ?_|intro h
def aRP{n a:Nat}(h:n<=1048576)(b:a<=1000):A8 (n+1) a:=Aa (by simp only[maxLen];omega) (Cl (Eb (show n+1<=1048577 by omega) b) d_)
abbrev stO(s:ay):ab:=Do 9 [HA s]
abbrev nxF:aa:=.func (.func 190) [] [G2 1 0]
def aC5(s:ay):ar 133 [HA s] [] (Io (.func (.func 190) [] [G2 0 0])) [stO s]:=by refine eA E f133 0 λ_=>?_;exact zW
def aPm(s:ay)(hm:Z s<=1000000000)(h:kZ s≠0):ar 190 [G2 0 0] [stO s] (Io (GT [HA [],ii 0,DA S])) [stO s]:=by
 have h1:=TQ s hm;have a:(kZ s !=0)=true:=by simpa using h
 generalize kZ s=e at*
 generalize rdT s=t at*
 generalize rdN s=n at*
 exact zqta6
def aKS(s:ay)(hm:Z s<=1000000000)(h:kZ s=0)(b:eV s+8<=Z s):ar 190 [G2 0 0] [stO s] (Io (GT [HA (tH s),ii ((eV s:Int)+8),DA O])) [stO (s.drop (eV s+8))]:=by
 have h1:=TQ s hm;unfold rdT rdN at h1;rw[h,bu rfl,bu rfl]at h1;have a:(eV s:Int)+8=((eV s+8:Nat):Int):=by simp
 generalize tH s=t at*
 generalize eV s=n at*
 exact zqta6
abbrev pH(l:List ay):az:=l.map aa.str
def I5(r:ay)(e:kZ r≠0)(R:List ay)(N:Int)(g:0<=N/\N<=1000000000):∀(l a:List ay) (at':Int),(∀t∈l,Z t<=16384)->Z (eW l++r)<=1000000000->Z a+Z l<=1000000->0<=at'->a++l=R->at'+pN l=N->
  BC (Eo [4] []) f89 (GT [CA 1 (pH R) J0,ii N]) [(4,CA 1 (pH a) (.own 0 0)),(5,ii at'),(6,nxF)] [Fr 0 1 9,stO (eW l++r)]
 |[],a,at',_,hm,_,_,hR,c=>by
  have h1:=aPm (eW []++r) hm e;rw[Ap]at hR;have c:at'+((0:Nat):Int)=N:=c;have c:at'=N:=o_;subst hR c;refine gV ?_
  repeat' first|refine pA ?_|refine .eff [] [1] _ _ rfl h1 ?_|exact rfl|refine lA ?_ ?_|intro h
 |t::l,a,at',hl,hm,ha,h0,hR,c=>by
  have n:eW (t::l)++r=frm t++(eW l++r):=Ag ..;have m:=hl t (Aw ..);obtain⟨j,k⟩:=aFA t (eW l++r) m;have f:eV (frm t++(eW l++r))=Z t:=by unfold frm;rw[Ag,Ag,vX _ _ o_]
  rw[n]at hm⊢;have b:=eO t;rw[Ah,b]at hm;have h1:=aKS (frm t++(eW l++r)) (by rw[Ah,b];exact hm) j (by rw[f,Ah,b];omega);rw[k,f,show Z t+8=Z (frm t)from b.symm,List.drop_left]at h1;have hs:pN (t::l)=Z t+8+pN l:=rfl;rw[hs]at c;simp only[Al]at ha;have next:=I5 r e R N g l (a++[t]) (at'+((Z t:Int)+8)) (λx i=>hl x (Az _ i)) o_ q_ o_ (by rw[Ag];exact hR) o_
  have o:pH (a++[t])=pH a++[HA t]:=by simp
  rw[o]at next
  have d:Z (pH a)<=1048576:=by simp;omega
  generalize frm t++(eW l++r)=s at*
  refine gV ?_
  repeat' first|refine pA ?_|refine .eff [] [1] _ _ rfl h1 ?_|refine Aa (aRP d d_) ?_|exact rfl|refine lA ?_ ?_|intro h
  exact To.part [4,5,6] [0,1] rfl rfl rfl next
def ZZ(l:List ay)(r:ay)(a:kZ r≠0)(hl:∀t∈l,Z t<=16384)(hm:Z (eW l++r)<=1000000):bj 89 [HA (eW l++r)] (GT [CA 1 (pH l) J0,ii (pN l)]):=by
 have h1:=aC5 (eW l++r);have c:=tX l;have h3:∀l:List ay,Z l<=pN l:=λl=>by
  induction l with
  |nil=>exact Bc _
  |cons t l b=>show Z l+1<=Z t+8+pN l;omega
 have d:=h3 l;rw[Ah]at hm;have next:=I5 r a l (pN l) o_ l [] 0 hl (by rw[Ah];omega) q_ o_ rfl o_
 refine gA (Eo [4] []) f89 λ_=>?_
 repeat' first|refine pA ?_|refine .p h1 ?_|exact rfl|refine lA ?_ ?_|intro h
 exact To.part [4,5,6] [0,1] rfl rfl rfl next
abbrev jdN(f:Bool):Nat:=match f with|true=>2|false=>1
def aGX(f:Bool)(n:Int)(l:List ay)(hl:∀t∈l,Z t<=16384)(hm:Z (eW l)<=1000000):
  ar 56 [G2 0 0] (dkO f n (eW l) bM S) (Io (GT [G2 (jdN f) 0,CA 1 (pH l) J0])) (dkO f n (eW l) bM S++[jnO 0 (Z l)]):=by
 have h1:=xM f n (eW l) o_;have a:=ZZ l [] aFz hl (by rw[Ap];exact hm);rw[Ap]at a;have h3:=tX l;generalize eW l=s at*
 have b:Z (pH l)=Z l:=by simp
 rw[<-b];generalize pN l=k at*
 exact zqta2
def WV(f:Bool)(n:Int)(l:List ay)(r:ay)(c:kZ r≠0)(a:r≠[])(hl:∀t∈l,Z t<=16384)(hm:Z (eW l++r)<=1000000)(h:(Z (eW l):Int)<=n):
  ar 56 [G2 0 0] (dkO f n (eW l++r) bM S) (Io (GT [G2 (jdN f) 0,CA 1 (pH l) J0])) (dkC n (sfV S 1 (eW l)) bM S::sfT f++[jnO 0 (Z l)]):=by
 have h1:=xM f n (eW l++r) o_;have j:=ZZ l r c hl hm;have h3:=tX l;have o:(Z (eW l++r):Int)=Z (eW l)+Z r:=by rw[Ah];omega
 have m:0<Z r:=List.length_pos_iff.2 a;have b:(eW l++r).take (Z (eW l))=eW l:=Hq ..;have k:=Z8 f n (eW l++r) ((eW l++r).take (Z (eW l))) (by rw[b];exact h);have e:=IU f n (eW l++r) ((eW l++r).take (Z (eW l)));rw[<-h3]at j;generalize eW l=s at*
 generalize s++r=sr at*
 have i:Z (pH l)=Z l:=by simp
 rw[<-i]
 suffices key:∀y,sr.take (Z s)=y->ar 56 [G2 0 0] (dkO f n sr bM S) (Io (GT [G2 (jdN f) 0,CA 1 (pH l) J0])) (dkC n (sfV S 1 y) bM S::sfT f++[jnO 0 (Z (pH l))])from key _ b
 intro y d;subst d;exact zqta2
end Go.Proofs.YtenkdioaefckoaaGreatDoor
namespace Go.AW
def aA.wk1{P:Program}{f:FuncId}{args:az}{r:Res}{T:TypeId}{cs cs':az}(h:aA P f args [] r [.cells T cs])(hl:Z cs'=Z cs)
  (x:∀(M:Imm) (ob:Hs) (i:Nat) v m,cs'[i]? =X m->∃a,cs[i]? =X a/\(Rep M ob v a->Rep M ob v m)):aA P f args [] r [.cells T cs']:=
 λM ob w g hm q=>cP.mono (λe w' ⟨M',ob',d,j,D⟩=>by
  have n:∀{k b},aK ob' [.cells T cs'] k b->aK ob' [.cells T cs] k b:=λ{k b} ⟨c,hs,e1,e2,e3,e4⟩=>by
   cases k with
   |zero=>exact⟨_,hs,rfl,rfl,e3,e4⟩
   |succ k=>simp at e1
  refine⟨M',ob',⟨d.imm,d.new,d.hs,d.os,d.tape,d.output,d.size,d.keep,λk b l=>d.fresh k b (n l)⟩,⟨j.imm,j.len,λk c p=>?_,λk b l=>j.lt k b (n l),λk C b h1 o=>j.inj k C b (n h1) (n o)⟩,D⟩;cases k with
  |zero=>
   simp at p;subst p;obtain⟨hs,h1,b,o,h3,cv,z,t,B,y⟩:=j.obj 0 _ rfl;refine⟨hs,h1,b,o,h3,cv,z,by rw[t,hl],B,λi v m A l=>?_⟩;obtain⟨a,s,u⟩:=x M' ob' i v m l;exact u (y i v a A s)
  |succ k=>simp at p) (h M ob w g hm q)
end Go.AW
namespace Go.Proofs.YtenkdioaefckoaaGreatDoor
open Go.Proofs.Tryz
open Go Go.AW Go.Proofs
set_option maxRecDepth 10000
def aDp(n:Int):ar 18 [ii n] [] (Io (G2 0 0)) [dkC (min (max n 0) 1048576) (sfV S 1 []) bM S]:=by
 refine(aMD n).wk1 rfl λM ob i v j c=>?_
 match i with
 |0=>exact⟨_,rfl,λh=>by cases c;exact h⟩
 |1=>
  refine⟨_,rfl,λh=>?_⟩;cases c;cases h with
  |slnil e t d=>exact .slnil _ _ ⟨_,_,rfl⟩
  |slemp e t a cap d=>cases d
  |sl e b o n cap xs t g l hm hz h d=>cases d
 |2=>exact⟨_,rfl,λh=>by cases c;exact h⟩
 |3=>exact⟨_,rfl,λh=>by cases c;exact h⟩
 |k+4=>simp at c
abbrev aDn(m:ay):aa:=.iface 430 (.ptr [HA m])
def aRF(m:ay):bj 58 [.nilif,aDn m] (DA S):=by exact c_ f58 λ_=>zW
def aLs(f:Bool)(m n:Int)(s x:ay)(i:Z x<=16384)(j:n<(Z x:Int)+8):
  ar 68 [G2 0 0,CA 1 [HA x] J0] (jdO m f n s) (Io (ii 9)) (jdO m f n s):=by
 have d:=qG x i;have hl:=eO x;have c:frm x≠[]:=λe=>by rw[e]at hl;simp at hl
 have a:=Y2 (frm x) o_;have hst:=TB.str_ok (frm x) c (G2 0 0);have b:=aKl f n s (frm x) o_;cases f
 all_goals
  refine eA E f68 _ λ_=>?_
  repeat' first|refine pA ?_|exact rfl|refine lA ?_ ?_|intro h
  refine gV ?_;refine aT (h:=λh=>?_) (by show(0:Int)<((1:Nat):Int);decide)
  repeat' first|refine pA ?_|refine .p d ?_|refine .eff [] [2] _ _ rfl a ?_|refine .eff [] [3] _ _ rfl a ?_|exact rfl|refine lA ?_ ?_|intro h
  refine gV ?_;refine aF (h:=λh=>?_) (by show ¬ (0:Int)+1<((1:Nat):Int);decide);refine bO hE 2 ?_;conv=>whnf
  refine To.permC hE [0,1,2,3] [4,5,6] (by rfl) ?_;conv=>whnf
  repeat (refine aLC ?_;conv=>whnf;(try conv=>whnf))
  first
   |refine .eff [] [2,3] _ _ rfl hst ?_
   |refine .eff [] [3,4] _ _ rfl hst ?_;conv=>whnf
  repeat (refine aLC ?_;conv=>whnf;(try conv=>whnf))
  first
   |refine .eff [] [1] _ _ rfl b ?_
   |refine .eff [] [1,2] _ _ rfl b ?_;conv=>whnf
  repeat (refine aLC ?_;conv=>whnf;(try conv=>whnf))
  repeat' first|refine pA ?_|exact zx [0,1]|exact zx [0,1,2]|exact rfl|refine lA ?_ ?_|intro h
inductive Rec where
 |c (x:Cmd)
 |s (x:Sta)
def Rec.b:Rec->ay
 |.c x=>67::C8.encB x
 |.s x=>83::dK x
def Rec.to(r:Rec)(s:Sta):Sta:=match r with
 |.c x=>(aG s x).1
 |.s x=>x
def Rec.ok(r:Rec)(s:Sta):Prop:=match r with
 |.c x=>(aG s x).2.2=0/\(x.k=1->x.c.sm)/\s.nxt<1099511627776
 |.s x=>OkT x
def toL:List Rec->Sta->Sta
 |[],s=>s
 |r::l,s=>toL l (r.to s)
def okR:List Rec->Sta->Prop
 |[],_=>True
 |r::l,s=>r.ok s/\Z (r.b)<=16384/\okR l (r.to s)
def ZI:∀(l m:List Rec) (s:Sta),toL (l++m) s=toL m (toL l s)
 |[],_,_=>rfl
 |r::l,m,s=>ZI l m (r.to s)
def aAl:∀(l m:List Rec) (s:Sta),okR (l++m) s↔okR l s/\okR m (toL l s)
 |[],_,_=>⟨λh=>⟨trivial,h⟩,λh=>h.2⟩
 |r::l,m,s=>by show r.ok s/\_/\okR (l++m) (r.to s)↔(r.ok s/\_/\okR l (r.to s))/\okR m (toL l (r.to s));rw[aAl l m];exact⟨λ⟨a,b,c,d⟩=>⟨⟨a,b,c⟩,d⟩,λ⟨⟨a,b,c⟩,d⟩=>⟨a,b,c,d⟩⟩
def Rec.okT{r:Rec}{s:Sta}(h:OkT s)(a:r.ok s):OkT (r.to s):=by
 cases r with
 |c x=>exact(h.apply a.2.2 x).1
 |s x=>exact a
def aEf:∀{l:List Rec} {s:Sta},OkT s->okR l s->OkT (toL l s)
 |[],_,h,_=>h
 |r::l,s,h,hr=>aEf (l:=l) (s:=r.to s) (r.okT h hr.1) hr.2.2
def aM8{s:Sta}{x:Cmd}(h:(aG s x).2.2=0):C8.chk x=0:=by
 unfold aG at h
 grind
structure Clean(d:Dk):Prop where
 w:d.waits=[]
 sw:d.sw=S
 le:(Z d.safe:Int)<=d.size
 size:d.size<=1048576
structure Kst where
 d:Dk
 n:Int
 s:Sta
structure Kept(t:Kst)(l:List Rec):Prop where
 cl:Clean t.d
 safe:t.d.safe=eW (l.map Rec.b)
 n:t.n=Z l
 ok:okR l pI
 s:t.s=toL l pI
def aNa(d:Dk)(r:ay):Dk:=⟨d.size,d.safe++frm r,[],S⟩
def jQ(d:Dk)(r:ay):Int:=if 16384<Z r then 8 else if d.size-Z d.safe<Z r+8 then 9 else 0
def doS(t:Kst)(x:Cmd):Kst×bh×Int:=
 if(aG t.s x).2.2≠0 then(t,[],(aG t.s x).2.2)
 else if jQ t.d (Rec.b (.c x))≠0 then(t,[],jQ t.d (Rec.b (.c x)))
 else(⟨aNa t.d (Rec.b (.c x)),t.n+1,(aG t.s x).1⟩,(aG t.s x).2.1,0)
def lO(t:Kst):Int:=if 16384<Z (Rec.b (.s t.s))then 8 else if t.d.size<Z (Rec.b (.s t.s))+8 then 9 else 0
def pL(t:Kst):Kst:=if lO t=0 then⟨⟨t.d.size,frm (Rec.b (.s t.s)),[],S⟩,1,t.s⟩else t
def Kept.do{t:Kst}{l:List Rec}(h:Kept t l)(x:Cmd)(i:x.k=1->x.c.sm)(g:t.s.nxt<1099511627776):∃f,Kept (doS t x).1 f/\Z f<=Z l+1:=by
 unfold doS;by_cases q:(aG t.s x).2.2=0
 .rw [bt (by simpa using q)];by_cases a:jQ t.d (Rec.b (.c x))=0
  .rw [bt (by simpa using a)];unfold jQ at a;split at a
   .cases a
   split at a
   .cases a
   have e:toL (l++[.c x]) pI=(aG t.s x).1:=by rw[ZI,<-h.s];rfl
   refine⟨l++[.c x],⟨⟨rfl,rfl,?_,h.cl.size⟩,?_,?_,?_,e.symm⟩,by simp⟩
   .show (Z (t.d.safe++frm _):Int)<=t.d.size;rw[Ah,eO];omega
   .show t.d.safe++frm _=_;rw[h.safe,Bh,SR];show _=_++(frm _++[])
    rw[Ap]
   .show t.n+1=_;rw[h.n,Ah];rfl
   .rw [aAl,<-h.s];exact⟨h.ok,⟨q,i,g⟩,by omega,trivial⟩
  .rw [bu a];exact⟨l,h,Jg _⟩
 .rw [bu q];exact⟨l,h,Jg _⟩
def Kept.okT{t:Kst}{l:List Rec}(h:Kept t l):OkT t.s:=by rw[h.s];exact aEf ZS h.ok
def Kept.snap{t:Kst}{l:List Rec}(h:Kept t l):∃a,Kept (pL t) a/\Z a<=Z l+1:=by
 unfold pL;by_cases q:lO t=0
 .rw [bu q];unfold lO at q;split at q
  .cases q
  split at q
  .cases q
  refine⟨[.s t.s],⟨⟨rfl,rfl,?_,h.cl.size⟩,?_,rfl,⟨h.okT,by omega,trivial⟩,rfl⟩,by simp⟩
  .grind [eO]
  .show frm _=frm _++[]
   rw[Ap]
 .rw [bt q];exact⟨l,h,Jg _⟩
def aRp{s:Sta}{x:Cmd}(h:(aG s x).2.2=0):C8.decX (C8.encB x)=x/\C8.decE (C8.encB x)=0:=C8.dec_enc (aM8 h)
def aRo{s:Sta}(h:OkT s):aDr (dK s)=X s:=aMJ (OH h.ok) h.lt
def DN:∀{l:List Rec} {s:Sta},okR l s->∀t∈l.map Rec.b,Z t<=16384
 |[],_,_,t,h=>by simp at h
 |r::l,s,h,t,a=>by
  rcases List.mem_cons.1 a with rfl|a
  .exact h.2.1
  .exact DN h.2.2 t a
structure Kstp where
 k:Int
 x:Cmd
 n:Int
def wrE(t:Kst)(x:Cmd):Int:=if(aG t.s x).2.2≠0 then(aG t.s x).2.2 else jQ t.d (Rec.b (.c x))
def UM(x:Cmd)(n:Int):Bool:=decide ((Z (Rec.b (.c x)):Int)+8<=n)
def aU(t:Kst)(p:Kstp):Kst×bh×Int:=
 if p.k=1 then doS t p.x
 else if p.k=2 then(pL t,[],lO t)
 else if p.k=4 then(if wrE t p.x≠0 then(t,[],wrE t p.x)else(if UM p.x p.n then(doS t p.x).1 else t,[],0))
 else if p.k=3\/p.k=5 then(t,[],0)
 else(t,[],1)
def Kept.stepL{t:Kst}{l:List Rec}(h:Kept t l)(p:Kstp)(d:p.x.k=1->p.x.c.sm)(a:t.s.nxt<1099511627776):∃b,Kept (aU t p).1 b/\Z b<=Z l+1:=by
 unfold aU;split
 .exact h.do p.x d a
 split
 .exact h.snap
 split
 .split
  .exact ⟨l,h,Jg _⟩
  .dsimp only;split
   .exact h.do p.x d a
   .exact ⟨l,h,Jg _⟩
 grind
def aMB(t:Kst)(x:Cmd)(h:OkT t.s)(a:t.s.nxt<1099511627776):(doS t x).1.s.nxt<=t.s.nxt+1:=by
 have:=(h.apply a x).2.1;unfold doS
 grind
theorem MG(t:Kst):(pL t).s=t.s:=by unfold pL;split<;>rfl
def aBZ(t:Kst)(p:Kstp)(h:OkT t.s)(a:t.s.nxt<1099511627776):(aU t p).1.s.nxt<=t.s.nxt+1:=by
 have h1:=aMB t p.x h a;unfold aU
 grind[MG]
abbrev tSt:TypeId:=122
abbrev stS(s:Sta)(m:Int)(f:Bool)(n:Int)(x:ay):aw:=Do tSt (G2 1 0::s.cs)::jnO 2 m::dkC n (sfV f 3 x) bM S::sfT f
abbrev crB(x:Cmd):ay:=67::C8.encB x
def MW(x:Cmd)(b:Z (C8.encB x)<=1000000000):bj 62 [x.av] (HA (crB x)):=by
 have h1:=C8.enc_ok x;have a:((1+Z (C8.encB x):Nat):Int)<=9223372036854775807:=o_;refine c_ f62 λ_=>?_
 repeat' first|refine pA ?_|refine .p h1 ?_|refine Aa a ?_|exact rfl|refine lA ?_ ?_|intro h
def aDu(s:Sta)(R:Sta×bh×Int)(h1:lW s Cmd.zero R):bj 59 [s.av] (GT [R.1.av,ii R.2.2]):=by exact c_ f59 λ_=>zW
def aB0(s:Sta)(R:Sta×bh×Int)(a:lW s Cmd.zero R)(m:Int)(f:Bool)(n:Int)(x:ay):ar 20 [G2 0 0] (stS s m f n x) (Io R.1.av) (stS s m f n x):=by
 have h1:=aDu s R a;cases f
 .refine eA E f20 3 λ_=>?_;exact zW
 .refine eA E f20 4 λ_=>?_
  repeat' first|refine pA ?_|refine .p h1 ?_|exact rfl|refine lA ?_ ?_|intro h
  exact zx [0,1,2,3]
def aQ9(s:Sta)(c:Cmd)(R:Sta×bh×Int)(h1:lW s c R)(a:R.2.2≠0)(m:Int)(f:Bool)(n:Int)(x:ay):
  ar 22 [G2 0 0,c.av] (stS s m f n x) (Io (GT [CA 3 [] .nil,ii R.2.2])) (stS s m f n x):=by
 obtain⟨At,ev,e⟩:=R;have b:(e !=0)=true:=by simpa using a
 cases f
 .refine eA (Er [] [7,8,20,21]) f22 3 λ_=>?_;exact zW
 .refine eA (Er [] [7,8,20,21]) f22 4 λ_=>?_
  repeat' first|refine pA ?_|refine .p h1 ?_|exact zx [0,1,2,3]|exact rfl|refine lA ?_ ?_|intro h
  all_goals (exfalso;clear h1;simp_all)
def aRa(s:Sta)(c:Cmd)(At:Sta)(ev:bh)(h1:lW s c (At,ev,0))(b:Z (C8.encB c)<=1000000000)(m:Int)(f:Bool)(n:Int)(x:ay)(e:Int)(d:e≠0)
  (h3:ar 61 [G2 0 0,HA (crB c)] (jdO m f n x) (Io (ii e)) (jdO m f n x)):
  ar 22 [G2 0 0,c.av] (stS s m f n x) (Io (GT [CA 3 [] .nil,ii e])) (stS s m f n x):=by
 have a:=MW c b;have i:(e !=0)=true:=by simpa using d
 cases f
 all_goals
  refine eA (Er [] [7,8,20,21]) f22 _ λ_=>?_
  repeat' first|refine pA ?_|refine .p h1 ?_|refine .p a ?_|refine .sole rfl (.eff [] [1,2] _ _ rfl h3 ?_)|refine .sole rfl (.eff [] [1,2,3] _ _ rfl h3 ?_)|exact zx [0,1,2]|exact zx [0,1,2,3]|exact rfl|refine lA ?_ ?_|intro h
 all_goals (exfalso;clear h1;simp_all)
abbrev stG(s:Sta)(m:Int)(f:Bool)(n:Int)(x:ay):aw:=Do tSt (G2 1 0::s.cs)::jnO 2 m::dkC n (sgV f 3 x) bM S::sgT f
def aOy(s:Sta)(c:Cmd)(At:Sta)(ev:bh)(h1:lW s c (At,ev,0))(b:Z (C8.encB c)<=1000000000)(m:Int)(f:Bool)(n:Int)(x:ay)
  (h3:ar 61 [G2 0 0,HA (crB c)] (jdO m f n x) (Io (ii 0)) (jnO 1 (m+1)::dkC n (sgV f 2 (x++frm (crB c))) bM S::sgT f)):
  ar 22 [G2 0 0,c.av] (stS s m f n x) (Io (GT [CA 3 (evv ev) J0,ii 0])) (stG At (m+1) f n (x++frm (crB c))):=by
 have a:=MW c b;cases f
 all_goals
  refine eA (Er [] [7,8,20,21]) f22 _ λ_=>?_
  repeat' first|refine pA ?_|refine .p h1 ?_|refine .p a ?_|refine .sole rfl (.eff [] [1,2] _ _ rfl h3 ?_)|refine .sole rfl (.eff [] [1,2,3] _ _ rfl h3 ?_)|exact zx [0,1,2,5]|exact zx [0,1,2,3]|exact rfl|refine lA ?_ ?_|intro h
def aOm(s:Sta)(c:Cmd)(R:Sta×bh×Int)(h1:lW s c R)(a:R.2.2≠0)(m:Int)(f:Bool)(n:Int)(x:ay):
  ar 24 [G2 0 0,c.av] (stS s m f n x) (Io (ii R.2.2)) (stS s m f n x):=by
 obtain⟨At,ev,e⟩:=R;have b:(e !=0)=true:=by simpa using a
 cases f
 all_goals
  refine eA (Er [] [6,7,18,19]) f24 _ λ_=>?_
  repeat' first|refine pA ?_|refine .p h1 ?_|exact zx [0,1,2]|exact zx [0,1,2,3]|exact rfl|refine lA ?_ ?_|intro h
 all_goals (exfalso;clear h1;simp_all)
def aOn(s:Sta)(c:Cmd)(At:Sta)(ev:bh)(h1:lW s c (At,ev,0))(b:Z (C8.encB c)<=1000000000)(m:Int)(f:Bool)(n:Int)(x:ay)(e:Int)
  (h3:ar 64 [G2 0 0,HA (crB c)] (jdO m f n x) (Io (ii e)) (jdO m f n x)):
  ar 24 [G2 0 0,c.av] (stS s m f n x) (Io (ii e)) (stS s m f n x):=by
 have a:=MW c b;cases f
 all_goals
  refine eA (Er [] [6,7,18,19]) f24 _ λ_=>?_
  repeat' first|refine pA ?_|refine .p h1 ?_|refine .p a ?_|refine .sole rfl (.eff [] [1,2] _ _ rfl h3 ?_)|refine .sole rfl (.eff [] [1,2,3] _ _ rfl h3 ?_)|exact zx [0,1,2]|exact zx [0,1,2,3]|exact rfl|refine lA ?_ ?_|intro h
def aJA(s:Sta)(c:Cmd)(At:Sta)(ev:bh)(h1:lW s c (At,ev,0))(b:Z (C8.encB c)<=1000000000)(m:Int)(f:Bool)(n:Int)(x:ay)
  (h3:ar 64 [G2 0 0,HA (crB c)] (jdO m f n x) (Io (ii 0)) (jnO 1 m::dkC n (sfV f 2 x) (wtB (frm (crB c))) S::sfT f)):
  ar 24 [G2 0 0,c.av] (stS s m f n x) (Io (ii 0)) (Do tSt (G2 1 0::s.cs)::jnO 2 m::dkC n (sfV f 3 x) (wtB (frm (crB c))) S::sfT f):=by
 have a:=MW c b;cases f
 all_goals
  refine eA (Er [] [6,7,18,19]) f24 _ λ_=>?_
  repeat' first|refine pA ?_|refine .p h1 ?_|refine .p a ?_|refine .sole rfl (.eff [] [1,2] _ _ rfl h3 ?_)|refine .sole rfl (.eff [] [1,2,3] _ _ rfl h3 ?_)|exact zx [0,1,2]|exact zx [0,1,2,3]|exact rfl|refine lA ?_ ?_|intro h
def aEu(s:Sta)(b:ay)(h1:bj 67 [s.av] (GT [HA b,ii 0]))(d:Z b<=1000000000)(m:Int)(f:Bool)(n:Int)(x:ay)(e:Int)
  (h3:ar 68 [G2 0 0,CA 1 [HA (83::b)] J0] (jdO m f n x) (Io (ii e)) (jdO m f n x)):
  ar 33 [G2 0 0] (stS s m f n x) (Io (ii e)) (stS s m f n x):=by
 have a:=aA.strip (args:=[G2 0 0,CA 1 [HA (83::b)] .full]) h3;have c:((1+Z b:Nat):Int)<=9223372036854775807:=o_;cases f
 all_goals
  refine eA E f33 _ λ_=>?_
  repeat' first|refine pA ?_|refine .p h1 ?_|refine Aa c ?_|refine .eff [] [1,2] _ _ rfl a ?_|refine .eff [] [1,2,3] _ _ rfl a ?_|exact zx [0,1,2]|exact zx [0,1,2,3]|exact rfl|refine lA ?_ ?_|intro h
def aEt(s:Sta)(b:ay)(h1:bj 67 [s.av] (GT [HA b,ii 0]))(d:Z b<=1000000000)(m:Int)(f:Bool)(n:Int)(x:ay)
  (h3:ar 68 [G2 0 0,CA 1 [HA (83::b)] J0] (jdO m f n x) (Io (ii 0)) (jnO 1 1::dkC n (sfV S 2 (frm (83::b))) bM S::sfT f)):
  ar 33 [G2 0 0] (stS s m f n x) (Io (ii 0)) (Do tSt (G2 1 0::s.cs)::jnO 2 1::dkC n (sfV S 3 (frm (83::b))) bM S::sfT f):=by
 have a:=aA.strip (args:=[G2 0 0,CA 1 [HA (83::b)] .full]) h3;have c:((1+Z b:Nat):Int)<=9223372036854775807:=o_;cases f
 all_goals
  refine eA E f33 _ λ_=>?_
  repeat' first|refine pA ?_|refine .p h1 ?_|refine Aa c ?_|refine .eff [] [1,2] _ _ rfl a ?_|refine .eff [] [1,2,3] _ _ rfl a ?_|exact zx [0,1,2]|exact zx [0,1,2,3]|exact rfl|refine lA ?_ ?_|intro h
def aJG(b:ay)(x:Cmd)(h1:bj 134 [HA b] (GT [x.av,ii 0]))(hl:Z b<=1000000):
  bj 92 [HA (67::b)] (GT [x.av,Sta.nil.av,DA S,.nilif]):=by
 have hz:1<=Z (67::b):=Nat.succ_le_succ (Bn _);refine gA (Er [] [4,5]) f92 λ_=>?_
 repeat' first|refine pA ?_|refine Aa hz ?_|refine .p h1 ?_|exact rfl|refine lA ?_ ?_|intro h
def aJF(b:ay)(x:Sta)(h1:bj 135 [HA b] (GT [x.av,ii 0]))(hl:Z b<=1000000):
  bj 92 [HA (83::b)] (GT [Cmd.zero.av,x.av,DA O,.nilif]):=by
 have hz:1<=Z (83::b):=Nat.succ_le_succ (Bn _);refine gA (Er [] [4,5]) f92 λ_=>?_
 repeat' first|refine pA ?_|refine Aa hz ?_|exact rfl|refine lA ?_ ?_|intro h
 refine .p h1 (gV ?_);refine Aa (λ_=>?_) (λh=>bv h s_);refine bO (hEr [] [4,5]) 1 ?_;conv=>whnf
 refine To.permC (hEr [] [4,5]) [0,1] [2,3,4,5] (by rfl) ?_;conv=>whnf
 repeat (refine aLC ?_;conv=>whnf;(try conv=>whnf))
 exact zW
def VW:Rec->Prop
 |.c x=>bj 92 [.str (67::C8.encB x)] (.tup [x.av,Sta.nil.av,.bool S,.nilif])
 |.s x=>bj 92 [.str (83::dK x)] (.tup [Cmd.zero.av,x.av,.bool O,.nilif])
def WH(s:Sta):Rec->Prop
 |.c x=>lW s x ((aG s x).1,(aG s x).2.1,0)
 |.s _=>True
def aE3(L:List Rec)(p:Z L<=1000000)(g:Sta->List Rec->Prop)(n:∀s r l,g s (r::l)->VW r/\WH s r/\g (r.to s) l)(R:Sta):∀(m i:Nat) (s:Sta),i+m=Z L->g s (L.drop i)->toL (L.drop i) s=R->
  BC E f57 (GT [R.av,.nilif]) [(2,G2 0 0),(4,G2 1 0),(5,.nilif),(14,CA 1 (pH (L.map Rec.b)) J0),(15,GE Is (Z (pH (L.map Rec.b)):Nat)),(16,ii i)] [D9,qT s]:=by
 have k:Z (pH (L.map Rec.b))=Z L:=by simp
 intro m;induction m with
 |zero=>
  intro i s o _ a;rw[Ae o_]at a;have a:s=R:=a;subst a;exact tA
 |succ m h=>
  intro i s o e a;have d:i<Z L:=o_;rw[Ac d]at a e;have get:(pH (L.map Rec.b))[i]? =X (HA L[i].b):=by simp[d]
  generalize L[i]=r at a e get;obtain⟨h1,j,h3⟩:=n _ _ _ e;have next:=h (i+1) (r.to s) o_ h3 a
  clear h a h3 e;cases r with
  |c x=>
   have h1:bj 92 [HA (67::C8.encB x)] (GT [x.av,Sta.nil.av,DA S,.nilif]):=h1;have j:lW s x ((aG s x).1,(aG s x).2.1,0):=j;have get:(pH (L.map Rec.b))[i]? =X (HA (67::C8.encB x)):=get;replace next:To E f57 _ (BB f57 _ [D9,qT (aG s x).1]):=next
   generalize (67::C8.encB x)=t at*
   generalize (aG s x).1=At at*
   generalize (aG s x).2.1=ev at*
   exact tA
  |s x=>
   have h1:bj 92 [HA (83::dK x)] (GT [Cmd.zero.av,x.av,DA O,.nilif]):=h1;have get:(pH (L.map Rec.b))[i]? =X (HA (83::dK x)):=get;replace next:To E f57 _ (BB f57 _ [D9,qT x]):=next
   generalize (83::dK x)=t at*
   exact tA
def aCp(L:List Rec)(d:Z L<=1000000)(a:Sta->List Rec->Prop)(c:∀s r l,a s (r::l)->VW r/\WH s r/\a (r.to s) l)(e:a pI L):
  bj 57 [CA 1 (pH (L.map Rec.b)) J0] (GT [(toL L pI).av,.nilif]):=by
 have h:=aE3 L d a c (toL L pI) (Z L) 0 pI o_ (by rw[Bz];exact e) (by rw[Bz]);have i:=aJK;generalize toL L pI=R at*
 generalize L.map Rec.b=V at*
 exact c_ f57 λ_=>zW
abbrev cV(m:ay):ab:=If 0 (W9 0 (aDn m))
def PK(f a:Bool)(b:a=O->f=O)(g:ay)(n:Int)(x y:ay)(At:Sta)(V:az)(m:Int)
  (h1:ar 56 [G2 0 0] (dkO f n x bM S) (Io (GT [G2 (jdN f) 0,CA 1 V J0])) (dkC n (sfV a 1 y) bM S::sfT f++[jnO 0 m]))
  (c:bj 57 [CA 1 V J0] (GT [At.av,.nilif])):
  ar 19 [G2 0 0] (dkO f n x bM S++[cV g]) (Io (GT [G2 (jdN f+2) 0,ii 0])) (dkC n (sfV a 1 y) bM S::sfT f++[cV g,jnO 0 m,Do tSt (G2 (jdN f+1) 0::At.cs)]):=by
 have h3:=aRF g;cases f<;>cases a
 case false.true=>exact bv (b rfl) d_
 all_goals
  refine eA E f19 _ λ_=>?_
  repeat' first|refine pA ?_|refine .eff [] [0] _ _ rfl h1 ?_|refine .eff [] [0,1] _ _ rfl h1 ?_|exact rfl|refine lA ?_ ?_|intro h
  refine .p c ?_;refine bO hE 22 ?_;conv=>whnf
  refine To.glob hE 1 [] (by rfl) (by rfl) (by rfl) (by rfl) ?_;conv=>whnf
  first
   |refine .mk 1 0 (aDn g) _ (by rfl) (by rfl) ?_
   |refine .mk 2 0 (aDn g) _ (by rfl) (by rfl) ?_
  repeat' first|refine pA ?_|refine .p h3 ?_|exact zx [0,1,2,4]|exact zx [0,1,2,3,5]|exact rfl|refine lA ?_ ?_|intro h
abbrev CX(k:Int)(c:Cmd)(n:Int):aa:=He (ii k::(c.av.cells++[ii n]))
abbrev tDr:TypeId:=73
abbrev pv(b:Bool):aa:=match b with|true=>By|false=>.undef
abbrev drS(f f':Bool)(g:ay)(n:Int)(x:ay)(m:Int)(At:Sta):aw:=Do tDr [G2 1 0,G2 (jdN f+3) 0]::dkC n (sfV f' 2 x) bM S::sfT f++[cV g,jnO 1 m,Do tSt (G2 (jdN f+2) 0::At.cs)]
def TL(b f a:Bool)(g:ay)(n:Int)(x y:ay)(At:Sta)(m:Int)
  (h1:ar 19 [G2 0 0] (dkO f n x bM S++[cV g]) (Io (GT [G2 (jdN f+2) 0,ii 0])) (dkC n (sfV a 1 y) bM S::sfT f++[cV g,jnO 0 m,Do tSt (G2 (jdN f+1) 0::At.cs)])):
  ar 28 [G2 0 0] (Do tDr [G2 1 0,pv b]::dkC n (sfV f 2 x) bM S::sfT f++[cV g]) (Io (ii 0)) (drS f a g n y m At):=by
 cases b<;>cases f<;>cases a
 all_goals
  refine eA E f28 _ λ_=>?_
  repeat' first|refine pA ?_|refine .eff [] [1,2] _ _ rfl h1 ?_|refine .eff [] [1,2,3] _ _ rfl h1 ?_|exact zx [0,1,2,3,4]|exact zx [0,1,2,3,4,5]|exact rfl|refine lA ?_ ?_|intro h
abbrev drN(g:ay)(n:Int)(x:ay)(m:Int)(At:Sta):aw:=[cV g,Do tDr [G2 2 0,G2 4 0],dkC n (sfV S 3 x) bM S,jnO 2 m,Do tSt (G2 3 0::At.cs)]
def aH8(g:ay)(n:Int)(At:Sta)(m:Int)(a:ar 28 [G2 0 0] (Do tDr [G2 1 0,pv O]::dkC (min (max n 0) 1048576) (sfV S 2 []) bM S::sfT S++[cV g]) (Io (ii 0)) (drS S S g (min (max n 0) 1048576) [] m At)):
  ar 7 [ii n] [cV g] (Io (G2 1 0)) (drN g (min (max n 0) 1048576) [] m At):=by
 have h1:=aDp n;generalize min (max n 0) 1048576=N at*
 refine eA E f7 1 λ_=>?_
 repeat' first|refine pA ?_|refine .p h1 ?_|refine .eff [] [2,1,0] _ _ rfl a ?_|exact rfl|refine lA ?_ ?_|intro h
 exact zx [0,2,1,3,4]
def XU(f a:Bool)(b:a=O->f=O)(g:ay)(n:Int)(x:ay)(m:Int)(At R:Sta)
  (h1:ar 20 [G2 0 0] (stS At m a n x) (Io R.av) (stS At m a n x)):
  ar 12 [G2 0 0] (drS f a g n x m At) (Io R.av) (drS f a g n x m At):=by
 cases f<;>cases a
 case false.true=>exact bv (b rfl) d_
 all_goals
  refine eA E f12 _ λ_=>?_
  repeat' first|refine pA ?_|refine .eff [] [4,3,1] _ _ rfl h1 ?_|refine .eff [] [5,4,1] _ _ rfl h1 ?_|refine .eff [] [5,4,1,2] _ _ rfl h1 ?_|exact zx [0,1,2,3,4]|exact zx [0,1,2,3,4,5]|exact rfl|refine lA ?_ ?_|intro h
def aMw(f:Bool)(g:ay)(n:Int)(x:ay)(m:Int)(At:Sta)(c:Cmd)(p e:Int)
  (h1:ar 22 [G2 0 0,c.av] (stS At m f n x) (Io (GT [CA 3 [] .nil,ii e])) (stS At m f n x)):
  ar 11 [G2 0 0,CX 1 c p] (drS f f g n x m At) (Io (He [ii e,CA 3 [] .nil])) (drS f f g n x m At):=by
 cases f
 all_goals
  refine eA (Er [] [28,29,30,31]) f11 _ λ_=>?_
  repeat' first|refine pA ?_|refine .sole rfl (.eff [] [4,3,1] _ _ rfl h1 ?_)|refine .sole rfl (.eff [] [5,4,1,2] _ _ rfl h1 ?_)|exact zx [0,1,2,3,4]|exact zx [0,1,2,3,4,5]|exact rfl|refine lA ?_ ?_|intro h
abbrev drG(f:Bool)(g:ay)(n:Int)(x:ay)(m:Int)(At:Sta):aw:=match f with
 |true=>[.cells tDr [.ref 1 0,.ref 5 0],dkC n (sgV O 2 x) bM S,.tail 1 1 5,cV g,jnO 1 m,.cells tSt (.ref 4 0::At.cs)]
 |false=>[.cells tDr [.ref 1 0,.ref 4 0],dkC n (sgV S 5 x) bM S,cV g,jnO 1 m,.cells tSt (.ref 3 0::At.cs),.tail 0 1 5]
def TH(f:Bool)(g:ay)(n:Int)(x y:ay)(m b:Int)(At a:Sta)(ev:bh)(c:Cmd)(p:Int)
  (h1:ar 22 [G2 0 0,c.av] (stS At m f n x) (Io (GT [CA 3 (evv ev) J0,ii 0])) (stG a b f n y)):
  ar 11 [G2 0 0,CX 1 c p] (drS f f g n x m At) (Io (He [ii 0,CA 3 (evv ev) J0])) (drG f g n y b a):=by
 cases f
 all_goals
  refine eA (Er [] [28,29,30,31]) f11 _ λ_=>?_
  repeat' first|refine pA ?_|refine .sole rfl (.eff [] [4,3,1] _ _ rfl h1 ?_)|refine .sole rfl (.eff [] [5,4,1,2] _ _ rfl h1 ?_)|exact zx [0,1,2,3,4,7]|exact zx [0,1,2,3,4,5]|exact rfl|refine lA ?_ ?_|intro h
def aId(f:Bool)(g:ay)(n:Int)(x:ay)(m:Int)(At:Sta)(c:Cmd)(p e:Int)
  (h1:ar 33 [G2 0 0] (stS At m f n x) (Io (ii e)) (stS At m f n x)):
  ar 11 [G2 0 0,CX 2 c p] (drS f f g n x m At) (Io (He [ii e,CA 3 [] .nil])) (drS f f g n x m At):=by
 cases f
 all_goals
  refine eA E f11 _ λ_=>?_
  repeat' first|refine pA ?_|refine .eff [] [4,3,1] _ _ rfl h1 ?_|refine .eff [] [5,4,1,2] _ _ rfl h1 ?_|exact zx [0,1,2,3,4]|exact zx [0,1,2,3,4,5]|exact rfl|refine lA ?_ ?_|intro h
def aIc(f:Bool)(g:ay)(n:Int)(x y:ay)(m:Int)(At:Sta)(c:Cmd)(p:Int)
  (h1:ar 33 [G2 0 0] (stS At m f n x) (Io (ii 0)) (Do tSt (G2 1 0::At.cs)::jnO 2 1::dkC n (sfV S 3 y) bM S::sfT f)):
  ar 11 [G2 0 0,CX 2 c p] (drS f f g n x m At) (Io (He [ii 0,CA 3 [] .nil])) (drS f S g n y 1 At):=by
 cases f
 all_goals
  refine eA E f11 _ λ_=>?_
  repeat' first|refine pA ?_|refine .eff [] [4,3,1] _ _ rfl h1 ?_|refine .eff [] [5,4,1,2] _ _ rfl h1 ?_|exact zx [0,1,2,3,4]|exact zx [0,1,2,3,4,5]|exact rfl|refine lA ?_ ?_|intro h
abbrev drR(f f':Bool)(g:ay)(n:Int)(y:ay)(m m':Int)(At S':Sta):aw:=match f with
 |true=>[.cells tDr [.ref 1 0,.ref 7 0],dkC n (sfV f' 2 y) bM S,.tail 0 1 5,cV g,jnO 1 m,.cells tSt (.ref 4 0::At.cs),jnO 1 m',.cells tSt (.ref 6 0::S'.cs)]
 |false=>[.cells tDr [.ref 1 0,.ref 6 0],dkC n (sfV f' 2 y) bM S,cV g,jnO 1 m,.cells tSt (.ref 3 0::At.cs),jnO 1 m',.cells tSt (.ref 5 0::S'.cs)]
def aIa(f:Bool)(g:ay)(n:Int)(x y:ay)(m b:Int)(At a:Sta)(c:Cmd)(p:Int)
  (h1:ar 28 [G2 0 0] (Do tDr [G2 1 0,pv S]::dkC n (sfV f 2 x) bM S::sfT f++[cV g]) (Io (ii 0)) (drS f f g n y b a)):
  ar 11 [G2 0 0,CX 5 c p] (drS f f g n x m At) (Io (He [ii 0,CA 3 [] .nil])) (drR f f g n y m b At a):=by
 cases f
 all_goals
  refine eA E f11 _ λ_=>?_
  repeat' first|refine pA ?_|refine .eff [] [0,1,2] _ _ rfl h1 ?_|refine .eff [] [0,1,2,3] _ _ rfl h1 ?_|exact zx [0,1,2,3,4,7,8]|exact zx [0,1,2,3,4,5,8,9]|exact rfl|refine lA ?_ ?_|intro h
def aH9(f:Bool)(g:ay)(n:Int)(x:ay)(m:Int)(At:Sta)(c:Cmd)(k p:Int)(h1:k≠1)(b:k≠2)(h3:k≠3)(d:k≠4)(a:k≠5):
  ar 11 [G2 0 0,CX k c p] (drS f f g n x m At) (Io (He [ii 1,CA 3 [] .nil])) (drS f f g n x m At):=by
 have o:(k==1)=false:=by simpa using h1
 have l:(k==2)=false:=by simpa using b
 have j:(k==3)=false:=by simpa using h3
 have e:(k==4)=false:=by simpa using d
 have i:(k==5)=false:=by simpa using a
 cases f
 all_goals
  refine eA E f11 _ λ_=>?_
  repeat' first|refine pA ?_|exact zx [0,1,2,3,4]|exact zx [0,1,2,3,4,5]|exact rfl|refine lA ?_ ?_|intro h
 all_goals (exfalso;simp_all)
abbrev aSn(f:Bool)(g:ay)(n:Int)(y:ay)(m m':Int)(At S':Sta):aw:=match f with
 |true=>[.cells tDr [.ref 1 0,.ref 7 0],dkC n (sgV O 2 y) bM S,.tail 1 1 5,cV g,jnO 1 m,.cells tSt (.ref 4 0::At.cs),jnO 1 m',.cells tSt (.ref 6 0::S'.cs)]
 |false=>[.cells tDr [.ref 1 0,.ref 6 0],dkC n (sfV S 2 y) bM S,cV g,jnO 1 m,.cells tSt (.ref 3 0::At.cs),jnO 1 m',.cells tSt (.ref 5 0::S'.cs)]
def aIb(f:Bool)(g:ay)(n:Int)(x y:ay)(m e:Int)(At d:Sta)(c:Cmd)(p:Int)(b:Z x<=1048576)
  (h1:ar 28 [G2 0 0] (Do tDr [G2 1 0,pv S]::dkC n (sfV f 2 x) bM S::sfT f++[cV g]) (Io (ii 0)) (drS f f g n y e d)):
  ar 11 [G2 0 0,CX 3 c p] (drS f f g n x m At) (Io (He [ii 0,CA 3 [] .nil])) (aSn f g n y m e At d):=by
 cases f
 .have a:=YB n x p b;refine eA E f11 5 λ_=>?_
  repeat' first|refine pA ?_|refine .sole rfl (.eff [] [1] _ _ rfl a ?_)|refine .eff [] [0,1,2] _ _ rfl h1 ?_|exact rfl|refine lA ?_ ?_|intro h
  exact zx [0,1,2,3,4,7,8]
 .have a:=X9 n x p b;refine eA E f11 6 λ_=>?_
  repeat' first|refine pA ?_|refine .sole rfl (.eff [] [1,2] _ _ rfl a ?_)|refine .eff [] [0,1,2,3] _ _ rfl h1 ?_|exact rfl|refine lA ?_ ?_|intro h
  exact zx [0,1,2,3,4,5,8,9]
def aMv(f:Bool)(g:ay)(n:Int)(x:ay)(m:Int)(At:Sta)(c:Cmd)(p e:Int)(a:e≠0)
  (h1:ar 24 [G2 0 0,c.av] (stS At m f n x) (Io (ii e)) (stS At m f n x)):
  ar 11 [G2 0 0,CX 4 c p] (drS f f g n x m At) (Io (He [ii e,CA 3 [] .nil])) (drS f f g n x m At):=by
 have b:(e !=0)=true:=by simpa using a
 cases f
 all_goals
  refine eA E f11 _ λ_=>?_
  repeat' first|refine pA ?_|refine .sole rfl (.eff [] [4,3,1] _ _ rfl h1 ?_)|refine .sole rfl (.eff [] [5,4,1,2] _ _ rfl h1 ?_)|exact zx [0,1,2,3,4]|exact zx [0,1,2,3,4,5]|exact rfl|refine lA ?_ ?_|intro h
 all_goals (exfalso;clear h1;simp_all)
abbrev drW(f':Bool)(g:ay)(n:Int)(y:ay)(m m':Int)(At S':Sta):aw:=[Do tDr [G2 1 0,G2 7 0],dkC n (match f' with|true=>sgV O 2 y|false=>sfV S 2 y) bM S,Fr 1 1 5,cV g,jnO 1 m,Do tSt (G2 4 0::At.cs),jnO 1 m',Do tSt (G2 6 0::S'.cs)]
def BH(a:Bool)(g:ay)(n:Int)(x b y:ay)(m e:Int)(At d:Sta)(c:Cmd)(p:Int)(j:Z x<=1048576)(k:Z b<=1048576)
  (h1:ar 24 [G2 0 0,c.av] (stS At m O n x) (Io (ii 0)) (Do tSt (G2 1 0::At.cs)::jnO 2 m::dkC n (sfV O 3 x) (wtB b) S::sfT O))
  (h3:ar 28 [G2 0 0] (Do tDr [G2 1 0,pv S]::dkC n (sfV O 2 (x++b.take (eX p (Z b)))) bM S::sfT O++[cV g]) (Io (ii 0)) (drS O a g n y e d)):
  ar 11 [G2 0 0,CX 4 c p] (drS O O g n x m At) (Io (He [ii 0,CA 3 [] .nil])) (drW a g n y m e At d):=by
 have i:=LG n x b p j k;cases a
 all_goals
  refine eA E f11 6 λ_=>?_
  repeat' first|refine pA ?_|refine .sole rfl (.eff [] [5,4,1,2] _ _ rfl h1 ?_)|refine .sole rfl (.eff [] [1,2] _ _ rfl i ?_)|refine .eff [] [0,1,2,3] _ _ rfl h3 ?_|exact rfl|refine lA ?_ ?_|intro h
  exact zx [0,1,2,3,4,5,8,9]
abbrev drX(f':Bool)(g:ay)(n:Int)(y:ay)(m m':Int)(At S':Sta):aw:=[Do tDr [G2 1 0,G2 7 0],dkC n (match f' with|true=>CA 1 (y.map ub) (.own 5 0)|false=>sfV S 2 y) bM S,cV g,jnO 1 m,Do tSt (G2 3 0::At.cs),Fr 0 1 5,jnO 1 m',Do tSt (G2 6 0::S'.cs)]
def G7(d:Bool)(g:ay)(n:Int)(x b y:ay)(m i:Int)(At e:Sta)(c:Cmd)(p:Int)(k:Z x<=1048576)(l:Z b<=1048576)(a:b.take (eX p (Z b))≠[])
  (h1:ar 24 [G2 0 0,c.av] (stS At m S n x) (Io (ii 0)) (Do tSt (G2 1 0::At.cs)::jnO 2 m::dkC n (sfV S 3 x) (wtB b) S::sfT S))
  (h3:ar 28 [G2 0 0] (Do tDr [G2 1 0,pv S]::dkC n (sfV O 2 (x++b.take (eX p (Z b)))) bM S::sfT O++[cV g]) (Io (ii 0)) (drS O d g n y i e)):
  ar 11 [G2 0 0,CX 4 c p] (drS S S g n x m At) (Io (He [ii 0,CA 3 [] .nil])) (drX d g n y m i At e):=by
 have j:=HC n x b p k l a;cases d
 all_goals
  refine eA E f11 5 λ_=>?_
  repeat' first|refine pA ?_|refine .sole rfl (.eff [] [4,3,1] _ _ rfl h1 ?_)|refine .sole rfl (.eff [] [1] _ _ rfl j ?_)|refine .eff [] [0,1,7,2] _ _ rfl h3 ?_|exact rfl|refine lA ?_ ?_|intro h
  exact zx [0,1,2,3,4,7,8,9]
def XV(g:ay)(n:Int)(x b:ay)(m e:Int)(At d:Sta)(c:Cmd)(p:Int)(i:Z x<=1048576)(k:Z b<=1048576)(a:b.take (eX p (Z b))=[])
  (h1:ar 24 [G2 0 0,c.av] (stS At m S n x) (Io (ii 0)) (Do tSt (G2 1 0::At.cs)::jnO 2 m::dkC n (sfV S 3 x) (wtB b) S::sfT S))
  (h3:ar 28 [G2 0 0] (Do tDr [G2 1 0,pv S]::dkC n (sfV S 2 x) bM S::sfT S++[cV g]) (Io (ii 0)) (drS S S g n x e d)):
  ar 11 [G2 0 0,CX 4 c p] (drS S S g n x m At) (Io (He [ii 0,CA 3 [] .nil])) (drR S S g n x m e At d):=by
 have j:=X8 n x b p i k a;refine eA E f11 5 λ_=>?_
 repeat' first|refine pA ?_|refine .sole rfl (.eff [] [4,3,1] _ _ rfl h1 ?_)|refine .sole rfl (.eff [] [1] _ _ rfl j ?_)|refine .eff [] [0,1,2] _ _ rfl h3 ?_|exact rfl|refine lA ?_ ?_|intro h
 exact zx [0,1,2,3,4,7,8]
def lP:List Kstp->Kst->Kst
 |[],t=>t
 |p::l,t=>lP l (aU t p).1
def wG:List Kstp->Kst->List (bh×Int)
 |[],_=>[]
 |p::l,t=>(aU t p).2::wG l (aU t p).1
def nC(n:Int):Kst:=⟨Dk.new n,0,pI⟩
def AI(t:Kst)(m:Int):Prop:=(Z t.d.safe:Int)+m<=t.d.size
def Z9(x:Cmd)(k:Nat)(h:Z x.il<=k)(a:∀n∈x.il,n<=9223372036854775807):(Z (Rec.b (.c x)):Int)<=10*k+1:=by show(Z ((67:UInt8)::C8.encB x):Int)<=_;have:=C8.pl_len a;unfold C8.encB;split<;>simp<;>omega
def DD{t:Kst}{c:Cmd}{At:Sta}{ev:bh}(n:Int)(k:Nat)(m:Int)(h:aG t.s c=(At,ev,0))(h1:Z c.il<=k)(a:∀n∈c.il,n<=9223372036854775807)(f:k<=1000)(e:AI t (m+10*k+9))(hm:0<=m:=by decide):
  ∃d i,aU t ⟨1,c,n⟩=(⟨d,i,At⟩,ev,0)/\d=aNa t.d (Rec.b (.c c))/\AI ⟨d,i,At⟩ m:=by
 have hl:=Z9 c k h1 a;unfold AI at e;have q:jQ t.d (Rec.b (.c c))=0:=by unfold jQ;rw[bt o_,bt o_]
 refine⟨aNa t.d (Rec.b (.c c)),t.n+1,?_,rfl,?_⟩
 .show doS t c=_;unfold doS;rw[h,bt s_,bt (by simpa using q)]
 .show (Z (t.d.safe++frm _):Int)+m<=t.d.size;rw[Ah,eO];omega
def tk(k n keep:Int):Kstp:=⟨k,mN n,keep⟩
def aKA{s:Sta}(d:nZ s=O)(w:Z s.hist<=12)(A:Z s.pend+Z s.run<=32):Z (dK s)<=16000:=by
 have w0:=TT d;obtain⟨v,⟨n1,n2,I,t⟩,u,o,F,k,f⟩:=YK d;have G:Z (C8.putN (Z (oY s)))<=10:=by grind[C8.pn_len,Int.toNat_natCast]
 have z:Z (C8.pl [s.now,s.nxt,(Z s.hist:Int)])<=30:=by grind[C8.pl_len]
 have H:Z (C8.pl [(Z s.pend:Int)])<=10:=by grind[C8.pl_len]
 have C:Z (C8.pl [(Z s.run:Int)])<=10:=by grind[C8.pl_len]
 have q:=GF s.hist;have m:∀(l:ba),(∀x∈l,x.g.ok=O/\okI [x.seq,x.at']=O)->Z (wB l)<=110*Z l:=by
  intro l;induction l with
  |nil=>intro _;exact Bn _
  |cons x r b=>
   intro h;obtain⟨h1,c⟩:=h x (Aw ..);have e:=zL x.g h1;have n:=C8.pl_len (oT c);have j:=b λy a=>h y (Az _ a);simp only[wB,Ah,Al,Bs]at*
   omega
 have i:∀(l:a7),(∀x∈l,x.g.ok=O/\okI [x.seq,x.at',x.st,x.fl]=O/\okI x.hs=O/\x.hs≠[]/\Z x.hs<=16)->Z (qV l)<=290*Z l:=by
  intro l;induction l with
  |nil=>intro _;exact Bn _
  |cons x r b=>
   intro h;obtain⟨h1,c,h3,_,J⟩:=h x (Aw ..);have e:=zL x.g h1;have n:=C8.pl_len (oT c);have j:=C8.pl_len (oT h3);have D:=b λy a=>h y (Az _ a);simp only[qV,Ah,Al,Bs]at*
   omega
 have B:=m s.pend k;have p:=i s.run f;unfold dK;simp only[Ah];omega
def OkT.small{s:Sta}(h:OkT s):Sm s.run/\Z s.hist<=1048576:=by have h1:=(h.ok.st h.lt).run;exact⟨h1.sm.run,h1.ord.hl⟩
def OkT.len{s:Sta}(h:OkT s):Z (dK s)<=16000:=aKA (OH h.ok) (by have:=h.ok.hist;have:=(zK h.ok.head).ns;omega) h.ok.few
def PT:∀{l:List ay},(∀t∈l,Z t<=16384)->pN l<=16392*Z l
 |[],_=>Bn _
 |t::l,h=>by have h1:=h t (Aw ..);have b:=PT λy a=>h y (Az _ a);simp only[pN,Al];omega
structure KB(t:Kst)(k:Nat):Prop where
 ex:∃l,Kept t l/\Z l<=k
 nxt:t.s.nxt<=1+k
 few:k<=58
def KB.lens{t:Kst}{k:Nat}(h:KB t k):Z t.d.safe<=960000/\0<=t.d.size/\t.d.size<=1048576/\(Z t.d.safe:Int)<=t.d.size/\0<=t.n/\t.n<=1000000:=by obtain⟨l,h1,c⟩:=h.ex;have a:=PT (DN h1.ok);rw[<-tX,<-h1.safe,Cb]at a;have e:=h1.cl.le;have f:=h1.cl.size;have g:=h1.n;have b:=h.few;omega
def KB.okT{t:Kst}{k:Nat}(h:KB t k):OkT t.s:=h.ex.elim λ_ h=>h.1.okT
def KB.sap{t:Kst}{k:Nat}(h:KB t k)(c:Cmd)(a:c.k=1->c.c.sm):lW t.s c (aG t.s c):=I6 t.s c (h.okT.ok.st h.okT.lt) a
def KB.step{t:Kst}{k:Nat}(h:KB t k)(f:k<58)(p:Kstp)(d:p.x.k=1->p.x.c.sm):KB (aU t p).1 (k+1):=by
 obtain⟨l,h1,g⟩:=h.ex;have e:=h.nxt;have a:t.s.nxt<1099511627776:=o_;refine⟨?_,?_,by omega⟩
 .obtain ⟨b,h3,i⟩:=h1.stepL p d a;exact⟨b,h3,by omega⟩
 .have:=aBZ t p h.okT a;omega
def KB.le{t:Kst}{k a:Nat}(h:KB t k)(c:k<=a)(b:a<=58):KB t a:=⟨h.ex.elim λl h=>⟨l,h.1,by omega⟩,by have:=h.nxt;omega,b⟩
def kb0(n:Int):KB (nC n) 0:=⟨⟨[],⟨⟨rfl,rfl,by show(0:Int)<=_;simp only[nC,Dk.new];omega,by show(Dk.new n).size<=_;simp only[Dk.new];omega⟩,rfl,rfl,trivial,rfl⟩,Bc _⟩,(by show(1:Int)<=1+0;decide),by decide⟩
def aEi{R:Sta×bh×Int}(h:R.2.2=0):R=(R.1,R.2.1,0):=by obtain⟨a,b,c⟩:=R;subst h;rfl
def aCt{s:Sta}{r:Rec}{l:List Rec}(h:OkT s/\okR (r::l) s):VW r/\WH s r/\OkT (r.to s)/\okR l (r.to s):=by
 obtain⟨h1,b,h3,f⟩:=h;refine⟨?_,?_,r.okT h1 b,f⟩
 .cases r with
  |c x=>
   obtain⟨d,e⟩:=aRp b.1;have a:=C8.decode_ok (C8.encB x) (by have:Z (67::C8.encB x)<=16384:=h3;simp at this;omega);rw[d,e]at a;exact aJG _ x a (by have:Z (67::C8.encB x)<=16384:=h3;simp at this;omega)
  |s x=>
   have a:=aJS (dK x) (by have:Z (83::dK x)<=16384:=h3;simp at this;omega);unfold aEJ aQr at a;rw[aRo b]at a;exact aJF _ x a (by have:Z (83::dK x)<=16384:=h3;simp at this;omega)
 .cases r with
  |c x=>
   have a:=I6 s x (h1.ok.st h1.lt) b.2.1;rw[aEi b.1]at a;exact a
  |s x=>trivial
def KB.rpl{t:Kst}{k:Nat}{l:List Rec}(h:Kept t l)(hl:Z l<=1000000):bj 57 [CA 1 (pH (l.map Rec.b)) J0] (GT [t.s.av,.nilif]):=by have:=aCp l hl (λs l=>OkT s/\okR l s) (λs r l h=>aCt h) ⟨ZS,h.ok⟩;rw[<-h.s]at this;exact this
def KB.sop{t:Kst}{k:Nat}(h:KB t k)(f:Bool)(g:ay):ar 19 [G2 0 0] (dkO f t.d.size t.d.safe bM S++[cV g]) (Io (GT [G2 (jdN f+2) 0,ii 0])) (dkC t.d.size (sfV f 1 t.d.safe) bM S::sfT f++[cV g,jnO 0 t.n,Do tSt (G2 (jdN f+1) 0::t.s.cs)]):=by have c:=h.lens;obtain⟨l,h1,a⟩:=h.ex;have h3:=aGX f t.d.size (l.map Rec.b) (DN h1.ok) (by rw[<-h1.safe];omega);rw[<-h1.safe,Cb,<-h1.n]at h3;exact PK f f id g _ _ _ t.s _ t.n h3 (KB.rpl (k:=k) h1 (by have:=h.few;omega))
def KB.sopT{t:Kst}{k:Nat}(h:KB t k)(f:Bool)(g:ay)(r:ay)(a:Z r<=16384)(j:Nat)(m:j≠0)(i:j<Z r+8):ar 19 [G2 0 0] (dkO f t.d.size (t.d.safe++(frm r).take j) bM S++[cV g]) (Io (GT [G2 (jdN f+2) 0,ii 0])) (dkC t.d.size (sfV S 1 t.d.safe) bM S::sfT f++[cV g,jnO 0 t.n,Do tSt (G2 (jdN f+1) 0::t.s.cs)]):=by
 have p:=h.lens;obtain⟨l,h1,o⟩:=h.ex;have e:Z ((frm r).take j)=j:=by rw[Dr,eO];omega
 have h3:=WV f t.d.size (l.map Rec.b) ((frm r).take j) (aFB r j a i) (λc=>m (by rw[<-e,c];rfl)) (DN h1.ok) (by rw[<-h1.safe,Ah];omega) (by rw[<-h1.safe];omega);rw[<-h1.safe,Cb,<-h1.n]at h3;exact PK f S (λh=>by cases h) g _ _ _ t.s _ t.n h3 (KB.rpl (k:=k) h1 (by have:=h.few;omega))
def KB.dop{t:Kst}{k:Nat}(h:KB t k)(b f:Bool)(g:ay):ar 28 [G2 0 0] (Do tDr [G2 1 0,pv b]::dkC t.d.size (sfV f 2 t.d.safe) bM S::sfT f++[cV g]) (Io (ii 0)) (drS f f g t.d.size t.d.safe t.n t.s):=TL b f f g _ _ _ _ _ (h.sop f g)
def KB.dopT{t:Kst}{k:Nat}(h:KB t k)(b f:Bool)(g:ay)(r:ay)(c:Z r<=16384)(j:Nat)(e:j≠0)(a:j<Z r+8):ar 28 [G2 0 0] (Do tDr [G2 1 0,pv b]::dkC t.d.size (sfV f 2 (t.d.safe++(frm r).take j)) bM S::sfT f++[cV g]) (Io (ii 0)) (drS f S g t.d.size t.d.safe t.n t.s):=TL b f S g _ _ _ _ _ (h.sopT f g r c j e a)
def KB.enc{t:Kst}{k:Nat}(h:KB t k):bj 67 [t.s.av] (GT [HA (dK t.s),ii 0]):=by have a:=OH h.okT.ok;have:=aJP t.s h.okT.ok.base.c h.okT.small.1 YK;unfold aQa at this;rw[bu a,bu a]at this;exact this
def aDI{t:Kst}{k:Nat}(h:KB t k)(c:Cmd)(f:Bool)(e:jQ t.d (crB c)≠0):ar 61 [G2 0 0,HA (crB c)] (jdO t.n f t.d.size t.d.safe) (Io (ii (jQ t.d (crB c)))) (jdO t.n f t.d.size t.d.safe)/\ar 64 [G2 0 0,HA (crB c)] (jdO t.n f t.d.size t.d.safe) (Io (ii (jQ t.d (crB c)))) (jdO t.n f t.d.size t.d.safe):=by
 have b:=h.lens;unfold jQ at*
 by_cases q:16384<Z (crB c)
 .rw [bu q];exact⟨aCT _ _ _ _ _ q,aCS _ _ _ _ _ q⟩
 .rw [bt q]at*
  by_cases a:t.d.size-Z t.d.safe<Z (crB c)+8
  .rw [bu a];exact⟨aLu _ _ _ _ _ o_ b.2.1 b.2.2.1 o_ a,aLq _ _ _ _ _ o_ b.2.1 b.2.2.1 o_ a⟩
  .rw [bt a]at e;exact bv rfl e
def UJ{t:Kst}{c:Cmd}(a:jQ t.d (crB c)=0):Z (crB c)<=16384/\(Z (crB c):Int)+8<=t.d.size-Z t.d.safe:=by
 unfold jQ at a;split at a
 .cases a
 split at a
 .cases a
 .omega
open C8 (nodL hosL pl pl_append pl_len pn_len il_len ih_len okI_b) in
def aSj(x:Cmd):Z (C8.encB x)<=16000:=by
 have f:∀(l:bc),uK l=O->Z (pl (nodL l))<=110*Z l:=by
  intro l;induction l with
  |nil=>intro _;simp[nodL,pl]
  |cons x r a=>
   intro h;simp only[uK,Af]at h;have h1:=il_len x h.1;have b:=a h.2;simp only[nodL,pl_append,Ah,Al];omega
 have i:∀(l:List Hos),oA l=O->Z (pl (hosL l))<=60*Z l:=by
  intro l;induction l with
  |nil=>intro _;simp[hosL,pl]
  |cons x r a=>
   intro h;simp only[oA,Af]at h;have h1:=ih_len x h.1;have b:=a h.2;simp only[hosL,pl_append,Ah,Al];omega
 unfold C8.encB;split
 .rename_i h;have T:=C8.chk_told h;have v:=T.ln;have u:=T.lh;have d:=T.cok;simp only[Con.tok,Af]at d;obtain⟨⟨h1,b⟩,h3⟩:=d;have o:=f _ h1;have B:=i _ b;have A:Z (nav x.c.ns)=Z x.c.ns:=by simp
  have w:Z (hav x.c.hs)=Z x.c.hs:=by simp
  have y:=pn_len (n:=x.k) (by have:=T.k;omega);have j:=pn_len (n:=x.n) (by have:=T.nok;omega);have q:=pn_len (n:=(Z (nav x.c.ns):Int)) o_;have t:=pn_len (n:=(Z (hav x.c.hs):Int)) o_;have s:=pn_len (n:=x.c.half) (by have:=okI_b h3 x.c.half s_;omega);have p:=pn_len (n:=x.c.age) (by have:=okI_b h3 x.c.age s_;omega);have m:Z (pl x.c.il)<=3000:=by simp only[Con.il,pl_append,pl,Ah,Bs];omega
  have C:=zL x.g T.gok;have z:Z (pl [x.n])<=10:=by simpa[pl]using j
  have e:=C8.il_cons x _ rfl;rw[<-e,Ah];split
  .omega
  .split
   .omega
   .split
    .simp [pl];omega
    .omega
 .simp
def aMh(x:Cmd):Z (C8.encB x)<=1000000000:=Cl (aSj x) d_
def aSH{t:Kst}{k:Nat}(h:KB t k)(hz:t.d.size=1048576)(c:Cmd):jQ t.d (crB c)=0:=by have:=h.lens;have:=aSj c;have e:Z (crB c)=Z (C8.encB c)+1:=Al;unfold jQ;rw[bt o_,bt o_]
def KB.do_e{t:Kst}{k:Nat}(h:KB t k)(c:Cmd)(g:c.k=1->c.c.sm)(f:Bool)(e:(aG t.s c).2.2≠0\/jQ t.d (crB c)≠0):
  ar 22 [G2 0 0,c.av] (stS t.s t.n f t.d.size t.d.safe) (Io (GT [CA 3 [] .nil,ii (doS t c).2.2])) (stS t.s t.n f t.d.size t.d.safe)/\
  ar 24 [G2 0 0,c.av] (stS t.s t.n f t.d.size t.d.safe) (Io (ii (doS t c).2.2)) (stS t.s t.n f t.d.size t.d.safe)/\(doS t c).1=t/\(doS t c).2.1=[]/\wrE t c=(doS t c).2.2/\(doS t c).2.2≠0:=by
 have hs:=h.sap c g;unfold doS wrE;by_cases q:(aG t.s c).2.2=0
 .have a:jQ t.d (crB c)≠0:=e.resolve_left λh=>h q;have l:jQ t.d (Rec.b (.c c))≠0:=a;rw[bt (by simpa using q),bu l,bt (by simpa using q)];rw[aEi q]at hs;obtain⟨i,j⟩:=aDI h c f a;exact⟨aRa _ _ _ _ hs (aMh c) _ _ _ _ _ a i,aOn _ _ _ _ hs (aMh c) _ _ _ _ _ j,rfl,rfl,rfl,a⟩
 .rw [bu q,bu q];exact⟨aQ9 _ _ _ hs q _ _ _ _,aOm _ _ _ hs q _ _ _ _,rfl,rfl,rfl,q⟩
def KB.do_ok{t:Kst}{k:Nat}(h:KB t k)(c:Cmd)(i:c.k=1->c.c.sm)(f:Bool)(q:(aG t.s c).2.2=0)(g:jQ t.d (crB c)=0):
  ar 22 [G2 0 0,c.av] (stS t.s t.n f t.d.size t.d.safe) (Io (GT [CA 3 (evv (aG t.s c).2.1) J0,ii 0])) (stG (aG t.s c).1 (t.n+1) f t.d.size (t.d.safe++frm (crB c)))/\
  ar 24 [G2 0 0,c.av] (stS t.s t.n f t.d.size t.d.safe) (Io (ii 0)) (Do tSt (G2 1 0::t.s.cs)::jnO 2 t.n::dkC t.d.size (sfV f 3 t.d.safe) (wtB (frm (crB c))) S::sfT f):=by
 have a:=h.lens;have hs:=h.sap c i;rw[aEi q]at hs;obtain⟨b,e⟩:=UJ g
 exact⟨aOy _ _ _ _ hs (aMh c) _ _ _ _ (aLt f t.n t.d.size t.d.safe (crB c) ⟨a.2.2.2.2.1,a.2.2.2.2.2⟩ b a.2.1 a.2.2.1 o_ e),
  aJA _ _ _ _ hs (aMh c) _ _ _ _ (aLp f t.n t.d.size t.d.safe (crB c) b a.2.1 a.2.2.1 o_ e)⟩
def OB{t:Kst}{c:Cmd}(q:(aG t.s c).2.2=0)(a:jQ t.d (crB c)=0):doS t c=(⟨aNa t.d (crB c),t.n+1,(aG t.s c).1⟩,(aG t.s c).2.1,0):=by have e:jQ t.d (Rec.b (.c c))=0:=a;unfold doS;rw[bt (by simpa using q),bt (by simpa using e)];rfl
def KB.snap_any{t:Kst}{k:Nat}(h:KB t k):lO t=0/\(Z (83::dK t.s):Int)+8<=t.d.size\/lO t=9/\t.d.size<(Z (83::dK t.s):Int)+8:=by
 have hl:Z (83::dK t.s)<=16384:=by have:=h.okT.len;simp only[Al];omega
 have e:(Rec.b (.s t.s))=83::dK t.s:=rfl;unfold lO;rw[e,bt o_];split
 .rename_i q;exact .inr ⟨rfl,q⟩
 .exact .inl ⟨rfl,by omega⟩
def KB.snap_no{t:Kst}{k:Nat}(h:KB t k)(f:Bool)(q:lO t≠0):ar 33 [G2 0 0] (stS t.s t.n f t.d.size t.d.safe) (Io (ii (lO t))) (stS t.s t.n f t.d.size t.d.safe):=by
 have hl:=h.okT.len;rcases h.snap_any with⟨e,_⟩|⟨e,a⟩
 .exact bv e q
 .rw [e];exact aEu t.s (dK t.s) h.enc o_ _ _ _ _ _ (aLs f t.n t.d.size t.d.safe (83::dK t.s) (by simp only[Al];omega) a)
def KB.snap_ok{t:Kst}{k:Nat}(h:KB t k)(f:Bool)(q:lO t=0):ar 33 [G2 0 0] (stS t.s t.n f t.d.size t.d.safe) (Io (ii 0)) (Do tSt (G2 1 0::t.s.cs)::jnO 2 1::dkC t.d.size (sfV S 3 (frm (83::dK t.s))) bM S::sfT f):=by
 have hl:=h.okT.len;rcases h.snap_any with⟨e,a⟩|⟨e,_⟩
 .exact aEt t.s (dK t.s) h.enc o_ _ _ _ _ (aLr f t.n t.d.size t.d.safe (83::dK t.s) (by simp only[Al];omega) a)
 .rw [e]at q;cases q
def aEC{t:Kst}(q:lO t=0):pL t=⟨⟨t.d.size,frm (83::dK t.s),[],S⟩,1,t.s⟩:=by unfold pL;rw[bu q];rfl
def aED{t:Kst}(q:lO t≠0):pL t=t:=by unfold pL;rw[bt q]
abbrev YR(ev:bh)(e:Int):aa:=He [ii e,CA 3 (evv ev) J0]
abbrev cDo(f:Bool)(g:ay)(t:Kst)(p:Kstp)(a:aa)(As:aw):Prop:=ar 11 [G2 0 0,CX p.k p.x p.n] (drS f f g t.d.size t.d.safe t.n t.s) (Io a) As
inductive DoO(g:ay)(t t':Kst)(p:Kstp)(a:aa):Bool->Prop
 |same {f} (h:cDo f g t p a (drS f f g t'.d.size t'.d.safe t'.n t'.s)):DoO g t t' p a f
 |full (h:cDo O g t p a (drS O S g t'.d.size t'.d.safe t'.n t'.s)):DoO g t t' p a O
 |grow {f} (h:cDo f g t p a (drG f g t'.d.size t'.d.safe t'.n t'.s)):DoO g t t' p a f
 |anew {f} (m:Int) (At:Sta) (h:cDo f g t p a (drR f f g t'.d.size t'.d.safe m t'.n At t'.s)):DoO g t t' p a f
 |wt (m:Int) (At:Sta) (h:cDo O g t p a (drW O g t'.d.size t'.d.safe m t'.n At t'.s)):DoO g t t' p a O
 |wf (m:Int) (At:Sta) (h:cDo O g t p a (drW S g t'.d.size t'.d.safe m t'.n At t'.s)):DoO g t t' p a O
 |xt (m:Int) (At:Sta) (h:cDo S g t p a (drX O g t'.d.size t'.d.safe m t'.n At t'.s)):DoO g t t' p a S
 |xf (m:Int) (At:Sta) (h:cDo S g t p a (drX S g t'.d.size t'.d.safe m t'.n At t'.s)):DoO g t t' p a S
def KB.dr3{t:Kst}{k:Nat}(h:KB t k)(f:Bool)(g:ay)(c:Cmd)(n:Int):cDo f g t ⟨3,c,n⟩ (YR [] 0) (aSn f g t.d.size t.d.safe t.n t.n t.s t.s):=
 aA.less (aIb f g _ _ _ _ _ _ _ c n (by have:=h.lens;omega) (h.dop S f g))
def KB.dr5{t:Kst}{k:Nat}(h:KB t k)(f:Bool)(g:ay)(c:Cmd)(n:Int):cDo f g t ⟨5,c,n⟩ (YR [] 0) (drR f f g t.d.size t.d.safe t.n t.n t.s t.s):=
 aA.less (aIa f g _ _ _ _ _ _ _ c n (h.dop S f g))
def KB.dr4{t:Kst}{k:Nat}(h:KB t k)(C:k<58)(f:Bool)(g:ay)(c:Cmd)(n:Int)(w:c.k=1->c.c.sm):DoO g t (aU t ⟨4,c,n⟩).1 ⟨4,c,n⟩ (YR (aU t ⟨4,c,n⟩).2.1 (aU t ⟨4,c,n⟩).2.2) f:=by
 have L:=h.lens;have x:aU t ⟨4,c,n⟩=if wrE t c≠0 then(t,[],wrE t c)else(if UM c n then(doS t c).1 else t,[],0):=rfl
 by_cases q:(aG t.s c).2.2=0/\jQ t.d (crB c)=0
 .obtain ⟨q,o⟩:=q;have F:wrE t c=0:=by have G:jQ t.d (Rec.b (.c c))=0:=o;unfold wrE;rw[bt (by simpa using q),G]
  have r:=(h.step C ⟨1,c,0⟩ w)
  replace r:KB (doS t c).1 (k+1):=r;have A:=OB q o;have i:=(h.do_ok c w f q o).2;obtain⟨I,M⟩:=UJ o;have fl:=eO (crB c);rw[x,bt (by simpa using F)];obtain⟨J,B⟩:=NQ n (Z (frm (crB c)));have y:(Rec.b (.c c))=crB c:=rfl;by_cases m:UM c n=O
  .have v:=bn m;rw[y]at v;have H:eX n (Z (frm (crB c)))=Z (frm (crB c)):=o_;have l:(frm (crB c)).take (eX n (Z (frm (crB c))))=frm (crB c):=by rw[H,Hr]
   rw[bu m];have j:=r.dop S O g;rw[A]at j⊢;cases f
   .exact .xt t.n t.s (aA.less (G7 O g _ _ _ _ _ _ _ _ c n o_ o_ (by rw[l];intro e;rw[e]at fl;simp at fl) i (by rw[l];exact j)))
   .exact .wt t.n t.s (aA.less (BH O g _ _ _ _ _ _ _ _ c n o_ o_ i (by rw[l];exact j)))
  .have v:¬ ((Z (Rec.b (.c c)):Int)+8<=n):=λe=>m (bq e);rw[y]at v;rw[bt m];by_cases u:eX n (Z (frm (crB c)))=0
   .have l:(frm (crB c)).take (eX n (Z (frm (crB c))))=[]:=by rw[u];rfl
    cases f
    .exact .anew t.n t.s (aA.less (XV g _ _ _ _ _ _ _ c n o_ o_ l i (h.dop S S g)))
    .exact .wt t.n t.s (aA.less (BH O g _ _ _ _ _ _ _ _ c n o_ o_ i (by rw[l,Ap];exact h.dop S O g)))
   .have hl:Z ((frm (crB c)).take (eX n (Z (frm (crB c)))))=eX n (Z (frm (crB c))):=by rw[Dr];omega
    have j:=h.dopT S O g (crB c) I (eX n (Z (frm (crB c)))) u o_;cases f
    .exact .xf t.n t.s (aA.less (G7 S g _ _ _ _ _ _ _ _ c n o_ o_ (λe=>u (by rw[<-hl,e];rfl)) i j))
    .exact .wf t.n t.s (aA.less (BH S g _ _ _ _ _ _ _ _ c n o_ o_ i j))
 .have K:(aG t.s c).2.2≠0\/jQ t.d (crB c)≠0:=by exact zqta7
  obtain⟨_,z,N,As,D,p⟩:=h.do_e c w f K;rw[<-D]at z p;rw[x,bu p];exact .same (aA.less (aMv f g _ _ _ _ c n _ p z))
def KB.dr{t:Kst}{k:Nat}(h:KB t k)(w:k<58)(f:Bool)(g:ay)(p:Kstp)(m:p.x.k=1->p.x.c.sm):DoO g t (aU t p).1 p (YR (aU t p).2.1 (aU t p).2.2) f:=by
 obtain⟨i,c,n⟩:=p;by_cases i4:i=4
 .subst i4;exact h.dr4 w f g c n m
 by_cases j:i=1
 .subst j;have e:aU t ⟨1,c,n⟩=doS t c:=rfl;rw[e];by_cases q:(aG t.s c).2.2=0/\jQ t.d (crB c)=0
  .obtain ⟨q,r⟩:=q;have h1:=(h.do_ok c m f q r).1;rw[OB q r];exact .grow (TH f g _ _ _ _ _ _ _ _ c n h1)
  .have A:(aG t.s c).2.2≠0\/jQ t.d (crB c)≠0:=by exact zqta7
   obtain⟨v,_,y,z,_⟩:=h.do_e c m f A;rw[y,z];exact .same (aA.less (aMw f g _ _ _ _ c n _ v))
 by_cases l:i=2
 .subst l;have e:aU t ⟨2,c,n⟩=(pL t,[],lO t):=rfl;rw[e];by_cases q:lO t=0
  .rw [aEC q,q];have:=aA.less (aIc f g _ _ _ _ _ c n (h.snap_ok f q));cases f
   .exact .same this
   .exact .full this
  .rw [aED q];exact .same (aA.less (aId f g _ _ _ _ c n _ (h.snap_no f q)))
 by_cases u:i=3
 .subst u;have e:aU t ⟨3,c,n⟩=(t,[],0):=rfl;rw[e];cases f
  .exact .anew t.n t.s (h.dr3 S g c n)
  .exact .wt t.n t.s (h.dr3 O g c n)
 by_cases o:i=5
 .subst o;have e:aU t ⟨5,c,n⟩=(t,[],0):=rfl;rw[e];exact .anew t.n t.s (h.dr5 f g c n)
 .have e:aU t ⟨i,c,n⟩=(t,[],1):=by unfold aU;dsimp only;rw[bt j,bt l,bt i4,bt o_]
  rw[e];exact .same (aA.less (aH9 f g _ _ _ _ c i n j l u i4 o))
def vV(n:Int)(g:ay):ar 7 [ii n] [cV g] (Io (G2 1 0)) (drN g (nC n).d.size [] 0 pI):=aH8 g n pI 0 ((kb0 n).dop O S g)
def aIj(s:Sta):(aG s Cmd.zero).1=s/\(aG s Cmd.zero).2.2=1:=by unfold aG;rw[bu d_];exact⟨rfl,(by show C8.chk Cmd.zero=1;decide)⟩
def KB.stt{t:Kst}{k:Nat}(h:KB t k)(f:Bool)(g:ay):ar 12 [G2 0 0] (drS f f g t.d.size t.d.safe t.n t.s) (Io t.s.av) (drS f f g t.d.size t.d.safe t.n t.s):=by have a:=h.sap Cmd.zero (λe=>by cases e);have h1:=aB0 t.s _ a t.n f t.d.size t.d.safe;rw[(aIj t.s).1]at h1;exact XU f f id g _ _ _ _ _ h1
open Go.ChangeShapes Go.WideShapes Go.ChangeAt Go.RowKit
def Kstp.cs(p:Kstp):az:=ii p.k::(p.x.cs++[ii p.n])
def Kstp.av(p:Kstp):aa:=He p.cs
abbrev stv(l:List Kstp):az:=l.map Kstp.av
def aQV{n:Nat}{cs:az}(h:TyN Tryz.prog 1048576 (n+7) 49 cs):∃p:Kstp,cs=p.cs/\CmSm p.x:=by unfold TyN at h;rw[underlying49]at h;obtain⟨e,r,rfl,c,d,r,rfl,h1,f,r,rfl,a,rfl⟩:=h;obtain⟨k,rfl⟩:=jB c;obtain⟨x,rfl,b⟩:=aQX (n:=n) h1;obtain⟨m,rfl⟩:=jB a;exact⟨⟨k,x,m⟩,rfl,b⟩
section
variable {H:Type} {enc:TypeId×Value->H} {W:World} {r:Reach} {base b0:Nat} {spare:Nat->Bool} {held:Bool} {v:Value} {d:DataW H} {ps:List MemPlace}
def JM(e:Go.Value.okWide Tryz.prog W r b0 22 v)(h:DataW.Trod enc Tryz.prog W base spare held 22 v d ps)(f:Rows.uptoBulk d<=1048576):∃l:List Kstp,Rep (Mw W) [] v (.slice 17 (stv l) .no)/\Z l<=1048576/\∀x∈l,CmSm x.x:=by
 obtain⟨xs,a,c,b⟩:=YQ (n:=7) (aSD H 1048576) underlying22 (by kernel_rfl) e h f;have i:Tryz.prog.cellsOf 49=17:=by kernel_rfl
 obtain⟨l,rfl,hl⟩:=aBC (av:=Kstp.av) (Q:=λp=>CmSm p.x) (P:=λx=>x∈xs) (λx hm=>by
  obtain⟨cs,rfl⟩:=(b x hm).2.1 (by kernel_rfl);obtain⟨p,hp,g⟩:=aQV (n:=0) (b _ hm).1
  exact⟨p,by unfold Kstp.av;rw[<-hp];rfl,g⟩) xs λx hm=>hm
 rw[i]at a;exact⟨l,a,by simpa using c,hl⟩
end
abbrev aTp(a:bh×Int):aa:=YR a.1 a.2
abbrev anv(l:List (bh×Int)):az:=l.map aTp
abbrev aQS:ab:=D9
abbrev plO(f:Bool)(g:ay)(t:Kst):aw:=match f with
 |true=>[cV g,aQS,.cells tDr [.ref 3 0,.ref 6 0],dkC t.d.size (sfV O 4 t.d.safe) bM S,.tail 0 1 5,jnO 3 t.n,.cells tSt (.ref 5 0::t.s.cs),.tail 0 2 40]
 |false=>[cV g,aQS,.cells tDr [.ref 3 0,.ref 5 0],dkC t.d.size (sfV S 4 t.d.safe) bM S,jnO 3 t.n,.cells tSt (.ref 4 0::t.s.cs),.tail 0 2 40]
abbrev plN(f:Bool):Nat:=match f with|true=>7|false=>6
def aKI(L:List Kstp)(C:Z L<=57)(n:∀p∈L,p.x.c.sm)(g:ay)(R:Kst)(A:List (bh×Int)):∀(m i:Nat) (t:Kst) (bs:List (bh×Int)) (f:Bool),i+m=Z L->Z bs=i->KB t i->lP (L.drop i) t=R->bs++wG (L.drop i) t=A->
  To (Eo [7] []) f30 (.full 1 (Io (GT [CA 2 (anv A) J0,R.s.av])) [cV g]) (BB f30 [(5,G2 1 0),(6,G2 2 0),(7,CA 2 (anv bs) (.own (plN f) 0)),(12,CA 17 (stv L) J0),(13,GE Is (Z (stv L):Nat)),(14,ii i)] (plO f g t)):=by
 have u:Z (stv L)=Z L:=by simp
 intro m;induction m with
 |zero=>
  intro i t bs f y z j b a;rw[Ae o_]at b a;have b:t=R:=b;have a:bs++[]=A:=a;rw[Ap]at a;subst b a;have hs:=j.stt f g;clear j;cases f
  .refine gV ?_;refine aF λh=>?_
   repeat' first|refine pA ?_|refine .eff [] [2,3,0,4,5] _ _ rfl hs ?_|exact zx [0]|exact rfl|refine lA ?_ ?_|intro h
  .refine gV ?_;refine aF λh=>?_
   repeat' first|refine pA ?_|refine .eff [] [2,3,4,0,5,6] _ _ rfl hs ?_|exact zx [0]|exact rfl|refine lA ?_ ?_|intro h
 |succ m q=>
  intro i t bs f y z j b a;have d:i<Z L:=o_;rw[Ac d]at b a;have get:(stv L)[i]? =X L[i].av:=by simp[d]
  have hp:=n L[i] (Av d);generalize L[i]=p at b a get hp;have w:=j.dr o_ f g p (λ_=>hp);have k:=j.step o_ p (λ_=>hp);have next:=q (i+1) (aU t p).1 (bs++[(aU t p).2])
  have o:anv (bs++[(aU t p).2])=anv bs++[YR (aU t p).2.1 (aU t p).2.2]:=by simp
  rw[o]at next
  have l:Z (anv bs)<=1048576:=by simp;omega
  replace next:=λf=>next f o_ q_ k b (by rw[Ag];exact a)
  generalize aU t p=r at*
  obtain⟨B,ev,e⟩:=r;dsimp only at*
  clear q b a o j k n hp;cases f
  all_goals
   cases w
  all_goals
   rename_i v;refine gV ?_;refine aT λh=>?_
   repeat' first|refine pA ?_|refine⟨i,rfl,?_⟩|refine⟨_,get,?_⟩|refine .eff [] [2,3,0,4,5] _ _ rfl v ?_|refine .eff [] [2,3,4,0,5,6] _ _ rfl v ?_|refine Aa (qH l d_) ?_|exact rfl|refine lA ?_ ?_|intro h
   first
    |exact To.part [5,6,7,12,13,14] [0,1,2,3,4,5,6] rfl rfl rfl (next S)
    |exact To.part [5,6,7,12,13,14] [0,1,2,3,8,4,5,6] rfl rfl rfl (next O)
    |exact To.part [5,6,7,12,13,14] [0,1,2,3,8,9,6] rfl rfl rfl (next S)
    |exact To.part [5,6,7,12,13,14] [0,1,2,3,8,9,10,6] rfl rfl rfl (next O)
    |exact To.part [5,6,7,12,13,14] [0,1,2,3,9,10,6] rfl rfl rfl (next S)
    |exact To.part [5,6,7,12,13,14] [0,1,2,3,4,5,6,7] rfl rfl rfl (next O)
    |exact To.part [5,6,7,12,13,14] [0,1,2,3,5,6,7] rfl rfl rfl (next S)
    |exact To.part [5,6,7,12,13,14] [0,1,2,3,4,9,10,7] rfl rfl rfl (next O)
    |exact To.part [5,6,7,12,13,14] [0,1,2,3,9,10,7] rfl rfl rfl (next S)
def aAe(n:Int)(L:List Kstp)(d:Z L<=57)(b:∀p∈L,p.x.c.sm)(g:ay):
  ar 30 [ii n,CA 17 (stv L) J0] [cV g] (Io (GT [CA 2 (anv (wG L (nC n))) J0,(lP L (nC n)).s.av])) [cV g]:=by
 have h:=aKI L d b g (lP L (nC n)) (wG L (nC n)) (Z L) 0 (nC n) [] S o_ rfl (kb0 n) (by rw[Bz]) (by rw[Bz];rfl);have a:=vV n g;generalize lP L (nC n)=R at*
 generalize wG L (nC n)=A at*
 refine eA (Eo [7] []) f30 1 λ_=>?_
 repeat' first|refine pA ?_|refine .eff [] [0] _ _ rfl a ?_|exact rfl|refine lA ?_ ?_|intro h
 exact To.part [5,6,7,12,13,14] [0,1,2,3,4,5,6] rfl rfl rfl h
def TM(t:Kst)(c:Cmd):(doS t c).1.d.size=t.d.size:=by
 unfold doS;split
 .rfl
 split<;>rfl
def wgt(c:Con):Int:=1+(Z (nav c.ns):Nat)+(Z (hav c.hs):Nat)
def smR(M:Int):List Con->Int->Int
 |[],n=>n
 |c::l,n=>if n<M then smR M l (n+wgt c)else n
def aQU{c:Con}(h:c.sm):1<=wgt c/\wgt c<=2097153:=by
 have b:Z (nav c.ns)=Z c.ns:=by simp
 have a:Z (hav c.hs)=Z c.hs:=by simp
 have:=h.ns;have:=h.hs;unfold wgt;omega
def U5(l:List Kstp)(n:Int):Int:=if n<500/\Z l<=40 then 1 else 0
def aEF(L:List Kstp)(i:Nat)(n:Int)(h:Z L<=i\/500<=n)(c:i<=1048576):BC E f8 (ii (U5 L n)) [(0,CA 17 (stv L) J0),(3,ii n),(4,ii i)] []:=by
 have a:Z (stv L)=Z L:=by simp
 by_cases b:n<500
 .by_cases hl:Z L<=40
  .rw [show U5 L n=1 from bu ⟨b,hl⟩];refine gV ?_
   repeat' first|refine pA ?_|exact rfl|refine lA ?_ ?_|intro h
  .rw [show U5 L n=0 from bt λh=>hl h.2];refine gV ?_
   repeat' first|refine pA ?_|exact rfl|refine lA ?_ ?_|intro h
 .rw [show U5 L n=0 from bt λh=>b h.1];by_cases c:Z L<=i
  .refine gV ?_
   repeat' first|refine pA ?_|exact rfl|refine lA ?_ ?_|intro h
  .refine gV ?_
   repeat' first|refine pA ?_|exact rfl|refine lA ?_ ?_|intro h
def aJL(L:List Kstp)(s:Z L<=1048576)(g:∀p∈L,p.x.c.sm)(R:Int):∀(m i:Nat) (n:Int),i+m=Z L->0<=n->n<=3000000->smR 500 ((L.drop i).map λp=>p.x.c) n=R->
  BC E f8 (ii (U5 L R)) [(0,CA 17 (stv L) J0),(3,ii n),(4,ii i)] []:=by
 have f:Z (stv L)=Z L:=by simp
 intro m;induction m with
 |zero=>
  intro i n l _ _ a;rw[Ae o_]at a;have a:n=R:=a;subst a;exact aEF L i n (.inl o_) o_
 |succ m e=>
  intro i n l t h1 a;have b:i<Z L:=o_;rw[Ac b]at a;have get:(stv L)[i]? =X L[i].av:=by simp[b]
  have hp:=g L[i] (Av b);generalize L[i]=p at a get hp;rw[List.map_cons]at a;unfold smR at a;by_cases d:n<500
  .rw [bu d]at a;obtain⟨k,j⟩:=aQU hp;have next:=e (i+1) (n+wgt p.x.c) o_ o_ o_ a
   have r:Z (nav p.x.c.ns)=Z p.x.c.ns:=by simp
   have q:Z (hav p.x.c.hs)=Z p.x.c.hs:=by simp
   have o:=hp.ns;have u:=hp.hs;unfold wgt at next
   clear e a k j;refine gV ?_
   repeat' first|refine pA ?_|refine⟨i,rfl,?_⟩|refine⟨_,get,?_⟩|exact rfl|refine lA ?_ ?_|intro h
   exact To.part [0,3,4] [] rfl rfl rfl next
  .rw [bt d]at a;subst a;exact aEF L i n (.inr o_) o_
def EU(L:List Kstp)(b:Z L<=1048576)(a:∀p∈L,p.x.c.sm):∃r:Int,(r=0\/r=1/\Z L<=40)/\bj 8 [CA 17 (stv L) J0] (ii r):=by
 refine⟨U5 L (smR 500 (L.map λp=>p.x.c) 0),?_,?_⟩
 .unfold U5;split
  .rename_i h;exact .inr ⟨rfl,h.2⟩
  .exact .inl rfl
 .have next:=aJL L b a _ (Z L) 0 0 o_ d_ d_ (by rw[Bz])
  generalize smR 500 (L.map λp=>p.x.c) 0=R at*
  refine c_ f8 λ_=>?_
  repeat' first|refine pA ?_|exact rfl|refine lA ?_ ?_|intro h
  exact To.part [0,3,4] [] rfl rfl rfl next
def PI(t:Kst)(p:Kstp):(aU t p).1.d.size=t.d.size:=by
 have h1:=TM t p.x;have a:(pL t).d.size=t.d.size:=by unfold pL;split<;>rfl
 unfold aU
 repeat' split
 all_goals first|rfl|assumption
def aIP(s:Sta)(x:Cmd):(aG s x).2.2≠0->(aG s x).1=s/\(aG s x).2.1=[]:=by
 unfold aG;split
 .exact λ_=>⟨rfl,rfl⟩
 split
 .split
  .exact λ_=>⟨rfl,rfl⟩
  split
  .exact λ_=>⟨rfl,rfl⟩
  .exact λh=>bv rfl h
 split
 .exact λh=>⟨PG s x.g h,rfl⟩
 split
 .exact IS s x.n
 split
 .exact λh=>bv rfl h
 split
 .exact λh=>bv rfl h
 split
 .exact λ_=>⟨rfl,rfl⟩
 .exact λh=>bv rfl h
def aNr{t:Kst}{k:Nat}(h:KB t k)(hz:t.d.size=1048576)(c:Cmd):(doS t c).2.2=(aG t.s c).2.2/\(doS t c).2.1=(aG t.s c).2.1/\(doS t c).1.s=(aG t.s c).1:=by
 by_cases q:(aG t.s c).2.2=0
 .rw [OB q (aSH h hz c)];exact⟨q.symm,rfl,rfl⟩
 .obtain ⟨a,b⟩:=aIP t.s c q;unfold doS;rw[bu q];exact⟨rfl,b.symm,a.symm⟩
def aQ5{t:Kst}{k:Nat}(h:KB t k)(hz:t.d.size=1048576)(c:Cmd)(n:Int):(aU t ⟨4,c,n⟩).2=([],(aG t.s c).2.2)/\((aU t ⟨4,c,n⟩).1.s=t.s\/(aG t.s c).2.2=0/\(aU t ⟨4,c,n⟩).1.s=(aG t.s c).1):=by
 have a:wrE t c=(aG t.s c).2.2:=by
  unfold wrE;by_cases q:(aG t.s c).2.2=0
  .rw [bt (by simpa using q),q];exact aSH h hz c
  .rw [bu q]
 have e:aU t ⟨4,c,n⟩=(if wrE t c≠0 then(t,[],wrE t c)else(if UM c n then(doS t c).1 else t,[],0)):=rfl;rw[e,a];by_cases q:(aG t.s c).2.2=0
 .rw [bt (by simpa using q),q];refine⟨rfl,?_⟩;cases UM c n
  .exact .inl rfl
  .exact .inr ⟨rfl,(aNr h hz c).2.2⟩
 .rw [bu q];exact⟨rfl,.inl rfl⟩
def aEr{t:Kst}{k:Nat}(h:KB t k)(hz:t.d.size=1048576){p:Kstp}(e:p.k=4):(aU t p).2=([],(aG t.s p.x).2.2)/\((aU t p).1.s=t.s\/(aG t.s p.x).2.2=0/\(aU t p).1.s=(aG t.s p.x).1):=by obtain⟨a,c,n⟩:=p;obtain rfl:a=4:=e;exact aQ5 h hz c n
set_option maxRecDepth 100000
def TF:ay:=[115,116,111,114,101,58,32,110,111,32,114,101,99,111,114,100]
def own:ownKnob Tryz.prog.godebug=none:=by kernel_rfl
def aH4: "*" ++ "errors.errorString" = "*errors.errorString" :=by decide
def aSm(u:TypeId)(h:Tryz.prog.typeName? 3 u=some "*errors.errorString"):u=430:=
 typeName_ptr_named (nm:= "errors.errorString") (by rw [aH4];kernel_rfl) (by kernel_rfl) d_ u (by rw [aH4];exact h)
noncomputable def qA(os:Os):World:=
 let N:=(World.settled Tryz.prog os).heap.size
 let w0:=World.holding Tryz.prog os ⟨#[.cells #[.string ⟨TF.toArray⟩] 452],#[],[]⟩
 {w0 with heap:=w0.heap.modify 0 fun
   |.cells _ t a=>.cells #[.iface 430 (.pointer (X ⟨N,0,U⟩))] t a
   |o=>o}
def R8(os:Os)(args:Array Value):laidMet Tryz.prog [("tithebarn/store.errBad",Rows.laid_tithebarn_store_errBad)] ((qA os).forCall (λ_ _=>0) ⟨#[],args,[]⟩).memory:=
 laidMet_of_run' 8 (by kernel_rfl) (by kernel_rfl)
def CI{W:World}(h:laidMet Tryz.prog [("tithebarn/store.errBad",Rows.laid_tithebarn_store_errBad)] W):∃ u,W.cell? ⟨0,0,none⟩=some u∧u.oneCell'=true∧Rep (Mg W 0 (aDn TF)) [] u (aDn TF):=by
 obtain⟨a,s,n,f,hs,hm⟩:=laid_sentinel (g:=0) h (by kernel_rfl) (by kernel_rfl) underlying117 aSm underlying430 underlying452 rfl rfl underlying9 (by kernel_rfl) (by kernel_rfl);have m:W.cell? ⟨0,0,U⟩=X (.iface 430 (.pointer (X a))):=by have:=World.var?_cell (g:=0) (by kernel_rfl) n 0;simpa using this
 obtain⟨b,o,k⟩:=a;have i:k=none:=by
  cases k with
  |none=>rfl
  |some x=>
   unfold Ku at f;dsimp only at f;split at f
   .simp at f
   .cases f
 subst i;refine⟨_,m,rfl,.iface _ _ _ (.ptr b o _ λj c l=>?_)⟩;cases j with
 |zero=>
  cases l;refine .inl ⟨_,f,rfl,?_⟩;have e:s=⟨TF.toArray⟩:=by obtain⟨d⟩:=s;have hs:d.toList=TF:=hs;rw[<-hs]
  rw[e];exact .str TF d_
 |succ j=>simp at l
end Go.Proofs.YtenkdioaefckoaaGreatDoor
