/- Part 11 of what the statement rests on. -/
import Derived.Lib.Builder
import Derived.Lib.UnsafeStr
import Derived.Lib.Walk
import Derived.Shelf.RegionOpenPlain
import Derived.ScopeJumps
import Derived.Test.YtenkdioaefckoaaGreatDoorRows
import Derived.Deep.DeepHandedRow
import Derived.Deep.DeepWitnessRowRef
import Derived.Stop.LaidErr
import Derived.LaidLaws
import Derived.ProofKit
import Derived.Test.YtenkdioaefckoaaGreatDoorYA
set_option linter.all false
set_option maxHeartbeats 2000000
open Go.AW.Res renaming ret->Io
open Go.AW.St renaming head->G0
open Go.AW.Tk renaming no->J0
open Go.AW.aa renaming agg->He,bool->DA,int->GE,nilptr->By,ref->G2,slice->CA,str->HA,tup->GT
open Go.AW.ab renaming bun->If,cells->Do,tail->Fr
open Go.IntKind renaming i64->Is
open List renaming length->Z
open Bool renaming true->O,false->U
open Option renaming some->X,none->D
open And renaming intro->Aa
open Bool renaming and_eq_true->Af
open Go.Builtin renaming unsafeSliceData_->Jd,unsafeString_->Kd
open Go.Result renaming andThen->Ez
open Go.World renaming cell?->Kz,shape?->Ju
open List renaming append_assoc->Ag,append_nil->Ao,cons_append->Bx,drop_eq_getElem_cons->Ac,drop_eq_nil_of_le->Ae,drop_zero->Ca,length_append->Ah,length_cons->Al,length_map->Bw,length_nil->Bj,length_take->Cs,map_append->Bi,map_take->Fm,mem_cons_of_mem->Bb,mem_cons_self->Aw,take_length->Gk
open Nat renaming le_refl->Bc,le_succ->Jq,le_trans->Cp,mul_le_mul->Eg,zero_le->Bq
open UInt8 renaming ofNat->Da,toNat_ofNat'->Hg
namespace Go.Proofs.YtenkdioaefckoaaGreatDoor
variable{P:Prop}
open Go.Proofs.Tryz
open Go Go.AW Go.Proofs
def zqta0(h:P:=by
 cases f
 .refine eA E f104 1 λ_=>?_;exact zW
 .refine eA E f104 2 λ_=>?_
  exact zW):P:=h
def zqta1(h:P:=by
 refine eA E f26 2 λ_=>?_
 exact zW):P:=h
def zqta2(h:P:=by
 refine eA E f91 1 λ_=>?_
 exact zW):P:=h
def zqta3(h:P:=by
 refine eA E f91 2 λ_=>?_
 exact zW):P:=h
def zqta4(h:P:=by
 refine eA E f190 1 λ_=>?_
 exact zW):P:=h
def aNT:Nat->Int->Int
 | 0,x=>x
 | k+1,x=>aNT k (bits .xor .u32 (x / 2) (bits .and .u32 2197175160 (-bits .and .u32 x 1 % 4294967296)))
def JR:ay->Int->Int
 | [],x=>x
 | b::r,x=>JR r (aNT 8 (bits .xor .u32 x ((b.toNat:Int) % 4294967296)))
def yB(s:ay):Int:=bits .xor .u32 IntKind.u32.max (JR s 4294967295)
def kJ(op:BinOp)(x y:Int):0<=bits op .u32 x y/\bits op .u32 x y<4294967296:=by have h:inR .u32 (bits op .u32 x y):=jY .u32 _;simp only[inR,bS,aX]at h;omega
def iU(n:Nat):ay:=[Da n,Da (n / 256),Da (n / 65536),Da (n / 16777216)]
def eS:ay->Nat
 | a::b::c::d::_=>a.toNat+256*b.toNat+65536*c.toNat+16777216*d.toNat
 | _=>0
theorem nN(n:Nat)(r:ay)(h:n<4294967296):eS (iU n++r)=n:=by simp only[iU,eS,Bx,Hg];omega
def frm(s:ay):ay:=iU (Z s)++iU (yB s).toNat++s
def gU(s:ay):Int:=
 if Z s<8 then 10 else if 16384<eS s then 8 else if(Z s:Int)-8<eS s then 10
 else if yB ((s.drop 8).take (eS s))≠(eS (s.drop 4):Int)then 11 else 0
def vG(s:ay):ay:=(s.drop 8).take (eS s)
theorem cU(s:ay):Z (frm s)=Z s+8:=by simp[frm,iU]
def Z9(s:ay):0<=yB s/\yB s<4294967296:=by exact kJ _ _ _
def aGV(s r:ay)(h:Z s<=16384):gU (frm s++r)=0/\vG (frm s++r)=s:=by
 have b:eS (frm s++r)=Z s:=by
  unfold frm
  grind[Ag,nN]
 have c:(frm s++r).drop 4=iU (yB s).toNat++(s++r):=by unfold frm;rw[Ag,Ag];rfl
 have d:(frm s++r).drop 8=s++r:=by unfold frm;rw[Ag,Ag];rfl
 obtain⟨f,e⟩:=Z9 s;have hl:Z (frm s++r)=Z s+8+Z r:=by rw[Ah,cU]
 have a:vG (frm s++r)=s:=by unfold vG;rw[b,d,List.take_left]
 refine⟨?_,a⟩;unfold gU;unfold vG at a;rw[hl,b]at *
 rw[a,c,nN _ _ o_,bt o_,bt o_,bt o_,bt o_]
def aGU:gU []≠0:=by decide
def qU:List ay->Nat
 | []=>0
 | t::l=>Z t+8+qU l
def cB:List ay->ay
 | []=>[]
 | t::l=>frm t++cB l
def oH:∀l:List ay,Z (cB l)=qU l
 | []=>rfl
 | t::l=>by rw[cB,qU,Ah,cU,oH l]
def VA:∀(l m:List ay),cB (l++m)=cB l++cB m
 | [],_=>rfl
 | t::l,m=>by rw[Bx,cB,cB,VA l m,Ag]
structure Dk where
 size:Int
 safe:ay
 waits:ay
 sw:Bool
def Dk.new(n:Int):Dk:=⟨min (max n 0) 1048576,[],[],U⟩
def Dk.free(d:Dk):Int:=if d.sw then d.size-Z d.waits else d.size-Z d.waits-Z d.safe
namespace TB
open Go.RowKit
set_option maxRecDepth 100000
abbrev tWr:TypeId:=193
def BG:liesAt Tryz.prog Tryz.prog.depth tWr (2 / Tryz.prog.cellsOf tWr) 0 193 1=true:=by kernel_rfl
def AZ:(Tryz.prog.info? 193).map (·.size)=X 2:=by kernel_rfl
def RQ:Tryz.prog.underlying 191=X (.pointer 193):=by kernel_rfl
def RP:Tryz.prog.underlying 319=X .unsafePointer:=by kernel_rfl
def VG:Tryz.prog.funcs[244]? =X f244:=by kernel_rfl
def hZ(b:Nat)(w:World)(h:w.cell? ⟨b,0,D⟩=X (.pointer D))(a:w.shape? b=X (tWr,2))(g:w.frozen? ⟨b,0,D⟩=U):
  Calls Tryz.prog 174 #[.pointer (X ⟨b,0,D⟩)] w λe w'=>e= .returned (.tuple #[])/\w'=w.setCell ⟨b,0,D⟩ (.pointer (X ⟨b,0,D⟩)):=by
 obtain⟨j,d,c⟩:=Option.map_eq_some_iff.1 AZ
 go_enter Tryz.func174,Tryz.ntmps174
 go_wp2
 rw[Lib.run_to_unsafe w ⟨b,0,D⟩ RQ RP d (by rw[c];decide) a (Nat.zero_lt_succ 1)];simp only[Ez];rw[Oper.upon_value]
 go_wp2
 rw[run_callFunc_extern VG (by kernel_rfl) (by kernel_rfl) (by kernel_rfl) (e:=Extern.AbiNoEscape.same) (by kernel_rfl)];rw[Lib.run_noEscape];simp only[Ez];rw[Oper.upon_value]
 go_wp2
 rw[Lib.run_from_unsafe w ⟨b,0,D⟩ RP RQ d a BG];simp only[Ez];rw[Oper.upon_value]
 go_wp2
 go_end0;exact⟨rfl,rfl⟩
def aFl:Tryz.prog.underlying 261=X (.pointer 5):=by kernel_rfl
def aJN:Tryz.prog.cellsOf 5=1:=by kernel_rfl
def qQ(b g cap:Nat)(p:Value)(a:Array Value)(l:ay)(w:World)(h:w.heap[b]? =X (.cells #[p,.slice (X ⟨g,0,D⟩) (Z l) cap] tWr (0,0)))(s:w.heap[g]? =X (.cells a 5 (0,0)))(n:l≠[])
  (o:Z l<=cap) (d:cap<=maxLen) (q:a.size=cap) (c:∀(j:Nat) x,l[j]? =X x->w.cell? ⟨g,j,D⟩=X (.int .u8 x.toNat)):
  Calls Tryz.prog 115 #[.pointer (X ⟨b,0,D⟩)] w λe w'=>e= .returned (.string ⟨l.toArray⟩)/\N6 g (Z l) w w':=by
 have k:Z l≠0:=by simpa using n
 have y:w.drew.cell? ⟨b,1,D⟩=X (.slice (X ⟨g,0,D⟩) (Z l) cap):=by have:w.drew.heap[b]? =X (.cells #[p,.slice (X ⟨g,0,D⟩) (Z l) cap] tWr (0,0)):=h;rw[Lib.cell_of_heap this];rfl
 have u:(Jd #[109] 261 #[.slice (X ⟨g,0,D⟩) (Z l) cap]).run Tryz.prog w.drew= .ok (.pointer (X ⟨g,0,D⟩)) w.drew:=
  Lib.run_unsafeSliceData_row _ _ _ _ _ _ o_
 have r:(Kd #[261,3] 9 #[.pointer (X ⟨g,0,D⟩),.int .i64 (Z l)]).run Tryz.prog w.drew= .ok (.string ⟨l.toArray⟩) (w.drew.freeze ⟨g,0,D⟩ (Z l)):=by refine Lib.run_unsafeString_row w.drew 261 3 9 5 aFl aJN g a.size (by have i:w.drew.heap[g]? =X (.cells a 5 (0,0)):=s;simp[Ju,i]) l n o_ (by unfold maxLen at d;omega) ?_;intro j x v;rw[bK,Nat.zero_add];exact c j x v
 have m:Tryz.prog.follows Departure.mixedOrders=true:=hE.mix
 go_enter Tryz.func115,Tryz.ntmps115
 go_wp2
 go_region_o
 all_goals (go_wp2;go_ret;exact⟨rfl,ZG k⟩)
def cc_fresh(s:aa):ar 174 [G2 0 0] [Do tWr [By,s]] (Io (GT [])) [Do tWr [G2 0 0,s]]:=
 qL (λ_ _=>by rfl) hZ s
def str_ok(l:ay)(a:l≠[])(p:aa):ar 115 [G2 0 0] [Do tWr [p,CA 1 (l.map ub) (.own 1 0)],Fr 0 1 5] (Io (HA l)) [.dead,.dead]:=
 oY (λ_ _=>by rfl) qQ l a p
end TB
set_option maxRecDepth 100000
def zG(J:Nat->Act->World->Prop)(Q:Exit->Act->World->Prop):Exit->Act->World->Prop
 | .goto l,a,w=>J l a w
 | e,a,w=>Q e a w
def ES{P:Program}{a:Act}{w:World}{Q:Exit->Act->World->Prop}{c:Code}(rest:Nat->Code)(J:Nat->Act->World->Prop)(μ:Nat->Act->World->Nat)(C:∀l a w,J l a w->findLabel c l=X (rest l))
  (first:c.wp P (zG J Q) a w) (q:∀l a w,J l a w->(rest l).wp P (zG (λo r w'=>J o r w'/\μ o r w'<μ l a w) Q) a w):(Code.scope c).wp P Q a w:=by
 intro b k cs;have y:∀l a w,J l a w->gotoIn l (.inScope c::k)=X (.code (rest l):: .inScope c::k):=λl a w h=>by simp[gotoIn,C l a w h]
 have key:∀n l a w,μ l a w=n->J l a w->∃e r w',Q e r w'/\Arrives P (lone (b.at a (.code (rest l):: .inScope c::k)) cs w) b k cs e r w':=by
  intro n;induction n using Nat.strongRecOn with
  | _ n z=>
   intro l a w F Be;obtain⟨e,i,j,g,d⟩:=q l a w Be b (.inScope c::k) cs;cases e with
   | normal=>exact⟨.normal,i,j,g,Steps.trans d (.one step_inScope)⟩
   | exit id=>exact⟨.exit id,i,j,g,λv t=>d v (by simp[exitTo,t])⟩
   | goto o=>
    obtain⟨p,A⟩:=g;obtain⟨u,s,x,m,f⟩:=z _ o_ o i j rfl p;exact⟨u,s,x,m,.of_steps (d _ (y _ _ _ p)) f⟩
   | ret=>exact⟨_,i,j,g,d⟩
   | panic B=>exact⟨_,i,j,g,d⟩
   | outgrown=>exact⟨_,i,j,g,d⟩
 obtain⟨e,i,j,g,d⟩:=first b (.inScope c::k) cs
 cases e with
 | normal=>exact⟨.normal,i,j,g,.head step_scope (Steps.trans d (.one step_inScope))⟩
 | exit id=>exact⟨.exit id,i,j,g,λv t=>.head step_scope (d v (by simp[exitTo,t]))⟩
 | goto o=>
  obtain⟨u,s,x,m,f⟩:=key _ o i j rfl g;exact⟨u,s,x,m,.of_steps (.head step_scope (d _ (y _ _ _ g))) f⟩
 | ret=>exact⟨_,i,j,g,.of_steps (.one step_scope) d⟩
 | panic B=>exact⟨_,i,j,g,.of_steps (.one step_scope) d⟩
 | outgrown=>exact⟨_,i,j,g,.of_steps (.one step_scope) d⟩
def N9{P:Program}{a:Act}{w:World}{Q:Exit->Act->World->Prop}{c f i:Code}(d J1:Act->World->Prop)(μ0 μ1:Act->World->Nat)(j:findLabel c 0=X f)(h1:findLabel c 1=X i)
  (first:c.wp P (zG (λl a w=>(l=0/\d a w)\/(l=1/\J1 a w)) Q) a w)
  (e:∀a w,d a w->f.wp P (zG (λl b w'=>(l=0/\d b w'/\μ0 b w'<μ0 a w)\/(l=1/\J1 b w'/\μ1 b w'<μ0 a w)) Q) a w)
  (g:∀a w,J1 a w->i.wp P (zG (λl b w'=>(l=0/\d b w'/\μ0 b w'<μ1 a w)\/(l=1/\J1 b w'/\μ1 b w'<μ1 a w)) Q) a w):(Code.scope c).wp P Q a w:=by
 refine ES (λl=>if l=0 then f else i) (λl a w=>(l=0/\d a w)\/(l=1/\J1 a w)) (λl a w=>if l=0 then μ0 a w else μ1 a w) (λl a w h=>?_) first λl a w h=>?_
 .grind
 .rcases h with⟨rfl,h⟩|⟨rfl,h⟩
  .grind [wp_mono]
  grind[wp_mono]
def aIf(k:Nat)(a:Act):Int:=match a.tmps[k]? with|some (.int _ n)=>n|_=>0
def aRV(s:ay)(w:World)(a:Act)(w':World):Prop:=w'=w/\∃(x:Int) (i k:Nat) (Be F C B z y g q v d b p h f l r u j o m t A e c n:Value),a={tmps:= #[.string ⟨s.toArray⟩,undef,.int .u32 0,.int .u32 x,.int .i64 i,.int .i64 k,Be,F,C,B,z,y,g,q,v,d,b,p,h,f,l,r,u,j,o,m,t,A,e,c,n],defers:=[]}/\0<=x/\x<4294967296/\i<=Z s/\JR (s.drop i) x=JR s 4294967295
def aRU(s:ay)(w:World)(a:Act)(w':World):Prop:=w'=w/\∃(x:Int) (i k:Nat) (Be F C B z y g q v d b p h f l r u j o m t A e c n:Value),a={tmps:= #[.string ⟨s.toArray⟩,undef,.int .u32 0,.int .u32 x,.int .i64 i,.int .i64 k,Be,F,C,B,z,y,g,q,v,d,b,p,h,f,l,r,u,j,o,m,t,A,e,c,n],defers:=[]}/\0<=x/\x<4294967296/\i<=Z s/\1<=k/\k<8/\JR (s.drop i) (aNT (8-k) x)=JR s 4294967295
def aRT(s:ay)(a:Act):Nat:=(Z s-(aIf 4 a).toNat)*10
def aRS(s:ay)(a:Act):Nat:=(Z s-(aIf 4 a).toNat)*10+9-(aIf 5 a).toNat
def V0{s:ay}{i:Nat}{x:Int}(h:i<Z s)(a:JR (s.drop i) x=JR s 4294967295):
  JR (s.drop (i+1)) (aNT (8-1) (bits .xor .u32 (bits .xor .u32 x ((s[i].toNat:Int) % 4294967296) / 2) (bits .and .u32 2197175160 (-bits .and .u32 (bits .xor .u32 x ((s[i].toNat:Int) % 4294967296)) 1 % 4294967296))))=JR s 4294967295:=by
 rw[Ac h]at a;exact a
def aC9(s:ay)(hs:Gf (Z s))(w:World):Calls Tryz.prog 165 #[.string ⟨s.toArray⟩] w λe w'=>e= .returned (.int .u32 (yB s))/\w'=w:=by
 go_enter Tryz.func165,Tryz.ntmps165
 go_wp2
 refine N9 (aRV s w) (aRU s w) (λa _=>aRT s a) (λa _=>aRS s a) rfl rfl ?_ (λa w' z=>?_) (λa w' z=>?_)
 .go_wp2
  go_step3
  go_wp2
  .have b:((0:Int)==(Z s:Int))=true:=by assumption
   simp only[zG]
   go_ret
   have:s=[]:=List.eq_nil_of_length_eq_zero (by have:=beq_iff_eq.1 b;omega);subst this;exact⟨rfl,rfl⟩
  .have b:0<Z s:=by assumption
   go_step3
   go_wp2
   go_step3
   exact .inr ⟨rfl,rfl,_,1,1,_,_,_,_,_,_,_,_,_,_,_,_,_,_,_,_,_,_,_,_,_,_,_,_,_,rfl,(kJ _ _ _).1,(kJ _ _ _).2,b,by decide,by decide,V0 b rfl⟩
  grind[beq_eq_false_iff_ne]
 .obtain ⟨rfl,x,i,k,N,As,L,K,H,G,m,y,F,h,d,u,n,j,p,B,Be,o,t,q,C,I,l,g,r,rfl,J,M,v,c⟩:=z
  go_wp2
  .have b:((i:Int)==(Z s:Int))=true:=by assumption
   simp only[zG]
   go_ret
   have b:=beq_iff_eq.1 b;rw[Ae o_]at c;have c:x=JR s 4294967295:=c;subst c;exact⟨rfl,rfl⟩
  .have b:i<Z s:=by assumption
   go_step3
   go_wp2
   go_step3
   refine .inr ⟨rfl,⟨rfl,_,i+1,1,_,_,_,_,_,_,_,_,_,_,_,_,_,_,_,_,_,_,_,_,_,_,_,_,_,rfl,(kJ _ _ _).1,(kJ _ _ _).2,b,by decide,by decide,V0 b c⟩,?_⟩;show(Z s-((i:Int)+1).toNat)*10+9-(1:Int).toNat<(Z s-(i:Int).toNat)*10;omega
  grind[beq_eq_false_iff_ne]
 .obtain ⟨rfl,x,i,k,N,As,L,K,H,G,m,y,F,h,d,u,n,j,p,B,Be,o,t,q,C,I,l,g,r,rfl,J,M,v,P,Q,c⟩:=z
  go_wp2
  .go_step3
   rename_i b;have e:8-k=8-(k+1)+1:=o_;rw[e]at c;refine .inr ⟨rfl,⟨rfl,_,i,k+1,_,_,_,_,_,_,_,_,_,_,_,_,_,_,_,_,_,_,_,_,_,_,_,_,_,rfl,(kJ _ _ _).1,(kJ _ _ _).2,v,by omega,by omega,c⟩,?_⟩;show(Z s-(i:Int).toNat)*10+9-((k:Int)+1).toNat<(Z s-(i:Int).toNat)*10+9-(k:Int).toNat;omega
  .go_step3
   rename_i b;have e:8-k=0+1:=o_;rw[e]at c;refine .inl ⟨rfl,⟨rfl,_,i,k+1,_,_,_,_,_,_,_,_,_,_,_,_,_,_,_,_,_,_,_,_,_,_,_,_,_,rfl,(kJ _ _ _).1,(kJ _ _ _).2,v,c⟩,?_⟩;show(Z s-(i:Int).toNat)*10<(Z s-(i:Int).toNat)*10+9-(k:Int).toNat;omega
def NV(s:ay):bj 165 [.str s] (.int .u32 (yB s)):=by
 intro M ob w a hm b;obtain⟨hl,b⟩:=b
 match a,hl with
 | [v],_=>
 have h:=b 0 _ _ rfl rfl;cases h with
 | str _ hs=>
 refine .inl ⟨(show qO Tryz.prog 165 from λ_ _=>by rfl) _ _,(aC9 s hs w).mono λe w' ⟨c,d⟩=>?_⟩;subst c d;exact⟨M,ob,Ext.refl _ _ _ _,hm,.int _ _ (by have:=Z9 s;simp only[inR,bS,aX];omega)⟩
set_option maxRecDepth 10000
abbrev i4(n:Int):aa:=GE .u32 n
def aIN(n k:Nat):((n:Int).fdiv (2 ^ k))=((n / 2 ^ k:Nat):Int):=by rw[Int.fdiv_eq_ediv_of_nonneg _ (by exact Int.le_of_lt (Int.pow_pos d_))];simp
def BS(n k:Nat):IntKind.u8.wrap ((n:Int).fdiv (2 ^ k))=((Da (n / 2 ^ k)).toNat:Int):=by rw[aIN,N8,Hg]
def aB6(n:Nat):bj 164 [i4 n] (HA (iU n)):=by
 have a:=BS n 0;have b:=BS n 8;have d:=BS n 16;have c:=BS n 24;refine gA (Er [3,5] []) f164 λ_=>?_
 repeat' first
  | (refine gW (hEr [3,5] []) ?_;conv=>whnf)
  | exact rfl
  | refine aY ?_
  | refine aN ?_
  | refine aT λh=>?_
  | refine aF λh=>?_
  | refine⟨_,rfl,?_⟩
  | refine aJ ?_
  | refine .inr ?_|refine Aa (by first|decide|(simp only[maxLen];omega)|simp) ?_
  | refine aD ?_
  | fail
 refine⟨iU n,?_,by simp[iU],?_⟩
 .show [aa.int .u8 (IntKind.u8.wrap ((n:Int).fdiv (2 ^ 0))),aa.int .u8 (IntKind.u8.wrap ((n:Int).fdiv (2 ^ 8))),aa.int .u8 (IntKind.u8.wrap ((n:Int).fdiv (2 ^ 16))),aa.int .u8 (IntKind.u8.wrap ((n:Int).fdiv (2 ^ 24)))]=_;rw[a,b,d,c,Nat.pow_zero,Nat.div_one];rfl
 .exact zW
def orU(x c i:Nat)(a:x<2 ^ i)(h:x+c*2 ^ i<4294967296):dL .or .u32 (x:Int) ((c:Int)*2 ^ i)=((x+c*2 ^ i:Nat):Int):=by
 have e:(c:Int)*2 ^ i=((c*2 ^ i:Nat):Int):=by simp
 rw[e,oP .u32 x (c*2 ^ i) (by simp only[aX];omega) (by simp only[aX];omega),YV a]
def aJT(a b c d:UInt8)(r:ay):dL .or .u32 (dL .or .u32 (dL .or .u32 (dL .or .u32 0 ((a.toNat:Int)*2 ^ 0)) ((b.toNat:Int)*2 ^ 8)) ((c.toNat:Int)*2 ^ 16)) ((d.toNat:Int)*2 ^ 24)=((eS (a::b::c::d::r):Nat):Int):=by
 have g:=a.toNat_lt;have h:=b.toNat_lt;have j:=c.toNat_lt;have i:=d.toNat_lt;have e:=orU 0 a.toNat 0 d_ o_;have h1:=orU (0+a.toNat*2 ^ 0) b.toNat 8 o_ o_;have f:=orU (0+a.toNat*2 ^ 0+b.toNat*2 ^ 8) c.toNat 16 o_ o_;have h3:=orU (0+a.toNat*2 ^ 0+b.toNat*2 ^ 8+c.toNat*2 ^ 16) d.toNat 24 o_ o_;have e:dL .or .u32 0 ((a.toNat:Int)*2 ^ 0)=_:=e;rw[e,h1,f,h3];show((_:Nat):Int)=((a.toNat+256*b.toNat+65536*c.toNat+16777216*d.toNat:Nat):Int)
 congr 1;omega
def OV(c:UInt8)(i:Nat)(h:i<=24):i<=32/\inR .u32 ((c.toNat:Int)*2 ^ i):=by
 have a:=c.toNat_lt;have e:(c.toNat:Int)*2 ^ i=((c.toNat*2 ^ i:Nat):Int):=by simp
 have h1:2 ^ i<=2 ^ 24:=Nat.pow_le_pow_right d_ h;have b:c.toNat*2 ^ i<=255*2 ^ 24:=Eg o_ h1;refine⟨by omega,?_⟩;rw[e];simp only[inR,bS,aX];omega
def aJM(a b c d:UInt8)(r:ay):bj 259 [HA (a::b::c::d::r)] (i4 (eS (a::b::c::d::r):Nat)):=by
 have e:=a.toNat_lt;have i:=b.toNat_lt;have k:=c.toNat_lt;have j:=d.toNat_lt;refine c_ f259 λ_=>?_
 repeat' first
  | (refine gW hE ?_;conv=>whnf)
  | exact rfl
  | refine aY ?_
  | refine aN ?_
  | refine aT λh=>?_
  | refine aF λh=>?_
  | refine⟨_,rfl,?_⟩
  | refine aJ ?_
  | refine .inl ⟨OV _ 0 d_,?_⟩|refine .inl ⟨OV _ 8 d_,?_⟩|refine .inl ⟨OV _ 16 d_,?_⟩|refine .inl ⟨OV _ 24 d_,?_⟩|exact congrArg (λn=>Res.ret (aa.int .u32 n)) (aJT a b c d r)
  | refine aD ?_
  | fail
def VC(n:Nat):Z (iU n)=4:=rfl
def oI(s:ay)(h:Z s<=16384):bj 105 [HA s] (HA (frm s)):=by
 have h1:=NV s;obtain⟨d,e⟩:=Z9 s;have a:=aB6 (yB s).toNat;rw[show(((yB s).toNat:Nat):Int)=yB s by omega]at a;have h3:=aB6 (Z s);unfold frm;have c:=VC (yB s).toNat;have b:=VC (Z s);generalize iU (yB s).toNat=x at *
 generalize iU (Z s)=y at *
 refine c_ f105 λ_=>?_
 repeat' first|refine pA ?_|refine .p h1 ?_|refine .p a ?_|refine .p h3 ?_|refine Aa (by simp only[Ah];omega) ?_|exact rfl|refine lA ?_ ?_|intro h
def rdT(s:ay):ay:=if gU s=0 then vG s else[]
def rdN(s:ay):Int:=if gU s=0 then(eS s:Int)+8 else 0
def aEF(s:ay)(hm:Z s<=1000000000)(N M:Nat)(x:Int)(hl:¬ Z s<8)(m:N<4294967296)(b:bj 259 [HA s] (i4 N))(c:bj 259 [HA (s.drop 4)] (i4 M))
  (hs:bj 165 [HA ((s.take (8+N)).drop 8)] (i4 x)) (T:ay) (n e:Int)
  (a:(T,n,e)=if 16384<N then([],0,8)else if(Z s:Int)-8<N then([],0,10)else if x≠M then([],0,11)else((s.take (8+N)).drop 8,(N:Int)+8,0)):
  bj 191 [HA s] (GT [HA T,ii n,ii e]):=by
 have k:(8:Int)+N=((8+N:Nat):Int):=by simp
 by_cases j:16384<N
 .rw [bu j]at a;cases a;refine c_ f191 λ_=>?_
  repeat' first|refine pA ?_|refine .p b ?_|refine .p c ?_|refine⟨4,rfl,?_⟩|exact rfl|refine lA ?_ ?_|intro h
 rw[bt j]at a;by_cases l:(Z s:Int)-8<N
 .rw [bu l]at a;cases a;refine c_ f191 λ_=>?_
  repeat' first|refine pA ?_|refine .p b ?_|refine .p c ?_|refine⟨4,rfl,?_⟩|exact rfl|refine lA ?_ ?_|intro h
 rw[bt l]at a;by_cases d:x=M
 .rw [bt (by simpa using d)]at a;cases a;have i:(x !=(M:Int))=false:=by simpa using d
  refine c_ f191 λ_=>?_
  repeat' first|refine pA ?_|refine .p b ?_|refine .p c ?_|refine .p hs ?_|refine⟨4,rfl,?_⟩|refine⟨8,rfl,?_⟩|refine⟨8+N,k,?_⟩|refine zF i ?_|exact rfl|refine lA ?_ ?_|intro h
 .rw [bu (by simpa using d)]at a;cases a;have i:(x !=(M:Int))=true:=by simpa using d
  refine c_ f191 λ_=>?_
  repeat' first|refine pA ?_|refine .p b ?_|refine .p c ?_|refine .p hs ?_|refine⟨4,rfl,?_⟩|refine⟨8,rfl,?_⟩|refine⟨8+N,k,?_⟩|refine zE i ?_|exact rfl|refine lA ?_ ?_|intro h
def aN9(s:ay):eS s<4294967296:=by
 unfold eS;split
 .rename_i a b c d _;have:=a.toNat_lt;have:=b.toNat_lt;have:=c.toNat_lt;have:=d.toNat_lt;omega
 .decide
def WV(s:ay)(h:4<=Z s):bj 259 [HA s] (i4 (eS s:Nat)):=by
 match s,h with
 | a::b::c::d::r,_=>exact aJM a b c d r
 | [],h | [_],h | [_,_],h | [_,_,_],h=>simp at h
def VZ(s:ay)(hm:Z s<=1000000000):bj 191 [HA s] (GT [HA (rdT s),ii (rdN s),ii (gU s)]):=by
 by_cases q:Z s<8
 .have e:gU s=10:=bu q;unfold rdT rdN;rw[e];refine c_ f191 λ_=>?_
  repeat' first|refine pA ?_|exact rfl|refine lA ?_ ?_|intro h
 .refine aEF s hm (eS s) (eS (s.drop 4)) _ q (aN9 s) (WV s o_) (WV _ (by rw[List.length_drop];omega)) (NV _) _ _ _ ?_;have d:(s.take (8+eS s)).drop 8=vG s:=by rw[List.drop_take];simp[vG]
  rw[d];unfold rdT rdN gU;rw[bt q];by_cases a:16384<eS s
  .rw [bu a,bu a];rfl
  by_cases b:(Z s:Int)-8<eS s
  .rw [bt a,bt a,bu b,bu b];rfl
  rw[bt a,bt a,bt b,bt b];have e:(s.drop 8).take (eS s)=vG s:=rfl;rw[e];generalize yB (vG s)=An;generalize ((eS (s.drop 4):Nat):Int)=Y;by_cases c:An=Y
  .simp [c]
  .simp [c]
abbrev tDk:TypeId:=111
abbrev aR:aa:=CA 1 [] .nil
abbrev wtB(x:ay):aa:=CA 1 (x.map ub) J0
def sfV(f:Bool)(k:Nat)(s:ay):aa:=CA 1 (s.map ub) (match f with|true=>.own k 0|false=>.full)
def sfT(f:Bool):aw:=match f with|true=>[Fr 0 1 5]|false=>[]
def sgV(f:Bool)(k:Nat)(s:ay):aa:=CA 1 (s.map ub) (match f with|true=>.own k 1|false=>.own k 0)
def sgT(f:Bool):aw:=match f with|true=>[Fr 1 1 5]|false=>[Fr 0 1 5]
abbrev dkC(n:Int)(safe w:aa)(sw:Bool):ab:=Do tDk [ii n,safe,w,DA sw]
abbrev dkO(f:Bool)(n:Int)(s:ay)(w:aa)(sw:Bool):aw:=dkC n (sfV f 1 s) w sw::sfT f
def aNH(n:Int):ar 18 [ii n] [] (Io (G2 0 0)) [dkC (min (max n 0) 1048576) (CA 1 [] .nil) aR U]:=by refine eA E f18 0 λ_=>?_;exact zW
def lG(f:Bool)(n:Int)(s:ay)(hs:Gf (Z s)):ar 21 [G2 0 0] (dkO f n s aR U) (Io (HA s)) (dkO f n s aR U):=by
 have a:s.map ub=s.map ub:=rfl;cases f
 .refine eA E f21 1 λ_=>?_;exact zW
 .refine eA E f21 2 λ_=>?_;exact zW
def yP(f:Bool)(n:Int)(s x:ay)(b:Bool):ar 25 [G2 0 0] (dkO f n s (wtB x) b) (Io (ii (Z (x.map ub):Nat))) (dkO f n s (wtB x) b):=by
 cases f
 .refine eA E f25 1 λ_=>?_;exact zW
 .refine eA E f25 2 λ_=>?_;exact zW
def VX(f:Bool)(n:Int)(s:ay)(a:0<=n)(h1:n<=1048576)(hs:(Z s:Int)<=1048576):ar 163 [G2 0 0] (dkO f n s aR U) (Io (ii (n-((0:Nat):Int)-(Z (s.map ub):Nat)))) (dkO f n s aR U):=by
 have hl:Z (s.map ub)=Z s:=by simp
 have hz:Z ([]:az)=0:=rfl;cases f
 .refine eA E f163 1 λ_=>?_;exact zW
 .refine eA E f163 2 λ_=>?_;exact zW
def NR(f:Bool)(n:Int)(s x:ay)(a:0<=n)(h1:n<=1048576)(hs:(Z s:Int)<=1048576)(b:n-Z s<Z x):ar 104 [G2 0 0,HA x] (dkO f n s aR U) (Io (ii 9)) (dkO f n s aR U):=by
 have hl:Z (s.map ub)=Z s:=by simp
 have h:=VX f n s a h1 hs;exact zqta0
def NQ(f:Bool)(n:Int)(s x:ay)(b:0<=n)(h1:n<=1048576)(hs:(Z s:Int)<=1048576)(c:(Z x:Int)<=n-Z s):
  ar 104 [G2 0 0,HA x] (dkO f n s aR U) (Io (ii 0)) (dkO f n s (CA 1 (x.map ub) (.own (match f with|true=>2|false=>1) 0)) U++[Fr 0 1 5]):=by
 have hl:Z (s.map ub)=Z s:=by simp
 have a:Z (x.map ub)=Z x:=by simp
 have h:=VX f n s b h1 hs;exact zqta0
def FJ(f:Bool)(n:Int)(s x:ay)(a:(Z x:Int)<=n):ar 90 [G2 0 0,HA x] (dkO f n s aR U) (Io (ii 0)) (dkO f n s (wtB x) O):=by
 cases f
 .refine eA E f90 1 λ_=>?_;exact zW
 .refine eA E f90 2 λ_=>?_;exact zW
def bZ(keep:Int)(m:Nat):Nat:=(min (max keep 0) (m:Int)).toNat
def zD(keep:Int)(m:Nat):min (max keep 0) (m:Int)=((bZ keep m:Nat):Int)/\bZ keep m<=m:=by unfold bZ;omega
def aAa(f:Bool)(n:Int)(s x:ay):ar 26 [G2 0 0,ii (Z (x.map ub):Nat)] (dkO f n s (wtB x) O) (Io (GT [])) (dkC n (CA 1 (x.map ub) .full) aR U::sfT f):=by
 have key:∀y,(x.map ub).take (Z (x.map ub))=y->ar 26 [G2 0 0,ii (Z (x.map ub):Nat)] (dkO f n s (wtB x) O) (Io (GT [])) (dkC n (CA 1 y .full) aR U::sfT f):=by
  intro y a;subst a;have b:min (max (Z (x.map ub):Int) 0) (Z (x.map ub):Int)=(Z (x.map ub):Int):=o_;have c:(min (max (Z (x.map ub):Int) 0) (Z (x.map ub):Int)==(Z (x.map ub):Int))=true:=by rw[b];exact beq_self_eq_true _
  cases f
  .refine eA E f26 1 λ_=>?_;exact zW
  .exact zqta1
 exact key _ (Gk)
def xR(n:Int)(s x:ay)(keep:Int)(hs:Z s<=1048576)(i:Z x<=1048576):
  ar 26 [G2 0 0,ii keep] (dkO O n s (wtB x) U) (Io (GT [])) (dkC n (sgV O 1 (s++x.take (bZ keep (Z x)))) aR U::sgT O):=by
 have a:Z (x.map ub)=Z x:=by simp
 have e:Z (s.map ub)=Z s:=by simp
 obtain⟨h,b⟩:=zD keep (Z x);rw[<-a]at h b;have c:Z ((x.map ub).take (bZ keep (Z (x.map ub))))<=Z x:=by rw[Cs];omega
 have key:∀y,s.map ub++(x.map ub).take (bZ keep (Z (x.map ub)))=y->ar 26 [G2 0 0,ii keep] (dkO O n s (wtB x) U) (Io (GT [])) (dkC n (CA 1 y (.own 1 1)) aR U::sgT O):=by intro y d;subst d;exact zqta1
 refine key _ ?_;rw[a,Bi,Fm]
def tF(n:Int)(s x:ay)(keep:Int)(hs:Z s<=1048576)(k:Z x<=1048576)(b:x.take (bZ keep (Z x))≠[]):
  ar 26 [G2 0 0,ii keep] (dkO U n s (wtB x) U) (Io (GT [])) (dkC n (sgV U 1 (s++x.take (bZ keep (Z x)))) aR U::sgT U):=by
 have a:Z (x.map ub)=Z x:=by simp
 have e:Z (s.map ub)=Z s:=by simp
 obtain⟨h,c⟩:=zD keep (Z x);rw[<-a]at h c;have i:Z ((x.map ub).take (bZ keep (Z (x.map ub))))<=Z x:=by rw[Cs];omega
 have d:(x.map ub).take (bZ keep (Z (x.map ub)))≠[]:=by rw[a,<-Fm];simpa using b
 have key:∀y,s.map ub++(x.map ub).take (bZ keep (Z (x.map ub)))=y->ar 26 [G2 0 0,ii keep] (dkO U n s (wtB x) U) (Io (GT [])) (dkC n (CA 1 y (.own 1 0)) aR U::sgT U):=by intro y j;subst j;refine eA (Eo [34] []) f26 1 λ_=>?_;exact zW
 refine key _ ?_;rw[a,Bi,Fm]
def II(x:ay):x.take (bZ (Z (x.map ub):Nat) (Z x))=x:=by
 have e:bZ (Z (x.map ub):Nat) (Z x)=Z x:=by unfold bZ;rw[Bw];omega
 rw[e,Gk]
def aKE(f:Bool)(n:Int)(s x:ay)(hs:Z s<=1048576)(c:Z x<=1048576)(a:x≠[]):
  ar 91 [G2 0 0] (dkO f n s (wtB x) U) (Io (GT [])) (dkC n (sgV f 1 (s++x)) aR U::sgT f):=by
 have h:=yP f n s x U;cases f
 .have b:=tF n s x (Z (x.map ub):Nat) hs c (by rw[II];exact a);rw[II]at b;exact zqta2
 .have b:=xR n s x (Z (x.map ub):Nat) hs c;rw[II]at b;exact zqta3
def wN(f:Bool)(n:Int)(s x:ay):ar 91 [G2 0 0] (dkO f n s (wtB x) O) (Io (GT [])) (dkC n (CA 1 (x.map ub) .full) aR U::sfT f):=by
 have h:=yP f n s x O;have a:=aAa f n s x;cases f
 .exact zqta2
 .exact zqta3
abbrev tJn:TypeId:=159
abbrev jnO(d:Nat)(m:Int):ab:=Do tJn [G2 d 0,ii m]
abbrev jdO(m:Int)(f:Bool)(n:Int)(s:ay):aw:=jnO 1 m::dkC n (sfV f 2 s) aR U::sfT f
def aD7(f:Bool)(m n:Int)(s x:ay)(a:16384<Z x):ar 61 [G2 0 0,HA x] (jdO m f n s) (Io (ii 8)) (jdO m f n s):=by
 cases f
 .refine eA E f61 2 λ_=>?_;exact zW
 .refine eA E f61 3 λ_=>?_;exact zW
def aMz(f:Bool)(m n:Int)(s x:ay)(d:Z x<=16384)(c:0<=n)(h1:n<=1048576)(hs:(Z s:Int)<=1048576)(e:n-Z s<Z x+8):
  ar 61 [G2 0 0,HA x] (jdO m f n s) (Io (ii 9)) (jdO m f n s):=by
 have a:=oI x d;have b:=NR f n s (frm x) c h1 hs (by rw[cU];omega);cases f
 all_goals
  refine eA E f61 _ λ_=>?_
  repeat' first|refine pA ?_|refine .p a ?_|refine .sole rfl (.eff [] [1] _ _ rfl b ?_)|refine .sole rfl (.eff [] [1,2] _ _ rfl b ?_)|exact zx [0,1]|exact zx [0,1,2]|exact rfl|refine lA ?_ ?_|intro h
def aMy(f:Bool)(m n:Int)(s x:ay)(hm:0<=m/\m<=1000000)(i:Z x<=16384)(d:0<=n)(h1:n<=1048576)(hs:(Z s:Int)<=1048576)(j:(Z x:Int)+8<=n-Z s):
  ar 61 [G2 0 0,HA x] (jdO m f n s) (Io (ii 0)) (jnO 1 (m+1)::dkC n (sgV f 2 (s++frm x)) aR U::sgT f):=by
 have a:=oI x i;have hl:=cU x;have b:=NQ f n s (frm x) d h1 hs (by rw[cU];omega);have c:=aKE f n s (frm x) o_ o_ (by intro e;rw[e]at hl;simp at hl);cases f
 all_goals
  refine eA E f61 _ λ_=>?_
  repeat' first|refine pA ?_|refine .p a ?_|refine .sole rfl (.eff [] [1] _ _ rfl b ?_)|refine .sole rfl (.eff [] [1,2] _ _ rfl b ?_)|refine .eff [] [1] _ _ rfl c ?_|refine .eff [] [1,2] _ _ rfl c ?_|exact zx [0,1,3]|exact zx [0,1,2]|exact rfl|refine lA ?_ ?_|intro h
def aD6(f:Bool)(m n:Int)(s x:ay)(a:16384<Z x):ar 64 [G2 0 0,HA x] (jdO m f n s) (Io (ii 8)) (jdO m f n s):=by
 cases f
 .refine eA E f64 2 λ_=>?_;exact zW
 .refine eA E f64 3 λ_=>?_;exact zW
def aMw(f:Bool)(m n:Int)(s x:ay)(d:Z x<=16384)(c:0<=n)(h1:n<=1048576)(hs:(Z s:Int)<=1048576)(e:n-Z s<Z x+8):
  ar 64 [G2 0 0,HA x] (jdO m f n s) (Io (ii 9)) (jdO m f n s):=by
 have a:=oI x d;have b:=NR f n s (frm x) c h1 hs (by rw[cU];omega);cases f
 all_goals
  refine eA E f64 _ λ_=>?_
  repeat' first|refine pA ?_|refine .p a ?_|refine .sole rfl (.eff [] [1] _ _ rfl b ?_)|refine .sole rfl (.eff [] [1,2] _ _ rfl b ?_)|exact zx [0,1]|exact zx [0,1,2]|exact rfl|refine lA ?_ ?_|intro h
def aMv(f:Bool)(m n:Int)(s x:ay)(d:Z x<=16384)(c:0<=n)(h1:n<=1048576)(hs:(Z s:Int)<=1048576)(e:(Z x:Int)+8<=n-Z s):
  ar 64 [G2 0 0,HA x] (jdO m f n s) (Io (ii 0)) (jnO 1 m::dkC n (sfV f 2 s) (wtB (frm x)) U::sfT f):=by
 have a:=oI x d;have b:=NQ f n s (frm x) c h1 hs (by rw[cU];omega);cases f
 all_goals
  refine eA E f64 _ λ_=>?_
  repeat' first|refine pA ?_|refine .p a ?_|refine .sole rfl (.eff [] [1] _ _ rfl b ?_)|refine .sole rfl (.eff [] [1,2] _ _ rfl b ?_)|exact zx [0,1]|exact zx [0,1,2]|exact rfl|refine lA ?_ ?_|intro h
abbrev tB:TypeId:=193
def N7(x:ay)(b:Z x<=1048576):ar 112 [G2 0 0,HA x] [Do tB [By,aR]] (Io (GT [ii (Z x:Nat),.nilif])) [Do tB [G2 0 0,CA 1 (x.map ub) (.own 1 0)],Fr 0 1 5]:=by
 have a:Z (x.map ub)=Z x:=by simp
 have h1:=TB.cc_fresh aR;refine eA E f112 1 λ_=>?_;exact zW
def aMx(f:Bool)(m n:Int)(s x:ay)(j:Z x<=16384)(k:(Z x:Int)+8<=n):
  ar 68 [G2 0 0,CA 1 [HA x] J0] (jdO m f n s) (Io (ii 0)) (jnO 1 1::dkC n (sfV U 2 (frm x)) aR U::sfT f):=by
 have i:=oI x j;have hl:=cU x;have d:frm x≠[]:=λe=>by rw[e]at hl;simp at hl
 have c:=N7 (frm x) o_;have hst:=TB.str_ok (frm x) d (G2 0 0);have a:=FJ f n s (frm x) o_;have b:=wN f n s (frm x);cases f
 all_goals
  refine eA E f68 _ λ_=>?_
  repeat' first|refine pA ?_|exact rfl|refine lA ?_ ?_|intro h
  refine gV ?_;refine aT (h:=λh=>?_) (by show(0:Int)<((1:Nat):Int);decide)
  repeat' first|refine pA ?_|refine .p i ?_|refine .eff [] [2] _ _ rfl c ?_|refine .eff [] [3] _ _ rfl c ?_|exact rfl|refine lA ?_ ?_|intro h
  refine gV ?_;refine aF (h:=λh=>?_) (by show ¬ (0:Int)+1<((1:Nat):Int);decide);refine bR hE 2 ?_;conv=>whnf
  refine To.permC hE [0,1,2,3] [4,5,6] (by rfl) ?_;conv=>whnf
  repeat (refine aLC ?_;conv=>whnf;(try conv=>whnf))
  first
   | refine .eff [] [2,3] _ _ rfl hst ?_
   | refine .eff [] [3,4] _ _ rfl hst ?_;conv=>whnf
  repeat (refine aLC ?_;conv=>whnf;(try conv=>whnf))
  first
   | refine .eff [] [1] _ _ rfl a ?_
   | refine .eff [] [1,2] _ _ rfl a ?_;conv=>whnf
  repeat (refine aLC ?_;conv=>whnf;(try conv=>whnf))
  repeat' first|refine pA ?_|refine .eff [] [1] _ _ rfl b ?_|refine .eff [] [1,2] _ _ rfl b ?_|exact zx [0,1]|exact zx [0,1,2]|exact rfl|refine lA ?_ ?_|intro h
def aSH{n a:Nat}(h:n<=1048576)(b:a<=1000):DB (n+1) a:=Aa (by simp only[maxLen];omega) (Cp (Eg (show n+1<=1048577 by omega) b) d_)
abbrev stO(s:ay):ab:=Do 9 [HA s]
abbrev nxF:aa:=.func (.func 190) [] [G2 1 0]
def aEi(s:ay):ar 133 [HA s] [] (Io (.func (.func 190) [] [G2 0 0])) [stO s]:=by refine eA E f133 0 λ_=>?_;exact zW
def aQj(s:ay)(hm:Z s<=1000000000)(h:gU s≠0):ar 190 [G2 0 0] [stO s] (Io (GT [HA [],ii 0,DA U])) [stO s]:=by
 have h1:=VZ s hm;have a:(gU s !=0)=true:=by simpa using h
 generalize gU s=e at *
 generalize rdT s=t at *
 generalize rdN s=n at *
 exact zqta4
def aLY(s:ay)(hm:Z s<=1000000000)(h:gU s=0)(a:eS s+8<=Z s):ar 190 [G2 0 0] [stO s] (Io (GT [HA (vG s),ii ((eS s:Int)+8),DA O])) [stO (s.drop (eS s+8))]:=by
 have h1:=VZ s hm;unfold rdT rdN at h1;rw[h,bu rfl,bu rfl]at h1;have b:(eS s:Int)+8=((eS s+8:Nat):Int):=by simp
 generalize vG s=t at *
 generalize eS s=n at *
 exact zqta4
abbrev kN(l:List ay):az:=l.map aa.str
def LV(r:ay)(e:gU r≠0)(R:List ay)(N:Int)(i:0<=N/\N<=1000000000):∀(l a:List ay) (at':Int),(∀t∈l,Z t<=16384)->Z (cB l++r)<=1000000000->Z a+Z l<=1000000->0<=at'->a++l=R->at'+qU l=N->
  DE (Eo [4] []) f89 (GT [CA 1 (kN R) J0,ii N]) [(4,CA 1 (kN a) (.own 0 0)),(5,ii at'),(6,nxF)] [Fr 0 1 9,stO (cB l++r)]
 | [],a,at',_,hm,_,_,hR,c=>by
  have h1:=aQj (cB []++r) hm e;rw[Ao]at hR;have c:at'+((0:Nat):Int)=N:=c;have c:at'=N:=o_;subst hR c;refine gV ?_
  repeat' first|refine pA ?_|refine .eff [] [1] _ _ rfl h1 ?_|exact rfl|refine lA ?_ ?_|intro h
 | t::l,a,at',hl,hm,ha,h0,hR,c=>by
  have n:cB (t::l)++r=frm t++(cB l++r):=Ag ..;have m:=hl t (Aw ..);obtain⟨g,j⟩:=aGV t (cB l++r) m;have f:eS (frm t++(cB l++r))=Z t:=by unfold frm;rw[Ag,Ag,nN _ _ o_]
  rw[n]at hm⊢;have b:=cU t;rw[Ah,b]at hm;have h1:=aLY (frm t++(cB l++r)) (by rw[Ah,b];exact hm) g (by rw[f,Ah,b];omega);rw[j,f,show Z t+8=Z (frm t)from b.symm,List.drop_left]at h1;have hs:qU (t::l)=Z t+8+qU l:=rfl;rw[hs]at c;simp only[Al]at ha;have next:=LV r e R N i l (a++[t]) (at'+((Z t:Int)+8)) (λx o=>hl x (Bb _ o)) o_ q_ o_ (by rw[Ag];exact hR) o_
  have k:kN (a++[t])=kN a++[HA t]:=by simp
  rw[k]at next
  have d:Z (kN a)<=1048576:=by simp;omega
  generalize frm t++(cB l++r)=s at *
  refine gV ?_
  repeat' first|refine pA ?_|refine .eff [] [1] _ _ rfl h1 ?_|refine Aa (aSH d d_) ?_|exact rfl|refine lA ?_ ?_|intro h
  exact To.part [4,5,6] [0,1] rfl rfl rfl next
def FF(l:List ay)(r:ay)(a:gU r≠0)(hl:∀t∈l,Z t<=16384)(hm:Z (cB l++r)<=1000000):bj 89 [HA (cB l++r)] (GT [CA 1 (kN l) J0,ii (qU l)]):=by
 have h1:=aEi (cB l++r);have d:=oH l;have h3:∀l:List ay,Z l<=qU l:=λl=>by
  induction l with
  | nil=>exact Bc _
  | cons t l b=>show Z l+1<=Z t+8+qU l;omega
 have c:=h3 l;rw[Ah]at hm;have next:=LV r a l (qU l) o_ l [] 0 hl (by rw[Ah];omega) q_ o_ rfl o_
 refine gA (Eo [4] []) f89 λ_=>?_
 repeat' first|refine pA ?_|refine .p h1 ?_|exact rfl|refine lA ?_ ?_|intro h
 exact To.part [4,5,6] [0,1] rfl rfl rfl next
abbrev jdN(f:Bool):Nat:=match f with|true=>2|false=>1
def aId(f:Bool)(n:Int)(l:List ay)(hl:∀t∈l,Z t<=16384)(hm:Z (cB l)<=1000000):
  ar 56 [G2 0 0] (dkO f n (cB l) aR U) (Io (GT [G2 (jdN f) 0,CA 1 (kN l) J0])) (dkO f n (cB l) aR U++[jnO 0 (Z l)]):=by
 have h1:=lG f n (cB l) o_;have b:=FF l [] aGU hl (by rw[Ao];exact hm);rw[Ao]at b;have h3:=oH l;generalize cB l=s at *
 have a:Z (kN l)=Z l:=by simp
 rw[<-a];generalize qU l=k at *
 cases f
 .refine eA E f56 1 λ_=>?_;exact zW
 .refine eA E f56 2 λ_=>?_;exact zW
end Go.Proofs.YtenkdioaefckoaaGreatDoor
namespace Go.AW
def aA.wk1{P:Program}{f:FuncId}{args:az}{r:Res}{T:TypeId}{cs cs':az}(h:aA P f args [] r [.cells T cs])(hl:Z cs'=Z cs)
  (u:∀(M:Imm) (ob:Hs) (i:Nat) v n,cs'[i]? =X n->∃a,cs[i]? =X a/\(Rep M ob v a->Rep M ob v n)):aA P f args [] r [.cells T cs']:=
 λM ob w g hm t=>cP.mono (λe w' ⟨M',ob',d,j,y⟩=>by
  have m:∀{k b},aM ob' [.cells T cs'] k b->aM ob' [.cells T cs] k b:=λ{k b} ⟨c,hs,e1,e2,e3,e4⟩=>by
   cases k with
   | zero=>exact⟨_,hs,rfl,rfl,e3,e4⟩
   | succ k=>simp at e1
  refine⟨M',ob',⟨d.imm,d.new,d.hs,d.os,d.tape,d.output,d.size,d.keep,λk b l=>d.fresh k b (m l)⟩,⟨j.imm,j.len,λk c p=>?_,λk b l=>j.lt k b (m l),λk x b h1 o=>j.inj k x b (m h1) (m o)⟩,y⟩;cases k with
  | zero=>
   simp at p;subst p;obtain⟨hs,h1,b,o,h3,cv,z,C,Be,B⟩:=j.obj 0 _ rfl;refine⟨hs,h1,b,o,h3,cv,z,by rw[C,hl],Be,λi v n A l=>?_⟩;obtain⟨a,q,s⟩:=u M' ob' i v n l;exact s (B i v a A q)
  | succ k=>simp at p) (h M ob w g hm t)
end Go.AW
namespace Go.Proofs.YtenkdioaefckoaaGreatDoor
open Go.Proofs.Tryz
open Go Go.AW Go.Proofs
set_option maxRecDepth 10000
def nL(n:Int):ar 18 [ii n] [] (Io (G2 0 0)) [dkC (min (max n 0) 1048576) (sfV U 1 []) aR U]:=by
 refine(aNH n).wk1 rfl λM ob i v j c=>?_
 match i with
 | 0=>exact⟨_,rfl,λh=>by cases c;exact h⟩
 | 1=>
  refine⟨_,rfl,λh=>?_⟩;cases c;cases h with
  | slnil e t d=>exact .slnil _ _ ⟨_,_,rfl⟩
  | slemp e t a cap d=>cases d
  | sl e b o n cap xs t g l hm hz h d=>cases d
 | 2=>exact⟨_,rfl,λh=>by cases c;exact h⟩
 | 3=>exact⟨_,rfl,λh=>by cases c;exact h⟩
 | k+4=>simp at c
abbrev aEB(m:ay):aa:=.iface 430 (.ptr [HA m])
def aSx(m:ay):bj 58 [.nilif,aEB m] (DA U):=by exact c_ f58 λ_=>zW
inductive Rec where
 | c (x:Cmd)
 | s (x:Sta)
def Rec.b:Rec->ay
 | .c x=>67::C8.encB x
 | .s x=>83::cG x
def Rec.to(r:Rec)(s:Sta):Sta:=match r with
 | .c x=>(aC s x).1
 | .s x=>x
def Rec.ok(r:Rec)(s:Sta):Prop:=match r with
 | .c x=>(aC s x).2.2=0/\(x.k=1->x.c.sm)/\s.nxt<1099511627776
 | .s x=>OkT x
def toL:List Rec->Sta->Sta
 | [],s=>s
 | r::l,s=>toL l (r.to s)
def okR:List Rec->Sta->Prop
 | [],_=>True
 | r::l,s=>r.ok s/\Z (r.b)<=16384/\okR l (r.to s)
def aAQ:∀(l m:List Rec) (s:Sta),toL (l++m) s=toL m (toL l s)
 | [],_,_=>rfl
 | r::l,m,s=>aAQ l m (r.to s)
def aBv:∀(l m:List Rec) (s:Sta),okR (l++m) s↔okR l s/\okR m (toL l s)
 | [],_,_=>⟨λh=>⟨trivial,h⟩,λh=>h.2⟩
 | r::l,m,s=>by show r.ok s/\_/\okR (l++m) (r.to s)↔(r.ok s/\_/\okR l (r.to s))/\okR m (toL l (r.to s));rw[aBv l m];exact⟨λ⟨a,b,c,d⟩=>⟨⟨a,b,c⟩,d⟩,λ⟨⟨a,b,c⟩,d⟩=>⟨a,b,c,d⟩⟩
def Rec.okT{r:Rec}{s:Sta}(h:OkT s)(a:r.ok s):OkT (r.to s):=by
 cases r with
 | c x=>exact(h.apply a.2.2 x).1
 | s x=>exact a
def aFu:∀{l:List Rec} {s:Sta},OkT s->okR l s->OkT (toL l s)
 | [],_,h,_=>h
 | r::l,s,h,hr=>aFu (l:=l) (s:=r.to s) (r.okT h hr.1) hr.2.2
def aOc{s:Sta}{x:Cmd}(h:(aC s x).2.2=0):C8.chk x=0:=by
 unfold aC at h
 grind
structure Clean(d:Dk):Prop where
 w:d.waits=[]
 sw:d.sw=U
 le:(Z d.safe:Int)<=d.size
 size:d.size<=1048576
structure Kst where
 d:Dk
 n:Int
 s:Sta
structure Kept(t:Kst)(l:List Rec):Prop where
 cl:Clean t.d
 safe:t.d.safe=cB (l.map Rec.b)
 n:t.n=Z l
 ok:okR l mA
 s:t.s=toL l mA
def aEX(d:Dk)(r:ay):Dk:=⟨d.size,d.safe++frm r,[],U⟩
def eV(d:Dk)(r:ay):Int:=if 16384<Z r then 8 else if d.size-Z d.safe<Z r+8 then 9 else 0
def doS(t:Kst)(x:Cmd):Kst×bh×Int:=
 if(aC t.s x).2.2≠0 then(t,[],(aC t.s x).2.2)
 else if eV t.d (Rec.b (.c x))≠0 then(t,[],eV t.d (Rec.b (.c x)))
 else(⟨aEX t.d (Rec.b (.c x)),t.n+1,(aC t.s x).1⟩,(aC t.s x).2.1,0)
def gD(t:Kst):Int:=if 16384<Z (Rec.b (.s t.s))then 8 else if t.d.size<Z (Rec.b (.s t.s))+8 then 9 else 0
def jG(t:Kst):Kst:=if gD t=0 then⟨⟨t.d.size,frm (Rec.b (.s t.s)),[],U⟩,1,t.s⟩else t
def Kept.do{t:Kst}{l:List Rec}(h:Kept t l)(x:Cmd)(g:x.k=1->x.c.sm)(i:t.s.nxt<1099511627776):∃f,Kept (doS t x).1 f/\Z f<=Z l+1:=by
 unfold doS;by_cases q:(aC t.s x).2.2=0
 .rw [bt (by simpa using q)];by_cases a:eV t.d (Rec.b (.c x))=0
  .rw [bt (by simpa using a)];unfold eV at a;split at a
   .cases a
   split at a
   .cases a
   have e:toL (l++[.c x]) mA=(aC t.s x).1:=by rw[aAQ,<-h.s];rfl
   refine⟨l++[.c x],⟨⟨rfl,rfl,?_,h.cl.size⟩,?_,?_,?_,e.symm⟩,by simp⟩
   .show (Z (t.d.safe++frm _):Int)<=t.d.size;rw[Ah,cU];omega
   .show t.d.safe++frm _=_;rw[h.safe,Bi,VA];show _=_++(frm _++[])
    rw[Ao]
   .show t.n+1=_;rw[h.n,Ah];rfl
   .rw [aBv,<-h.s];exact⟨h.ok,⟨q,g,i⟩,by omega,trivial⟩
  .rw [bu a];exact⟨l,h,Jq _⟩
 .rw [bu q];exact⟨l,h,Jq _⟩
def Kept.okT{t:Kst}{l:List Rec}(h:Kept t l):OkT t.s:=by rw[h.s];exact aFu aA2 h.ok
def Kept.snap{t:Kst}{l:List Rec}(h:Kept t l):∃a,Kept (jG t) a/\Z a<=Z l+1:=by
 unfold jG;by_cases q:gD t=0
 .rw [bu q];unfold gD at q;split at q
  .cases q
  split at q
  .cases q
  refine⟨[.s t.s],⟨⟨rfl,rfl,?_,h.cl.size⟩,?_,rfl,⟨h.okT,by omega,trivial⟩,rfl⟩,by simp⟩
  .grind [cU]
  .show frm _=frm _++[]
   rw[Ao]
 .rw [bt q];exact⟨l,h,Jq _⟩
def aSh{s:Sta}{x:Cmd}(h:(aC s x).2.2=0):C8.decX (C8.encB x)=x/\C8.decE (C8.encB x)=0:=C8.dec_enc (aOc h)
def aSg{s:Sta}(h:OkT s):aEE (cG s)=X s:=aNN (Q0 h.ok) h.lt
def xA:∀{l:List Rec} {s:Sta},okR l s->∀t∈l.map Rec.b,Z t<=16384
 | [],_,_,t,h=>by simp at h
 | r::l,s,h,t,a=>by
  rcases List.mem_cons.1 a with rfl|a
  .exact h.2.1
  .exact xA h.2.2 t a
structure Kstp where
 k:Int
 x:Cmd
 n:Int
def wrE(t:Kst)(x:Cmd):Int:=if(aC t.s x).2.2≠0 then(aC t.s x).2.2 else eV t.d (Rec.b (.c x))
def E9(x:Cmd)(n:Int):Bool:=decide ((Z (Rec.b (.c x)):Int)+8<=n)
def aK(t:Kst)(p:Kstp):Kst×bh×Int:=
 if p.k=1 then doS t p.x
 else if p.k=2 then(jG t,[],gD t)
 else if p.k=4 then(if wrE t p.x≠0 then(t,[],wrE t p.x)else(if E9 p.x p.n then(doS t p.x).1 else t,[],0))
 else if p.k=3\/p.k=5 then(t,[],0)
 else(t,[],1)
def Kept.stepL{t:Kst}{l:List Rec}(h:Kept t l)(p:Kstp)(a:p.x.k=1->p.x.c.sm)(d:t.s.nxt<1099511627776):∃b,Kept (aK t p).1 b/\Z b<=Z l+1:=by
 unfold aK;split
 .exact h.do p.x a d
 split
 .exact h.snap
 split
 .split
  .exact ⟨l,h,Jq _⟩
  .dsimp only;split
   .exact h.do p.x a d
   .exact ⟨l,h,Jq _⟩
 grind
def aNF(t:Kst)(x:Cmd)(h:OkT t.s)(a:t.s.nxt<1099511627776):(doS t x).1.s.nxt<=t.s.nxt+1:=by
 have:=(h.apply a x).2.1;unfold doS
 grind
theorem OS(t:Kst):(jG t).s=t.s:=by unfold jG;split<;>rfl
def aDb(t:Kst)(p:Kstp)(h:OkT t.s)(a:t.s.nxt<1099511627776):(aK t p).1.s.nxt<=t.s.nxt+1:=by
 have h1:=aNF t p.x h a;unfold aK
 grind[OS]
abbrev tSt:TypeId:=122
abbrev stS(s:Sta)(m:Int)(f:Bool)(n:Int)(x:ay):aw:=Do tSt (G2 1 0::s.cs)::jnO 2 m::dkC n (sfV f 3 x) aR U::sfT f
abbrev crB(x:Cmd):ay:=67::C8.encB x
def PB(x:Cmd)(b:Z (C8.encB x)<=1000000000):bj 62 [x.av] (HA (crB x)):=by
 have h1:=C8.enc_ok x;have a:((1+Z (C8.encB x):Nat):Int)<=9223372036854775807:=o_;refine c_ f62 λ_=>?_
 repeat' first|refine pA ?_|refine .p h1 ?_|refine Aa a ?_|exact rfl|refine lA ?_ ?_|intro h
def aEI(s:Sta)(R:Sta×bh×Int)(h1:mU s Cmd.zero R):bj 59 [s.av] (GT [R.1.av,ii R.2.2]):=by exact c_ f59 λ_=>zW
def wO(s:Sta)(R:Sta×bh×Int)(a:mU s Cmd.zero R)(m:Int)(f:Bool)(n:Int)(x:ay):ar 20 [G2 0 0] (stS s m f n x) (Io R.1.av) (stS s m f n x):=by
 have h1:=aEI s R a;cases f
 .refine eA E f20 3 λ_=>?_;exact zW
 .refine eA E f20 4 λ_=>?_
  repeat' first|refine pA ?_|refine .p h1 ?_|exact rfl|refine lA ?_ ?_|intro h
  exact zx [0,1,2,3]
def aR1(s:Sta)(c:Cmd)(R:Sta×bh×Int)(h1:mU s c R)(a:R.2.2≠0)(m:Int)(f:Bool)(n:Int)(x:ay):
  ar 22 [G2 0 0,c.av] (stS s m f n x) (Io (GT [CA 3 [] .nil,ii R.2.2])) (stS s m f n x):=by
 obtain⟨S,ev,e⟩:=R;have b:(e !=0)=true:=by simpa using a
 cases f
 .refine eA (Er [] [7,8,20,21]) f22 3 λ_=>?_;exact zW
 .refine eA (Er [] [7,8,20,21]) f22 4 λ_=>?_
  repeat' first|refine pA ?_|refine .p h1 ?_|exact zx [0,1,2,3]|exact rfl|refine lA ?_ ?_|intro h
  all_goals (exfalso;clear h1;simp_all)
def aR2(s:Sta)(c:Cmd)(S:Sta)(ev:bh)(h1:mU s c (S,ev,0))(d:Z (C8.encB c)<=1000000000)(m:Int)(f:Bool)(n:Int)(x:ay)(e:Int)(a:e≠0)
  (h3:ar 61 [G2 0 0,HA (crB c)] (jdO m f n x) (Io (ii e)) (jdO m f n x)):
  ar 22 [G2 0 0,c.av] (stS s m f n x) (Io (GT [CA 3 [] .nil,ii e])) (stS s m f n x):=by
 have b:=PB c d;have i:(e !=0)=true:=by simpa using a
 cases f
 all_goals
  refine eA (Er [] [7,8,20,21]) f22 _ λ_=>?_
  repeat' first|refine pA ?_|refine .p h1 ?_|refine .p b ?_|refine .sole rfl (.eff [] [1,2] _ _ rfl h3 ?_)|refine .sole rfl (.eff [] [1,2,3] _ _ rfl h3 ?_)|exact zx [0,1,2]|exact zx [0,1,2,3]|exact rfl|refine lA ?_ ?_|intro h
 all_goals (exfalso;clear h1;simp_all)
abbrev stG(s:Sta)(m:Int)(f:Bool)(n:Int)(x:ay):aw:=Do tSt (G2 1 0::s.cs)::jnO 2 m::dkC n (sgV f 3 x) aR U::sgT f
def aPu(s:Sta)(c:Cmd)(S:Sta)(ev:bh)(h1:mU s c (S,ev,0))(b:Z (C8.encB c)<=1000000000)(m:Int)(f:Bool)(n:Int)(x:ay)
  (h3:ar 61 [G2 0 0,HA (crB c)] (jdO m f n x) (Io (ii 0)) (jnO 1 (m+1)::dkC n (sgV f 2 (x++frm (crB c))) aR U::sgT f)):
  ar 22 [G2 0 0,c.av] (stS s m f n x) (Io (GT [CA 3 (evv ev) J0,ii 0])) (stG S (m+1) f n (x++frm (crB c))):=by
 have a:=PB c b;cases f
 all_goals
  refine eA (Er [] [7,8,20,21]) f22 _ λ_=>?_
  repeat' first|refine pA ?_|refine .p h1 ?_|refine .p a ?_|refine .sole rfl (.eff [] [1,2] _ _ rfl h3 ?_)|refine .sole rfl (.eff [] [1,2,3] _ _ rfl h3 ?_)|exact zx [0,1,2,5]|exact zx [0,1,2,3]|exact rfl|refine lA ?_ ?_|intro h
def aPj(s:Sta)(c:Cmd)(R:Sta×bh×Int)(h1:mU s c R)(a:R.2.2≠0)(m:Int)(f:Bool)(n:Int)(x:ay):
  ar 24 [G2 0 0,c.av] (stS s m f n x) (Io (ii R.2.2)) (stS s m f n x):=by
 obtain⟨S,ev,e⟩:=R;have b:(e !=0)=true:=by simpa using a
 cases f
 all_goals
  refine eA (Er [] [6,7,18,19]) f24 _ λ_=>?_
  repeat' first|refine pA ?_|refine .p h1 ?_|exact zx [0,1,2]|exact zx [0,1,2,3]|exact rfl|refine lA ?_ ?_|intro h
 all_goals (exfalso;clear h1;simp_all)
def aPk(s:Sta)(c:Cmd)(S:Sta)(ev:bh)(h1:mU s c (S,ev,0))(b:Z (C8.encB c)<=1000000000)(m:Int)(f:Bool)(n:Int)(x:ay)(e:Int)
  (h3:ar 64 [G2 0 0,HA (crB c)] (jdO m f n x) (Io (ii e)) (jdO m f n x)):
  ar 24 [G2 0 0,c.av] (stS s m f n x) (Io (ii e)) (stS s m f n x):=by
 have a:=PB c b;cases f
 all_goals
  refine eA (Er [] [6,7,18,19]) f24 _ λ_=>?_
  repeat' first|refine pA ?_|refine .p h1 ?_|refine .p a ?_|refine .sole rfl (.eff [] [1,2] _ _ rfl h3 ?_)|refine .sole rfl (.eff [] [1,2,3] _ _ rfl h3 ?_)|exact zx [0,1,2]|exact zx [0,1,2,3]|exact rfl|refine lA ?_ ?_|intro h
def aKI(s:Sta)(c:Cmd)(S:Sta)(ev:bh)(h1:mU s c (S,ev,0))(b:Z (C8.encB c)<=1000000000)(m:Int)(f:Bool)(n:Int)(x:ay)
  (h3:ar 64 [G2 0 0,HA (crB c)] (jdO m f n x) (Io (ii 0)) (jnO 1 m::dkC n (sfV f 2 x) (wtB (frm (crB c))) U::sfT f)):
  ar 24 [G2 0 0,c.av] (stS s m f n x) (Io (ii 0)) (Do tSt (G2 1 0::s.cs)::jnO 2 m::dkC n (sfV f 3 x) (wtB (frm (crB c))) U::sfT f):=by
 have a:=PB c b;cases f
 all_goals
  refine eA (Er [] [6,7,18,19]) f24 _ λ_=>?_
  repeat' first|refine pA ?_|refine .p h1 ?_|refine .p a ?_|refine .sole rfl (.eff [] [1,2] _ _ rfl h3 ?_)|refine .sole rfl (.eff [] [1,2,3] _ _ rfl h3 ?_)|exact zx [0,1,2]|exact zx [0,1,2,3]|exact rfl|refine lA ?_ ?_|intro h
def aFN(s:Sta)(b:ay)(h1:bj 67 [s.av] (GT [HA b,ii 0]))(d:Z b<=1000000000)(m:Int)(f:Bool)(n:Int)(x:ay)
  (h3:ar 68 [G2 0 0,CA 1 [HA (83::b)] J0] (jdO m f n x) (Io (ii 0)) (jnO 1 1::dkC n (sfV U 2 (frm (83::b))) aR U::sfT f)):
  ar 33 [G2 0 0] (stS s m f n x) (Io (ii 0)) (Do tSt (G2 1 0::s.cs)::jnO 2 1::dkC n (sfV U 3 (frm (83::b))) aR U::sfT f):=by
 have a:=aA.strip (args:=[G2 0 0,CA 1 [HA (83::b)] .full]) h3;have c:((1+Z b:Nat):Int)<=9223372036854775807:=o_;cases f
 all_goals
  refine eA E f33 _ λ_=>?_
  repeat' first|refine pA ?_|refine .p h1 ?_|refine Aa c ?_|refine .eff [] [1,2] _ _ rfl a ?_|refine .eff [] [1,2,3] _ _ rfl a ?_|exact zx [0,1,2]|exact zx [0,1,2,3]|exact rfl|refine lA ?_ ?_|intro h
def aKO(b:ay)(x:Cmd)(h1:bj 134 [HA b] (GT [x.av,ii 0]))(hl:Z b<=1000000):
  bj 92 [HA (67::b)] (GT [x.av,Sta.nil.av,DA U,.nilif]):=by
 have hz:1<=Z (67::b):=Nat.succ_le_succ (Bq _);refine gA (Er [] [4,5]) f92 λ_=>?_
 repeat' first|refine pA ?_|refine Aa hz ?_|refine .p h1 ?_|exact rfl|refine lA ?_ ?_|intro h
def aKN(b:ay)(x:Sta)(h1:bj 135 [HA b] (GT [x.av,ii 0]))(hl:Z b<=1000000):
  bj 92 [HA (83::b)] (GT [Cmd.zero.av,x.av,DA O,.nilif]):=by
 have hz:1<=Z (83::b):=Nat.succ_le_succ (Bq _);refine gA (Er [] [4,5]) f92 λ_=>?_
 repeat' first|refine pA ?_|refine Aa hz ?_|exact rfl|refine lA ?_ ?_|intro h
 refine .p h1 (gV ?_);refine Aa (λ_=>?_) (λh=>bv h s_);refine bR (hEr [] [4,5]) 1 ?_;conv=>whnf
 refine To.permC (hEr [] [4,5]) [0,1] [2,3,4,5] (by rfl) ?_;conv=>whnf
 repeat (refine aLC ?_;conv=>whnf;(try conv=>whnf))
 exact zW
def YE:Rec->Prop
 | .c x=>bj 92 [.str (67::C8.encB x)] (.tup [x.av,Sta.nil.av,.bool U,.nilif])
 | .s x=>bj 92 [.str (83::cG x)] (.tup [Cmd.zero.av,x.av,.bool O,.nilif])
def YQ(s:Sta):Rec->Prop
 | .c x=>mU s x ((aC s x).1,(aC s x).2.1,0)
 | .s _=>True
def aGm(L:List Rec)(p:Z L<=1000000)(g:Sta->List Rec->Prop)(n:∀s r l,g s (r::l)->YE r/\YQ s r/\g (r.to s) l)(R:Sta):∀(m i:Nat) (s:Sta),i+m=Z L->g s (L.drop i)->toL (L.drop i) s=R->
  DE E f57 (GT [R.av,.nilif]) [(2,G2 0 0),(4,G2 1 0),(5,.nilif),(14,CA 1 (kN (L.map Rec.b)) J0),(15,GE Is (Z (kN (L.map Rec.b)):Nat)),(16,ii i)] [LB,sH s]:=by
 have j:Z (kN (L.map Rec.b))=Z L:=by simp
 intro m;induction m with
 | zero=>
  intro i s o _ a;rw[Ae o_]at a;have a:s=R:=a;subst a;exact tA
 | succ m h=>
  intro i s o e a;have d:i<Z L:=o_;rw[Ac d]at a e;have get:(kN (L.map Rec.b))[i]? =X (HA L[i].b):=by simp[d]
  generalize L[i]=r at a e get;obtain⟨h1,k,h3⟩:=n _ _ _ e;have next:=h (i+1) (r.to s) o_ h3 a
  clear h a h3 e;cases r with
  | c x=>
   have h1:bj 92 [HA (67::C8.encB x)] (GT [x.av,Sta.nil.av,DA U,.nilif]):=h1;have k:mU s x ((aC s x).1,(aC s x).2.1,0):=k;have get:(kN (L.map Rec.b))[i]? =X (HA (67::C8.encB x)):=get;replace next:To E f57 _ (BV f57 _ [LB,sH (aC s x).1]):=next
   generalize (67::C8.encB x)=t at *
   generalize (aC s x).1=S at *
   generalize (aC s x).2.1=ev at *
   exact tA
  | s x=>
   have h1:bj 92 [HA (83::cG x)] (GT [Cmd.zero.av,x.av,DA O,.nilif]):=h1;have get:(kN (L.map Rec.b))[i]? =X (HA (83::cG x)):=get;replace next:To E f57 _ (BV f57 _ [LB,sH x]):=next
   generalize (83::cG x)=t at *
   exact tA
def aDB(L:List Rec)(d:Z L<=1000000)(a:Sta->List Rec->Prop)(c:∀s r l,a s (r::l)->YE r/\YQ s r/\a (r.to s) l)(e:a mA L):
  bj 57 [CA 1 (kN (L.map Rec.b)) J0] (GT [(toL L mA).av,.nilif]):=by
 have h:=aGm L d a c (toL L mA) (Z L) 0 mA o_ (by rw[Ca];exact e) (by rw[Ca]);have i:=aKS;generalize toL L mA=R at *
 generalize L.map Rec.b=V at *
 exact c_ f57 λ_=>zW
abbrev bH(m:ay):ab:=If 0 (ZF 0 (aEB m))
def AX(f a:Bool)(b:a=O->f=O)(g:ay)(n:Int)(x y:ay)(S:Sta)(V:az)(m:Int)
  (h1:ar 56 [G2 0 0] (dkO f n x aR U) (Io (GT [G2 (jdN f) 0,CA 1 V J0])) (dkC n (sfV a 1 y) aR U::sfT f++[jnO 0 m]))
  (c:bj 57 [CA 1 V J0] (GT [S.av,.nilif])):
  ar 19 [G2 0 0] (dkO f n x aR U++[bH g]) (Io (GT [G2 (jdN f+2) 0,ii 0])) (dkC n (sfV a 1 y) aR U::sfT f++[bH g,jnO 0 m,Do tSt (G2 (jdN f+1) 0::S.cs)]):=by
 have h3:=aSx g;cases f<;>cases a
 case false.true=>exact bv (b rfl) d_
 all_goals
  refine eA E f19 _ λ_=>?_
  repeat' first|refine pA ?_|refine .eff [] [0] _ _ rfl h1 ?_|refine .eff [] [0,1] _ _ rfl h1 ?_|exact rfl|refine lA ?_ ?_|intro h
  refine .p c ?_;refine bR hE 22 ?_;conv=>whnf
  refine To.glob hE 1 [] (by rfl) (by rfl) (by rfl) (by rfl) ?_;conv=>whnf
  first
   | refine .mk 1 0 (aEB g) _ (by rfl) (by rfl) ?_
   | refine .mk 2 0 (aEB g) _ (by rfl) (by rfl) ?_
  repeat' first|refine pA ?_|refine .p h3 ?_|exact zx [0,1,2,4]|exact zx [0,1,2,3,5]|exact rfl|refine lA ?_ ?_|intro h
abbrev nQ(k:Int)(c:Cmd)(n:Int):aa:=He (ii k::(c.av.cells++[ii n]))
abbrev tDr:TypeId:=73
abbrev pv(b:Bool):aa:=match b with|true=>By|false=>.undef
abbrev drS(f f':Bool)(g:ay)(n:Int)(x:ay)(m:Int)(S:Sta):aw:=Do tDr [G2 1 0,G2 (jdN f+3) 0]::dkC n (sfV f' 2 x) aR U::sfT f++[bH g,jnO 1 m,Do tSt (G2 (jdN f+2) 0::S.cs)]
abbrev drG(f:Bool)(g:ay)(n:Int)(x:ay)(m:Int)(S:Sta):aw:=match f with
 | true=>[.cells tDr [.ref 1 0,.ref 5 0],dkC n (sgV O 2 x) aR U,.tail 1 1 5,bH g,jnO 1 m,.cells tSt (.ref 4 0::S.cs)]
 | false=>[.cells tDr [.ref 1 0,.ref 4 0],dkC n (sgV U 5 x) aR U,bH g,jnO 1 m,.cells tSt (.ref 3 0::S.cs),.tail 0 1 5]
abbrev drR(f f':Bool)(g:ay)(n:Int)(y:ay)(m m':Int)(S S':Sta):aw:=match f with
 | true=>[.cells tDr [.ref 1 0,.ref 7 0],dkC n (sfV f' 2 y) aR U,.tail 0 1 5,bH g,jnO 1 m,.cells tSt (.ref 4 0::S.cs),jnO 1 m',.cells tSt (.ref 6 0::S'.cs)]
 | false=>[.cells tDr [.ref 1 0,.ref 6 0],dkC n (sfV f' 2 y) aR U,bH g,jnO 1 m,.cells tSt (.ref 3 0::S.cs),jnO 1 m',.cells tSt (.ref 5 0::S'.cs)]
abbrev drW(f':Bool)(g:ay)(n:Int)(y:ay)(m m':Int)(S S':Sta):aw:=[Do tDr [G2 1 0,G2 7 0],dkC n (match f' with|true=>sgV O 2 y|false=>sfV U 2 y) aR U,Fr 1 1 5,bH g,jnO 1 m,Do tSt (G2 4 0::S.cs),jnO 1 m',Do tSt (G2 6 0::S'.cs)]
abbrev drX(f':Bool)(g:ay)(n:Int)(y:ay)(m m':Int)(S S':Sta):aw:=[Do tDr [G2 1 0,G2 7 0],dkC n (match f' with|true=>CA 1 (y.map ub) (.own 5 0)|false=>sfV U 2 y) aR U,bH g,jnO 1 m,Do tSt (G2 3 0::S.cs),Fr 0 1 5,jnO 1 m',Do tSt (G2 6 0::S'.cs)]
def jP(n:Int):Kst:=⟨Dk.new n,0,mA⟩
def yE(t:Kst)(m:Int):Prop:=(Z t.d.safe:Int)+m<=t.d.size
def aBj(x:Cmd)(k:Nat)(h:Z x.il<=k)(a:∀n∈x.il,n<=9223372036854775807):(Z (Rec.b (.c x)):Int)<=10*k+1:=by show(Z ((67:UInt8)::C8.encB x):Int)<=_;have:=C8.pl_len a;unfold C8.encB;split<;>simp<;>omega
def pM{t:Kst}{c:Cmd}{S:Sta}{ev:bh}(n:Int)(k:Nat)(m:Int)(h:aC t.s c=(S,ev,0))(h1:Z c.il<=k)(e:∀n∈c.il,n<=9223372036854775807)(f:k<=1000)(a:yE t (m+10*k+9))(hm:0<=m:=by decide):
  ∃d i,aK t ⟨1,c,n⟩=(⟨d,i,S⟩,ev,0)/\d=aEX t.d (Rec.b (.c c))/\yE ⟨d,i,S⟩ m:=by
 have hl:=aBj c k h1 e;unfold yE at a;have q:eV t.d (Rec.b (.c c))=0:=by unfold eV;rw[bt o_,bt o_]
 refine⟨aEX t.d (Rec.b (.c c)),t.n+1,?_,rfl,?_⟩
 .show doS t c=_;unfold doS;rw[h,bt s_,bt (by simpa using q)]
 .show (Z (t.d.safe++frm _):Int)+m<=t.d.size;rw[Ah,cU];omega
def tk(k n keep:Int):Kstp:=⟨k,cI n,keep⟩
def aLH{s:Sta}(d:pI s=O)(Be:Z s.hist<=12)(A:Z s.pend+Z s.run<=32):Z (cG s)<=16000:=by
 have w0:=V5 d;obtain⟨z,⟨n1,n2,F,G⟩,I,p,C,m,k⟩:=aAj d;have w:Z (C8.putN (Z (kG s)))<=10:=by grind[C8.pn_len,Int.toNat_natCast]
 have o:Z (C8.pl [s.now,s.nxt,(Z s.hist:Int)])<=30:=by grind[C8.pl_len]
 have t:Z (C8.pl [(Z s.pend:Int)])<=10:=by grind[C8.pl_len]
 have J:Z (C8.pl [(Z s.run:Int)])<=10:=by grind[C8.pl_len]
 have B:=IU s.hist;have j:∀(l:ba),(∀x∈l,x.g.ok=O/\okI [x.seq,x.at']=O)->Z (uC l)<=110*Z l:=by
  intro l;induction l with
  | nil=>intro _;exact Bq _
  | cons x r a=>
   intro h;obtain⟨h1,c⟩:=h x (Aw ..);have e:=BQ x.g h1;have f:=C8.pl_len (qG c);have n:=a λy b=>h y (Bb _ b);simp only[uC,Ah,Al,Bj]at *
   omega
 have i:∀(l:a7),(∀x∈l,x.g.ok=O/\okI [x.seq,x.at',x.st,x.fl]=O/\okI x.hs=O/\x.hs≠[]/\Z x.hs<=16)->Z (qE l)<=290*Z l:=by
  intro l;induction l with
  | nil=>intro _;exact Bq _
  | cons x r a=>
   intro h;obtain⟨h1,c,h3,_,H⟩:=h x (Aw ..);have e:=BQ x.g h1;have f:=C8.pl_len (qG c);have n:=C8.pl_len (qG h3);have v:=a λy b=>h y (Bb _ b);simp only[qE,Ah,Al,Bj]at *
   omega
 have u:=j s.pend m;have q:=i s.run k;unfold cG;simp only[Ah];omega
def OkT.small{s:Sta}(h:OkT s):Sm s.run/\Z s.hist<=1048576:=by have h1:=(h.ok.st h.lt).run;exact⟨h1.sm.run,h1.ord.hl⟩
def OkT.len{s:Sta}(h:OkT s):Z (cG s)<=16000:=aLH (Q0 h.ok) (by have:=h.ok.hist;have:=(BO h.ok.head).ns;omega) h.ok.few
def SB:∀{l:List ay},(∀t∈l,Z t<=16384)->qU l<=16392*Z l
 | [],_=>Bq _
 | t::l,h=>by have h1:=h t (Aw ..);have b:=SB λy a=>h y (Bb _ a);simp only[qU,Al];omega
structure KB(t:Kst)(k:Nat):Prop where
 ex:∃l,Kept t l/\Z l<=k
 nxt:t.s.nxt<=1+k
 few:k<=58
def KB.lens{t:Kst}{k:Nat}(h:KB t k):Z t.d.safe<=960000/\0<=t.d.size/\t.d.size<=1048576/\(Z t.d.safe:Int)<=t.d.size/\0<=t.n/\t.n<=1000000:=by obtain⟨l,h1,f⟩:=h.ex;have a:=SB (xA h1.ok);rw[<-oH,<-h1.safe,Bw]at a;have e:=h1.cl.le;have c:=h1.cl.size;have b:=h1.n;have g:=h.few;omega
def KB.okT{t:Kst}{k:Nat}(h:KB t k):OkT t.s:=h.ex.elim λ_ h=>h.1.okT
def KB.sap{t:Kst}{k:Nat}(h:KB t k)(c:Cmd)(a:c.k=1->c.c.sm):mU t.s c (aC t.s c):=LW t.s c (h.okT.ok.st h.okT.lt) a
def KB.step{t:Kst}{k:Nat}(h:KB t k)(f:k<58)(p:Kstp)(b:p.x.k=1->p.x.c.sm):KB (aK t p).1 (k+1):=by
 obtain⟨l,h1,g⟩:=h.ex;have i:=h.nxt;have a:t.s.nxt<1099511627776:=o_;refine⟨?_,?_,by omega⟩
 .obtain ⟨d,h3,e⟩:=h1.stepL p b a;exact⟨d,h3,by omega⟩
 .have:=aDb t p h.okT a;omega
def KB.le{t:Kst}{k a:Nat}(h:KB t k)(c:k<=a)(b:a<=58):KB t a:=⟨h.ex.elim λl h=>⟨l,h.1,by omega⟩,by have:=h.nxt;omega,b⟩
def kb0(n:Int):KB (jP n) 0:=⟨⟨[],⟨⟨rfl,rfl,by show(0:Int)<=_;simp only[jP,Dk.new];omega,by show(Dk.new n).size<=_;simp only[Dk.new];omega⟩,rfl,rfl,trivial,rfl⟩,Bc _⟩,(by show(1:Int)<=1+0;decide),by decide⟩
def LK{R:Sta×bh×Int}(h:R.2.2=0):R=(R.1,R.2.1,0):=by obtain⟨a,b,c⟩:=R;subst h;rfl
def aDF{s:Sta}{r:Rec}{l:List Rec}(h:OkT s/\okR (r::l) s):YE r/\YQ s r/\OkT (r.to s)/\okR l (r.to s):=by
 obtain⟨h1,b,h3,d⟩:=h;refine⟨?_,?_,r.okT h1 b,d⟩
 .cases r with
  | c x=>
   obtain⟨e,f⟩:=aSh b.1;have a:=C8.decode_ok (C8.encB x) (by have:Z (67::C8.encB x)<=16384:=h3;simp at this;omega);rw[e,f]at a;exact aKO _ x a (by have:Z (67::C8.encB x)<=16384:=h3;simp at this;omega)
  | s x=>
   have a:=aKZ (cG x) (by have:Z (83::cG x)<=16384:=h3;simp at this;omega);unfold aF0 aRo at a;rw[aSg b]at a;exact aKN _ x a (by have:Z (83::cG x)<=16384:=h3;simp at this;omega)
 .cases r with
  | c x=>
   have a:=LW s x (h1.ok.st h1.lt) b.2.1;rw[LK b.1]at a;exact a
  | s x=>trivial
def KB.rpl{t:Kst}{k:Nat}{l:List Rec}(h:Kept t l)(hl:Z l<=1000000):bj 57 [CA 1 (kN (l.map Rec.b)) J0] (GT [t.s.av,.nilif]):=by have:=aDB l hl (λs l=>OkT s/\okR l s) (λs r l h=>aDF h) ⟨aA2,h.ok⟩;rw[<-h.s]at this;exact this
def KB.sop{t:Kst}{k:Nat}(h:KB t k)(f:Bool)(g:ay):ar 19 [G2 0 0] (dkO f t.d.size t.d.safe aR U++[bH g]) (Io (GT [G2 (jdN f+2) 0,ii 0])) (dkC t.d.size (sfV f 1 t.d.safe) aR U::sfT f++[bH g,jnO 0 t.n,Do tSt (G2 (jdN f+1) 0::t.s.cs)]):=by have a:=h.lens;obtain⟨l,h1,c⟩:=h.ex;have h3:=aId f t.d.size (l.map Rec.b) (xA h1.ok) (by rw[<-h1.safe];omega);rw[<-h1.safe,Bw,<-h1.n]at h3;exact AX f f id g _ _ _ t.s _ t.n h3 (KB.rpl (k:=k) h1 (by have:=h.few;omega))
def KB.enc{t:Kst}{k:Nat}(h:KB t k):bj 67 [t.s.av] (GT [HA (cG t.s),ii 0]):=by have a:=Q0 h.okT.ok;have:=aKW t.s h.okT.ok.base.c h.okT.small.1 aAj;unfold aQ7 at this;rw[bu a,bu a]at this;exact this
def aEW{t:Kst}{k:Nat}(h:KB t k)(c:Cmd)(f:Bool)(e:eV t.d (crB c)≠0):ar 61 [G2 0 0,HA (crB c)] (jdO t.n f t.d.size t.d.safe) (Io (ii (eV t.d (crB c)))) (jdO t.n f t.d.size t.d.safe)/\ar 64 [G2 0 0,HA (crB c)] (jdO t.n f t.d.size t.d.safe) (Io (ii (eV t.d (crB c)))) (jdO t.n f t.d.size t.d.safe):=by
 have a:=h.lens;unfold eV at *
 by_cases q:16384<Z (crB c)
 .rw [bu q];exact⟨aD7 _ _ _ _ _ q,aD6 _ _ _ _ _ q⟩
 .rw [bt q]at *
  by_cases b:t.d.size-Z t.d.safe<Z (crB c)+8
  .rw [bu b];exact⟨aMz _ _ _ _ _ o_ a.2.1 a.2.2.1 o_ b,aMw _ _ _ _ _ o_ a.2.1 a.2.2.1 o_ b⟩
  .rw [bt b]at e;exact bv rfl e
def rZ{t:Kst}{c:Cmd}(a:eV t.d (crB c)=0):Z (crB c)<=16384/\(Z (crB c):Int)+8<=t.d.size-Z t.d.safe:=by
 unfold eV at a;split at a
 .cases a
 split at a
 .cases a
 .omega
open C8 (nodL hosL pl pl_append pl_len pn_len il_len ih_len okI_b) in
def aEv(x:Cmd):Z (C8.encB x)<=16000:=by
 have j:∀(l:bf),uL l=O->Z (pl (nodL l))<=110*Z l:=by
  intro l;induction l with
  | nil=>intro _;simp[nodL,pl]
  | cons x r a=>
   intro h;simp only[uL,Af]at h;have h1:=il_len x h.1;have b:=a h.2;simp only[nodL,pl_append,Ah,Al];omega
 have i:∀(l:List Hos),nH l=O->Z (pl (hosL l))<=60*Z l:=by
  intro l;induction l with
  | nil=>intro _;simp[hosL,pl]
  | cons x r a=>
   intro h;simp only[nH,Af]at h;have h1:=ih_len x h.1;have b:=a h.2;simp only[hosL,pl_append,Ah,Al];omega
 unfold C8.encB;split
 .rename_i h;have T:=C8.chk_told h;have z:=T.ln;have o:=T.lh;have d:=T.cok;simp only[Con.tok,Af]at d;obtain⟨⟨h1,b⟩,h3⟩:=d;have p:=j _ h1;have s:=i _ b;have v:Z (nav x.c.ns)=Z x.c.ns:=by simp
  have A:Z (hav x.c.hs)=Z x.c.hs:=by simp
  have C:=pn_len (n:=x.k) (by have:=T.k;omega);have f:=pn_len (n:=x.n) (by have:=T.nok;omega);have t:=pn_len (n:=(Z (nav x.c.ns):Int)) o_;have m:=pn_len (n:=(Z (hav x.c.hs):Int)) o_;have q:=pn_len (n:=x.c.half) (by have:=okI_b h3 x.c.half s_;omega);have B:=pn_len (n:=x.c.age) (by have:=okI_b h3 x.c.age s_;omega);have y:Z (pl x.c.il)<=3000:=by simp only[Con.il,pl_append,pl,Ah,Bj];omega
  have w:=BQ x.g T.gok;have u:Z (pl [x.n])<=10:=by simpa[pl]using f
  have e:=C8.il_cons x _ rfl;rw[<-e,Ah];split
  .omega
  .split
   .omega
   .split
    .simp [pl];omega
    .omega
 .simp
def aNn(x:Cmd):Z (C8.encB x)<=1000000000:=Cp (aEv x) d_
def KB.do_e{t:Kst}{k:Nat}(h:KB t k)(c:Cmd)(l:c.k=1->c.c.sm)(f:Bool)(i:(aC t.s c).2.2≠0\/eV t.d (crB c)≠0):
  ar 22 [G2 0 0,c.av] (stS t.s t.n f t.d.size t.d.safe) (Io (GT [CA 3 [] .nil,ii (doS t c).2.2])) (stS t.s t.n f t.d.size t.d.safe)/\
  ar 24 [G2 0 0,c.av] (stS t.s t.n f t.d.size t.d.safe) (Io (ii (doS t c).2.2)) (stS t.s t.n f t.d.size t.d.safe)/\(doS t c).1=t/\(doS t c).2.1=[]/\wrE t c=(doS t c).2.2/\(doS t c).2.2≠0:=by
 have hs:=h.sap c l;unfold doS wrE;by_cases q:(aC t.s c).2.2=0
 .have a:eV t.d (crB c)≠0:=i.resolve_left λh=>h q;have e:eV t.d (Rec.b (.c c))≠0:=a;rw[bt (by simpa using q),bu e,bt (by simpa using q)];rw[LK q]at hs;obtain⟨g,j⟩:=aEW h c f a;exact⟨aR2 _ _ _ _ hs (aNn c) _ _ _ _ _ a g,aPk _ _ _ _ hs (aNn c) _ _ _ _ _ j,rfl,rfl,rfl,a⟩
 .rw [bu q,bu q];exact⟨aR1 _ _ _ hs q _ _ _ _,aPj _ _ _ hs q _ _ _ _,rfl,rfl,rfl,q⟩
def KB.do_ok{t:Kst}{k:Nat}(h:KB t k)(c:Cmd)(g:c.k=1->c.c.sm)(f:Bool)(q:(aC t.s c).2.2=0)(i:eV t.d (crB c)=0):
  ar 22 [G2 0 0,c.av] (stS t.s t.n f t.d.size t.d.safe) (Io (GT [CA 3 (evv (aC t.s c).2.1) J0,ii 0])) (stG (aC t.s c).1 (t.n+1) f t.d.size (t.d.safe++frm (crB c)))/\
  ar 24 [G2 0 0,c.av] (stS t.s t.n f t.d.size t.d.safe) (Io (ii 0)) (Do tSt (G2 1 0::t.s.cs)::jnO 2 t.n::dkC t.d.size (sfV f 3 t.d.safe) (wtB (frm (crB c))) U::sfT f):=by
 have a:=h.lens;have hs:=h.sap c g;rw[LK q]at hs;obtain⟨b,e⟩:=rZ i
 exact⟨aPu _ _ _ _ hs (aNn c) _ _ _ _ (aMy f t.n t.d.size t.d.safe (crB c) ⟨a.2.2.2.2.1,a.2.2.2.2.2⟩ b a.2.1 a.2.2.1 o_ e),
  aKI _ _ _ _ hs (aNn c) _ _ _ _ (aMv f t.n t.d.size t.d.safe (crB c) b a.2.1 a.2.2.1 o_ e)⟩
def lD{t:Kst}{c:Cmd}(q:(aC t.s c).2.2=0)(e:eV t.d (crB c)=0):doS t c=(⟨aEX t.d (crB c),t.n+1,(aC t.s c).1⟩,(aC t.s c).2.1,0):=by have a:eV t.d (Rec.b (.c c))=0:=e;unfold doS;rw[bt (by simpa using q),bt (by simpa using a)];rfl
def KB.snap_any{t:Kst}{k:Nat}(h:KB t k):gD t=0/\(Z (83::cG t.s):Int)+8<=t.d.size\/gD t=9/\t.d.size<(Z (83::cG t.s):Int)+8:=by
 have hl:Z (83::cG t.s)<=16384:=by have:=h.okT.len;simp only[Al];omega
 have e:(Rec.b (.s t.s))=83::cG t.s:=rfl;unfold gD;rw[e,bt o_];split
 .rename_i q;exact .inr ⟨rfl,q⟩
 .exact .inl ⟨rfl,by omega⟩
def KB.snap_ok{t:Kst}{k:Nat}(h:KB t k)(f:Bool)(q:gD t=0):ar 33 [G2 0 0] (stS t.s t.n f t.d.size t.d.safe) (Io (ii 0)) (Do tSt (G2 1 0::t.s.cs)::jnO 2 1::dkC t.d.size (sfV U 3 (frm (83::cG t.s))) aR U::sfT f):=by
 have hl:=h.okT.len;rcases h.snap_any with⟨e,a⟩|⟨e,_⟩
 .exact aFN t.s (cG t.s) h.enc o_ _ _ _ _ (aMx f t.n t.d.size t.d.safe (83::cG t.s) (by simp only[Al];omega) a)
 .rw [e]at q;cases q
def AY{t:Kst}(q:gD t=0):jG t=⟨⟨t.d.size,frm (83::cG t.s),[],U⟩,1,t.s⟩:=by unfold jG;rw[bu q];rfl
abbrev cDo(f:Bool)(g:ay)(t:Kst)(p:Kstp)(a:aa)(As:aw):Prop:=ar 11 [G2 0 0,nQ p.k p.x p.n] (drS f f g t.d.size t.d.safe t.n t.s) (Io a) As
inductive DoO(g:ay)(t t':Kst)(p:Kstp)(a:aa):Bool->Prop
 | same {f} (h:cDo f g t p a (drS f f g t'.d.size t'.d.safe t'.n t'.s)):DoO g t t' p a f
 | full (h:cDo O g t p a (drS O U g t'.d.size t'.d.safe t'.n t'.s)):DoO g t t' p a O
 | grow {f} (h:cDo f g t p a (drG f g t'.d.size t'.d.safe t'.n t'.s)):DoO g t t' p a f
 | anew {f} (m:Int) (S:Sta) (h:cDo f g t p a (drR f f g t'.d.size t'.d.safe m t'.n S t'.s)):DoO g t t' p a f
 | wt (m:Int) (S:Sta) (h:cDo O g t p a (drW O g t'.d.size t'.d.safe m t'.n S t'.s)):DoO g t t' p a O
 | wf (m:Int) (S:Sta) (h:cDo O g t p a (drW U g t'.d.size t'.d.safe m t'.n S t'.s)):DoO g t t' p a O
 | xt (m:Int) (S:Sta) (h:cDo U g t p a (drX O g t'.d.size t'.d.safe m t'.n S t'.s)):DoO g t t' p a U
 | xf (m:Int) (S:Sta) (h:cDo U g t p a (drX U g t'.d.size t'.d.safe m t'.n S t'.s)):DoO g t t' p a U
def B3(s:Sta):(aC s Cmd.zero).1=s/\(aC s Cmd.zero).2.2=1:=by unfold aC;rw[bu d_];exact⟨rfl,(by show C8.chk Cmd.zero=1;decide)⟩
def kD(t:Kst)(c:Cmd):(doS t c).1.d.size=t.d.size:=by
 unfold doS;split
 .rfl
 split<;>rfl
def wgt(c:Con):Int:=1+(Z (nav c.ns):Nat)+(Z (hav c.hs):Nat)
def smR(M:Int):List Con->Int->Int
 | [],n=>n
 | c::l,n=>if n<M then smR M l (n+wgt c)else n
def aAD{c:Con}(h:c.sm):1<=wgt c/\wgt c<=2097153:=by
 have b:Z (nav c.ns)=Z c.ns:=by simp
 have a:Z (hav c.hs)=Z c.hs:=by simp
 have:=h.ns;have:=h.hs;unfold wgt;omega
set_option maxRecDepth 100000
def KY:ay:=[115,116,111,114,101,58,32,110,111,32,114,101,99,111,114,100]
def own:ownKnob Tryz.prog.godebug=none:=by kernel_rfl
def aJl: "*" ++ "errors.errorString" = "*errors.errorString" :=by decide
def aTd(u:TypeId)(h:Tryz.prog.typeName? 3 u=some "*errors.errorString"):u=430:=
 typeName_ptr_named (nm:= "errors.errorString") (by rw [aJl];kernel_rfl) (by kernel_rfl) d_ u (by rw [aJl];exact h)
noncomputable def iG(os:Os):World:=
 let N:=(World.settled Tryz.prog os).heap.size
 let w0:=World.holding Tryz.prog os ⟨#[.cells #[.string ⟨KY.toArray⟩] 452],#[],[]⟩
 {w0 with heap:=w0.heap.modify 0 fun
   | .cells _ t a=>.cells #[.iface 430 (.pointer (X ⟨N,0,D⟩))] t a
   | o=>o}
def BH(os:Os)(args:Array Value):laidMet Tryz.prog [("tithebarn/store.errBad",Rows.laid_tithebarn_store_errBad)] ((iG os).forCall (λ_ _=>0) ⟨#[],args,[]⟩).memory:=
 laidMet_of_run' 8 (by kernel_rfl) (by kernel_rfl)
def pS{W:World}(h:laidMet Tryz.prog [("tithebarn/store.errBad",Rows.laid_tithebarn_store_errBad)] W):∃ u,W.cell? ⟨0,0,none⟩=some u∧u.oneCell'=true∧Rep (Mg W 0 (aEB KY)) [] u (aEB KY):=by
 obtain⟨a,s,n,f,hs,hm⟩:=laid_sentinel (g:=0) h (by kernel_rfl) (by kernel_rfl) underlying117 aTd underlying430 underlying452 rfl rfl underlying9 (by kernel_rfl) (by kernel_rfl);have m:W.cell? ⟨0,0,D⟩=X (.iface 430 (.pointer (X a))):=by have:=World.var?_cell (g:=0) (by kernel_rfl) n 0;simpa using this
 obtain⟨b,o,k⟩:=a;have i:k=none:=by
  cases k with
  | none=>rfl
  | some x=>
   unfold Kz at f;dsimp only at f;split at f
   .simp at f
   .cases f
 subst i;refine⟨_,m,rfl,.iface _ _ _ (.ptr b o _ λj c l=>?_)⟩;cases j with
 | zero=>
  cases l;refine .inl ⟨_,f,rfl,?_⟩;have e:s=⟨KY.toArray⟩:=by obtain⟨d⟩:=s;have hs:d.toList=KY:=hs;rw[<-hs]
  rw[e];exact .str KY d_
 | succ j=>simp at l
end Go.Proofs.YtenkdioaefckoaaGreatDoor
