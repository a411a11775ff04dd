/- Part 12 of what the statement rests on. -/
import Derived.Test.YtbpccabomgalhaaGreatDoorTA
set_option linter.all false
set_option maxHeartbeats 1000000
open And renaming intro->Ab
open Exists renaming intro->Ao
open Int renaming toNat_natCast->Bn
open List renaming drop_eq_getElem_cons->Ag,drop_eq_nil_of_le->Ai,drop_zero->Cg,eq_nil_of_length_eq_zero->Ay,getElem?_eq_getElem->Aa,getElem?_eq_none->Bg,getElem_mem->Bd,length_eq_one_iff->Ho,map_append->Bk,map_cons->Bl,map_map->Dn,mem_cons->Bc,mem_cons_of_mem->Bb,mem_cons_self->Ar,mem_map->Bq,mem_map_of_mem->Cc,nodup_append->Cs,nodup_cons->Bx
open Option.some renaming inj->Mi
set_option maxRecDepth 10000
namespace Go.Proofs.YtbpccabomgalhaaGreatDoor
open Go Go.AW Go.Proofs
def zqtp0{P:Prop}(h:P:=by
 have h:b=false:=h;refine gV ?_;refine ⟨⟨by simp only [maxLen];simp;omega,by simp;omega⟩,?_⟩;refine gV ?_
 rfl):P:=h
def zqtp1{P:Prop}(h:P:=by
 dsimp only;by_cases c:p.g.id=h
 .rw [if_pos c];exact .inr ⟨⟨p,Ar ..,c⟩,_,rfl⟩
 .rw [if_neg c];refine .inl ⟨λ q b=>?_,rfl⟩;rcases Bc.1 b with rfl | b
  .exact c
  .exact a q b):P:=h
def zqtp2{P:Prop}(h:P:=by
 rcases a with e | ⟨k,n,e⟩
 .rw [e];dsimp only;split
  .exact .inr ⟨_,_,rfl⟩
  .exact .inl rfl
 .rw [e];exact .inr ⟨k,n,rfl⟩):P:=h
def zqtp3{P:Prop}(h:P:=by
 refine To.part [0,2,4,5] [0] rfl rfl rfl ?_
 exact next):P:=h
def aAx:aq 16 [] [] (.ret (.agg [.slice 11 (nav XE.ns) .full,.slice 6 (hav XE.hs) .full,ii 10,ii 0])) []:=by exact c_ Tryz.f16 λ_=>zW
def XC:aq 16 [] [] (.ret XE.av) []:=aA.less aAx
def BV(c:Cmd):aq 14 [c.av] [] (.ret (Kstp.av ⟨1,c,0⟩)) []:=by exact c_ Tryz.f14 λ_=>zW
def aAH(id t run:Int):aq 17 [ii id,ii t,ii run] [] (.ret (Kstp.av ⟨1,K9 id t run,0⟩)) []:=by have h1:=BV (K9 id t run);exact c_ Tryz.f17 λ_=>zW
def aFb:∀ p∈XD,p.x.c.sm:=by intro p hp;refine ⟨?_,?_⟩<;>(revert p;decide)
def aJx:stv XD=[Kstp.av ⟨1,⟨1,XE,Gan.zero,0⟩,0⟩,Kstp.av ⟨1,K9 1 1 50,0⟩,Kstp.av ⟨1,K9 2 1 50,0⟩,Kstp.av ⟨1,aAE,0⟩,Kstp.av ⟨3,Cmd.zero,0⟩,Kstp.av ⟨1,K9 3 2 9,0⟩,Kstp.av ⟨1,aAE,0⟩]:=rfl
set_option maxHeartbeats 1000000 in
def Z2(g:ay):aq 5 [] [dF g] (.ret (.bool true)) [dF g]:=by
 obtain ⟨a,b,c,d,e,f,x,y,m⟩:=aNJ;obtain ⟨j,k⟩:=w28;rw [m] at j;obtain ⟨l,n,i⟩:=aNI;have hp:=aGm 5000 XD d_ aFb g;rw [j,k,aJx] at hp;clear m j k;generalize tS2=S at *
 obtain ⟨C,now,nxt,pend,run,hist⟩:=S;dsimp only at l n i
 match run,pend,l,n,i with
 | [r1,r2],[p],_,_,i=>
  obtain ⟨⟨o,D,F,n2,v,l2,B⟩,w,s,z,t,u⟩:=r2;obtain rfl:o=3:=Mi i;have h1:=XC;have q:=BV aAE;have r:=BV ⟨1,XE,Gan.zero,0⟩;have h3:=aAH;refine cT (E:=E) (fn:=Tryz.f5) (g:=.full 1 _ _) λ_=>?_
  repeat' first | (refine gN hE ?_;conv=>whnf) | refine .pure _ [] h1 ?_ | refine .pure _ [] (aA.strip q) ?_ | refine .pure _ [] (aA.strip r) ?_ | refine .pure _ [] (h3 _ _ _) ?_ | refine .look [0] _ _ rfl rfl (aA.strip hp) (λ_=>rfl) (λ_=>rfl) ?_ | exact zx [0] | exact rfl | refine zt ?_ | refine zu ?_ ?_ | intro h | fail
def hdE:bg->Int×Int×Bool
 | []=>(0,0,false)
 | e::r=>if e.k=4 then (e.id,e.n,true) else hdE r
structure GOK(s:Sta):Prop where
 cap:∀ h∈s.c.hs,h.c.pos
 gang:∀ x∈s.pend++s.run.map Rn.pn,am x.g
structure WInv(s:Sta)(r:Rd)(done:a7):Prop where
 sub:∀ p∈r.s.pend,p∈s.pend
 hd:(hdE r.ev).2.2=r.head
 st:r.head=true->(hdE r.ev).2.1=r.start
 w:∀ p∈r.s.pend,p∈done->cG s.c r.s.run p.g=none\/(r.head=true/\((hdE r.ev).1=p.g.id\/bmB s.now p.g r.start=false))
noncomputable abbrev fTp:Func:=Tryz.f4
def aAA(L:List Cmd)(n:Int)(i:Nat)(d:i<=1048576)(h:L.length<=i\/400<=n)(Q:Sta×Bool)(h1:400<=n\/40<L.length->Q=(fC,false))(a:¬ (400<=n\/40<L.length)->aq 13 [.slice 15 (cmv L) .no] [] (.ret (.tup [Q.1.av,.slice 1 (iv (kN L fC []).2) .no])) []/\Q.2=true):
  To E fTp (.pure (.ret (.tup [Q.1.av,.bool Q.2]))) (.head (stk fTp 0) [(0,.slice 15 (cmv L) .no),(2,.ref 0 0),(4,ii n),(5,ii i)] [aES]):=by
 have c:(cmv L).length=L.length:=by simp
 have b:=IJ;obtain ⟨S,ok⟩:=Q;by_cases q:400<=n\/40<L.length
 .have h1:=h1 q;clear a;obtain ⟨rfl,rfl⟩:=Prod.mk.inj h1;clear h1;by_cases e:400<=n
  .by_cases g:L.length<=i
   .refine gV ?_
    repeat' first | (refine gN hE ?_;conv=>whnf) | refine .pure _ [] b ?_ | exact rfl | refine zt ?_ | refine zu ?_ ?_ | intro h | fail
   .refine gV ?_
    repeat' first | (refine gN hE ?_;conv=>whnf) | refine .pure _ [] b ?_ | exact rfl | refine zt ?_ | refine zu ?_ ?_ | intro h | fail
  .refine gV ?_
   repeat' first | (refine gN hE ?_;conv=>whnf) | refine .pure _ [] b ?_ | exact rfl | refine zt ?_ | refine zu ?_ ?_ | intro h | fail
 .obtain ⟨a,h3⟩:=a q;have h3:ok=true:=h3;subst h3;clear h1;generalize (kN L fC []).2=es at *
  refine gV ?_
  repeat' first | (refine gN hE ?_;conv=>whnf) | refine .pure _ [] a ?_ | exact rfl | refine zt ?_ | refine zu ?_ ?_ | intro h | fail
def TR(L:List Cmd)(u:L.length<=1048576)(l:∀ p∈L,p.c.sm)(R:Int)(Q:Sta×Bool)(h1:400<=R\/40<L.length->Q=(fC,false))(d:¬ (400<=R\/40<L.length)->aq 13 [.slice 15 (cmv L) .no] [] (.ret (.tup [Q.1.av,.slice 1 (iv (kN L fC []).2) .no])) []/\Q.2=true):
  ∀ (m i:Nat) (n:Int),i+m=L.length->0<=n->n<=3000000->smR 400 ((L.drop i).map Cmd.c) n=R->
  To E fTp (.pure (.ret (.tup [Q.1.av,.bool Q.2]))) (.head (stk fTp 0) [(0,.slice 15 (cmv L) .no),(2,.ref 0 0),(4,ii n),(5,ii i)] [aES]):=by
 have j:(cmv L).length=L.length:=by simp
 intro m;induction m with
 | zero=>
  intro i n k _ _ a;rw [Ai o_] at a;have a:n=R:=a;subst a;exact aAA L n i o_ (.inl o_) Q h1 d
 | succ m g=>
  intro i n k r v a;have b:i<L.length:=o_;rw [Ag b] at a;have get:(cmv L)[i]? =some L[i].av:=by simp [b]
  have hp:=l L[i] (Bd b);generalize L[i]=p at a get hp;rw [Bl] at a;unfold smR at a;by_cases e:n<400
  .rw [if_pos e] at a;obtain ⟨o,q⟩:=aLZ hp;have next:=g (i+1) (n+wgt p.c) o_ o_ o_ a
   have l1:(nav p.c.ns).length=p.c.ns.length:=by simp
   have l2:(hav p.c.hs).length=p.c.hs.length:=by simp
   have t:=hp.ns;have s:=hp.hs;unfold wgt at next
   clear g a o q h1 d;refine gV ?_
   repeat' first | (refine gN hE ?_;conv=>whnf) | refine ⟨i,rfl,?_⟩ | refine ⟨_,get,?_⟩ | exact rfl | refine zt ?_ | refine zu ?_ ?_ | intro h | fail
   exact zqtp3
  .rw [if_neg e] at a;subst a;exact aAA L n i o_ (.inr o_) Q h1 d
def aAz(L:List Cmd)(b:L.length<=1048576)(a:∀ p∈L,p.c.sm):∃ S ok,(ok=true->S=(kN L fC []).1/\L.length<=40)/\(ok=false->S=fC)/\aq 4 [.slice 15 (cmv L) .no] [] (.ret (.tup [S.av,.bool ok])) []:=by
 by_cases q:400<=smR 400 (L.map Cmd.c) 0\/40<L.length
 .refine ⟨fC,false,(λ h=>by cases h),λ_=>rfl,?_⟩;have next:=TR L b a _ (fC,false) (λ_=>rfl) (λ h=>absurd q h) L.length 0 0 o_ d_ d_ (by rw [Cg])
  refine c_ Tryz.f4 λ_=>?_
  repeat' first | (refine gN hE ?_;conv=>whnf) | exact rfl | refine zt ?_ | refine zu ?_ ?_ | intro h | fail
  exact zqtp3
 .refine ⟨(kN L fC []).1,true,λ_=>⟨rfl,by omega⟩,(λ h=>by cases h),?_⟩;have hp:=aA0 L o_ OkL MS (MR o_ a);have next:=TR L b a _ ((kN L fC []).1,true) (λ h=>absurd h q) (λ_=>⟨hp,rfl⟩) L.length 0 0 o_ d_ d_ (by rw [Cg])
  generalize (kN L fC []).1=S at *
  refine c_ Tryz.f4 λ_=>?_
  repeat' first | (refine gN hE ?_;conv=>whnf) | exact rfl | refine zt ?_ | refine zu ?_ ?_ | intro h | fail
  exact zqtp3
noncomputable abbrev aHC:Func:=Tryz.f34
abbrev plV(k n:Int):aa:=.agg [ii k,ii n]
def plR:a6->Ent->Ent
 | [],es=>es
 | r::l,es=>plR l (kF es [r.g.id] (plV 2 (dG r)))
def plP:a7->Ent->Ent
 | [],es=>es
 | p::l,es=>plP l (kF es [p.g.id] (plV 1 p.at'))
def plM(s:Sta):Ent:=plP s.pend (plR s.run [])
abbrev wtS(s:Sta):ab:=.cells 31 s.cs
def aGn(s:Sta)(hs:s.pend.length<=1048576)(R:Ent):∀ (m i:Nat) (es:Ent),i+m=s.pend.length->plP (s.pend.drop i) es=R->
  To E aHC (.full 0 (.ret (.mref 0)) [.mp false R]) (.head (stk aHC 1) [(1,.ref 0 0),(3,.mref 1),(25,.slice 11 (pnv s.pend) .no),(26,.int .i64 ((pnv s.pend).length:Nat)),(27,ii i)] [wtS s,.mp false es]):=by
 have d:(pnv s.pend).length=s.pend.length:=by simp
 intro m;induction m with
 | zero=>
  intro i es e a;rw [Ai o_] at a;have a:es=R:=a;subst a;refine gV ?_;refine aF λ h=>?_
  repeat' first | (refine gN hE ?_;conv=>whnf) | exact zx [1] | exact rfl | refine zt ?_ | refine zu ?_ ?_ | intro h | fail
 | succ m c=>
  intro i es e a;have b:i<s.pend.length:=o_;rw [Ag b] at a;have get:(pnv s.pend)[i]? =some (Pn.av s.pend[i]):=by simp [b]
  generalize s.pend[i]=p at a get;have next:=c (i+1) _ o_ a
  clear c a;refine gV ?_;refine aT λ h=>?_
  repeat' first | (refine gN hE ?_;conv=>whnf) | refine ⟨i,rfl,?_⟩ | refine ⟨_,get,?_⟩ | exact rfl | refine zt ?_ | refine zu ?_ ?_ | intro h | fail
  refine To.part [1,3,25,26,27] [0,1] rfl rfl rfl ?_;exact next
def aKl(s:Sta)(hs:s.pend.length<=1048576)(k:s.run.length<=1048576)(R c:Ent)(g:plP s.pend c=R):∀ (m i:Nat) (es:Ent),i+m=s.run.length->plR (s.run.drop i) es=c->
  To E aHC (.full 0 (.ret (.mref 0)) [.mp false R]) (.head (stk aHC 0) [(1,.ref 0 0),(3,.mref 1),(10,.slice 14 (rav s.run) .no),(11,.int .i64 ((rav s.run).length:Nat)),(12,ii i)] [wtS s,.mp false es]):=by
 have e:(rav s.run).length=s.run.length:=by simp
 intro m;induction m with
 | zero=>
  intro i es f a;rw [Ai o_] at a;have a:es=c:=a;subst a;have next:=aGn s hs R s.pend.length 0 es o_ (by rw [Cg];exact g)
  refine gV ?_;refine aF λ h=>?_
  repeat' first | (refine gN hE ?_;conv=>whnf) | exact rfl | refine zt ?_ | refine zu ?_ ?_ | intro h | fail
  refine To.part [1,3,25,26,27] [0,1] rfl rfl rfl ?_;exact next
 | succ m d=>
  intro i es f a;have b:i<s.run.length:=o_;rw [Ag b] at a;have get:(rav s.run)[i]? =some (Rn.av s.run[i]):=by simp [b]
  generalize s.run[i]=x at a get;have next:=d (i+1) _ o_ a
  have j:=yI x;clear d a;refine gV ?_;refine aT λ h=>?_
  repeat' first | (refine gN hE ?_;conv=>whnf) | refine ⟨i,rfl,?_⟩ | refine ⟨_,get,?_⟩ | refine .pure _ [] j ?_ | exact rfl | refine zt ?_ | refine zu ?_ ?_ | intro h | fail
  refine To.part [1,3,10,11,12] [0,1] rfl rfl rfl ?_;exact next
def X6(s:Sta)(hs:s.pend.length<=1048576)(a:s.run.length<=1048576):aq 34 [s.av] [] (.ret (.mref 0)) [.mp false (plM s)]:=by
 have next:=aKl s hs a _ _ rfl s.run.length 0 [] o_ (by rw [Cg])
 refine cT (E:=E) (fn:=Tryz.f34) (g:=.full 0 _ _) λ_=>?_
 repeat' first | (refine gN hE ?_;conv=>whnf) | exact rfl | refine zt ?_ | refine zu ?_ ?_ | intro h | fail
 refine To.part [1,3,10,11,12] [0,1] rfl rfl rfl ?_;exact next
def mS(h:Int):a6->Option aa
 | []=>none
 | r::l=>match mS h l with | some v=>some v | none=>if r.g.id=h then some (plV 2 (dG r)) else none
def mT(h:Int):a7->Option aa
 | []=>none
 | p::l=>match mT h l with | some v=>some v | none=>if p.g.id=h then some (plV 1 p.at') else none
def aCq(h:Int):∀ (l:a6) (es:Ent),bB (plR l es) [h]=match mS h l with | some v=>some v | none=>bB es [h]
 | [],es=>rfl
 | r::l,es=>by
  unfold plR mS;rw [aCq h l];cases mS h l with
  | some v=>rfl
  | none=>
   rw [xU];by_cases e:r.g.id=h
   .simp [e]
   .simp [e]
def aCr(h:Int):∀ (l:a7) (es:Ent),bB (plP l es) [h]=match mT h l with | some v=>some v | none=>bB es [h]
 | [],es=>rfl
 | p::l,es=>by
  unfold plP mT;rw [aCr h l];cases mT h l with
  | some v=>rfl
  | none=>
   rw [xU];by_cases e:p.g.id=h
   .simp [e]
   .simp [e]
def aCs(s:Sta)(h:Int):bB (plM s) [h]=match mT h s.pend with | some v=>some v | none=>mS h s.run:=by unfold plM;rw [aCr,aCq];cases mT h s.pend<;>cases mS h s.run<;>rfl
def aMM:Option aa->Int
 | some (.agg (.int .i64 k::_))=>k
 | _=>0
def pk(s:Sta)(h:Int):Int:=aMM (bB (plM s) [h])
def UW(s:Sta)(h:Int):bB (plM s) [h]=none/\pk s h=0\/∃ k n,bB (plM s) [h]=some (plV k n)/\pk s h=k:=by
 unfold pk;rw [aCs];have c:∀ l:a6,mS h l=none\/∃ k n,mS h l=some (plV k n):=by
  intro l;induction l with
  | nil=>exact .inl rfl
  | cons r l a=>
   unfold mS;exact zqtp2
 have b:∀ l:a7,mT h l=none\/∃ k n,mT h l=some (plV k n):=by
  intro l;induction l with
  | nil=>exact .inl rfl
  | cons r l a=>
   unfold mT;exact zqtp2
 rcases b s.pend with e | ⟨k,n,e⟩
 .rw [e];rcases c s.run with e | ⟨k,n,e⟩
  .rw [e];exact .inl ⟨rfl,rfl⟩
  .rw [e];exact .inr ⟨k,n,rfl,rfl⟩
 .rw [e];exact .inr ⟨k,n,rfl,rfl⟩
def uF(h:Int):∀ l:a7,((∀ p∈l,p.g.id≠h)/\mT h l=none)\/((∃ p∈l,p.g.id=h)/\∃ n,mT h l=some (plV 1 n))
 | []=>.inl ⟨λ p hp=>(by cases hp),rfl⟩
 | p::l=>by
  unfold mT;rcases uF h l with ⟨a,e⟩ | ⟨⟨q,b,a⟩,n,e⟩
  .rw [e];exact zqtp1
  .rw [e];exact .inr ⟨⟨q,Bb _ b,a⟩,n,rfl⟩
def DC(h:Int):∀ l:a6,((∀ p∈l,p.g.id≠h)/\mS h l=none)\/((∃ p∈l,p.g.id=h)/\∃ n,mS h l=some (plV 2 n))
 | []=>.inl ⟨λ p hp=>(by cases hp),rfl⟩
 | p::l=>by
  unfold mS;rcases DC h l with ⟨a,e⟩ | ⟨⟨q,b,a⟩,n,e⟩
  .rw [e];exact zqtp1
  .rw [e];exact .inr ⟨⟨q,Bb _ b,a⟩,n,rfl⟩
abbrev YT(s:Sta):Prop:=((s.pend++s.run.map Rn.pn).map λ x=>x.g.id).Nodup
def aHi{s:Sta}(h:YT s){p:Pn}(hp:p∈s.pend){r:Rn}(a:r∈s.run):p.g.id≠r.g.id:=by unfold YT at h;rw [Bk,Cs] at h;exact h.2.2 _ (Cc hp) _ (Bq.2 ⟨r.pn,Cc a,rfl⟩)
def aMy(h:Int):a6->Int×Int
 | []=>(0,0)
 | r::l=>if r.g.id=h then (2,dG r) else aMy h l
def aMz(h:Int):a7->Option Int
 | []=>none
 | p::l=>if p.g.id=h then some p.at' else aMz h l
def plc(s:Sta)(h:Int):Int×Int:=match aMz h s.pend with | some n=>(1,n) | none=>aMy h s.run
def CB(w:World):(callFunc 205 #[]).run Tryz.prog w= .ok (.value (.tuple #[])) w:=run_call_mark0 Tryz.func205 (by kernel_rfl) (by kernel_rfl) (by kernel_rfl) .disable (by kernel_rfl) w
def F2(w:World):(callFunc 207 #[]).run Tryz.prog w= .ok (.value (.tuple #[])) w:=run_call_mark0 Tryz.func207 (by kernel_rfl) (by kernel_rfl) (by kernel_rfl) .enable (by kernel_rfl) w
def QJ(a:Addr)(w:World):(callFunc 208 #[.pointer (some a)]).run Tryz.prog w= .ok (.value (.tuple #[])) w:=run_call_marked Tryz.func208 (by kernel_rfl) (by kernel_rfl) (by kernel_rfl) .acquire (by kernel_rfl) a w
def QI(a:Addr)(w:World):(callFunc 210 #[.pointer (some a)]).run Tryz.prog w= .ok (.value (.tuple #[])) w:=run_call_marked Tryz.func210 (by kernel_rfl) (by kernel_rfl) (by kernel_rfl) .releaseMerge (by kernel_rfl) a w
def aGS(a:Addr)(w:World)(c:w.cell? a=some (.int .i32 0))(hz:w.frozen? a=false):
  Calls Tryz.prog 154 #[.pointer (some a)] w λ e w'=>e= .returned (.tuple #[])/\w'=w.setCell a (.int .i32 1):=by
 have hd:=CB;have i:=F2;have h:=QJ;have d:=run_call_cas_hit (P:=Tryz.prog) Tryz.func206 (by kernel_rfl) (by kernel_rfl) (by kernel_rfl) .i32 (by kernel_rfl) (y:=1) c hz;have b:(w.setCell a (.int .i32 1)).cell? a=some (.int .i32 1):=World.cell?_setCell_same w a _ c;have g:=run_convert_to_unsafe (P:=Tryz.prog) (src:=324) (dst:=328) Tryz.underlying324 Tryz.underlying328 (by kernel_rfl) b
 go_enter Tryz.func154,Tryz.ntmps154
 go_wp2
 first | go_end0 | (simp only [Exit.inBlock,Exit.then];refine bodyPost_ret (results_none rfl _ _ _) rfl ?_) | refine bodyPost_ret (results_none rfl _ _ _) rfl ?_
 go_wp2
def XB(a:Addr)(w:World)(b:w.cell? a=some (.int .i32 1))(hz:w.frozen? a=false):
  Calls Tryz.prog 155 #[.pointer (some a)] w λ e w'=>e= .returned (.tuple #[])/\w'=w.setCell a (.int .i32 0):=by
 have hd:=CB;have h:=F2;have g:=QI;have c:=run_call_add (P:=Tryz.prog) Tryz.func211 (by kernel_rfl) (by kernel_rfl) (by kernel_rfl) .i32 (by kernel_rfl) (y:= -1) (s:=0) b hz (by simp [go_sem];rfl);have d:=run_convert_to_unsafe (P:=Tryz.prog) (src:=324) (dst:=328) Tryz.underlying324 Tryz.underlying328 (by kernel_rfl) b
 go_enter Tryz.func155,Tryz.ntmps155
 go_wp2
 go_end0
 go_wp2
abbrev tWt:TypeId:=98
abbrev wC(s:Sta)(d m:Int)(g u:aa)(n:Int):ax:=s.cs++[.int .u32 d,.int .i32 m,.int .u32 0,g,u,ii n]
abbrev wO(s:Sta)(d m:Int)(f:Bool)(n:Int):au:=match f with
 | false=>[.cells tWt (wC s d m .nilmap (.slice 3 [] .nil) n)]
 | true=>[.cells tWt (wC s d m (.mref 1) (.slice 3 (vav (ofL s.c s.run)) .no) n),.mp false (plM s)]
def ldU(T:TypeId)(cs:ax)(ac:au)(o:Nat)(x:Int)(c:cs[o]? =some (.int .u32 x)):aq 99 [.ref 0 o] (.cells T cs::ac) (.ret (.int .u32 x)) (.cells T cs::ac):=
 GC (λ a x w b=>run_call_load Tryz.func99 (by kernel_rfl) (by kernel_rfl) (by kernel_rfl) .u32 (by kernel_rfl) b) T cs ac o x c
def ldI(T:TypeId)(cs:ax)(ac:au)(o:Nat)(x:Int)(c:cs[o]? =some (.int .i64 x)):aq 43 [.ref 0 o] (.cells T cs::ac) (.ret (.int .i64 x)) (.cells T cs::ac):=
 GC (λ a x w b=>run_call_load Tryz.func43 (by kernel_rfl) (by kernel_rfl) (by kernel_rfl) .i64 (by kernel_rfl) b) T cs ac o x c
def nX{M:Imm}{ob:Hs}:Rep M ob (.tuple #[]) (.tup []):=.tup [] [] rfl (λ i v a b=>by simp at b)
def aI4(T:TypeId)(cs:ax)(ac:au)(o:Nat)(e:cs[o]? =some (.int .i32 0)):aq 154 [.ref 0 o] (.cells T cs::ac) (.ret (.tup [])) (.cells T (cs.set o (.int .i32 1))::ac):=
 HX (λ_ _=>by rfl) T cs ac o e λ M ob a u vs w c b d hz=>by obtain rfl:=c.int_inv.1;obtain rfl:vs=[]:=Ay b.1;exact ⟨_,_,rfl,.int _ _ ⟨by simp only [bW];omega,by simp only [aW];omega⟩,nX,aGS a w d hz⟩
def aE7(T:TypeId)(cs:ax)(ac:au)(o:Nat)(e:cs[o]? =some (.int .i32 1)):aq 155 [.ref 0 o] (.cells T cs::ac) (.ret (.tup [])) (.cells T (cs.set o (.int .i32 0))::ac):=
 HX (λ_ _=>by rfl) T cs ac o e λ M ob a u vs w c b d hz=>by obtain rfl:=c.int_inv.1;obtain rfl:vs=[]:=Ay b.1;exact ⟨_,_,rfl,.int _ _ ⟨by simp only [bW];omega,by simp only [aW];omega⟩,nX,XB a w d hz⟩
section
variable (s:Sta) (f:Bool) (n:Int)
def aCn(d:Int):aq 100 [.ref 0 10] (wO s d 0 f n) (.ret (.tup [])) (wO s d 1 f n):=by
 cases f
 .have h:=aI4 tWt (wC s d 0 .nilmap (.slice 3 [] .nil) n) [] 10 rfl;refine cT (E:=E) (fn:=Tryz.f100) (g:=.full 1 _ _) λ_=>?_
  repeat' first | (refine gN hE ?_;conv=>whnf) | refine .eff [] [0] _ _ rfl h ?_ | exact zx [0] | exact rfl | refine zt ?_ | refine zu ?_ ?_ | intro h | fail
 .have h:=aI4 tWt (wC s d 0 (.mref 1) (.slice 3 (vav (ofL s.c s.run)) .no) n) [.mp false (plM s)] 10 rfl;refine cT (E:=E) (fn:=Tryz.f100) (g:=.full 2 _ _) λ_=>?_
  repeat' first | (refine gN hE ?_;conv=>whnf) | refine .eff [] [0,1] _ _ rfl h ?_ | exact zx [0,1] | exact rfl | refine zt ?_ | refine zu ?_ ?_ | intro h | fail
def EF(d m:Int):aq 60 [.ref 0 9] (wO s d m f n) (.ret (.bool (d !=0))) (wO s d m f n):=by
 cases f
 .have h:=ldU tWt (wC s d m .nilmap (.slice 3 [] .nil) n) [] 9 d rfl;refine cT (E:=E) (fn:=Tryz.f60) (g:=.full 1 _ _) λ_=>?_
  repeat' first | (refine gN hE ?_;conv=>whnf) | refine .eff [] [0] _ _ rfl h ?_ | exact zx [0] | exact rfl | refine zt ?_ | refine zu ?_ ?_ | intro h | fail
 .have h:=ldU tWt (wC s d m (.mref 1) (.slice 3 (vav (ofL s.c s.run)) .no) n) [.mp false (plM s)] 9 d rfl;refine cT (E:=E) (fn:=Tryz.f60) (g:=.full 2 _ _) λ_=>?_
  repeat' first | (refine gN hE ?_;conv=>whnf) | refine .eff [] [0,1] _ _ rfl h ?_ | exact zx [0,1] | exact rfl | refine zt ?_ | refine zu ?_ ?_ | intro h | fail
def NS(d m:Int):aq 27 [.ref 0 14] (wO s d m f n) (.ret (.int .i64 n)) (wO s d m f n):=by
 cases f
 .have h:=ldI tWt (wC s d m .nilmap (.slice 3 [] .nil) n) [] 14 n rfl;refine cT (E:=E) (fn:=Tryz.f27) (g:=.full 1 _ _) λ_=>?_
  repeat' first | (refine gN hE ?_;conv=>whnf) | refine .eff [] [0] _ _ rfl h ?_ | exact zx [0] | exact rfl | refine zt ?_ | refine zu ?_ ?_ | intro h | fail
 .have h:=ldI tWt (wC s d m (.mref 1) (.slice 3 (vav (ofL s.c s.run)) .no) n) [.mp false (plM s)] 14 n rfl;refine cT (E:=E) (fn:=Tryz.f27) (g:=.full 2 _ _) λ_=>?_
  repeat' first | (refine gN hE ?_;conv=>whnf) | refine .eff [] [0,1] _ _ rfl h ?_ | exact zx [0,1] | exact rfl | refine zt ?_ | refine zu ?_ ?_ | intro h | fail
end
def stU(T:TypeId)(cs:ax)(ac:au)(o:Nat)(x:aa)(y:Int)(d:cs[o]? =some x):aq 156 [.ref 0 o,.int .u32 y] (.cells T cs::ac) (.ret (.tup [])) (.cells T (cs.set o (.int .u32 y))::ac):=
 NB T cs ac o d λ M ob a u vs w g b e hz=>by obtain ⟨v,rfl⟩:∃ v,vs=[v]:=Ho.1 b.1;obtain ⟨rfl,c⟩:=(b.2 0 v _ rfl rfl).int_inv;exact ⟨_,_,run_call_store Tryz.func156 (by kernel_rfl) (by kernel_rfl) (by kernel_rfl) (by kernel_rfl) e hz,rfl,.int _ _ c,nX⟩
def adI(T:TypeId)(cs:ax)(ac:au)(o:Nat)(x y:Int)(d:cs[o]? =some (.int .i64 x))(c:inR .i64 (x+y))(h:IntKind.i64.wrap (x+y)=x+y):aq 63 [.ref 0 o,.int .i64 y] (.cells T cs::ac) (.ret (.int .i64 (x+y))) (.cells T (cs.set o (.int .i64 (x+y)))::ac):=
 NB T cs ac o d λ M ob a u vs w g b e hz=>by obtain ⟨v,rfl⟩:∃ v,vs=[v]:=Ho.1 b.1;obtain ⟨rfl,_⟩:=(b.2 0 v _ rfl rfl).int_inv;obtain rfl:=g.int_inv.1;exact ⟨_,_,run_call_add Tryz.func63 (by kernel_rfl) (by kernel_rfl) (by kernel_rfl) .i64 (by kernel_rfl) e hz (by simp [Op.intArith,h]),rfl,.int _ _ c,.int _ _ c⟩
def aLQ:aq 157 [.bool true] [] (.ret (.int .u32 1)) []:=by
 refine c_ Tryz.f157 λ_=>?_
 repeat' first | (refine gN hE ?_;conv=>whnf) | exact rfl | refine zt ?_ | refine zu ?_ ?_ | intro h | fail
section
variable (s:Sta) (f:Bool) (n:Int)
def aHj(d m:Int)(b:inR .i64 (n+1))(a:IntKind.i64.wrap (n+1)=n+1):aq 35 [.ref 0 14,.int .i64 1] (wO s d m f n) (.ret (.int .i64 (n+1))) (wO s d m f (n+1)):=by
 cases f
 .have h:=adI tWt (wC s d m .nilmap (.slice 3 [] .nil) n) [] 14 n 1 rfl b a;refine cT (E:=E) (fn:=Tryz.f35) (g:=.full 1 _ _) λ_=>?_
  repeat' first | (refine gN hE ?_;conv=>whnf) | refine .eff [] [0] _ _ rfl h ?_ | exact zx [0] | exact rfl | refine zt ?_ | refine zu ?_ ?_ | intro h | fail
 .have h:=adI tWt (wC s d m (.mref 1) (.slice 3 (vav (ofL s.c s.run)) .no) n) [.mp false (plM s)] 14 n 1 rfl b a;refine cT (E:=E) (fn:=Tryz.f35) (g:=.full 2 _ _) λ_=>?_
  repeat' first | (refine gN hE ?_;conv=>whnf) | refine .eff [] [0,1] _ _ rfl h ?_ | exact zx [0,1] | exact rfl | refine zt ?_ | refine zu ?_ ?_ | intro h | fail
end
section
variable (s:Sta) (f:Bool) (n:Int)
def PG(d m:Int):aq 11 [.ref 0 0] (wO s d m f n) (.ret (ii n)) (wO s d m f n):=by
 cases f
 .have h:=NS s false n d m;refine cT (E:=E) (fn:=Tryz.f11) (g:=.full 1 _ _) λ_=>?_
  repeat' first | (refine gN hE ?_;conv=>whnf) | refine .eff [] [0] _ _ rfl h ?_ | exact zx [0] | exact rfl | refine zt ?_ | refine zu ?_ ?_ | intro h | fail
 .have h:=NS s true n d m;refine cT (E:=E) (fn:=Tryz.f11) (g:=.full 2 _ _) λ_=>?_
  repeat' first | (refine gN hE ?_;conv=>whnf) | refine .eff [] [0,1] _ _ rfl h ?_ | exact zx [0,1] | exact rfl | refine zt ?_ | refine zu ?_ ?_ | intro h | fail
end
abbrev ixF(f:Bool):aa:=.func (.func 33) [] [.ref (if f then 2 else 1) 0]
abbrev bxO:ab:=.cells 35 [.ref 0 0]
section
variable (s:Sta) (n:Int)
def aLs:aq 32 [.ref 0 9,ixF true] (wO s 1 0 true n++[bxO]) (.ret (.tup [])) (wO s 1 0 true n++[bxO]):=by
 have h:=EF s true n 1 0;refine cT (E:=E) (fn:=Tryz.f32) (g:=.full 3 _ _) λ_=>?_
 repeat' first | (refine gN hE ?_;conv=>whnf) | refine .eff [] [0,1] _ _ rfl h ?_ | exact zx [0,1,2] | exact rfl | refine zt ?_ | refine zu ?_ ?_ | intro h | fail
end
section
variable (s:Sta) (n:Int)
def GS(c:inR .i64 (n+1))(b:IntKind.i64.wrap (n+1)=n+1):aq 21 [.ref 0 0] (wO s 1 0 true n) (.ret (.tup [])) (wO s 1 0 true (n+1)):=by
 have h1:=aLs s n;have a:=aHj s true n 1 0 c b;refine cT (E:=E) (fn:=Tryz.f21) (g:=.full 2 _ _) λ_=>?_
 repeat' first | (refine gN hE ?_;conv=>whnf) | refine .eff [] [0,1,2] _ _ rfl h1 ?_ | refine .sole rfl (.eff [] [0,1] _ _ rfl a ?_) | refine .eff [] [0,1] _ _ rfl a ?_ | exact zx [0,1] | exact rfl | refine zt ?_ | refine zu ?_ ?_ | intro h | fail
end
def JS(s:Sta)(h:Int):aa:=(bB (plM s) [h]).getD (plV 0 0)
section
variable (s:Sta) (n:Int)
def aDe(h:Int)(c:inR .i64 (n+1))(b:IntKind.i64.wrap (n+1)=n+1):aq 7 [.ref 0 0,ii h] (wO s 1 0 true n) (.ret (JS s h)) (wO s 1 0 true (n+1)):=by
 have h1:=GS s n c b;unfold JS;rcases UW s h with ⟨a,_⟩ | ⟨k,v,a,_⟩
 .rw [a];refine cT (E:=E) (fn:=Tryz.f7) (g:=.full 2 _ _) λ_=>?_
  repeat' first | (refine gN hE ?_;conv=>whnf) | refine .sole rfl (.eff [] [0,1] _ _ rfl h1 ?_) | refine .eff [] [0,1] _ _ rfl h1 ?_ | refine ⟨_,a,?_⟩ | exact zx [0,1] | exact rfl | refine zt ?_ | refine zu ?_ ?_ | intro h | fail
 .rw [a];refine cT (E:=E) (fn:=Tryz.f7) (g:=.full 2 _ _) λ_=>?_
  repeat' first | (refine gN hE ?_;conv=>whnf) | refine .sole rfl (.eff [] [0,1] _ _ rfl h1 ?_) | refine .eff [] [0,1] _ _ rfl h1 ?_ | refine ⟨_,a,?_⟩ | exact zx [0,1] | exact rfl | refine zt ?_ | refine zu ?_ ?_ | intro h | fail
end
def PT(s:Sta)(i:Int):V3:=if i<0 then V3.zero else (ofL s.c s.run)[i.toNat]?.getD V3.zero
section
variable (s:Sta) (n:Int)
def aAo(j:Int)(l:inR .i64 j)(hl:s.c.ns.length<=1048576)(b:inR .i64 (n+1))(e:IntKind.i64.wrap (n+1)=n+1):aq 9 [.ref 0 0,ii j] (wO s 1 0 true n) (.ret (PT s j).av) (wO s 1 0 true (n+1)):=by
 have h1:=GS s n b e;have k:(vav (ofL s.c s.run)).length=s.c.ns.length:=by simp [mR]
 unfold PT;by_cases a:j<0
 .rw [if_pos a];refine cT (E:=E) (fn:=Tryz.f9) (g:=.full 2 _ _) λ_=>?_
  repeat' first | (refine gN hE ?_;conv=>whnf) | refine .sole rfl (.eff [] [0,1] _ _ rfl h1 ?_) | refine .eff [] [0,1] _ _ rfl h1 ?_ | exact zx [0,1] | exact rfl | refine zt ?_ | refine zu ?_ ?_ | intro h | fail
 .rw [if_neg a]
  obtain ⟨i,rfl⟩:∃ i:Nat,j=i:=⟨j.toNat,by omega⟩
  rw [Bn];by_cases d:i<s.c.ns.length
  .have h3:i<(ofL s.c s.run).length:=by rw [mR];exact d
   have get:(vav (ofL s.c s.run))[i]? =some ((ofL s.c s.run)[i]).av:=by simp [h3]
   rw [Aa h3];refine cT (E:=E) (fn:=Tryz.f9) (g:=.full 2 _ _) λ_=>?_
   repeat' first | (refine gN hE ?_;conv=>whnf) | refine .sole rfl (.eff [] [0,1] _ _ rfl h1 ?_) | refine .eff [] [0,1] _ _ rfl h1 ?_ | refine ⟨i,rfl,?_⟩ | refine ⟨_,get,?_⟩ | exact zx [0,1] | exact rfl | refine zt ?_ | refine zu ?_ ?_ | intro h | fail
  .rw [Bg (by rw [mR];omega)];refine cT (E:=E) (fn:=Tryz.f9) (g:=.full 2 _ _) λ_=>?_
   repeat' first | (refine gN hE ?_;conv=>whnf) | refine .sole rfl (.eff [] [0,1] _ _ rfl h1 ?_) | refine .eff [] [0,1] _ _ rfl h1 ?_ | exact zx [0,1] | exact rfl | refine zt ?_ | refine zu ?_ ?_ | intro h | fail
end
abbrev wtX(s:Sta)(d m:Int)(n:Int):au:=[.cells tWt (wC s d m (.mref 2) (.slice 3 (vav (ofL s.c s.run)) .no) n),bxO,.mp false (plM s)]
section
variable (s:Sta) (n:Int)
def aLD(b:s.c.sm)(hs:s.pend.length<=1048576)(a:s.run.length<=1048576):aq 33 [.ref 1 0] (wO s 0 1 false n++[bxO]) (.ret (.tup [])) (wtX s 0 1 n):=by
 have h1:=X6 s hs a;have d:=CW s.c b s.run a;refine cT (E:=E) (fn:=Tryz.f33) (g:=.full 2 _ _) λ_=>?_
 repeat' first | (refine gN hE ?_;conv=>whnf) | refine .pure _ [.mp false (plM s)] h1 ?_ | refine .pure _ [] d ?_ | exact zx [0,1,2] | exact rfl | refine zt ?_ | refine zu ?_ ?_ | intro h | fail
end
section
variable (s:Sta) (n:Int)
def ZG:nE Tryz.prog 102 [.ref 0 9,.bool true] (wtX s 0 1 n) none (wtX s 1 1 n):=by
 have h:=stU tWt (wC s 0 1 (.mref 2) (.slice 3 (vav (ofL s.c s.run)) .no) n) [bxO,.mp false (plM s)] 9 _ 1 rfl;refine nE.plain (E:=E) (fn:=Tryz.f102) (n0:=3) (r:=.tup []) (by rfl) (by rfl) (by rfl) (λ_ _=>by rfl) (by decide+kernel) (by rfl) (by rfl) (by rfl) λ_=>?_
 repeat' first | (refine gN hE ?_;conv=>whnf) | refine .pure _ [] aLQ ?_ | refine .sole rfl (.eff [] [0,1,2] _ _ rfl h ?_) | exact zx [0,1,2] | exact rfl | refine zt ?_ | refine zu ?_ ?_ | intro h | fail
def R3:nE Tryz.prog 101 [.ref 0 10] (wtX s 1 1 n) none (wtX s 1 0 n):=by
 have h:=aE7 tWt (wC s 1 1 (.mref 2) (.slice 3 (vav (ofL s.c s.run)) .no) n) [bxO,.mp false (plM s)] 10 rfl;refine nE.plain (E:=E) (fn:=Tryz.f101) (n0:=3) (r:=.tup []) (by rfl) (by rfl) (by rfl) (λ_ _=>by rfl) (by decide+kernel) (by rfl) (by rfl) (by rfl) λ_=>?_
 repeat' first | (refine gN hE ?_;conv=>whnf) | refine .eff [] [0,1,2] _ _ rfl h ?_ | refine .sole rfl (.eff [] [0,1,2] _ _ rfl h ?_) | exact zx [0,1,2] | exact rfl | refine zt ?_ | refine zu ?_ ?_ | intro h | fail
end
noncomputable def Eds(df:List (Nat×ax)):Env:={E with df:=df}
def aMT(df:List (Nat×ax)):ae (Eds df):=⟨hE.mix,hE.tab,hE.mth,hE.fl⟩
noncomputable abbrev Es1:Env:=Eds [(101,[.ref 0 10])]
def aHn:ae Es1:=aMT _
noncomputable abbrev Es2:Env:=Eds [(102,[.ref 0 9,.bool true]),(101,[.ref 0 10])]
def aMS:ae Es2:=aMT _
section
variable (s:Sta) (n:Int)
def aFB(b:s.c.sm)(hs:s.pend.length<=1048576)(d:s.run.length<=1048576):aq 61 [.ref 0 9,ixF false] (wO s 0 0 false n++[bxO]) (.ret (.tup [])) (wtX s 1 0 n):=by
 have h1:=aCn s false n 0;have a:=EF s false n 0 1;have h3:=aLD s n b hs d;refine cT (E:=E) (fn:=Tryz.f61) (g:=.full 2 _ _) λ_=>gV ?_
 first
  | refine .eff [] [0] _ _ rfl h1 ?_
  | refine .sole rfl (.eff [] [0] _ _ rfl h1 ?_)
 refine cJ hE 3 ?_;conv=>whnf
 refine To.deferL hE 3 rfl rfl rfl rfl ?_;conv=>whnf
 refine .mk ?_;refine gW aHn ?_;conv=>whnf
 first
  | refine .eff [] [0] _ _ rfl a ?_
  | refine .sole rfl (.eff [] [0] _ _ rfl a ?_)
 refine cJ aHn 6 ?_;conv=>whnf
 refine Ab (λ_=>?_) (λ h=>absurd h d_);refine cJ aHn 1 ?_;conv=>whnf
 refine To.deferL aHn 3 rfl rfl rfl rfl ?_;conv=>whnf
 refine .mk ?_;refine gW aMS ?_;conv=>whnf
 first
  | refine .eff [] [0,1] _ _ rfl h3 ?_
  | refine .sole rfl (.eff [] [0,1] _ _ rfl h3 ?_)
 refine gW aMS ?_;conv=>whnf
 refine To.leave (f:=102) (args:=[.ref 0 9,.bool true]) [(101,[.ref 0 10])] rfl [] [0,1,2] rfl (ZG s n) ?_;refine To.leave (f:=101) (args:=[.ref 0 10]) [] rfl [] [0,1,2] rfl (R3 s n) ?_;refine To.left hE rfl rfl ?_;exact zx [0,1,2]
end
section
variable (s:Sta) (n:Int)
def aLt(b:s.c.sm)(hs:s.pend.length<=1048576)(d:s.run.length<=1048576):aq 32 [.ref 0 9,ixF false] (wO s 0 0 false n++[bxO]) (.ret (.tup [])) (wtX s 1 0 n):=by
 have h1:=EF s false n 0 0;have a:=aFB s n b hs d;refine cT (E:=E) (fn:=Tryz.f32) (g:=.full 2 _ _) λ_=>?_
 repeat' first | (refine gN hE ?_;conv=>whnf) | refine .eff [] [0] _ _ rfl h1 ?_ | refine .sole rfl (.eff [] [0,1] _ _ rfl a ?_) | refine .eff [] [0,1] _ _ rfl a ?_ | exact zx [0,1,2] | exact rfl | refine zt ?_ | refine zu ?_ ?_ | intro h | fail
def aCV(b:inR .i64 (n+1))(a:IntKind.i64.wrap (n+1)=n+1):aq 35 [.ref 0 14,.int .i64 1] (wtX s 1 0 n) (.ret (.int .i64 (n+1))) (wtX s 1 0 (n+1)):=by
 have h:=adI tWt (wC s 1 0 (.mref 2) (.slice 3 (vav (ofL s.c s.run)) .no) n) [bxO,.mp false (plM s)] 14 n 1 rfl b a;refine cT (E:=E) (fn:=Tryz.f35) (g:=.full 3 _ _) λ_=>?_
 repeat' first | (refine gN hE ?_;conv=>whnf) | refine .eff [] [0,1,2] _ _ rfl h ?_ | exact zx [0,1,2] | exact rfl | refine zt ?_ | refine zu ?_ ?_ | intro h | fail
def GT(d:s.c.sm)(hs:s.pend.length<=1048576)(i:s.run.length<=1048576)(b:inR .i64 (n+1))(e:IntKind.i64.wrap (n+1)=n+1):aq 21 [.ref 0 0] (wO s 0 0 false n) (.ret (.tup [])) (wO s 1 0 true (n+1)):=by
 have h1:=aLt s n d hs i;have a:=aCV s n b e;refine cT (E:=E) (fn:=Tryz.f21) (g:=.full 1 _ _) λ_=>?_
 repeat' first | (refine gN hE ?_;conv=>whnf) | refine .eff [] [0,1] _ _ rfl h1 ?_ | refine .sole rfl (.eff [] [0,1,2] _ _ rfl a ?_) | refine .eff [] [0,1,2] _ _ rfl a ?_ | exact zx [0,2] | exact rfl | refine zt ?_ | refine zu ?_ ?_ | intro h | fail
def aDf(h:Int)(d:s.c.sm)(hs:s.pend.length<=1048576)(i:s.run.length<=1048576)(b:inR .i64 (n+1))(e:IntKind.i64.wrap (n+1)=n+1):aq 7 [.ref 0 0,ii h] (wO s 0 0 false n) (.ret (JS s h)) (wO s 1 0 true (n+1)):=by
 have h1:=GT s n d hs i b e;unfold JS;rcases UW s h with ⟨a,_⟩ | ⟨k,v,a,_⟩
 .rw [a];refine cT (E:=E) (fn:=Tryz.f7) (g:=.full 1 _ _) λ_=>?_
  repeat' first | (refine gN hE ?_;conv=>whnf) | refine .sole rfl (.eff [] [0] _ _ rfl h1 ?_) | refine .eff [] [0] _ _ rfl h1 ?_ | refine ⟨_,a,?_⟩ | exact zx [0,2] | exact rfl | refine zt ?_ | refine zu ?_ ?_ | intro h | fail
 .rw [a];refine cT (E:=E) (fn:=Tryz.f7) (g:=.full 1 _ _) λ_=>?_
  repeat' first | (refine gN hE ?_;conv=>whnf) | refine .sole rfl (.eff [] [0] _ _ rfl h1 ?_) | refine .eff [] [0] _ _ rfl h1 ?_ | refine ⟨_,a,?_⟩ | exact zx [0,2] | exact rfl | refine zt ?_ | refine zu ?_ ?_ | intro h | fail
end
def SO(l:bb)(h:l.length<=1048576):aq 18 [.slice 11 (nav l) .no] [] (.ret (.slice 11 (nav l) .no)) []:=by
 have a:(nav l).length=l.length:=by simp
 refine c_ Tryz.f18 λ_=>gV ?_;intro b c;refine gV ?_;refine ⟨λ h=>?_,λ h=>?_⟩
 .have h:b=true:=h;have e:nav l=[]:=c h;refine gV ?_;rw [e]
 .exact zqtp0
def SN(l:a7)(h:l.length<=1048576):aq 19 [.slice 11 (pnv l) .no] [] (.ret (.slice 11 (pnv l) .no)) []:=by
 have a:(pnv l).length=l.length:=by simp
 refine c_ Tryz.f19 λ_=>gV ?_;intro b c;refine gV ?_;refine ⟨λ h=>?_,λ h=>?_⟩
 .have h:b=true:=h;have e:pnv l=[]:=c h;refine gV ?_;rw [e]
 .exact zqtp0
def SL(l:a6)(h:l.length<=1048576):aq 20 [.slice 14 (rav l) .no] [] (.ret (.slice 14 (rav l) .no)) []:=by
 have a:(rav l).length=l.length:=by simp
 refine c_ Tryz.f20 λ_=>gV ?_;intro b c;refine gV ?_;refine ⟨λ h=>?_,λ h=>?_⟩
 .have h:b=true:=h;have e:rav l=[]:=c h;refine gV ?_;rw [e]
 .exact zqtp0
def aEZ(s:Sta)(a:s.c.ns.length<=1048576)(hp:s.pend.length<=1048576)(b:s.run.length<=1048576):aq 6 [s.av] [] (.ret (.ref 0 0)) (wO s 0 0 false 0):=by
 have h1:=SO s.c.ns a;have d:=SN s.pend hp;have h3:=SL s.run b;refine cT (E:=E) (fn:=Tryz.f6) (g:=.full 0 _ _) λ_=>?_
 repeat' first | (refine gN hE ?_;conv=>whnf) | refine .pure _ [] h1 ?_ | refine .pure _ [] d ?_ | refine .pure _ [] h3 ?_ | exact zx [0] | exact zx [1] | exact rfl | refine zt ?_ | refine zu ?_ ?_ | intro h | fail
section
variable (s:Sta) (n:Int)
def aAp(j:Int)(o:inR .i64 j)(d:s.c.sm)(hs:s.pend.length<=1048576)(a:s.run.length<=1048576)(e:inR .i64 (n+1))(l:IntKind.i64.wrap (n+1)=n+1):aq 9 [.ref 0 0,ii j] (wO s 0 0 false n) (.ret (PT s j).av) (wO s 1 0 true (n+1)):=by
 have h1:=GT s n d hs a e l;have hl:=d.ns;have m:(vav (ofL s.c s.run)).length=s.c.ns.length:=by simp [mR]
 unfold PT;by_cases b:j<0
 .rw [if_pos b];refine cT (E:=E) (fn:=Tryz.f9) (g:=.full 1 _ _) λ_=>?_
  repeat' first | (refine gN hE ?_;conv=>whnf) | refine .sole rfl (.eff [] [0] _ _ rfl h1 ?_) | refine .eff [] [0] _ _ rfl h1 ?_ | exact zx [0,1] | exact zx [0,2] | exact rfl | refine zt ?_ | refine zu ?_ ?_ | intro h | fail
 .rw [if_neg b]
  obtain ⟨i,rfl⟩:∃ i:Nat,j=i:=⟨j.toNat,by omega⟩
  rw [Bn];by_cases k:i<s.c.ns.length
  .have h3:i<(ofL s.c s.run).length:=by rw [mR];exact k
   have get:(vav (ofL s.c s.run))[i]? =some ((ofL s.c s.run)[i]).av:=by simp [h3]
   rw [Aa h3];refine cT (E:=E) (fn:=Tryz.f9) (g:=.full 1 _ _) λ_=>?_
   repeat' first | (refine gN hE ?_;conv=>whnf) | refine .sole rfl (.eff [] [0] _ _ rfl h1 ?_) | refine .eff [] [0] _ _ rfl h1 ?_ | refine ⟨i,rfl,?_⟩ | refine ⟨_,get,?_⟩ | exact zx [0,1] | exact zx [0,2] | exact rfl | refine zt ?_ | refine zu ?_ ?_ | intro h | fail
  .rw [Bg (by rw [mR];omega)];refine cT (E:=E) (fn:=Tryz.f9) (g:=.full 1 _ _) λ_=>?_
   repeat' first | (refine gN hE ?_;conv=>whnf) | refine .sole rfl (.eff [] [0] _ _ rfl h1 ?_) | refine .eff [] [0] _ _ rfl h1 ?_ | exact zx [0,1] | exact zx [0,2] | exact rfl | refine zt ?_ | refine zu ?_ ?_ | intro h | fail
end
def NO{p:Pn}:∀ {l:a7},(l.map λ x=>x.g.id).Nodup->p∈l->mT p.g.id l=some (plV 1 p.at')
 | [],_,h=>by cases h
 | q::l,hn,h=>by
  have h1:=Bx.1 hn;unfold mT;rcases Bc.1 h with rfl | h
  .rcases uF p.g.id l with ⟨_,e⟩ | ⟨⟨x,a,e⟩,_⟩
   .rw [e];exact if_pos rfl
   .exact absurd (Bq.2 ⟨x,a,e⟩) h1.1
  .rw [NO h1.2 h]
def NN{p:Rn}:∀ {l:a6},(l.map λ x=>x.g.id).Nodup->p∈l->mS p.g.id l=some (plV 2 (dG p))
 | [],_,h=>by cases h
 | q::l,hn,h=>by
  have h1:=Bx.1 hn;unfold mS;rcases Bc.1 h with rfl | h
  .rcases DC p.g.id l with ⟨_,e⟩ | ⟨⟨x,a,e⟩,_⟩
   .rw [e];exact if_pos rfl
   .exact absurd (Bq.2 ⟨x,a,e⟩) h1.1
  .rw [NN h1.2 h]
def aC5{s:Sta}(h:YT s){p:Pn}(hp:p∈s.pend):JS s p.g.id=plV 1 p.at':=by unfold YT at h;rw [Bk,Cs] at h;unfold JS;rw [aCs,NO h.1 hp];rfl
def aHq{s:Sta}(h:YT s){r:Rn}(b:r∈s.run):JS s r.g.id=plV 2 (dG r):=by
 have a:=h;unfold YT at a;rw [Bk,Cs,Dn] at a;unfold JS;rw [aCs,NN a.2.1 b];rcases uF r.g.id s.pend with ⟨_,e⟩ | ⟨⟨p,hp,e⟩,_⟩
 .rw [e];rfl
 .exact absurd e (aHi h hp b)
def aJs{s:Sta}{i:Nat}(a:i<(ofL s.c s.run).length):PT s (i:Int)=(ofL s.c s.run)[i]:=by unfold PT;rw [if_neg o_,Bn,Aa a];rfl
section
variable (s:Sta)
def N2(f:Bool)(n h:Int)(d:s.c.sm)(hs:s.pend.length<=1048576)(e:s.run.length<=1048576)(g:0<=n)(h1:n<=4194304):aq 7 [.ref 0 0,ii h] (wO s (if f then 1 else 0) 0 f n) (.ret (JS s h)) (wO s 1 0 true (n+1)):=by
 have b:=uI (n:=n+1) o_ o_;have a:IntKind.i64.wrap (n+1)=n+1:=by simp [IntKind.wrap,IntKind.signed,IntKind.bits];omega
 cases f
 .exact aDf s n h d hs e b a
 .exact aDe s n h b a
def aAn(f:Bool)(n:Int)(i:Nat)(j:i<s.c.ns.length)(d:s.c.sm)(hs:s.pend.length<=1048576)(g:s.run.length<=1048576)(h:0<=n)(h1:n<=4194304):aq 9 [.ref 0 0,ii i] (wO s (if f then 1 else 0) 0 f n) (.ret (PT s i).av) (wO s 1 0 true (n+1)):=by
 have e:=uI (n:=n+1) o_ o_;have b:IntKind.i64.wrap (n+1)=n+1:=by simp [IntKind.wrap,IntKind.signed,IntKind.bits];omega
 have a:=d.ns;cases f
 .exact aAp s n i (uI o_ o_) d hs g e b
 .exact aAo s n i (uI o_ o_) a e b
end
noncomputable abbrev iF:Func:=Tryz.f3
abbrev pcG(g:ay):Goal:=.full 1 (.ret (.bool true)) [dF g]
abbrev pcO(g:ay)(s:Sta)(f:Bool)(n:Int):au:=match f with
 | false=>[dF g,wtS s,.cells tWt (wC s 0 0 .nilmap (.slice 3 [] .nil) n)]
 | true=>[dF g,wtS s,.cells tWt (wC s 1 0 (.mref 3) (.slice 3 (vav (ofL s.c s.run)) .no) n),.mp false (plM s)]
abbrev pcF(sl:Nat)(i:Int):ar:=[(3,.ref 1 0),(5,.ref 2 0),(sl,ii i)]
section
variable (g:ay) (s:Sta)
def aKp(f:Bool)(h:s.pend.length<=1048576)(i:s.run.length<=1048576)(h3:s.c.ns.length<=1048576)(d:aq 5 [] [dF g] (.ret (.bool true)) [dF g]):
  To E iF (pcG g) (.head (stk iF 2) (pcF 9 (s.c.ns.length:Nat)) (pcO g s f ((s.pend.length+s.run.length+s.c.ns.length:Nat):Int))):=by
 have l1:(pnv s.pend).length=s.pend.length:=by simp
 have l2:(rav s.run).length=s.run.length:=by simp
 have e:(nav s.c.ns).length=s.c.ns.length:=by simp
 have b:(((s.pend.length+s.run.length+s.c.ns.length:Nat):Int)==((pnv s.pend).length:Int)+((rav s.run).length:Int)+((nav s.c.ns).length:Int))=true:=by rw [l1,l2,e];simp
 cases f
 .have a:=PG s false ((s.pend.length+s.run.length+s.c.ns.length:Nat):Int) 0 0;generalize ((s.pend.length+s.run.length+s.c.ns.length:Nat):Int)=n at *
  refine gV ?_;refine aF λ h=>?_
  repeat' first | (refine gN hE ?_;conv=>whnf) | refine Ab (λ_=>?_) (λ h=>absurd (h.symm.trans b) d_) | refine .look [2] _ _ rfl rfl a (λ_=>rfl) (λ_=>rfl) ?_ | refine .look [0] _ _ rfl rfl d (λ_=>rfl) (λ_=>rfl) ?_ | exact zx [0] | exact rfl | refine zt ?_ | refine zu ?_ ?_ | intro h | fail
 .have a:=PG s true ((s.pend.length+s.run.length+s.c.ns.length:Nat):Int) 1 0;generalize ((s.pend.length+s.run.length+s.c.ns.length:Nat):Int)=n at *
  refine gV ?_;refine aF λ h=>?_
  repeat' first | (refine gN hE ?_;conv=>whnf) | refine Ab (λ_=>?_) (λ h=>absurd (h.symm.trans b) d_) | refine .look [2,3] _ _ rfl rfl a (λ_=>rfl) (λ_=>rfl) ?_ | refine .look [0] _ _ rfl rfl d (λ_=>rfl) (λ_=>rfl) ?_ | exact zx [0] | exact rfl | refine zt ?_ | refine zu ?_ ?_ | intro h | fail
def aKm(i:Nat)(f:Bool)(n:Int)(v:V3)(get:(vav (ofL s.c s.run))[i]? =some v.av)(h3:aq 9 [.ref 0 0,ii i] (wO s (if f then 1 else 0) 0 f n) (.ret v.av) (wO s 1 0 true (n+1)))(d:aq 10 [s.c.av,.slice 14 (rav s.run) .no] [] (.ret (.slice 3 (vav (ofL s.c s.run)) .no)) [])
  (next:To E iF (pcG g) (.head (stk iF 2) (pcF 9 ((i+1:Nat):Int)) (pcO g s true (n+1)))) (k:(i:Int)<=4194304):To E iF (pcG g) (.code (rZ iF 21) (pcF 9 i) (pcO g s f n)):=by
 have j:(!((v.a==v.a)&&((v.b==v.b)&&((v.c==v.c)&&true))))=false:=by simp
 have rest:To E iF (pcG g) (.code (fL iF 21) [(3,.ref 1 0),(5,.ref 2 0),(9,ii i),(102,.bool (!((v.a==v.a)&&((v.b==v.b)&&((v.c==v.c)&&true)))))] (pcO g s true (n+1))):=by
  refine gV ?_
  repeat' first | (refine gN hE ?_;conv=>whnf) | refine Ab (λ h=>absurd (h.symm.trans j) d_) (λ_=>?_) | exact rfl | refine zt ?_ | refine zu ?_ ?_ | intro h | fail
  refine To.part [3,5,9] [0,1,2,3] rfl rfl rfl ?_;exact next
 clear next
 cases f
 .have e:=h3;refine To.permS hE [([0,1,3,4,5,6,7,8,9,10],[2,11])] (by rfl) ?_;conv=>whnf
  repeat' first
   | (refine .pure _ [] d ?_;conv=>whnf)
   | (refine .eff [] [2] _ _ rfl e ?_;conv=>whnf)
   | (refine Ao i (Ab rfl ?_);conv=>whnf)
   | (refine Ao _ (Ab get ?_);conv=>whnf)
   | exact ⟨trivial,To.partC [3,5,9,102] [0,1,2,3] rfl rfl rfl rest⟩
   | (refine Ab ?_ ?_;(focus ((repeat first | exact trivial | refine Ab ⟨rfl,rfl⟩ ?_ | refine Ab ⟨i,rfl,_,get,rfl,rfl⟩ ?_ | refine Ab (.pure _ [] d ⟨rfl,rfl⟩) ?_);done));conv=>whnf)
   | fail
 .have e:=h3;refine To.permS hE [([0,1,3,4,5,6,7,8,9,10],[2,11])] (by rfl) ?_;conv=>whnf
  repeat' first
   | (refine .pure _ [] d ?_;conv=>whnf)
   | (refine .eff [] [2,3] _ _ rfl e ?_;conv=>whnf)
   | (refine Ao i (Ab rfl ?_);conv=>whnf)
   | (refine Ao _ (Ab get ?_);conv=>whnf)
   | exact ⟨trivial,To.partC [3,5,9,102] [0,1,2,3] rfl rfl rfl rest⟩
   | (refine Ab ?_ ?_;(focus ((repeat first | exact trivial | refine Ab ⟨rfl,rfl⟩ ?_ | refine Ab ⟨i,rfl,_,get,rfl,rfl⟩ ?_ | refine Ab (.pure _ [] d ⟨rfl,rfl⟩) ?_);done));conv=>whnf)
   | fail
def aMA(d:s.c.sm)(h:s.pend.length<=1048576)(e:s.run.length<=1048576)(k:aq 5 [] [dF g] (.ret (.bool true)) [dF g]):∀ (m i:Nat) (f:Bool),i+m=s.c.ns.length->
  To E iF (pcG g) (.head (stk iF 2) (pcF 9 i) (pcO g s f ((s.pend.length+s.run.length+i:Nat):Int))):=by
 have p:(nav s.c.ns).length=s.c.ns.length:=by simp
 have j:=d.ns;intro m;induction m with
 | zero=>
  intro i f o;obtain rfl:i=s.c.ns.length:=o_;exact aKp g s f h e j k
 | succ m l=>
  intro i f o;have b:i<s.c.ns.length:=o_;have a:i<(ofL s.c s.run).length:=by rw [mR];exact b
  have h3:=aAn s f ((s.pend.length+s.run.length+i:Nat):Int) i b d h e o_ o_;rw [aJs a] at h3;have get:(vav (ofL s.c s.run))[i]? =some ((ofL s.c s.run)[i]).av:=by simp [a]
  have key:=aKm g s i f _ _ get h3 (CW s.c d s.run e) (l (i+1) true o_) o_;clear l k h3 get;generalize ((s.pend.length+s.run.length+i:Nat):Int)=n at *
  cases f
  all_goals
   refine gV ?_;refine aT λ h=>?_
   repeat' first
    | exact To.partC [3,5,9] [0,1,2] rfl rfl rfl key
    | exact To.partC [3,5,9] [0,1,2,3] rfl rfl rfl key
    | (refine goN hE 1 rfl ?_;conv=>whnf)
abbrev aNO(x:Rn):ab:=.cells 48 x.cs
abbrev pcK(f:Bool)(i:Int):ar:=[(3,.ref 1 0),(5,.ref 2 0),(7,ii i),(8,.ref (if f then 4 else 3) 0)]
def aKn(i:Nat)(f:Bool)(n:Int)(x:Rn)(h3:aq 7 [.ref 0 0,ii x.g.id] (wO s (if f then 1 else 0) 0 f n) (.ret (plV 2 (dG x))) (wO s 1 0 true (n+1)))(a:aq 8 [x.av] [] (.ret (ii (dG x))) [])
  (k:s.now<dG x) (j:(x.hs.length:Int)=x.g.pods) (next:To E iF (pcG g) (.head (stk iF 1) (pcF 7 ((i+1:Nat):Int)) (pcO g s true (n+1)))) (l:(i:Int)<=4194304):To E iF (pcG g) (.code (rZ iF 16) (pcK f i) (pcO g s f n++[aNO x])):=by
 have c:(!(((2:Int)==2)&&((dG x==dG x)&&true)))=false:=by simp
 have e:decide (dG x<=s.now)=false:=decide_eq_false o_;have d:(((iv x.hs).length:Int) !=x.g.pods)=false:=by simp [j]
 have rest:To E iF (pcG g) (.code (fL iF 16) [(3,.ref 1 0),(5,.ref 2 0),(7,ii i),(82,.bool (((iv x.hs).length:Int) !=x.g.pods))] (pcO g s true (n+1))):=by
  refine gV ?_
  repeat' first | (refine gN hE ?_;conv=>whnf) | refine Ab (λ h=>absurd (h.symm.trans d) d_) (λ_=>?_) | exact rfl | refine zt ?_ | refine zu ?_ ?_ | intro h | fail
  refine To.part [3,5,7] [0,1,2,3] rfl rfl rfl ?_;exact next
 clear next d
 generalize dG x=z at *
 cases f
 .have b:=h3;refine To.permS hE [([0,1,2,3,5,6,7],[4,8,9]),([10,11,12,13,14,15],[16]),([17,18,19,20,21,22,23],[24])] (by rfl) ?_;conv=>whnf
  repeat' first
   | (refine .pure _ [] a ?_;conv=>whnf)
   | (refine .eff [] [2] _ _ rfl b ?_;conv=>whnf)
   | (refine Ao i (Ab rfl ?_);conv=>whnf)
   | (refine Ab (λ h=>absurd (h.symm.trans c) d_) (λ_=>?_);conv=>whnf)
   | (refine Ab (λ h=>absurd (h.symm.trans e) d_) (λ_=>?_);conv=>whnf)
   | exact ⟨trivial,To.partC [3,5,7,82] [0,1,2,4] rfl rfl rfl rest⟩
   | (refine Ab ?_ ?_;(focus ((repeat first | exact trivial | refine Ab ⟨rfl,rfl⟩ ?_  | refine Ab (.pure _ [] a ⟨rfl,rfl⟩) ?_);done));conv=>whnf)
   | fail
 .have b:=h3;refine To.permS hE [([0,1,2,3,5,6,7],[4,8,9]),([10,11,12,13,14,15],[16]),([17,18,19,20,21,22,23],[24])] (by rfl) ?_;conv=>whnf
  repeat' first
   | (refine .pure _ [] a ?_;conv=>whnf)
   | (refine .eff [] [2,3] _ _ rfl b ?_;conv=>whnf)
   | (refine Ao i (Ab rfl ?_);conv=>whnf)
   | (refine Ab (λ h=>absurd (h.symm.trans c) d_) (λ_=>?_);conv=>whnf)
   | (refine Ab (λ h=>absurd (h.symm.trans e) d_) (λ_=>?_);conv=>whnf)
   | exact ⟨trivial,To.partC [3,5,7,82] [0,1,2,3] rfl rfl rfl rest⟩
   | (refine Ab ?_ ?_;(focus ((repeat first | exact trivial | refine Ab ⟨rfl,rfl⟩ ?_  | refine Ab (.pure _ [] a ⟨rfl,rfl⟩) ?_);done));conv=>whnf)
   | fail
def aMB(b:OkS s)(j:s.c.sm)(d:aq 5 [] [dF g] (.ret (.bool true)) [dF g]):∀ (m i:Nat) (f:Bool),i+m=s.run.length->
  To E iF (pcG g) (.head (stk iF 1) (pcF 7 i) (pcO g s f ((s.pend.length+i:Nat):Int))):=by
 have l:(rav s.run).length=s.run.length:=by simp
 have p:=b.few;intro m;induction m with
 | zero=>
  intro i f o;obtain rfl:i=s.run.length:=o_;have next:=aMA g s j o_ o_ d s.c.ns.length 0 f o_
  replace next:To E iF (pcG g) (.head (stk iF 2) (pcF 9 0) (pcO g s f ((s.pend.length+s.run.length:Nat):Int))):=next
  clear d;generalize ((s.pend.length+s.run.length:Nat):Int)=n at *
  cases f
  .refine gV ?_;refine aF λ h=>?_
   repeat' first | (refine gN hE ?_;conv=>whnf) | exact rfl | refine zt ?_ | refine zu ?_ ?_ | intro h | fail
   refine To.part [3,5,9] [0,1,2] rfl rfl rfl ?_;exact next
  .refine gV ?_;refine aF λ h=>?_
   repeat' first | (refine gN hE ?_;conv=>whnf) | exact rfl | refine zt ?_ | refine zu ?_ ?_ | intro h | fail
   refine To.part [3,5,9] [0,1,2,3] rfl rfl rfl ?_;exact next
 | succ m e=>
  intro i f o;have a:i<s.run.length:=o_;have get:(rav s.run)[i]? =some (Rn.av s.run[i]):=by simp [a]
  have hm:s.run[i]∈s.run:=Bd a;have h3:=N2 s f ((s.pend.length+i:Nat):Int) (s.run[i]).g.id j o_ o_ o_ o_;rw [aHq b.ids hm] at h3;have t:=(b.run.time _ hm).2.2.1;have k:=(b.run.plc _ hm).1;generalize s.run[i]=x at *
  have key:=aKn g s i f _ x h3 (aF3 x) t k (e (i+1) true o_) o_;clear e d h3 t k;generalize ((s.pend.length+i:Nat):Int)=n at *
  cases f
  all_goals
   refine gV ?_;refine aT λ h=>?_
   repeat' first
    | exact To.partC [3,5,7,8] [0,1,2,3] rfl rfl rfl key
    | exact To.partC [3,5,7,8] [0,1,2,3,4] rfl rfl rfl key
    | refine Ao i (Ab rfl ?_)
    | refine Ao _ (Ab get ?_)
    | (refine goN hE 1 rfl ?_;conv=>whnf)
def aKo(i:Nat)(f:Bool)(n:Int)(p:Pn)(get:(pnv s.pend)[i]? =some p.av)(h3:aq 7 [.ref 0 0,ii p.g.id] (wO s (if f then 1 else 0) 0 f n) (.ret (plV 1 p.at')) (wO s 1 0 true (n+1)))
  (next:To E iF (pcG g) (.head (stk iF 0) (pcF 6 ((i+1:Nat):Int)) (pcO g s true (n+1)))) (c:(i:Int)<=4194304):To E iF (pcG g) (.code (rZ iF 10) (pcF 6 i) (pcO g s f n)):=by
 have b:(!(((1:Int)==1)&&((p.at'==p.at')&&true)))=false:=by simp
 have rest:To E iF (pcG g) (.code (fL iF 10) [(3,.ref 1 0),(5,.ref 2 0),(6,ii i),(45,.bool (!(((1:Int)==1)&&((p.at'==p.at')&&true))))] (pcO g s true (n+1))):=by
  refine gV ?_
  repeat' first | (refine gN hE ?_;conv=>whnf) | refine Ab (λ h=>absurd (h.symm.trans b) d_) (λ_=>?_) | exact rfl | refine zt ?_ | refine zu ?_ ?_ | intro h | fail
  refine To.part [3,5,6] [0,1,2,3] rfl rfl rfl ?_;exact next
 clear next
 cases f
 .have a:=h3;refine To.permS hE [([0,1,2,3,4,5,6,7,9,10,11,12,13,14,15],[8,16])] (by rfl) ?_;conv=>whnf
  repeat' first
   | (refine .eff [] [2] _ _ rfl a ?_;conv=>whnf)
   | (refine Ao i (Ab rfl ?_);conv=>whnf)
   | (refine Ao _ (Ab get ?_);conv=>whnf)
   | exact ⟨trivial,To.partC [3,5,6,45] [0,1,2,3] rfl rfl rfl rest⟩
   | (refine Ab ?_ ?_;(focus ((repeat first | exact trivial | refine Ab ⟨rfl,rfl⟩ ?_ | refine Ab ⟨i,rfl,_,get,rfl,rfl⟩ ?_);done));conv=>whnf)
   | fail
 .have a:=h3;refine To.permS hE [([0,1,2,3,4,5,6,7,9,10,11,12,13,14,15],[8,16])] (by rfl) ?_;conv=>whnf
  repeat' first
   | (refine .eff [] [2,3] _ _ rfl a ?_;conv=>whnf)
   | (refine Ao i (Ab rfl ?_);conv=>whnf)
   | (refine Ao _ (Ab get ?_);conv=>whnf)
   | exact ⟨trivial,To.partC [3,5,6,45] [0,1,2,3] rfl rfl rfl rest⟩
   | (refine Ab ?_ ?_;(focus ((repeat first | exact trivial | refine Ab ⟨rfl,rfl⟩ ?_ | refine Ab ⟨i,rfl,_,get,rfl,rfl⟩ ?_);done));conv=>whnf)
   | fail
def aMC(b:OkS s)(j:s.c.sm)(d:aq 5 [] [dF g] (.ret (.bool true)) [dF g]):∀ (m i:Nat) (f:Bool),i+m=s.pend.length->
  To E iF (pcG g) (.head (stk iF 0) (pcF 6 i) (pcO g s f (i:Int))):=by
 have k:(pnv s.pend).length=s.pend.length:=by simp
 have n:=b.few;intro m;induction m with
 | zero=>
  intro i f l;obtain rfl:i=s.pend.length:=o_;have next:=aMB g s b j d s.run.length 0 f o_
  replace next:To E iF (pcG g) (.head (stk iF 1) (pcF 7 0) (pcO g s f ((s.pend.length:Nat):Int))):=next
  clear d;cases f
  .refine gV ?_;refine aF λ h=>?_
   repeat' first | (refine gN hE ?_;conv=>whnf) | exact rfl | refine zt ?_ | refine zu ?_ ?_ | intro h | fail
   refine To.part [3,5,7] [0,1,2] rfl rfl rfl ?_;exact next
  .refine gV ?_;refine aF λ h=>?_
   repeat' first | (refine gN hE ?_;conv=>whnf) | exact rfl | refine zt ?_ | refine zu ?_ ?_ | intro h | fail
   refine To.part [3,5,7] [0,1,2,3] rfl rfl rfl ?_;exact next
 | succ m e=>
  intro i f l;have a:i<s.pend.length:=o_;have get:(pnv s.pend)[i]? =some (Pn.av s.pend[i]):=by simp [a]
  have hm:s.pend[i]∈s.pend:=Bd a;have h3:=N2 s f (i:Int) (s.pend[i]).g.id j o_ o_ o_ o_;rw [aC5 b.ids hm] at h3;generalize s.pend[i]=p at *
  have key:=aKo g s i f _ p get h3 (e (i+1) true o_) o_;clear e d h3 get;cases f
  all_goals
   refine gV ?_;refine aT λ h=>?_
   repeat' first
    | exact To.partC [3,5,6] [0,1,2] rfl rfl rfl key
    | exact To.partC [3,5,6] [0,1,2,3] rfl rfl rfl key
    | (refine goN hE 1 rfl ?_;conv=>whnf)
end
def PZ(L:List Cmd)(n:L.length<=1048576)(e:∀ p∈L,p.c.sm)(g:ay):aq 3 [.slice 15 (cmv L) .no] [dF g] (.ret (.bool true)) [dF g]:=by
 obtain ⟨s,ok,h1,_,h3⟩:=aAz L n e;have d:=Z2 g;cases ok with
 | false=>
  clear h1;refine cT (E:=E) (fn:=Tryz.f3) (g:=.full 1 _ _) λ_=>?_
  repeat' first | (refine gN hE ?_;conv=>whnf) | refine .pure _ [] h3 ?_ | refine .eff [] [0] _ _ rfl d ?_ | exact zx [0] | exact rfl | refine zt ?_ | refine zu ?_ ?_ | intro h | fail
 | true=>
  obtain ⟨rfl,hl⟩:=h1 rfl;have a:OkT (kN L fC []).1:=by
   have key:∀ (l:List Cmd) (s:Sta) (es:aw),OkL s l->OkT (kN l s es).1:=λ l=>by
    induction l with
    | nil=>intro s es h;exact h.1
    | cons x l k=>intro s es h;exact k _ _ (MS s x l h).2
   exact key L fC [] (MR o_ e)
  generalize (kN L fC []).1=s at *
  have i:=(a.ok.st a.lt).c;have b:=i.ns;have m:=a.ok.few;have j:=aEZ s b o_ o_;have next:=aMC g s a.ok i d s.pend.length 0 false o_
  clear a d;refine cT (E:=E) (fn:=Tryz.f3) (g:=.full 1 _ _) λ_=>?_
  repeat' first | (refine gN hE ?_;conv=>whnf) | refine .pure _ [] h3 ?_ | refine .pure _ _ j ?_ | exact rfl | refine zt ?_ | refine zu ?_ ?_ | intro h | fail
  refine To.part [3,5,6] [0,1,2] rfl rfl rfl ?_;exact next
end Go.Proofs.YtbpccabomgalhaaGreatDoor
