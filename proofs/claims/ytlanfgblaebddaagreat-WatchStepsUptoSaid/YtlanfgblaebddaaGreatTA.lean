/-
  What a watch says, as walks; the laws.
-/
import Derived.Test.YtlanfgblaebddaaGreatProg
import Derived.Shelf.SlSortCmp.NoneTotal
import Derived.Shelf.SlicesG.Cmp
import Derived.Tactics
import Derived.Tactics2
import Derived.Defers
import Derived.Laws.Pointers
import Derived.Laws.LoneSync
import Derived.RegionTactic
import Derived.RegionCalls
import Derived.ChangeAlike
import Derived.Test.YtlanfgblaebddaaGreatYA
set_option linter.all false
set_option maxHeartbeats 1000000
open And renaming intro->Aa
open Int renaming toNat_natCast->Dl
open List renaming append_assoc->Ay,append_nil->Bm,drop_eq_getElem_cons->Ad,drop_eq_nil_of_le->Ae,drop_zero->Bx,eq_nil_of_length_eq_zero->Al,getElem?_eq_getElem->Ab,getElem?_eq_none->Bj,length_append->Bo,length_eq_one_iff->Ir,map_map->Cu,mem_singleton->Bf,mergeSort_perm->Ga,size_toArray->Fj
open List.Perm renaming refl->Ep
open Nat renaming zero_le->Cc
open Subtype renaming val->Ll
namespace Go.Proofs.YtlanfgblaebddaaGreat
open Go Go.Proofs Go.Shelf
set_option maxRecDepth 100000
theorem zqta0 {P:Prop} (h:P:=by
 have h:b=false:=h
 refine gV ?_
 refine ⟨⟨by simp only [maxLen];simp;omega,by simp;omega⟩,?_⟩
 refine gV ?_
 rfl):P:=h
theorem zqta1 {P:Prop} (h:P:=by
 rcases a with e | ⟨k,n,e⟩
 .rw [e]
  dsimp only
  split
  .exact .inr ⟨_,_,rfl⟩
  .exact .inl rfl
 .rw [e];exact .inr ⟨k,n,rfl⟩):P:=h
theorem zqta2 {P:Prop} (h:P:=by
 refine To.part [5,6,7,51,52,53] [0,1,2,3,4] rfl rfl rfl ?_
 exact n1):P:=h
theorem zqta3 {P:Prop} (h:P:=by
 refine To.part [2,5,6,7,18,19,20] [0,1,2,3,4] rfl rfl rfl ?_
 exact n0):P:=h
theorem zqta4 {P:Prop} (h:P:=by
 refine To.part [5,6,7,51,52,53] [0,1,2,3,4] rfl rfl rfl ?_
 exact n0):P:=h
theorem zqta5 {P:Prop} (h:P:=by
 refine To.part [2,5,6,7,18,19,20] [0,1,2,3,4] rfl rfl rfl ?_
 exact n1):P:=h
def aIr:Go.Shelf.Ren:=⟨fun | 6=>23 | 14=>45 | 15=>46 | 20=>79 | 21=>80 | 22=>81 | 23=>82 | 24=>83 | 25=>84 | 26=>85 | 27=>86 | 28=>87 | 29=>88 | 46=>131 | 47=>132 | 48=>133 | 49=>134 | 50=>135 | 57=>176 | n=>n,fun | 0=>0 | 3=>3 | 4=>4 | 5=>5 | 9=>9 | 22=>33 | 24=>46 | 25=>79 | 39=>121 | 45=>152 | 46=>153 | 50=>147 | 53=>95 | 55=>67 | 66=>195 | 70=>199 | 76=>234 | 77=>235 | n=>n,fun n=>n⟩
theorem PX:SlLaysF0.n6 Tryz.prog aIr where
 mixed:=by kernel_rfl
 f6:=⟨ "slices.SortFunc[[]tithebarn/api.Event,tithebarn/api.Event]",by decide,Tryz.func23.trans (congrArg some (by kernel_rfl))⟩
 f14:=⟨ "slices.pdqsortCmpFunc[tithebarn/api.Event]",by decide,Tryz.func45.trans (congrArg some (by kernel_rfl))⟩
 f15:=Tryz.func46.trans (congrArg some (by kernel_rfl))
 f20:=⟨ "slices.insertionSortCmpFunc[tithebarn/api.Event]",by decide,Tryz.func79.trans (congrArg some (by kernel_rfl))⟩
 f21:=⟨ "slices.heapSortCmpFunc[tithebarn/api.Event]",by decide,Tryz.func80.trans (congrArg some (by kernel_rfl))⟩
 f22:=⟨ "slices.breakPatternsCmpFunc[tithebarn/api.Event]",by decide,Tryz.func81.trans (congrArg some (by kernel_rfl))⟩
 f23:=⟨ "slices.choosePivotCmpFunc[tithebarn/api.Event]",by decide,Tryz.func82.trans (congrArg some (by kernel_rfl))⟩
 f24:=⟨ "slices.reverseRangeCmpFunc[tithebarn/api.Event]",by decide,Tryz.func83.trans (congrArg some (by kernel_rfl))⟩
 f25:=⟨ "slices.partialInsertionSortCmpFunc[tithebarn/api.Event]",by decide,Tryz.func84.trans (congrArg some (by kernel_rfl))⟩
 f26:=⟨ "slices.partitionEqualCmpFunc[tithebarn/api.Event]",by decide,Tryz.func85.trans (congrArg some (by kernel_rfl))⟩
 f27:=⟨ "slices.partitionCmpFunc[tithebarn/api.Event]",by decide,Tryz.func86.trans (congrArg some (by kernel_rfl))⟩
 f28:=Tryz.func87.trans (congrArg some (by kernel_rfl))
 f29:=Tryz.func88.trans (congrArg some (by kernel_rfl))
 f46:=⟨ "slices.siftDownCmpFunc[tithebarn/api.Event]",by decide,Tryz.func131.trans (congrArg some (by kernel_rfl))⟩
 f47:=Tryz.func132.trans (congrArg some (by kernel_rfl))
 f48:=Tryz.func133.trans (congrArg some (by kernel_rfl))
 f49:=⟨ "slices.medianAdjacentCmpFunc[tithebarn/api.Event]",by decide,Tryz.func134.trans (congrArg some (by kernel_rfl))⟩
 f50:=⟨ "slices.medianCmpFunc[tithebarn/api.Event]",by decide,Tryz.func135.trans (congrArg some (by kernel_rfl))⟩
 f57:=⟨ "slices.order2CmpFunc[tithebarn/api.Event]",by decide,Tryz.func176.trans (congrArg some (by kernel_rfl))⟩
 t0:=Tryz.underlying0
 a0:=Tryz.isAgg0
 z0:=Tryz.sizeOf0
 v0:=Tryz.zeroValue0
 t3:=Tryz.underlying3
 a3:=Tryz.isAgg3
 z3:=Tryz.sizeOf3
 v3:=Tryz.zeroValue3
 t4:=Tryz.underlying4
 a4:=Tryz.isAgg4
 z4:=Tryz.sizeOf4
 v4:=Tryz.zeroValue4
 t5:=Tryz.underlying5
 a5:=Tryz.isAgg5
 z5:=Tryz.sizeOf5
 v5:=Tryz.zeroValue5
 t9:=Tryz.underlying9
 a9:=Tryz.isAgg9
 z9:=Tryz.sizeOf9
 v9:=Tryz.zeroValue9
 t22:=Tryz.underlying33
 a22:=Tryz.isAgg33
 z22:=Tryz.sizeOf33
 v22:=Tryz.zeroValue33
 t25:=Tryz.underlying79
 a25:=Tryz.isAgg79
 z25:=Tryz.sizeOf79
 v25:=Tryz.zeroValue79
 t39:=Tryz.underlying121
 a39:=Tryz.isAgg121
 z39:=Tryz.sizeOf121
 v39:=Tryz.zeroValue121
 t45:=Tryz.underlying152
 a45:=Tryz.isAgg152
 z45:=Tryz.sizeOf152
 v45:=Tryz.zeroValue152
 t46:=Tryz.underlying153
 a46:=Tryz.isAgg153
 z46:=Tryz.sizeOf153
 v46:=Tryz.zeroValue153
 t50:=Tryz.underlying147
 a50:=Tryz.isAgg147
 z50:=Tryz.sizeOf147
 v50:=Tryz.zeroValue147
 t53:=Tryz.underlying95
 a53:=Tryz.isAgg95
 z53:=Tryz.sizeOf95
 v53:=Tryz.zeroValue95
 t55:=Tryz.underlying67
 a55:=Tryz.isAgg67
 z55:=Tryz.sizeOf67
 v55:=Tryz.zeroValue67
 t66:=Tryz.underlying195
 a66:=Tryz.isAgg195
 z66:=Tryz.sizeOf195
 v66:=Tryz.zeroValue195
 t70:=Tryz.underlying199
 a70:=Tryz.isAgg199
 z70:=Tryz.sizeOf199
 v70:=Tryz.zeroValue199
 t76:=Tryz.underlying234
 a76:=Tryz.isAgg234
 z76:=Tryz.sizeOf234
 v76:=Tryz.zeroValue234
 t77:=Tryz.underlying235
 a77:=Tryz.isAgg235
 z77:=Tryz.sizeOf235
 v77:=Tryz.zeroValue235
def aHb:Go.Shelf.Ren:=⟨fun | 5=>25 | 7=>47 | n=>n,fun | 3=>3 | 4=>4 | 22=>3 | n=>n,fun n=>n⟩
theorem aEE:SlLaysC2.n5 Tryz.prog aHb where
 mixed:=by kernel_rfl
 f5:=⟨ "cmp.Compare[int]",by decide,Tryz.func25.trans (congrArg some (by kernel_rfl))⟩
 f7:=⟨ "cmp.isNaN[int]",by decide,Tryz.func47.trans (congrArg some (by kernel_rfl))⟩
 t3:=Tryz.underlying3
 a3:=Tryz.isAgg3
 z3:=Tryz.sizeOf3
 v3:=Tryz.zeroValue3
 t4:=Tryz.underlying4
 a4:=Tryz.isAgg4
 z4:=Tryz.sizeOf4
 v4:=Tryz.zeroValue4
 t22:=Tryz.underlying3
 a22:=Tryz.isAgg3
 z22:=Tryz.sizeOf3
 v22:=Tryz.zeroValue3
open Go Go.AW Go.Proofs Go.Shelf Go.Sort Go.RowKit
set_option maxRecDepth 100000
abbrev e3 (a b c:Int):Array Value:= #[.int .i64 a,.int .i64 b,.int .i64 c]
set_option maxHeartbeats 1000000 in
theorem PW (a b c j g k:Int) (W:World):Calls Tryz.prog 24 #[.agg (e3 a b c),.agg (e3 j g k)] W fun e w'=>e= .returned (.int .i64 (Lib.compareInt b g))/\∃ q h,w'=grow (W.drewN q) h:=by
 have d:=fun i=>AnyG.cmp_Compare_int aEE b g i
 change ∀ i,Calls Tryz.prog 25 _ _ _ at d
 generalize Lib.compareInt b g=r at d⊢
 go_enter Tryz.func24,Tryz.ntmps24
 go_wp2_with (go_at_call 25;refine (d _).mono ?_;rintro e w' ⟨rfl,rfl⟩)
 go_ret
 exact ⟨rfl,0,_,by rw [alloc_eq_grow,alloc_eq_grow,grow_grow];rfl⟩
theorem aIq (x y:Int):(decide (Lib.compareInt x y<0))=decide (x<y):=by
 unfold Lib.compareInt
 by_cases h1:x<y
 .simp [h1]
 .by_cases a:y<x<;>simp [h1,a]
section
variable {β:Type} (K I N:β->Int)
abbrev en3 (x:β):List Int:=[K x,I x,N x]
def wF (l:List β):List β:=l.mergeSort fun x y=>decide (I x<=I y)
theorem X1 (l:List β) (hl:l.length<=1000000000) (m:∀ x∈l,∀ y∈l,I x=I y->x=y):
  aA Tryz.prog 23 [.row 0 0,.func (.func 24) [] []] [.row 0 3 46 (l.map (mF (en3 K I N)))] (.ret (.tup [])) [.row 0 3 46 ((wF I l).map (mF (en3 K I N)))]:=by
 by_cases i:l=[]
 .subst i
  have:= @pV Tryz.prog 23 24 (fun _ _=>by rfl) Int ⟨0⟩ (fun x=>[x,x,x]) 3 d_ (fun _=>rfl) [] [] (Ep _) (fun p cap w=>AnyF.slices_SortFunc_none PX p cap _ w) (fun h=>absurd rfl h) 46
  simpa [wF] using this
 .obtain ⟨r,e⟩:∃ x,x∈l:=List.exists_mem_of_ne_nil l i
  let α:={x // x∈l}
  have u:Inhabited α:=⟨⟨r,e⟩⟩
  let c:α->List Int:=fun x=>en3 K I N x.1
  let b:α->α->Int:=fun x y=>Lib.compareInt (I x.1) (I y.1)
  have a:∀ x y:α,ltOf b x y=decide (I x.1<I y.1):=fun x y=>aIq _ _
  have k:SWO (ltOf b):={
   irrefl:=fun x=>by rw [a];simp
   trans:=fun x y z h1 d=>by rw [a] at *;simp at *;omega
   ntrans:=fun x y z h1 d=>by rw [a] at *;simp at *;omega}
  have key:= @pV Tryz.prog 23 24 (fun _ _=>by rfl) α u c 3 d_ (fun _=>rfl) l.attach (l.attach.mergeSort fun x y=>!(ltOf b) y x) (Ga _ _) (fun p cap w=>AnyF.slices_SortFunc_none PX p cap _ w)
   (fun _ blk off cap w q o=>by
    have:=AnyQ.slices_SortFunc_total PX 3 Tryz.isAgg46 Tryz.sizeOf46 (zD c) (fun _=>rfl) (fun x v g=>by simp [zD,c] at g;rcases g with rfl | rfl | rfl<;>rfl) b k 24 #[] blk off cap l.attach.toArray w
     (enters_of Tryz.func24 (by kernel_rfl) rfl) (fun _ _ _ _ x y=>PW _ _ _ _ _ _ _) q o (by rw [Fj,List.length_attach];omega) (fun x y h1 d=>by
      rw [a] at h1 d
      simp at h1 d
      exact Subtype.ext (m x.1 x.2 y.1 y.2 o_))
    simp only [Fj] at this
    exact this) 46
  have n:l.attach.map (mF c)=l.map (mF (en3 K I N)):=by
   have:l.attach.map (mF (en3 K I N) ∘ Ll)=l.map (mF (en3 K I N)):=by rw [<-Cu];simp
   exact this
  have j:(l.attach.mergeSort fun x y=>!(ltOf b) y x).map (mF c)=(wF I l).map (mF (en3 K I N)):=by
   have h1:(l.attach.mergeSort fun x y=>!(ltOf b) y x).map Ll=wF I l:=by
    unfold wF
    rw [List.map_mergeSort (s:=fun x y=>decide (I x<=I y)) (f:=Ll)]
    .simp
    .intro x _ y _
     rw [a]
     by_cases h:I y.1<I x.1
     .simp [h]
     .simp [h];omega
   have:(l.attach.mergeSort fun x y=>!(ltOf b) y x).map (mF (en3 K I N) ∘ Ll)=(wF I l).map (mF (en3 K I N)):=by rw [<-h1,Cu]
   exact this
  rw [n,j] at key
  exact key
end
open Go Go.AW Go.Proofs
set_option maxRecDepth 10000
noncomputable abbrev fPl:Func:=Tryz.f22
abbrev plV (k n:Int):AVal:=.agg [ii k,ii n]
def plR:List Rn->Ent->Ent
 | [],es=>es
 | r::l,es=>plR l (jC es [r.g.id] (plV 2 (dN r)))
def plP:List Pn->Ent->Ent
 | [],es=>es
 | p::l,es=>plP l (jC es [p.g.id] (plV 1 p.at'))
def plM (s:Sta):Ent:=plP s.pend (plR s.run [])
abbrev wtS (s:Sta):AObj:=.cells 30 s.cs
theorem aDi (s:Sta) (hs:s.pend.length<=1048576) (R:Ent):∀ (m i:Nat) (es:Ent),i+m=s.pend.length->plP (s.pend.drop i) es=R->
  To E fPl (.full 0 (.ret (.mref 0)) [.mp false R]) (.head (stk fPl 1) [(1,.ref 0 0),(3,.mref 1),(25,.slice 11 (pnv s.pend) .no),(26,.int .i64 ((pnv s.pend).length:Nat)),(27,ii i)] [wtS s,.mp false es]):=by
 have d:(pnv s.pend).length=s.pend.length:=by simp
 intro m
 induction m with
 | zero=>
  intro i es e a
  rw [Ae o_] at a
  have a:es=R:=a
  subst a
  refine gV ?_
  refine aF fun h=>?_
  repeat' first | (refine gN hE ?_;conv=>whnf) | exact zx [1] | exact rfl | (refine zt ?_;try intro h) | refine zu (fun h=>?_) fun h=>?_ | fail
 | succ m c=>
  intro i es e a
  have b:i<s.pend.length:=o_
  rw [Ad b] at a
  have get:(pnv s.pend)[i]? =some (Pn.av s.pend[i]):=by simp [b]
  generalize s.pend[i]=p at a get
  have next:=c (i+1) _ o_ a
  clear c a
  refine gV ?_
  refine aT fun h=>?_
  repeat' first | (refine gN hE ?_;conv=>whnf) | refine ⟨i,rfl,?_⟩ | refine ⟨_,get,?_⟩ | exact rfl | (refine zt ?_;try intro h) | refine zu (fun h=>?_) fun h=>?_ | fail
  refine To.part [1,3,25,26,27] [0,1] rfl rfl rfl ?_
  exact next
theorem aGd (s:Sta) (hs:s.pend.length<=1048576) (k:s.run.length<=1048576) (R c:Ent) (f:plP s.pend c=R):∀ (m i:Nat) (es:Ent),i+m=s.run.length->plR (s.run.drop i) es=c->
  To E fPl (.full 0 (.ret (.mref 0)) [.mp false R]) (.head (stk fPl 0) [(1,.ref 0 0),(3,.mref 1),(10,.slice 14 (rav s.run) .no),(11,.int .i64 ((rav s.run).length:Nat)),(12,ii i)] [wtS s,.mp false es]):=by
 have e:(rav s.run).length=s.run.length:=by simp
 intro m
 induction m with
 | zero=>
  intro i es j a
  rw [Ae o_] at a
  have a:es=c:=a
  subst a
  have next:=aDi s hs R s.pend.length 0 es o_ (by rw [Bx];exact f)
  refine gV ?_
  refine aF fun h=>?_
  repeat' first | (refine gN hE ?_;conv=>whnf) | exact rfl | (refine zt ?_;try intro h) | refine zu (fun h=>?_) fun h=>?_ | fail
  refine To.part [1,3,25,26,27] [0,1] rfl rfl rfl ?_
  exact next
 | succ m d=>
  intro i es j a
  have b:i<s.run.length:=o_
  rw [Ad b] at a
  have get:(rav s.run)[i]? =some (Rn.av s.run[i]):=by simp [b]
  generalize s.run[i]=x at a get
  have next:=d (i+1) _ o_ a
  have g:=aBr x
  clear d a
  refine gV ?_
  refine aT fun h=>?_
  repeat' first | (refine gN hE ?_;conv=>whnf) | refine ⟨i,rfl,?_⟩ | refine ⟨_,get,?_⟩ | refine .pure _ [] g ?_ | exact rfl | (refine zt ?_;try intro h) | refine zu (fun h=>?_) fun h=>?_ | fail
  refine To.part [1,3,10,11,12] [0,1] rfl rfl rfl ?_
  exact next
theorem wN (s:Sta) (hs:s.pend.length<=1048576) (a:s.run.length<=1048576):aA Tryz.prog 22 [s.av] [] (.ret (.mref 0)) [.mp false (plM s)]:=by
 have next:=aGd s hs a _ _ rfl s.run.length 0 [] o_ (by rw [Bx])
 refine cT (E:=E) (fn:=Tryz.f22) (g:=.full 0 _ _) fun _=>?_
 repeat' first | (refine gN hE ?_;conv=>whnf) | exact rfl | (refine zt ?_;try intro h) | refine zu (fun h=>?_) fun h=>?_ | fail
 refine To.part [1,3,10,11,12] [0,1] rfl rfl rfl ?_
 exact next
def kO (h:Int):List Rn->Option AVal
 | []=>none
 | r::l=>match kO h l with | some v=>some v | none=>if r.g.id=h then some (plV 2 (dN r)) else none
def kQ (h:Int):List Pn->Option AVal
 | []=>none
 | p::l=>match kQ h l with | some v=>some v | none=>if p.g.id=h then some (plV 1 p.at') else none
theorem aAs (h:Int):∀ (l:List Rn) (es:Ent),aZ (plR l es) [h]=match kO h l with | some v=>some v | none=>aZ es [h]
 | [],es=>rfl
 | r::l,es=>by
  unfold plR kO
  rw [aAs h l]
  cases kO h l with
  | some v=>rfl
  | none=>
   rw [wR]
   by_cases e:r.g.id=h
   .simp [e]
   .simp [e]
theorem aAt (h:Int):∀ (l:List Pn) (es:Ent),aZ (plP l es) [h]=match kQ h l with | some v=>some v | none=>aZ es [h]
 | [],es=>rfl
 | p::l,es=>by
  unfold plP kQ
  rw [aAt h l]
  cases kQ h l with
  | some v=>rfl
  | none=>
   rw [wR]
   by_cases e:p.g.id=h
   .simp [e]
   .simp [e]
theorem aAu (s:Sta) (h:Int):aZ (plM s) [h]=match kQ h s.pend with | some v=>some v | none=>kO h s.run:=by
 unfold plM
 rw [aAt,aAs]
 cases kQ h s.pend<;>cases kO h s.run<;>rfl
def aHV:Option AVal->Int
 | some (.agg (.int .i64 k::_))=>k
 | _=>0
def pk (s:Sta) (h:Int):Int:=aHV (aZ (plM s) [h])
theorem rP (s:Sta) (h:Int):aZ (plM s) [h]=none/\pk s h=0\/∃ k n,aZ (plM s) [h]=some (plV k n)/\pk s h=k:=by
 unfold pk
 rw [aAu]
 have c:∀ l:List Rn,kO h l=none\/∃ k n,kO h l=some (plV k n):=by
  intro l
  induction l with
  | nil=>exact .inl rfl
  | cons r l a=>
   unfold kO
   exact zqta1
 have b:∀ l:List Pn,kQ h l=none\/∃ k n,kQ h l=some (plV k n):=by
  intro l
  induction l with
  | nil=>exact .inl rfl
  | cons r l a=>
   unfold kQ
   exact zqta1
 rcases b s.pend with e | ⟨k,n,e⟩
 .rw [e]
  rcases c s.run with e | ⟨k,n,e⟩
  .rw [e];exact .inl ⟨rfl,rfl⟩
  .rw [e];exact .inr ⟨k,n,rfl,rfl⟩
 .rw [e];exact .inr ⟨k,n,rfl,rfl⟩
def zC (a b:Sta) (r:Rn):List Ev:=if pk b r.g.id=2/\pk a r.g.id≠2 then [⟨1,r.g.id,r.fl⟩] else []
def vM (a b:Sta) (r:Rn):List Ev:=if pk a r.g.id≠2\/pk b r.g.id=2 then [] else if pk b r.g.id=1 then [⟨2,r.g.id,0⟩] else [⟨3,r.g.id,0⟩]
def evA (a b:Sta):List Rn->List Ev
 | []=>[]
 | r::l=>zC a b r++evA a b l
def evB (a b:Sta):List Rn->List Ev
 | []=>[]
 | r::l=>vM a b r++evB a b l
def evW (a b:Sta):List Ev:=evA a b b.run++evB a b a.run
def fZ (l:List Ev):List Ev:=l.mergeSort fun x y=>decide (x.id<=y.id)
theorem IV (a b:Sta):∀ l,(evA a b l).length<=l.length
 | []=>Cc _
 | r::l=>by
  have:=IV a b l
  unfold evA zC
  split<;>simp<;>omega
theorem IU (a b:Sta):∀ l,(evB a b l).length<=l.length
 | []=>Cc _
 | r::l=>by
  have:=IU a b l
  unfold evB vM
  split
  .simp;omega
  .split<;>simp<;>omega
def HZ (h:Int):List Rn->Int×Int
 | []=>(0,0)
 | r::l=>if r.g.id=h then (2,dN r) else HZ h l
def K6 (h:Int):List Pn->Option Int
 | []=>none
 | p::l=>if p.g.id=h then some p.at' else K6 h l
def plc (s:Sta) (h:Int):Int×Int:=match K6 h s.pend with | some n=>(1,n) | none=>HZ h s.run
set_option maxRecDepth 100000
theorem BC (w:World):(callFunc 205 #[]).run Tryz.prog w= .ok (.value (.tuple #[])) w:=run_call_mark0 Tryz.func205 (by kernel_rfl) (by kernel_rfl) (by kernel_rfl) .disable (by kernel_rfl) w
theorem E2 (w:World):(callFunc 207 #[]).run Tryz.prog w= .ok (.value (.tuple #[])) w:=run_call_mark0 Tryz.func207 (by kernel_rfl) (by kernel_rfl) (by kernel_rfl) .enable (by kernel_rfl) w
theorem ON (a:Addr) (w:World):(callFunc 208 #[.pointer (some a)]).run Tryz.prog w= .ok (.value (.tuple #[])) w:=run_call_marked Tryz.func208 (by kernel_rfl) (by kernel_rfl) (by kernel_rfl) .acquire (by kernel_rfl) a w
theorem OM (a:Addr) (w:World):(callFunc 210 #[.pointer (some a)]).run Tryz.prog w= .ok (.value (.tuple #[])) w:=run_call_marked Tryz.func210 (by kernel_rfl) (by kernel_rfl) (by kernel_rfl) .releaseMerge (by kernel_rfl) a w
theorem aDH (a:Addr) (w:World) (d:w.cell? a=some (.int .i32 0)) (hz:w.frozen? a=false):
  Calls Tryz.prog 180 #[.pointer (some a)] w fun e w'=>e= .returned (.tuple #[])/\w'=w.setCell a (.int .i32 1):=by
 have h:=BC
 have i:=E2
 have j:=ON
 have c:=run_call_cas_hit (P:=Tryz.prog) Tryz.func206 (by kernel_rfl) (by kernel_rfl) (by kernel_rfl) .i32 (by kernel_rfl) (y:=1) d hz
 have b:(w.setCell a (.int .i32 1)).cell? a=some (.int .i32 1):=World.cell?_setCell_same w a _ d
 have g:=run_convert_to_unsafe (P:=Tryz.prog) (src:=252) (dst:=256) Tryz.underlying252 Tryz.underlying256 (by kernel_rfl) b
 go_enter Tryz.func180,Tryz.ntmps180
 go_wp2
 first | go_end0 | (simp only [Exit.inBlock,Exit.then];refine bodyPost_ret (results_none rfl _ _ _) rfl ?_) | refine bodyPost_ret (results_none rfl _ _ _) rfl ?_
 go_wp2
theorem T6 (a:Addr) (w:World) (c:w.cell? a=some (.int .i32 1)) (hz:w.frozen? a=false):
  Calls Tryz.prog 181 #[.pointer (some a)] w fun e w'=>e= .returned (.tuple #[])/\w'=w.setCell a (.int .i32 0):=by
 have g:=BC
 have i:=E2
 have h:=OM
 have b:=run_call_add (P:=Tryz.prog) Tryz.func211 (by kernel_rfl) (by kernel_rfl) (by kernel_rfl) .i32 (by kernel_rfl) (y:= -1) (s:=0) c hz (by simp [go_sem];rfl)
 have d:=run_convert_to_unsafe (P:=Tryz.prog) (src:=252) (dst:=256) Tryz.underlying252 Tryz.underlying256 (by kernel_rfl) c
 go_enter Tryz.func181,Tryz.ntmps181
 go_wp2
 go_end0
 go_wp2
set_option maxRecDepth 10000
abbrev tWt:TypeId:=109
abbrev wC (s:Sta) (d m:Int) (g u:AVal) (n:Int):List AVal:=s.cs++[.int .u32 d,.int .i32 m,.int .u32 0,g,u,ii n]
abbrev wO (s:Sta) (d m:Int) (f:Bool) (n:Int):List AObj:=match f with
 | false=>[.cells tWt (wC s d m .nilmap (.slice 3 [] .nil) n)]
 | true=>[.cells tWt (wC s d m (.mref 1) (.slice 3 (vav (ofL s.c s.run)) .no) n),.mp false (plM s)]
theorem ldU (T:TypeId) (cs:List AVal) (obs:List AObj) (o:Nat) (x:Int) (c:cs[o]? =some (.int .u32 x)):aA Tryz.prog 140 [.ref 0 o] (.cells T cs::obs) (.ret (.int .u32 x)) (.cells T cs::obs):=
 FF (fun a x w b=>run_call_load Tryz.func140 (by kernel_rfl) (by kernel_rfl) (by kernel_rfl) .u32 (by kernel_rfl) b) T cs obs o x c
theorem ldI (T:TypeId) (cs:List AVal) (obs:List AObj) (o:Nat) (x:Int) (c:cs[o]? =some (.int .i64 x)):aA Tryz.prog 65 [.ref 0 o] (.cells T cs::obs) (.ret (.int .i64 x)) (.cells T cs::obs):=
 FF (fun a x w b=>run_call_load Tryz.func65 (by kernel_rfl) (by kernel_rfl) (by kernel_rfl) .i64 (by kernel_rfl) b) T cs obs o x c
theorem mR {M:Imm} {ob:Hs}:Rep M ob (.tuple #[]) (.tup []):=.tup [] [] rfl (fun i v a b=>by simp at b)
theorem aFc (T:TypeId) (cs:List AVal) (obs:List AObj) (o:Nat) (e:cs[o]? =some (.int .i32 0)):aA Tryz.prog 180 [.ref 0 o] (.cells T cs::obs) (.ret (.tup [])) (.cells T (cs.set o (.int .i32 1))::obs):=
 GQ (fun _ _=>by rfl) T cs obs o e fun M ob a u vs w d b c hz=>by
  obtain rfl:=d.int_inv.1
  obtain rfl:vs=[]:=Al b.1
  exact ⟨_,_,rfl,.int _ _ ⟨by simp only [bW];omega,by simp only [bI];omega⟩,mR,aDH a w c hz⟩
theorem aCt (T:TypeId) (cs:List AVal) (obs:List AObj) (o:Nat) (e:cs[o]? =some (.int .i32 1)):aA Tryz.prog 181 [.ref 0 o] (.cells T cs::obs) (.ret (.tup [])) (.cells T (cs.set o (.int .i32 0))::obs):=
 GQ (fun _ _=>by rfl) T cs obs o e fun M ob a u vs w d b c hz=>by
  obtain rfl:=d.int_inv.1
  obtain rfl:vs=[]:=Al b.1
  exact ⟨_,_,rfl,.int _ _ ⟨by simp only [bW];omega,by simp only [bI];omega⟩,mR,T6 a w c hz⟩
section
variable (s:Sta) (f:Bool) (n:Int)
theorem aAp (d:Int):aA Tryz.prog 141 [.ref 0 10] (wO s d 0 f n) (.ret (.tup [])) (wO s d 1 f n):=by
 cases f
 .have h:=aFc tWt (wC s d 0 .nilmap (.slice 3 [] .nil) n) [] 10 rfl
  refine cT (E:=E) (fn:=Tryz.f141) (g:=.full 1 _ _) fun _=>?_
  repeat' first | (refine gN hE ?_;conv=>whnf) | refine .eff [] [0] _ _ rfl h ?_ | exact zx [0] | exact rfl | (refine zt ?_;try intro h) | refine zu (fun h=>?_) fun h=>?_ | fail
 .have h:=aFc tWt (wC s d 0 (.mref 1) (.slice 3 (vav (ofL s.c s.run)) .no) n) [.mp false (plM s)] 10 rfl
  refine cT (E:=E) (fn:=Tryz.f141) (g:=.full 2 _ _) fun _=>?_
  repeat' first | (refine gN hE ?_;conv=>whnf) | refine .eff [] [0,1] _ _ rfl h ?_ | exact zx [0,1] | exact rfl | (refine zt ?_;try intro h) | refine zu (fun h=>?_) fun h=>?_ | fail
theorem DM (d m:Int):aA Tryz.prog 98 [.ref 0 9] (wO s d m f n) (.ret (.bool (d !=0))) (wO s d m f n):=by
 cases f
 .have h:=ldU tWt (wC s d m .nilmap (.slice 3 [] .nil) n) [] 9 d rfl
  refine cT (E:=E) (fn:=Tryz.f98) (g:=.full 1 _ _) fun _=>?_
  repeat' first | (refine gN hE ?_;conv=>whnf) | refine .eff [] [0] _ _ rfl h ?_ | exact zx [0] | exact rfl | (refine zt ?_;try intro h) | refine zu (fun h=>?_) fun h=>?_ | fail
 .have h:=ldU tWt (wC s d m (.mref 1) (.slice 3 (vav (ofL s.c s.run)) .no) n) [.mp false (plM s)] 9 d rfl
  refine cT (E:=E) (fn:=Tryz.f98) (g:=.full 2 _ _) fun _=>?_
  repeat' first | (refine gN hE ?_;conv=>whnf) | refine .eff [] [0,1] _ _ rfl h ?_ | exact zx [0,1] | exact rfl | (refine zt ?_;try intro h) | refine zu (fun h=>?_) fun h=>?_ | fail
theorem L3 (d m:Int):aA Tryz.prog 37 [.ref 0 14] (wO s d m f n) (.ret (.int .i64 n)) (wO s d m f n):=by
 cases f
 .have h:=ldI tWt (wC s d m .nilmap (.slice 3 [] .nil) n) [] 14 n rfl
  refine cT (E:=E) (fn:=Tryz.f37) (g:=.full 1 _ _) fun _=>?_
  repeat' first | (refine gN hE ?_;conv=>whnf) | refine .eff [] [0] _ _ rfl h ?_ | exact zx [0] | exact rfl | (refine zt ?_;try intro h) | refine zu (fun h=>?_) fun h=>?_ | fail
 .have h:=ldI tWt (wC s d m (.mref 1) (.slice 3 (vav (ofL s.c s.run)) .no) n) [.mp false (plM s)] 14 n rfl
  refine cT (E:=E) (fn:=Tryz.f37) (g:=.full 2 _ _) fun _=>?_
  repeat' first | (refine gN hE ?_;conv=>whnf) | refine .eff [] [0,1] _ _ rfl h ?_ | exact zx [0,1] | exact rfl | (refine zt ?_;try intro h) | refine zu (fun h=>?_) fun h=>?_ | fail
end
theorem stU (T:TypeId) (cs:List AVal) (obs:List AObj) (o:Nat) (x:AVal) (y:Int) (d:cs[o]? =some x):aA Tryz.prog 182 [.ref 0 o,.int .u32 y] (.cells T cs::obs) (.ret (.tup [])) (.cells T (cs.set o (.int .u32 y))::obs):=
 LK T cs obs o d fun M ob a u vs w g b e hz=>by
  obtain ⟨v,rfl⟩:∃ v,vs=[v]:=Ir.1 b.1
  obtain ⟨rfl,c⟩:=(b.2 0 v _ rfl rfl).int_inv
  exact ⟨_,_,run_call_store Tryz.func182 (by kernel_rfl) (by kernel_rfl) (by kernel_rfl) (by kernel_rfl) e hz,rfl,.int _ _ c,mR⟩
theorem adI (T:TypeId) (cs:List AVal) (obs:List AObj) (o:Nat) (x y:Int) (e:cs[o]? =some (.int .i64 x)) (c:inR .i64 (x+y)) (h:IntKind.i64.wrap (x+y)=x+y):aA Tryz.prog 105 [.ref 0 o,.int .i64 y] (.cells T cs::obs) (.ret (.int .i64 (x+y))) (.cells T (cs.set o (.int .i64 (x+y)))::obs):=
 LK T cs obs o e fun M ob a u vs w d b g hz=>by
  obtain ⟨v,rfl⟩:∃ v,vs=[v]:=Ir.1 b.1
  obtain ⟨rfl,_⟩:=(b.2 0 v _ rfl rfl).int_inv
  obtain rfl:=d.int_inv.1
  exact ⟨_,_,run_call_add Tryz.func105 (by kernel_rfl) (by kernel_rfl) (by kernel_rfl) .i64 (by kernel_rfl) g hz (by simp [Op.intArith,h]),rfl,.int _ _ c,.int _ _ c⟩
theorem aHk:aA Tryz.prog 183 [.bool true] [] (.ret (.int .u32 1)) []:=by
 refine c_ Tryz.f183 fun _=>?_
 repeat' first | (refine gN hE ?_;conv=>whnf) | exact rfl | (refine zt ?_;try intro h) | refine zu (fun h=>?_) fun h=>?_ | fail
section
variable (s:Sta) (f:Bool) (n:Int)
theorem aDZ (d m:Int) (a:inR .i64 (n+1)) (b:IntKind.i64.wrap (n+1)=n+1):aA Tryz.prog 64 [.ref 0 14,.int .i64 1] (wO s d m f n) (.ret (.int .i64 (n+1))) (wO s d m f (n+1)):=by
 cases f
 .have h:=adI tWt (wC s d m .nilmap (.slice 3 [] .nil) n) [] 14 n 1 rfl a b
  refine cT (E:=E) (fn:=Tryz.f64) (g:=.full 1 _ _) fun _=>?_
  repeat' first | (refine gN hE ?_;conv=>whnf) | refine .eff [] [0] _ _ rfl h ?_ | exact zx [0] | exact rfl | (refine zt ?_;try intro h) | refine zu (fun h=>?_) fun h=>?_ | fail
 .have h:=adI tWt (wC s d m (.mref 1) (.slice 3 (vav (ofL s.c s.run)) .no) n) [.mp false (plM s)] 14 n 1 rfl a b
  refine cT (E:=E) (fn:=Tryz.f64) (g:=.full 2 _ _) fun _=>?_
  repeat' first | (refine gN hE ?_;conv=>whnf) | refine .eff [] [0,1] _ _ rfl h ?_ | exact zx [0,1] | exact rfl | (refine zt ?_;try intro h) | refine zu (fun h=>?_) fun h=>?_ | fail
end
section
variable (s:Sta) (f:Bool) (n:Int)
theorem M9 (d m:Int):aA Tryz.prog 16 [.ref 0 0] (wO s d m f n) (.ret (ii n)) (wO s d m f n):=by
 cases f
 .have h:=L3 s false n d m
  refine cT (E:=E) (fn:=Tryz.f16) (g:=.full 1 _ _) fun _=>?_
  repeat' first | (refine gN hE ?_;conv=>whnf) | refine .eff [] [0] _ _ rfl h ?_ | exact zx [0] | exact rfl | (refine zt ?_;try intro h) | refine zu (fun h=>?_) fun h=>?_ | fail
 .have h:=L3 s true n d m
  refine cT (E:=E) (fn:=Tryz.f16) (g:=.full 2 _ _) fun _=>?_
  repeat' first | (refine gN hE ?_;conv=>whnf) | refine .eff [] [0,1] _ _ rfl h ?_ | exact zx [0,1] | exact rfl | (refine zt ?_;try intro h) | refine zu (fun h=>?_) fun h=>?_ | fail
end
abbrev ixF (f:Bool):AVal:=.func (.func 62) [] [.ref (if f then 2 else 1) 0]
abbrev bxO:AObj:=.cells 55 [.ref 0 0]
section
variable (s:Sta) (n:Int)
theorem aG7:aA Tryz.prog 61 [.ref 0 9,ixF true] (wO s 1 0 true n++[bxO]) (.ret (.tup [])) (wO s 1 0 true n++[bxO]):=by
 have h:=DM s true n 1 0
 refine cT (E:=E) (fn:=Tryz.f61) (g:=.full 3 _ _) fun _=>?_
 repeat' first | (refine gN hE ?_;conv=>whnf) | refine .eff [] [0,1] _ _ rfl h ?_ | exact zx [0,1,2] | exact rfl | (refine zt ?_;try intro h) | refine zu (fun h=>?_) fun h=>?_ | fail
end
section
variable (s:Sta) (n:Int)
theorem FS (b:inR .i64 (n+1)) (c:IntKind.i64.wrap (n+1)=n+1):aA Tryz.prog 36 [.ref 0 0] (wO s 1 0 true n) (.ret (.tup [])) (wO s 1 0 true (n+1)):=by
 have h1:=aG7 s n
 have a:=aDZ s true n 1 0 b c
 refine cT (E:=E) (fn:=Tryz.f36) (g:=.full 2 _ _) fun _=>?_
 repeat' first | (refine gN hE ?_;conv=>whnf) | refine .eff [] [0,1,2] _ _ rfl h1 ?_ | refine .sole rfl (.eff [] [0,1] _ _ rfl a ?_) | refine .eff [] [0,1] _ _ rfl a ?_ | exact zx [0,1] | exact rfl | (refine zt ?_;try intro h) | refine zu (fun h=>?_) fun h=>?_ | fail
end
def PI (s:Sta) (h:Int):AVal:=(aZ (plM s) [h]).getD (plV 0 0)
section
variable (s:Sta) (n:Int)
theorem aAZ (h:Int) (b:inR .i64 (n+1)) (c:IntKind.i64.wrap (n+1)=n+1):aA Tryz.prog 14 [.ref 0 0,ii h] (wO s 1 0 true n) (.ret (PI s h)) (wO s 1 0 true (n+1)):=by
 have h1:=FS s n b c
 unfold PI
 rcases rP s h with ⟨a,_⟩ | ⟨k,v,a,_⟩
 .rw [a]
  refine cT (E:=E) (fn:=Tryz.f14) (g:=.full 2 _ _) fun _=>?_
  repeat' first | (refine gN hE ?_;conv=>whnf) | refine .sole rfl (.eff [] [0,1] _ _ rfl h1 ?_) | refine .eff [] [0,1] _ _ rfl h1 ?_ | refine ⟨_,a,?_⟩ | exact zx [0,1] | exact rfl | (refine zt ?_;try intro h) | refine zu (fun h=>?_) fun h=>?_ | fail
 .rw [a]
  refine cT (E:=E) (fn:=Tryz.f14) (g:=.full 2 _ _) fun _=>?_
  repeat' first | (refine gN hE ?_;conv=>whnf) | refine .sole rfl (.eff [] [0,1] _ _ rfl h1 ?_) | refine .eff [] [0,1] _ _ rfl h1 ?_ | refine ⟨_,a,?_⟩ | exact zx [0,1] | exact rfl | (refine zt ?_;try intro h) | refine zu (fun h=>?_) fun h=>?_ | fail
end
def aCq (s:Sta) (i:Int):V3:=if i<0 then V3.zero else (ofL s.c s.run)[i.toNat]?.getD V3.zero
section
variable (s:Sta) (n:Int)
theorem JU (j:Int) (l:inR .i64 j) (hl:s.c.ns.length<=1048576) (b:inR .i64 (n+1)) (e:IntKind.i64.wrap (n+1)=n+1):aA Tryz.prog 15 [.ref 0 0,ii j] (wO s 1 0 true n) (.ret (aCq s j).av) (wO s 1 0 true (n+1)):=by
 have h1:=FS s n b e
 have k:(vav (ofL s.c s.run)).length=s.c.ns.length:=by simp [zO]
 unfold aCq
 by_cases a:j<0
 .rw [if_pos a]
  refine cT (E:=E) (fn:=Tryz.f15) (g:=.full 2 _ _) fun _=>?_
  repeat' first | (refine gN hE ?_;conv=>whnf) | refine .sole rfl (.eff [] [0,1] _ _ rfl h1 ?_) | refine .eff [] [0,1] _ _ rfl h1 ?_ | exact zx [0,1] | exact rfl | (refine zt ?_;try intro h) | refine zu (fun h=>?_) fun h=>?_ | fail
 .rw [if_neg a]
  obtain ⟨i,rfl⟩:∃ i:Nat,j=i:=⟨j.toNat,by omega⟩
  rw [Dl]
  by_cases d:i<s.c.ns.length
  .have h3:i<(ofL s.c s.run).length:=by rw [zO];exact d
   have get:(vav (ofL s.c s.run))[i]? =some ((ofL s.c s.run)[i]).av:=by simp [h3]
   rw [Ab h3]
   refine cT (E:=E) (fn:=Tryz.f15) (g:=.full 2 _ _) fun _=>?_
   repeat' first | (refine gN hE ?_;conv=>whnf) | refine .sole rfl (.eff [] [0,1] _ _ rfl h1 ?_) | refine .eff [] [0,1] _ _ rfl h1 ?_ | refine ⟨i,rfl,?_⟩ | refine ⟨_,get,?_⟩ | exact zx [0,1] | exact rfl | (refine zt ?_;try intro h) | refine zu (fun h=>?_) fun h=>?_ | fail
  .rw [Bj (by rw [zO];omega)]
   refine cT (E:=E) (fn:=Tryz.f15) (g:=.full 2 _ _) fun _=>?_
   repeat' first | (refine gN hE ?_;conv=>whnf) | refine .sole rfl (.eff [] [0,1] _ _ rfl h1 ?_) | refine .eff [] [0,1] _ _ rfl h1 ?_ | exact zx [0,1] | exact rfl | (refine zt ?_;try intro h) | refine zu (fun h=>?_) fun h=>?_ | fail
end
abbrev wtX (s:Sta) (d m:Int) (n:Int):List AObj:=[.cells tWt (wC s d m (.mref 2) (.slice 3 (vav (ofL s.c s.run)) .no) n),bxO,.mp false (plM s)]
section
variable (s:Sta) (n:Int)
theorem aHd (b:s.c.sm) (hs:s.pend.length<=1048576) (a:s.run.length<=1048576):aA Tryz.prog 62 [.ref 1 0] (wO s 0 1 false n++[bxO]) (.ret (.tup [])) (wtX s 0 1 n):=by
 have h1:=wN s hs a
 have d:=aAa s.c b s.run a
 refine cT (E:=E) (fn:=Tryz.f62) (g:=.full 2 _ _) fun _=>?_
 repeat' first | (refine gN hE ?_;conv=>whnf) | refine .pure _ [.mp false (plM s)] h1 ?_ | refine .pure _ [] d ?_ | exact zx [0,1,2] | exact rfl | (refine zt ?_;try intro h) | refine zu (fun h=>?_) fun h=>?_ | fail
end
section
variable (s:Sta) (n:Int)
theorem WK:sS Tryz.prog 143 [.ref 0 9,.bool true] (wtX s 0 1 n) none (wtX s 1 1 n):=by
 have h:=stU tWt (wC s 0 1 (.mref 2) (.slice 3 (vav (ofL s.c s.run)) .no) n) [bxO,.mp false (plM s)] 9 _ 1 rfl
 refine sS.plain (E:=E) (fn:=Tryz.f143) (n0:=3) (r:=.tup []) (by rfl) (by rfl) (by rfl) (fun _ _=>by rfl) (by decide+kernel) (by rfl) (by rfl) (by rfl) fun _=>?_
 repeat' first | (refine gN hE ?_;conv=>whnf) | refine .pure _ [] aHk ?_ | refine .sole rfl (.eff [] [0,1,2] _ _ rfl h ?_) | exact zx [0,1,2] | exact rfl | (refine zt ?_;try intro h) | refine zu (fun h=>?_) fun h=>?_ | fail
theorem QA:sS Tryz.prog 142 [.ref 0 10] (wtX s 1 1 n) none (wtX s 1 0 n):=by
 have h:=aCt tWt (wC s 1 1 (.mref 2) (.slice 3 (vav (ofL s.c s.run)) .no) n) [bxO,.mp false (plM s)] 10 rfl
 refine sS.plain (E:=E) (fn:=Tryz.f142) (n0:=3) (r:=.tup []) (by rfl) (by rfl) (by rfl) (fun _ _=>by rfl) (by decide+kernel) (by rfl) (by rfl) (by rfl) fun _=>?_
 repeat' first | (refine gN hE ?_;conv=>whnf) | refine .eff [] [0,1,2] _ _ rfl h ?_ | refine .sole rfl (.eff [] [0,1,2] _ _ rfl h ?_) | exact zx [0,1,2] | exact rfl | (refine zt ?_;try intro h) | refine zu (fun h=>?_) fun h=>?_ | fail
end
noncomputable def Eds (df:List (Nat×List AVal)):Env:={E with df:=df}
theorem aH6 (df:List (Nat×List AVal)):EnvOK (Eds df):=⟨hE.mix,hE.tab,hE.mth,hE.fl⟩
noncomputable abbrev Es1:Env:=Eds [(142,[.ref 0 10])]
theorem aD3:EnvOK Es1:=aH6 _
noncomputable abbrev Es2:Env:=Eds [(143,[.ref 0 9,.bool true]),(142,[.ref 0 10])]
theorem aH5:EnvOK Es2:=aH6 _
section
variable (s:Sta) (n:Int)
theorem aCH (d:s.c.sm) (hs:s.pend.length<=1048576) (b:s.run.length<=1048576):aA Tryz.prog 99 [.ref 0 9,ixF false] (wO s 0 0 false n++[bxO]) (.ret (.tup [])) (wtX s 1 0 n):=by
 have h1:=aAp s false n 0
 have a:=DM s false n 0 1
 have h3:=aHd s n d hs b
 refine cT (E:=E) (fn:=Tryz.f99) (g:=.full 2 _ _) fun _=>?_
 refine gV ?_
 first
  | refine .eff [] [0] _ _ rfl h1 ?_
  | refine .sole rfl (.eff [] [0] _ _ rfl h1 ?_)
 refine cX hE 3 ?_;conv=>whnf
 refine To.deferL hE 3 rfl rfl rfl rfl ?_;conv=>whnf
 refine .mk ?_
 refine gW aD3 ?_;conv=>whnf
 first
  | refine .eff [] [0] _ _ rfl a ?_
  | refine .sole rfl (.eff [] [0] _ _ rfl a ?_)
 refine cX aD3 6 ?_;conv=>whnf
 refine Aa (fun _=>?_) (fun h=>absurd h d_)
 refine cX aD3 1 ?_;conv=>whnf
 refine To.deferL aD3 3 rfl rfl rfl rfl ?_;conv=>whnf
 refine .mk ?_
 refine gW aH5 ?_;conv=>whnf
 first
  | refine .eff [] [0,1] _ _ rfl h3 ?_
  | refine .sole rfl (.eff [] [0,1] _ _ rfl h3 ?_)
 refine gW aH5 ?_;conv=>whnf
 refine To.leave (f:=143) (args:=[.ref 0 9,.bool true]) [(142,[.ref 0 10])] rfl [] [0,1,2] rfl (WK s n) ?_
 refine To.leave (f:=142) (args:=[.ref 0 10]) [] rfl [] [0,1,2] rfl (QA s n) ?_
 refine To.left hE rfl rfl ?_
 exact zx [0,1,2]
end
section
variable (s:Sta) (n:Int)
theorem aG8 (d:s.c.sm) (hs:s.pend.length<=1048576) (b:s.run.length<=1048576):aA Tryz.prog 61 [.ref 0 9,ixF false] (wO s 0 0 false n++[bxO]) (.ret (.tup [])) (wtX s 1 0 n):=by
 have h1:=DM s false n 0 0
 have a:=aCH s n d hs b
 refine cT (E:=E) (fn:=Tryz.f61) (g:=.full 2 _ _) fun _=>?_
 repeat' first | (refine gN hE ?_;conv=>whnf) | refine .eff [] [0] _ _ rfl h1 ?_ | refine .sole rfl (.eff [] [0,1] _ _ rfl a ?_) | refine .eff [] [0,1] _ _ rfl a ?_ | exact zx [0,1,2] | exact rfl | (refine zt ?_;try intro h) | refine zu (fun h=>?_) fun h=>?_ | fail
theorem aAN (a:inR .i64 (n+1)) (b:IntKind.i64.wrap (n+1)=n+1):aA Tryz.prog 64 [.ref 0 14,.int .i64 1] (wtX s 1 0 n) (.ret (.int .i64 (n+1))) (wtX s 1 0 (n+1)):=by
 have h:=adI tWt (wC s 1 0 (.mref 2) (.slice 3 (vav (ofL s.c s.run)) .no) n) [bxO,.mp false (plM s)] 14 n 1 rfl a b
 refine cT (E:=E) (fn:=Tryz.f64) (g:=.full 3 _ _) fun _=>?_
 repeat' first | (refine gN hE ?_;conv=>whnf) | refine .eff [] [0,1,2] _ _ rfl h ?_ | exact zx [0,1,2] | exact rfl | (refine zt ?_;try intro h) | refine zu (fun h=>?_) fun h=>?_ | fail
theorem VP (i:s.c.sm) (hs:s.pend.length<=1048576) (b:s.run.length<=1048576) (e:inR .i64 (n+1)) (d:IntKind.i64.wrap (n+1)=n+1):aA Tryz.prog 36 [.ref 0 0] (wO s 0 0 false n) (.ret (.tup [])) (wO s 1 0 true (n+1)):=by
 have h1:=aG8 s n i hs b
 have a:=aAN s n e d
 refine cT (E:=E) (fn:=Tryz.f36) (g:=.full 1 _ _) fun _=>?_
 repeat' first | (refine gN hE ?_;conv=>whnf) | refine .eff [] [0,1] _ _ rfl h1 ?_ | refine .sole rfl (.eff [] [0,1,2] _ _ rfl a ?_) | refine .eff [] [0,1,2] _ _ rfl a ?_ | exact zx [0,2] | exact rfl | (refine zt ?_;try intro h) | refine zu (fun h=>?_) fun h=>?_ | fail
theorem MA (h:Int) (i:s.c.sm) (hs:s.pend.length<=1048576) (b:s.run.length<=1048576) (e:inR .i64 (n+1)) (d:IntKind.i64.wrap (n+1)=n+1):aA Tryz.prog 14 [.ref 0 0,ii h] (wO s 0 0 false n) (.ret (PI s h)) (wO s 1 0 true (n+1)):=by
 have h1:=VP s n i hs b e d
 unfold PI
 rcases rP s h with ⟨a,_⟩ | ⟨k,v,a,_⟩
 .rw [a]
  refine cT (E:=E) (fn:=Tryz.f14) (g:=.full 1 _ _) fun _=>?_
  repeat' first | (refine gN hE ?_;conv=>whnf) | refine .sole rfl (.eff [] [0] _ _ rfl h1 ?_) | refine .eff [] [0] _ _ rfl h1 ?_ | refine ⟨_,a,?_⟩ | exact zx [0,2] | exact rfl | (refine zt ?_;try intro h) | refine zu (fun h=>?_) fun h=>?_ | fail
 .rw [a]
  refine cT (E:=E) (fn:=Tryz.f14) (g:=.full 1 _ _) fun _=>?_
  repeat' first | (refine gN hE ?_;conv=>whnf) | refine .sole rfl (.eff [] [0] _ _ rfl h1 ?_) | refine .eff [] [0] _ _ rfl h1 ?_ | refine ⟨_,a,?_⟩ | exact zx [0,2] | exact rfl | (refine zt ?_;try intro h) | refine zu (fun h=>?_) fun h=>?_ | fail
end
theorem QI (l:List Nod) (h:l.length<=1048576):aA Tryz.prog 33 [.slice 11 (nav l) .no] [] (.ret (.slice 11 (nav l) .no)) []:=by
 have a:(nav l).length=l.length:=by simp
 refine c_ Tryz.f33 fun _=>?_
 refine gV ?_
 intro b c
 refine gV ?_
 refine ⟨fun h=>?_,fun h=>?_⟩
 .have h:b=true:=h
  have e:nav l=[]:=c h
  refine gV ?_
  rw [e]
 .exact zqta0
theorem QH (l:List Pn) (h:l.length<=1048576):aA Tryz.prog 34 [.slice 11 (pnv l) .no] [] (.ret (.slice 11 (pnv l) .no)) []:=by
 have a:(pnv l).length=l.length:=by simp
 refine c_ Tryz.f34 fun _=>?_
 refine gV ?_
 intro b c
 refine gV ?_
 refine ⟨fun h=>?_,fun h=>?_⟩
 .have h:b=true:=h
  have e:pnv l=[]:=c h
  refine gV ?_
  rw [e]
 .exact zqta0
theorem QG (l:List Rn) (h:l.length<=1048576):aA Tryz.prog 35 [.slice 14 (rav l) .no] [] (.ret (.slice 14 (rav l) .no)) []:=by
 have a:(rav l).length=l.length:=by simp
 refine c_ Tryz.f35 fun _=>?_
 refine gV ?_
 intro b c
 refine gV ?_
 refine ⟨fun h=>?_,fun h=>?_⟩
 .have h:b=true:=h
  have e:rav l=[]:=c h
  refine gV ?_
  rw [e]
 .exact zqta0
theorem QZ (s:Sta) (b:s.c.ns.length<=1048576) (hp:s.pend.length<=1048576) (a:s.run.length<=1048576):aA Tryz.prog 13 [s.av] [] (.ret (.ref 0 0)) (wO s 0 0 false 0):=by
 have h1:=QI s.c.ns b
 have d:=QH s.pend hp
 have h3:=QG s.run a
 refine cT (E:=E) (fn:=Tryz.f13) (g:=.full 0 _ _) fun _=>?_
 repeat' first | (refine gN hE ?_;conv=>whnf) | refine .pure _ [] h1 ?_ | refine .pure _ [] d ?_ | refine .pure _ [] h3 ?_ | exact zx [0] | exact zx [1] | exact rfl | (refine zt ?_;try intro h) | refine zu (fun h=>?_) fun h=>?_ | fail
noncomputable abbrev nH:Func:=Tryz.f11
abbrev veO (a b:Sta) (l:List Ev):List AObj:=[wtS a,wtS b,.mp false (plM a),.mp false (plM b),.row 0 3 46 (evv l)]
abbrev veG (W:List Ev):Goal:=.full 0 (.ret (.row 0 0)) [.row 0 3 46 (evv W)]
abbrev veF (b:Sta) (i:Int):List (Nat×AVal):=[(2,.ref 0 0),(5,.mref 2),(6,.mref 3),(7,.row 4 0),(18,.slice 14 (rav b.run) .no),(19,.int .i64 ((rav b.run).length:Nat)),(20,ii i)]
theorem aBk (a b:Sta) (C:b.run.length<=1000) (R W:List Ev) (next:To (Er [7] []) nH (veG W) (.head (stk nH 0) (veF b b.run.length) (veO a b R))):∀ (m i:Nat) (c:List Ev),i+m=b.run.length->c.length<=i->c++evA a b (b.run.drop i)=R->
  To (Er [7] []) nH (veG W) (.head (stk nH 0) (veF b i) (veO a b c)):=by
 have u:(rav b.run).length=b.run.length:=by simp
 intro m
 induction m with
 | zero=>
  intro i c A w d
  rw [Ae o_] at d
  have d:c++[]=R:=d
  rw [Bm] at d
  subst d
  obtain rfl:i=b.run.length:=o_
  exact next
 | succ m p=>
  intro i c A w d
  have j:i<b.run.length:=o_
  rw [Ad j] at d
  have get:(rav b.run)[i]? =some (Rn.av b.run[i]):=by simp [j]
  generalize b.run[i]=x at d get
  have y:(evv c).length=c.length:=by simp
  have d:c++(zC a b x++evA a b (b.run.drop (i+1)))=R:=d
  have n0:zC a b x=[]->To (Er [7] []) nH (veG W) (.head (stk nH 0) (veF b ((i+1:Nat):Int)) (veO a b c)):=fun h=>p (i+1) c o_ o_ (by rw [h] at d;exact d)
  have n1:∀ v,zC a b x=[v]->To (Er [7] []) nH (veG W) (.head (stk nH 0) (veF b ((i+1:Nat):Int)) (veO a b (c++[v]))):=fun v h=>p (i+1) (c++[v]) o_ q_ (by rw [h] at d;rw [Ay];exact d)
  unfold zC at n0 n1
  clear p d next
  rcases rP b x.g.id with ⟨f,r⟩ | ⟨k,n,f,r⟩
  .rw [if_neg o_] at n0
   have n0:=n0 rfl
   clear n1
   refine gV ?_
   refine aT fun h=>?_
   repeat' first | (refine gN (hEr [7] []) ?_;conv=>whnf) | refine ⟨i,rfl,?_⟩ | refine ⟨_,get,?_⟩ | refine ⟨_,f,?_⟩ | exact rfl | (refine zt ?_;try intro h) | refine zu (fun h=>?_) fun h=>?_ | fail
   exact zqta3
  .rw [r] at n0 n1
   by_cases q:k=2
   .subst q
    rcases rP a x.g.id with ⟨o,t⟩ | ⟨s,B,o,t⟩
    .rw [if_pos o_] at n1
     have n1:=n1 _ rfl
     have e:evv (c++[⟨1,x.g.id,x.fl⟩])=evv c++[Ev.av ⟨1,x.g.id,x.fl⟩]:=by simp
     unfold veO at n1
     rw [e] at n1
     clear n0
     refine gV ?_
     refine aT fun h=>?_
     repeat' first | (refine gN (hEr [7] []) ?_;conv=>whnf) | refine ⟨i,rfl,?_⟩ | refine ⟨_,get,?_⟩ | refine ⟨_,f,?_⟩ | refine ⟨_,o,?_⟩ | refine ⟨⟨by simp only [maxLen];simp;omega,by simp;omega⟩,?_⟩ | exact rfl | (refine zt ?_;try intro h) | refine zu (fun h=>?_) fun h=>?_ | fail
     exact zqta5
    .rw [t] at n0 n1
     by_cases l:s=2
     .subst l
      rw [if_neg o_] at n0
      have n0:=n0 rfl
      clear n1
      refine gV ?_
      refine aT fun h=>?_
      repeat' first | (refine gN (hEr [7] []) ?_;conv=>whnf) | refine ⟨i,rfl,?_⟩ | refine ⟨_,get,?_⟩ | refine ⟨_,f,?_⟩ | refine ⟨_,o,?_⟩ | exact rfl | (refine zt ?_;try intro h) | refine zu (fun h=>?_) fun h=>?_ | fail
      exact zqta3
     .have z:(s !=2)=true:=by simpa using l
      rw [if_pos ⟨rfl,l⟩] at n1
      have n1:=n1 _ rfl
      have e:evv (c++[⟨1,x.g.id,x.fl⟩])=evv c++[Ev.av ⟨1,x.g.id,x.fl⟩]:=by simp
      unfold veO at n1
      rw [e] at n1
      clear n0
      refine gV ?_
      refine aT fun h=>?_
      repeat' first | (refine gN (hEr [7] []) ?_;conv=>whnf) | refine zE z ?_ | refine ⟨i,rfl,?_⟩ | refine ⟨_,get,?_⟩ | refine ⟨_,f,?_⟩ | refine ⟨_,o,?_⟩ | refine ⟨⟨by simp only [maxLen];simp;omega,by simp;omega⟩,?_⟩ | exact rfl | (refine zt ?_;try intro h) | refine zu (fun h=>?_) fun h=>?_ | fail
      exact zqta5
   .have h1:decide (k=2)=false:=decide_eq_false q
    rw [if_neg (fun h=>q h.1)] at n0
    have n0:=n0 rfl
    clear n1
    refine gV ?_
    refine aT fun h=>?_
    repeat' first | (refine gN (hEr [7] []) ?_;conv=>whnf) | refine ⟨i,rfl,?_⟩ | refine ⟨_,get,?_⟩ | refine ⟨_,f,?_⟩ | refine zF h1 ?_ | exact rfl | (refine zt ?_;try intro h) | refine zu (fun h=>?_) fun h=>?_ | fail
    exact zqta3
abbrev veH (a:Sta) (i:Int):List (Nat×AVal):=[(5,.mref 2),(6,.mref 3),(7,.row 4 0),(51,.slice 14 (rav a.run) .no),(52,.int .i64 ((rav a.run).length:Nat)),(53,ii i)]
theorem aBj (a b:Sta) (B:a.run.length<=1000) (R W:List Ev) (w:Nat) (next:To (Er [7] []) nH (veG W) (.head (stk nH 1) (veH a a.run.length) (veO a b R))):∀ (m i:Nat) (c:List Ev),i+m=a.run.length->c.length<=w+i->w<=1000->c++evB a b (a.run.drop i)=R->
  To (Er [7] []) nH (veG W) (.head (stk nH 1) (veH a i) (veO a b c)):=by
 have A:(rav a.run).length=a.run.length:=by simp
 intro m
 induction m with
 | zero=>
  intro i c F C p d
  rw [Ae o_] at d
  have d:c++[]=R:=d
  rw [Bm] at d
  subst d
  obtain rfl:i=a.run.length:=o_
  exact next
 | succ m s=>
  intro i c F C p d
  have j:i<a.run.length:=o_
  rw [Ad j] at d
  have get:(rav a.run)[i]? =some (Rn.av a.run[i]):=by simp [j]
  generalize a.run[i]=x at d get
  have D:(evv c).length=c.length:=by simp
  have d:c++(vM a b x++evB a b (a.run.drop (i+1)))=R:=d
  have n0:vM a b x=[]->To (Er [7] []) nH (veG W) (.head (stk nH 1) (veH a ((i+1:Nat):Int)) (veO a b c)):=fun h=>s (i+1) c o_ o_ p (by rw [h] at d;exact d)
  have n1:∀ v,vM a b x=[v]->To (Er [7] []) nH (veG W) (.head (stk nH 1) (veH a ((i+1:Nat):Int)) (veO a b (c++[v]))):=fun v h=>s (i+1) (c++[v]) o_ q_ p (by rw [h] at d;rw [Ay];exact d)
  unfold vM at n0 n1
  clear s d next
  rcases rP a x.g.id with ⟨f,u⟩ | ⟨k,n,f,u⟩
  .have n0:=n0 (by rw [if_pos (.inl o_)])
   clear n1
   refine gV ?_
   refine aT fun h=>?_
   repeat' first | (refine gN (hEr [7] []) ?_;conv=>whnf) | refine ⟨i,rfl,?_⟩ | refine ⟨_,get,?_⟩ | refine ⟨_,f,?_⟩ | exact rfl | (refine zt ?_;try intro h) | refine zu (fun h=>?_) fun h=>?_ | fail
   exact zqta4
  .rw [u] at n0 n1
   by_cases q:k=2
   .subst q
    rcases rP b x.g.id with ⟨l,t⟩ | ⟨o,G,l,t⟩
    .have n1:=n1 _ (by rw [t,if_neg o_,if_neg o_])
     clear n0
     have e:evv (c++[⟨3,x.g.id,0⟩])=evv c++[Ev.av ⟨3,x.g.id,0⟩]:=by simp
     unfold veO at n1
     rw [e] at n1
     refine gV ?_
     refine aT fun h=>?_
     repeat' first | (refine gN (hEr [7] []) ?_;conv=>whnf) | refine ⟨i,rfl,?_⟩ | refine ⟨_,get,?_⟩ | refine ⟨_,f,?_⟩ | refine ⟨_,l,?_⟩ | refine ⟨⟨by simp only [maxLen];simp;omega,by simp;omega⟩,?_⟩ | exact rfl | (refine zt ?_;try intro h) | refine zu (fun h=>?_) fun h=>?_ | fail
     exact zqta2
    .rw [t] at n0 n1
     by_cases y:o=2
     .subst y
      have n0:=n0 (by rw [if_pos (.inr rfl)])
      clear n1
      refine gV ?_
      refine aT fun h=>?_
      repeat' first | (refine gN (hEr [7] []) ?_;conv=>whnf) | refine ⟨i,rfl,?_⟩ | refine ⟨_,get,?_⟩ | refine ⟨_,f,?_⟩ | refine ⟨_,l,?_⟩ | exact rfl | (refine zt ?_;try intro h) | refine zu (fun h=>?_) fun h=>?_ | fail
      exact zqta4
     .have z:decide (o=2)=false:=decide_eq_false y
      by_cases r:o=1
      .subst r
       have n1:=n1 _ (by rw [if_neg o_,if_pos rfl])
       clear n0
       have e:evv (c++[⟨2,x.g.id,0⟩])=evv c++[Ev.av ⟨2,x.g.id,0⟩]:=by simp
       unfold veO at n1
       rw [e] at n1
       refine gV ?_
       refine aT fun h=>?_
       repeat' first | (refine gN (hEr [7] []) ?_;conv=>whnf) | refine ⟨i,rfl,?_⟩ | refine ⟨_,get,?_⟩ | refine zF z ?_ | refine ⟨_,f,?_⟩ | refine ⟨_,l,?_⟩ | refine ⟨⟨by simp only [maxLen];simp;omega,by simp;omega⟩,?_⟩ | exact rfl | (refine zt ?_;try intro h) | refine zu (fun h=>?_) fun h=>?_ | fail
       exact zqta2
      .have h3:decide (o=1)=false:=decide_eq_false r
       have n1:=n1 _ (by rw [if_neg o_,if_neg r])
       clear n0
       have e:evv (c++[⟨3,x.g.id,0⟩])=evv c++[Ev.av ⟨3,x.g.id,0⟩]:=by simp
       unfold veO at n1
       rw [e] at n1
       refine gV ?_
       refine aT fun h=>?_
       repeat' first | (refine gN (hEr [7] []) ?_;conv=>whnf) | refine ⟨i,rfl,?_⟩ | refine ⟨_,get,?_⟩ | refine zF z ?_ | refine zF h3 ?_ | refine ⟨_,f,?_⟩ | refine ⟨_,l,?_⟩ | refine ⟨⟨by simp only [maxLen];simp;omega,by simp;omega⟩,?_⟩ | exact rfl | (refine zt ?_;try intro h) | refine zu (fun h=>?_) fun h=>?_ | fail
       exact zqta2
   .have h1:(k !=2)=true:=by simpa using q
    have n0:=n0 (by rw [if_pos (.inl q)])
    clear n1
    refine gV ?_
    refine aT fun h=>?_
    repeat' first | (refine gN (hEr [7] []) ?_;conv=>whnf) | refine ⟨i,rfl,?_⟩ | refine ⟨_,get,?_⟩ | refine zE h1 ?_ | refine ⟨_,f,?_⟩ | exact rfl | (refine zt ?_;try intro h) | refine zu (fun h=>?_) fun h=>?_ | fail
    exact zqta4
theorem rW (a b:Sta) (i:a.run.length<=1000) (d:b.run.length<=1000) (o:a.pend.length<=1048576) (l:b.pend.length<=1048576) (e:∀ x∈evW a b,∀ y∈evW a b,x.id=y.id->x=y):
  aA Tryz.prog 11 [a.av,b.av] [] (.ret (.row 0 0)) [.row 0 3 46 (evv (fZ (evW a b)))]:=by
 have l1:=IV a b b.run
 have l2:=IU a b a.run
 have hl:(evW a b).length<=2000:=by unfold evW;rw [Bo];omega
 have h1:=wN a o o_
 have m:=wN b l o_
 have hs:=X1 Ev.k Ev.id Ev.n (evW a b) o_ e
 replace hs:aA Tryz.prog 23 [.row 0 0,.func (.func 24) [] []] [.row 0 3 46 (evv (evW a b))] (.ret (.tup [])) [.row 0 3 46 (evv (fZ (evW a b)))]:=hs
 have q:(rav a.run).length=a.run.length:=by simp
 have p:(rav b.run).length=b.run.length:=by simp
 have n1:To (Er [7] []) nH (veG (fZ (evW a b))) (.head (stk nH 1) (veH a a.run.length) (veO a b (evW a b))):=by
  generalize fZ (evW a b)=W at *
  generalize evW a b=V at *
  refine gV ?_
  refine aF fun h=>?_
  repeat' first | (refine gN (hEr [7] []) ?_;conv=>whnf) | refine .eff [] [4] _ _ rfl hs ?_ | exact zx [4] | exact rfl | (refine zt ?_;try intro h) | refine zu (fun h=>?_) fun h=>?_ | fail
 have n2:=aBj a b i _ _ (evA a b b.run).length n1 a.run.length 0 (evA a b b.run) o_ o_ o_ (by rw [Bx];rfl)
 have j:To (Er [7] []) nH (veG (fZ (evW a b))) (.head (stk nH 0) (veF b b.run.length) (veO a b (evA a b b.run))):=by
  generalize fZ (evW a b)=W at *
  generalize evA a b b.run=V at *
  refine gV ?_
  refine aF fun h=>?_
  repeat' first | (refine gN (hEr [7] []) ?_;conv=>whnf) | exact rfl | (refine zt ?_;try intro h) | refine zu (fun h=>?_) fun h=>?_ | fail
  refine To.part [5,6,7,51,52,53] [0,1,2,3,4] rfl rfl rfl ?_
  exact n2
 have c:=aBk a b d _ _ j b.run.length 0 [] o_ s_ (by rw [Bx];rfl)
 generalize fZ (evW a b)=W at *
 refine cT (E:=(Er [7] [])) (fn:=Tryz.f11) (g:=.full 0 _ _) fun _=>?_
 repeat' first | (refine gN (hEr [7] []) ?_;conv=>whnf) | refine .pure _ [.mp false (plM a)] h1 ?_ | refine .pure _ [.mp false (plM b)] m ?_ | exact rfl | (refine zt ?_;try intro h) | refine zu (fun h=>?_) fun h=>?_ | fail
 refine To.part [2,5,6,7,18,19,20] [0,1,2,3,4] rfl rfl rfl ?_
 exact c
def w28:Sta:=⟨aFw,9,2,[⟨⟨7,0,1,V3.zero,3,0,0⟩,1,5⟩],[],[0]⟩
def sI:Sta:=⟨⟨[],[],0,0⟩,0,0,[],[],[]⟩
def x28:Sta:=⟨aFw,9,2,[],[⟨⟨7,0,1,V3.zero,3,0,0⟩,1,5,9,0,[0]⟩],[0]⟩
theorem Q4:tL w28=true:=by decide+kernel
theorem aFy:LtF w28.hist:=fun x a=>by
 have h:x=0:=Bf.1 a
 subst h
 decide
theorem aFx:RunOK w28:=((aGl Q4).st aFy).run
theorem Q3:(eW w28).s=x28/\(eW w28).ev=[⟨1,7,0⟩]:=by decide+kernel
theorem XA:evW w28 x28=[⟨1,7,0⟩]:=by decide+kernel
theorem aHR:tL sI=false:=by rfl
theorem aFp:Con.sm ⟨[],[],0,0⟩:=⟨Cc _,Cc _⟩
theorem aHF:Sm []:=⟨Cc _,fun y a=>by cases a⟩
theorem aHA:aFw.sm:=⟨by decide,by decide⟩
theorem LU (s:Sta) (d:s.c.sm) (hs:Sm s.run) (b:Bool) (a:tL s=b):aA Tryz.prog 19 [s.av] [] (.ret (ii (if b=true then 0 else 1))) []:=by
 have h:=UI s d hs
 rw [a] at h
 refine c_ Tryz.f19 fun _=>?_
 repeat' first | (refine gN hE ?_;conv=>whnf) | refine .pure _ [] h ?_ | exact rfl | (refine zt ?_;try intro h) | refine zu (fun h=>?_) fun h=>?_ | fail
theorem iI:aA Tryz.prog 7 [] [] (.ret (.bool true)) []:=by
 have h1:=QZ w28 d_ d_ d_
 have b:=MA w28 0 7 aHA d_ d_ (sC d_ d_) d_
 have h3:=aAZ w28 1 8 (sC d_ d_) d_
 have d:=JU w28 2 0 (sC d_ d_) d_ (sC d_ d_) d_
 have c:=RU w28 aFx
 rw [Q3.1,Q3.2] at c
 have a:=rW w28 x28 d_ d_ d_ d_ (by rw [XA];intro x i y e _;rw [Bf.1 i,Bf.1 e])
 rw [XA,show fZ [⟨1,7,0⟩]=[⟨1,7,0⟩] from List.mergeSort_singleton _] at a
 have j:=M9 w28 true 3 1 0
 have k:=LU w28 aHA aHF true Q4
 have l:=LU sI aFp aHF false aHR
 rw [show PI w28 7=plV 1 5 from rfl] at b
 rw [show PI w28 8=plV 0 0 from rfl] at h3
 refine c_ Tryz.f7 fun _=>?_
 repeat' first | (refine gN hE ?_;conv=>whnf) | refine .pure _ _ (aA.strip h1) ?_ | refine .eff [] [2] _ _ rfl b ?_ | refine .eff [] [2,3] _ _ rfl h3 ?_ | refine .eff [] [2,3] _ _ rfl d ?_ | refine .sole rfl (.eff [] [2,3] _ _ rfl d ?_) | refine .pure _ [] (aA.strip c) ?_ | refine .pure _ _ (aA.strip a) ?_ | refine .eff [] [2,3] _ _ rfl j ?_ | refine .pure _ [] (aA.strip k) ?_ | refine .pure _ [] (aA.strip l) ?_ | exact rfl | (refine zt ?_;try intro h) | refine zu (fun h=>?_) fun h=>?_ | fail
end Go.Proofs.YtlanfgblaebddaaGreat
