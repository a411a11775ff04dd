/-
  States as bytes, as walks; the laws.
-/
import Derived.Lib.Builder
import Derived.Lib.UnsafeStr
import Derived.Lib.Walk
import Derived.Shelf.RegionOpenPlain
import Derived.Test.YtmalnhgopkfdaaaGreatRows
import Derived.Test.YtmalnhgopkfdaaaGreatSAO
set_option linter.all false
set_option maxHeartbeats 1000000
open And renaming intro->Ad
open Bool renaming and_eq_true->Ac,or_eq_true->De,true_and->Co
open Exists renaming intro->Ba
open Go.Builtin renaming unsafeSliceData_->Ig,unsafeString_->Jj
open Go.Result renaming andThen->Dp
open Go.Value renaming okWide->Iv
open Go.World renaming shape?->Jx
open Int renaming fdiv_eq_ediv_of_nonneg->Fq,toNat_natCast->Br
open List renaming all_cons->Gz,all_eq_true->Ck,append_assoc->Al,append_nil->Bd,drop_eq_getElem_cons->Ag,drop_eq_nil_of_le->Ai,drop_left->Hp,drop_zero->Dq,getElem?_eq_getElem->Ab,getElem_mem->Bw,length->Hx,length_append->Aj,length_cons->Ap,length_drop->Fa,length_map->Cv,length_nil->Bq,length_pos_iff->Ez,length_take->Cy,map_append->Cu,mem_append->Bf,mem_cons->Bk,mem_cons_of_mem->Ct,mem_cons_self->Bt,mem_singleton->Dl,nil_append->Eg,range->Dk,replicate->Ah,replicate_succ->Hj,set_append_right->Gp,take_append_drop->Ep,take_append_of_le_length->Dg,take_left->Gi,take_of_length_le->Cl
open Nat renaming le_refl->Bb,min_eq_left->Dt,mod_eq_of_lt->Dm,mod_one->Jp,mul_add->Eu,mul_comm->Cz,mul_le_mul_right->Bi,pow_add->Ev,pow_le_pow_right->Ew,zero_add->Bj,zero_le->Bh
open Option renaming map_eq_some_iff->Bo
open Option.some renaming injEq->Cf
open Or renaming inl->Fk
open Prod.mk renaming injEq->Gb
open UInt8 renaming ofNat->Dz,toNat_ofNat'->Ff
namespace Go.Proofs.YtmalnhgopkfdaaaGreat.SW
open Go Go.AW Go.Proofs Go.RowKit
set_option maxRecDepth 100000
set_option maxHeartbeats 2000000
abbrev tWr:TypeId:=83
theorem xX:liesAt Tryz.prog Tryz.prog.depth tWr (2 / Tryz.prog.cellsOf tWr) 0 81 1=true:=by kernel_rfl
theorem xD:(Tryz.prog.info? 81).map (·.size)=some 2:=by kernel_rfl
theorem H2:Tryz.prog.underlying 78=some (.pointer 81):=by kernel_rfl
theorem H1:Tryz.prog.underlying 168=some .unsafePointer:=by kernel_rfl
theorem LN:Tryz.prog.funcs[121]? =some Tryz.f121:=by kernel_rfl
theorem hS (b:Nat) (w:World) (h0:w.cell? ⟨b,0,none⟩=some (.pointer none)) (hsh:w.shape? b=some (tWr,2)) (hfz:w.frozen? ⟨b,0,none⟩=false):
  Calls Tryz.prog 79 #[.pointer (some ⟨b,0,none⟩)] w fun e w'=>e= .returned (.tuple #[])/\w'=w.setCell ⟨b,0,none⟩ (.pointer (some ⟨b,0,none⟩)):=by
 obtain ⟨j,hj,hjs⟩:=Bo.1 xD
 go_enter Tryz.func79,Tryz.ntmps79
 go_wp2
 rw [Lib.run_to_unsafe w ⟨b,0,none⟩ H2 H1 hj (by rw [hjs];decide) hsh (Nat.zero_lt_succ 1)]
 simp only [Dp]
 rw [Oper.upon_value]
 go_wp2
 rw [run_callFunc_extern LN (by kernel_rfl) (by kernel_rfl) (by kernel_rfl) (e:=Extern.AbiNoEscape.same) (by kernel_rfl)]
 rw [Lib.run_noEscape]
 simp only [Dp]
 rw [Oper.upon_value]
 go_wp2
 rw [Lib.run_from_unsafe w ⟨b,0,none⟩ H1 H2 hj hsh xX]
 simp only [Dp]
 rw [Oper.upon_value]
 go_wp2
 go_end0
 exact ⟨rfl,rfl⟩
theorem RY:Tryz.prog.underlying 137=some (.pointer 5):=by kernel_rfl
theorem T4:Tryz.prog.cellsOf 5=1:=by kernel_rfl
theorem oU (b g cap:Nat) (p:Value) (cur:Array Value) (l:List UInt8) (w:World) (hbk:w.heap[b]? =some (.cells #[p,.slice (some ⟨g,0,none⟩) l.length cap] tWr (0,0))) (hg:w.heap[g]? =some (.cells cur 5 (0,0))) (h0:l≠[])
  (hcap:l.length<=cap) (hcm:cap<=maxLen) (hcs:cur.size=cap) (hcell:∀ (j:Nat) x,l[j]? =some x->w.cell? ⟨g,j,none⟩=some (.int .u8 x.toNat)):
  Calls Tryz.prog 36 #[.pointer (some ⟨b,0,none⟩)] w fun e w'=>e= .returned (.string ⟨l.toArray⟩)/\B4 g l.length w w':=by
 have hl0:l.length≠0:=by simpa using h0
 have c1:w.drew.cell? ⟨b,1,none⟩=some (.slice (some ⟨g,0,none⟩) l.length cap):=by
  have:w.drew.heap[b]? =some (.cells #[p,.slice (some ⟨g,0,none⟩) l.length cap] tWr (0,0)):=hbk
  rw [Lib.cell_of_heap this];rfl
 have hSD:(Ig #[79] 137 #[.slice (some ⟨g,0,none⟩) l.length cap]).run Tryz.prog w.drew= .ok (.pointer (some ⟨g,0,none⟩)) w.drew:=
  Lib.run_unsafeSliceData_row _ _ _ _ _ _ (by omega)
 have hUS:(Jj #[137,3] 9 #[.pointer (some ⟨g,0,none⟩),.int .i64 l.length]).run Tryz.prog w.drew= .ok (.string ⟨l.toArray⟩) (w.drew.freeze ⟨g,0,none⟩ l.length):=by
  refine Lib.run_unsafeString_row w.drew 137 3 9 5 RY T4 g cur.size (by have hg':w.drew.heap[g]? =some (.cells cur 5 (0,0)):=hg;simp [Jx,hg']) l h0 (by omega) (by unfold maxLen at hcm;omega) ?_
  intro j x hx
  rw [aZ,Bj]
  exact hcell j x hx
 have mixed:Tryz.prog.follows Departure.mixedOrders=true:=hE.mix
 go_enter Tryz.func36,Tryz.ntmps36
 go_wp2
 go_region_o
 all_goals (go_wp2;go_ret;exact ⟨rfl,LB hl0⟩)
theorem uD (s:AVal):aA Tryz.prog 79 [.ref 0 0] [.cells tWr [.nilptr,s]] (.ret (.tup [])) [.cells tWr [.ref 0 0,s]]:=
 mW (fun _ _=>by rfl) hS s
theorem str_ok (l:List UInt8) (h0:l≠[]) (p:AVal):aA Tryz.prog 36 [.ref 0 0] [.cells tWr [p,.slice 1 (l.map ub) (.own 1 0)],.tail 0 1 5] (.ret (.str l)) [.dead,.dead]:=
 lT (fun _ _=>by rfl) oU l h0 p
open Go Go.AW Go.Proofs
open C8 (pl putN put_ok pn_len)
set_option maxRecDepth 10000
abbrev wrO (bs:List UInt8) (g:Nat):List AObj:=[.cells tWr [.ref 0 0,.slice 1 (bs.map ub) (.own 1 g)],.tail g 1 5]
theorem yR (xs:List AVal):aA Tryz.prog 79 [.ref 0 0] [.cells tWr [.ref 0 0,.slice 1 xs (.own 1 0)],.tail 0 1 5] (.ret (.tup [])) [.cells tWr [.ref 0 0,.slice 1 xs (.own 1 0)],.tail 0 1 5]:=by
 refine cT (E:=E) (fn:=Tryz.f79) (g:=.full 2 _ _) fun _=>?_
 repeat' first | (refine gN hE ?_;conv=>whnf) | exact rfl | refine aY ?_ | refine aN ?_ | refine aT fun h=>?_ | refine aF fun h=>?_ | refine ⟨fun h=>?_,fun h=>?_⟩ | refine aJ ?_ | refine ⟨_,rfl,?_⟩ | refine aD ?_ | fail
 exact ⟨[],[0,1],⟨rfl,rfl⟩,rfl,rfl⟩
theorem nL (s:List UInt8) (hs:s.length<=1000):aA Tryz.prog 33 [.ref 0 0,.str s] [.cells tWr [.nilptr,.slice 1 [] .nil]] (.ret (.tup [ii s.length,.nilif])) (wrO s 0):=by
 refine cT (E:=(Eo [14] [])) (fn:=Tryz.f33) (g:=.full 1 _ _) fun _=>?_
 refine gW (hEo [14] []) ?_;conv=>whnf
 refine .eff [] [0] _ _ rfl (uD _) ?_
 refine gW (hEo [14] []) ?_;conv=>whnf
 refine ⟨⟨by simp only [maxLen];simp;omega,by simp;omega⟩,?_⟩
 refine gW (hEo [14] []) ?_;conv=>whnf
 exact ⟨[],[0,1],⟨rfl,rfl⟩,rfl,rfl⟩
theorem ws_ok (bs s:List UInt8) (hs:bs.length+s.length<=1000000):aA Tryz.prog 33 [.ref 0 0,.str s] (wrO bs 0) (.ret (.tup [ii s.length,.nilif])) (wrO (bs++s) 1):=by
 refine cT (E:=(Eo [14] [])) (fn:=Tryz.f33) (g:=.full 2 _ _) fun _=>?_
 refine gW (hEo [14] []) ?_;conv=>whnf
 refine .eff [] [0,1] _ _ rfl (yR _) ?_
 refine gW (hEo [14] []) ?_;conv=>whnf
 refine ⟨⟨by simp only [maxLen];simp;omega,by simp;omega⟩,?_⟩
 refine gW (hEo [14] []) ?_;conv=>whnf
 refine ⟨[],[0,1],⟨rfl,rfl⟩,?_⟩;conv=>whnf
 refine ⟨rfl,?_⟩
 rw [Cu]
 rfl
noncomputable abbrev BG:Func:=Tryz.f32
theorem pE (l:List Int) (hl:((iv l).length:Int)<=9223372036854775807) (hb:∀ n∈l,n<=9223372036854775807) (B:List UInt8) (g0:Nat) (hlen:10*l.length<=1000):∀ (n i g:Nat) (bs:List UInt8),i+n=l.length->(g=0\/g=1)->(n=0->g=g0)->(0<n->g0=1)->bs.length+10*n<=100000->bs++pl (l.drop i)=B->
  To E BG (.full 2 (.ret (.tup [])) (wrO B g0)) (.head (stk BG 0) [(0,.ref 0 0),(6,.slice 1 (iv l) .no),(7,.int .i64 ((iv l).length:Nat)),(8,.int .i64 i)] (wrO bs g)):=by
 have hln:(iv l).length=l.length:=by simp
 intro n
 induction n with
 | zero=>
  intro i g bs hi hg hg0 _ hbl hB
  have e:=hg0 rfl
  subst e
  rw [Ai (by omega)] at hB
  have hB:bs++[]=B:=hB
  rw [Bd] at hB
  subst hB
  refine gW hE ?_;conv=>whnf
  refine aF fun h=>?_
  refine gW hE ?_;conv=>whnf
  refine ⟨[],[0,1],⟨rfl,rfl⟩,?_⟩
  rcases hg with rfl | rfl
  .exact ⟨rfl,rfl⟩
  .exact ⟨rfl,rfl⟩
 | succ n ih=>
  intro i g bs hi hg _ hg1 hbl hB
  have e1:=hg1 (by omega)
  subst e1
  have hlt:i<l.length:=by omega
  rw [Ag hlt] at hB
  have hbx:=hb l[i] (Bw hlt)
  generalize hx:l[i]=x at hB hbx
  have hB:bs++(putN x.toNat++pl (l.drop (i+1)))=B:=hB
  rw [<-Al] at hB
  have get:(iv l)[i]? =some (ii x):=(gU hlt).trans (by rw [hx])
  have hp:=pn_len hbx
  refine gW hE ?_;conv=>whnf
  refine aT fun h=>?_
  refine gW hE ?_;conv=>whnf
  refine ⟨i,rfl,?_⟩
  refine gW hE ?_;conv=>whnf
  refine ⟨_,get,?_⟩
  refine gW hE ?_;conv=>whnf
  refine .pure _ [] (C8.put_ok x) ?_
  refine gW hE ?_;conv=>whnf
  have next:=ih (i+1) 1 (bs++putN x.toNat) (by omega) (.inr rfl) (fun _=>rfl) (fun _=>rfl) (by simp;omega) hB
  rcases hg with rfl | rfl
  .refine .sole rfl (.eff [] [0,1] _ _ rfl (ws_ok bs _ (by omega)) ?_)
   refine gW hE ?_;conv=>whnf
   refine aJ ?_
   refine gW hE ?_;conv=>whnf
   refine To.part [0,6,7,8] [0,1] rfl rfl rfl ?_
   exact next
  .refine .sole rfl (.eff [] [0,1] _ _ rfl (ws_ok bs _ (by omega)) ?_)
   refine gW hE ?_;conv=>whnf
   refine aJ ?_
   refine gW hE ?_;conv=>whnf
   refine To.part [0,6,7,8] [0,1] rfl rfl rfl ?_
   exact next
theorem nums_ok (l:List Int) (h0:l≠[]) (hb:∀ n∈l,n<=9223372036854775807) (hlen:l.length<=100) (bs:List UInt8) (hbs:bs.length+10*l.length<=100000):
  aA Tryz.prog 32 [.ref 0 0,.slice 1 (iv l) .no] (wrO bs 0) (.ret (.tup [])) (wrO (bs++pl l) 1):=by
 have hln:(iv l).length=l.length:=by simp
 have hpos:0<l.length:=Ez.2 h0
 refine cT (E:=E) (fn:=Tryz.f32) (g:=.full 2 _ _) fun _=>?_
 refine gW hE ?_;conv=>whnf
 refine To.part [0,6,7,8] [0,1] rfl rfl rfl ?_
 exact pE l (by omega) hb _ 1 (by omega) l.length 0 0 bs (by omega) (.inl rfl) (fun h=>by omega) (fun _=>rfl) (by omega) rfl
theorem nums_fresh (k:Int) (hk:k<=9223372036854775807):aA Tryz.prog 32 [.ref 0 0,.slice 1 [ii k] .no] [.cells tWr [.nilptr,.slice 1 [] .nil]] (.ret (.tup [])) (wrO (putN k.toNat) 0):=by
 have hp:=pn_len hk
 refine cT (E:=E) (fn:=Tryz.f32) (g:=.full 1 _ _) fun _=>?_
 refine gW hE ?_;conv=>whnf
 refine gW hE ?_;conv=>whnf
 refine Ad (fun _=>?_) (fun h=>absurd (of_decide_eq_false h) (by simp))
 refine gW hE ?_;conv=>whnf
 refine ⟨0,rfl,?_⟩
 refine gW hE ?_;conv=>whnf
 refine ⟨_,rfl,?_⟩
 refine gW hE ?_;conv=>whnf
 refine .pure _ [] (C8.put_ok k) ?_
 refine gW hE ?_;conv=>whnf
 refine .sole rfl (.eff [] [0] _ _ rfl (nL _ (by omega)) ?_)
 refine gW hE ?_;conv=>whnf
 refine aJ ?_
 refine gW hE ?_;conv=>whnf
 refine gW hE ?_;conv=>whnf
 refine Ad (fun h=>absurd (of_decide_eq_true h) (by simp)) (fun _=>?_)
 refine gW hE ?_;conv=>whnf
 refine ⟨[],[0,1],⟨rfl,rfl⟩,?_⟩
 exact ⟨rfl,rfl⟩
end Go.Proofs.YtmalnhgopkfdaaaGreat.SW
namespace Go.Proofs.YtmalnhgopkfdaaaGreat
open Go Go.AW Go.Proofs
set_option maxRecDepth 10000
def wN (x i:Nat):UInt8:=Dz (x / 2 ^ (8*i) % 256)
def uY (x i:Nat):List UInt8:=(Dk i).map (wN x)
def mP (x:Nat):List UInt8:=uY x 8
theorem eU (x i:Nat):(uY x i).length=i:=by simp [uY]
theorem wM (x i:Nat):uY x (i+1)=uY x i++[wN x i]:=by simp [uY,List.range_succ]
theorem VT (x i:Nat):IntKind.u8.wrap ((x:Int).fdiv (2 ^ (8*i)))=((((wN x i).toNat:Nat)):Int):=by
 rw [Fq _ (by exact Int.le_of_lt (Int.pow_pos (by decide)))]
 have:(x:Int) / 2 ^ (8*i)=((x / 2 ^ (8*i):Nat):Int):=by simp
 rw [this,DZ,wN,Ff,Nat.mod_mod]
noncomputable abbrev fPF:Func:=Tryz.f34
theorem GD (x:Nat):∀ (m i:Nat) (row:List AVal),i+m=8->row=(uY x i).map ub++Ah m (.int .u8 0)->
  To E fPF (.pure (.ret (.str (mP x)))) (.head (stk fPF 0) [(0,.int .u64 x),(3,.row 0 0),(7,.int .i64 8),(8,.int .i64 i)] [.row 0 1 5 row]):=by
 intro m
 induction m with
 | zero=>
  intro i row hi hr
  have e:i=8:=by omega
  subst e
  subst hr
  refine gW hE ?_;conv=>whnf
  refine aF fun h=>?_
  refine gW hE ?_;conv=>whnf
  refine Ba (uY x 8) (Ad (by simp) (Ad (by simp [eU]) ?_))
  refine gW hE ?_;conv=>whnf
  rfl
 | succ m ih=>
  intro i row hi hr
  have hlen:row.length=8:=by rw [hr];simp [eU];omega
  have e1:(8*(i:Int)).toNat=8*i:=by omega
  have e2:=VT x i
  have next:=ih (i+1) (row.set i (ub (wN x i))) (by omega) (by
   rw [hr,wM,Cu,Gp _ _ (by simp [eU])]
   simp [eU,Hj])
  refine gW hE ?_;conv=>whnf
  refine aT fun h=>?_
  repeat' first | (refine gN hE ?_;conv=>whnf) | refine @Or.inr (inR IntKind.u8 _/\_) _ ?_ | refine aJ ?_ | refine Ad (Ad (show (0:Int)<=8*(i:Int) by omega) (show (8*(i:Int)).toNat<=64 by omega)) ?_ | refine ⟨i,rfl,?_⟩ | refine Ad (show i<row.length by omega) ?_ | exact rfl | refine aY ?_ | refine aN ?_ | refine aT fun h=>?_ | refine aF fun h=>?_ | refine ⟨fun h=>?_,fun h=>?_⟩ | refine aJ ?_ | refine ⟨_,rfl,?_⟩ | refine aD ?_ | fail
  refine To.part [0,3,7,8] [0] rfl rfl rfl ?_
  rw [e1,e2]
  exact next
theorem OF (x:Nat):aA Tryz.prog 34 [.int .u64 x] [] (.ret (.str (mP x))) []:=by
 have next:=GD x 8 0 (Ah 8 (.int .u8 0)) rfl rfl
 refine cT (E:=E) (fn:=Tryz.f34) (g:=.pure _) fun _=>?_
 repeat' first | (refine gN hE ?_;conv=>whnf) | exact rfl | refine aY ?_ | refine aN ?_ | refine aT fun h=>?_ | refine aF fun h=>?_ | refine ⟨fun h=>?_,fun h=>?_⟩ | refine aJ ?_ | refine ⟨_,rfl,?_⟩ | refine aD ?_ | fail
 refine To.part [0,3,7,8] [0] rfl rfl rfl ?_
 exact next
end Go.Proofs.YtmalnhgopkfdaaaGreat
namespace Go.Proofs.YtmalnhgopkfdaaaGreat.C8
open Go Go.AW Go.Proofs
set_option maxRecDepth 10000
theorem AM (a b c:Int) (ha:a<=9223372036854775807) (hb:b<=9223372036854775807) (hc:c<=9223372036854775807):aA Tryz.prog 75 [.ref 0 0,.slice 1 [ii a,ii b,ii c] .no] [.cells tWr [.nilptr,.slice 1 [] .nil]] (.ret (.tup [])) (wrO (putN a.toNat++putN b.toNat++putN c.toNat) 0):=by
 have p1:=pn_len ha
 have p2:=pn_len hb
 have p3:=pn_len hc
 refine cT (E:=E) (fn:=Tryz.f75) (g:=.full 1 _ _) fun _=>?_
 refine gW hE ?_;conv=>whnf
 refine gW hE ?_;conv=>whnf
 refine Ad (fun _=>?_) (fun h=>absurd (of_decide_eq_false h) (by simp))
 refine gW hE ?_;conv=>whnf
 refine ⟨0,rfl,?_⟩
 refine gW hE ?_;conv=>whnf
 refine ⟨_,rfl,?_⟩
 refine gW hE ?_;conv=>whnf
 refine .pure _ [] (put_ok _) ?_
 refine gW hE ?_;conv=>whnf
 refine .sole rfl (.eff [] [0] _ _ rfl (nL _ (by omega)) ?_)
 refine gW hE ?_;conv=>whnf
 refine aJ ?_
 refine gW hE ?_;conv=>whnf
 refine gW hE ?_;conv=>whnf
 refine Ad (fun _=>?_) (fun h=>absurd (of_decide_eq_false h) (by simp))
 refine gW hE ?_;conv=>whnf
 refine ⟨1,rfl,?_⟩
 refine gW hE ?_;conv=>whnf
 refine ⟨_,rfl,?_⟩
 refine gW hE ?_;conv=>whnf
 refine .pure _ [] (put_ok _) ?_
 refine gW hE ?_;conv=>whnf
 refine .sole rfl (.eff [] [0,1] _ _ rfl (ws_ok _ _ (by omega)) ?_)
 refine gW hE ?_;conv=>whnf
 refine aJ ?_
 refine gW hE ?_;conv=>whnf
 refine gW hE ?_;conv=>whnf
 refine Ad (fun _=>?_) (fun h=>absurd (of_decide_eq_false h) (by simp))
 refine gW hE ?_;conv=>whnf
 refine ⟨2,rfl,?_⟩
 refine gW hE ?_;conv=>whnf
 refine ⟨_,rfl,?_⟩
 refine gW hE ?_;conv=>whnf
 refine .pure _ [] (put_ok _) ?_
 refine gW hE ?_;conv=>whnf
 refine .sole rfl (.eff [] [0,1] _ _ rfl (ws_ok _ _ (by simp;omega)) ?_)
 refine gW hE ?_;conv=>whnf
 refine aJ ?_
 refine gW hE ?_;conv=>whnf
 refine gW hE ?_;conv=>whnf
 refine Ad (fun h=>absurd (of_decide_eq_true h) (by simp)) (fun _=>?_)
 refine gW hE ?_;conv=>whnf
 refine ⟨[],[0,1],⟨rfl,rfl⟩,?_⟩
 exact ⟨rfl,rfl⟩
theorem zC (g:Gan) (h:g.ok=true):aA Tryz.prog 77 [.ref 0 0,g.av] [.cells tWr [.nilptr,.slice 1 [] .nil]] (.ret (.tup [])) (wrO (pl g.il) 0):=by
 obtain ⟨h1,h2,h3⟩:=gan_b h
 have b1:=l3_m h1 g.id (by simp)
 have b2:=l3_m h1 g.ten (by simp)
 have b3:=l3_m h1 g.pods (by simp)
 have p1:=pn_len b1
 have p2:=pn_len b2
 have p3:=pn_len b3
 have l2:=pl_len (v3_m h2)
 simp only [V3.l,Ap,Bq] at l2
 have e:pl g.il=(putN g.id.toNat++putN g.ten.toNat++putN g.pods.toNat)++pl g.need.l++pl [g.run,g.lev,g.pref]:=by simp [pl,Gan.il,V3.l]
 rw [e]
 refine cT (E:=E) (fn:=Tryz.f77) (g:=.full 1 _ _) fun _=>?_
 refine gW hE ?_;conv=>whnf
 refine .eff [] [0] _ _ rfl (aA.strip (AM g.id g.ten g.pods b1 b2 b3)) ?_
 refine gW hE ?_;conv=>whnf
 refine .eff [] [0,2] _ _ rfl (lZ g.need h2 _ (by simp;omega)) ?_
 refine gW hE ?_;conv=>whnf
 refine .eff [] [0,2] _ _ rfl (aA.strip (nums_ok [g.run,g.lev,g.pref] (by simp) (l3_m h3) (by simp) _ (by simp [V3.l];omega))) ?_
 refine gW hE ?_;conv=>whnf
 refine ⟨[],[0,2],⟨rfl,rfl⟩,?_⟩
 exact ⟨rfl,rfl⟩
theorem pg_ok (g:Gan) (h:g.ok=true):aA Tryz.prog 35 [g.av] [] (.ret (.str (pl g.il))) []:=by
 have hne:pl g.il≠[]:=pl_ne _ _
 refine cT (E:=E) (fn:=Tryz.f35) (g:=.pure _) fun _=>?_
 refine gW hE ?_;conv=>whnf
 refine .eff [] [1] _ _ rfl (zC g h) ?_
 refine gW hE ?_;conv=>whnf
 refine .eff [] [1,2] _ _ rfl (str_ok _ hne _) ?_
 refine gW hE ?_;conv=>whnf
end Go.Proofs.YtmalnhgopkfdaaaGreat.C8
namespace Go.Proofs.YtmalnhgopkfdaaaGreat
open Go Go.AW Go.Proofs
set_option maxRecDepth 10000
def Sta.cmd (s:Sta):Cmd:=⟨1,s.c,Gan.zero,0⟩
def gJ (s:Sta):List UInt8:=C8.encB s.cmd
def lJ:List Nat->List UInt8
 | []=>[]
 | x::r=>mP x++lJ r
def jT:List Pn->List UInt8
 | []=>[]
 | x::r=>(C8.pl x.g.il++C8.pl [x.seq,x.at'])++jT r
def iC:List Rn->List UInt8
 | []=>[]
 | x::r=>(C8.pl x.g.il++C8.pl [x.seq,x.at',x.st,x.fl]++C8.pl x.hs)++iC r
def cP (s:Sta):List UInt8:=C8.putN (gJ s).length++gJ s++C8.pl [s.now,s.nxt,(s.hist.length:Int)]++lJ s.hist++C8.pl [(s.pend.length:Int)]++jT s.pend++C8.pl [(s.run.length:Int)]++iC s.run
structure Wr (s:Sta):Prop where
 con:(gJ s).length<=10000
 nums:0<=s.now/\s.now<=1099511627776/\0<=s.nxt/\s.nxt<=1099511627776
 his:s.hist.length<=100
 pen:s.pend.length<=32
 run:s.run.length<=32
 pg:∀ x∈s.pend,x.g.ok=true/\okI [x.seq,x.at']=true
 rg:∀ x∈s.run,x.g.ok=true/\okI [x.seq,x.at',x.st,x.fl]=true/\okI x.hs=true/\x.hs≠[]/\x.hs.length<=16
noncomputable abbrev BI:Func:=Tryz.f12
abbrev enO (bs:List UInt8) (g:Nat):List AObj:=SW.wrO bs g
theorem E1 (g:Gan) (h:g.ok=true):(C8.pl g.il).length<=90:=by
 obtain ⟨h1,h2,h3⟩:=C8.gan_b h
 have l1:=C8.pl_len (C8.l3_m h1)
 have l2:=C8.pl_len (C8.v3_m h2)
 have l3:=C8.pl_len (C8.l3_m h3)
 have e:C8.pl g.il=C8.pl [g.id,g.ten,g.pods]++C8.pl g.need.l++C8.pl [g.run,g.lev,g.pref]:=by simp [C8.pl,Gan.il,V3.l]
 simp only [V3.l,Ap,Bq] at l1 l2 l3
 rw [e,Aj,Aj]
 simp only [V3.l]
 omega
theorem nE {l:List Int} (h:okI l=true):∀ n∈l,n<=9223372036854775807:=fun n hn=>by have:=C8.okI_b h n hn;omega
theorem P3 (s:Sta) (w:Wr s) (B:List UInt8) (hne:B≠[]):∀ (m i:Nat) (bs:List UInt8),i+m=s.run.length->bs.length+300*m<=40000->bs++iC (s.run.drop i)=B->
  To E BI (.pure (.ret (.tup [.str B,ii 0]))) (.head (stk BI 2) [(7,.ref 0 0),(97,.slice 14 (rav s.run) .no),(98,.int .i64 ((rav s.run).length:Nat)),(99,ii (i:Int))] (enO bs 0)):=by
 have hlen:(rav s.run).length=s.run.length:=by simp
 have hlr:=w.run
 intro m
 induction m with
 | zero=>
  intro i bs hi hbl hB
  rw [Ai (by omega)] at hB
  have hB:bs++[]=B:=hB
  rw [Bd] at hB
  subst hB
  refine gW hE ?_;conv=>whnf
  refine aF fun h=>?_
  refine gW hE ?_;conv=>whnf
  refine .eff [] [0,1] _ _ rfl (SW.str_ok _ hne _) ?_
  refine gW hE ?_;conv=>whnf
 | succ m ih=>
  intro i bs hi hbl hB
  have hlt:i<s.run.length:=by omega
  rw [Ag hlt] at hB
  have get:=mD hlt
  obtain ⟨g1,g2,g3,g4,g5⟩:=w.rg s.run[i] (Bw hlt)
  generalize s.run[i]=x at hB get g1 g2 g3 g4 g5
  have hB:bs++((C8.pl x.g.il++C8.pl [x.seq,x.at',x.st,x.fl]++C8.pl x.hs)++iC (s.run.drop (i+1)))=B:=hB
  rw [<-Al,<-Al,<-Al] at hB
  have l1:=E1 x.g g1
  have l2:=C8.pl_len (nE g2)
  have l3:=C8.pl_len (nE g3)
  simp only [Ap,Bq] at l2
  have hp:=C8.pg_ok x.g g1
  have h1:=SW.ws_ok bs (C8.pl x.g.il) (by omega)
  have h2:=SW.nums_ok [x.seq,x.at',x.st,x.fl] (by simp) (nE g2) (by simp) (bs++C8.pl x.g.il) (by simp;omega)
  have h3:=SW.nums_ok x.hs g4 (nE g3) (by omega) (bs++C8.pl x.g.il++C8.pl [x.seq,x.at',x.st,x.fl]) (by simp only [Aj];omega)
  have next:=ih (i+1) _ (by omega) (by simp only [Aj];omega) hB
  refine gW hE ?_;conv=>whnf
  refine aT fun h=>?_
  refine gW hE ?_;conv=>whnf
  refine ⟨i,rfl,?_⟩
  refine gW hE ?_;conv=>whnf
  refine ⟨_,get,?_⟩
  refine gW hE ?_;conv=>whnf
  refine .pure _ [] hp ?_
  refine gW hE ?_;conv=>whnf
  refine .sole rfl (.eff [] [0,1] _ _ rfl h1 ?_)
  refine gW hE ?_;conv=>whnf
  refine .eff [] [0,1] _ _ rfl (aA.strip h2) ?_
  refine gW hE ?_;conv=>whnf
  refine .eff [] [0,1] _ _ rfl h3 ?_
  refine gW hE ?_;conv=>whnf
  refine aJ ?_
  refine gW hE ?_;conv=>whnf
  refine To.part [7,97,98,99] [0,1] rfl rfl rfl ?_
  exact next
theorem P4 (s:Sta) (w:Wr s) (B:List UInt8) (hne:B≠[]):∀ (m i:Nat) (bs:List UInt8),i+m=s.pend.length->bs.length+150*m<=20000->bs++jT (s.pend.drop i)++(C8.pl [(s.run.length:Int)]++iC s.run)=B->
  To E BI (.pure (.ret (.tup [.str B,ii 0]))) (.head (stk BI 1) [(1,.ptr s.cs),(7,.ref 0 0),(69,.slice 11 (pnv s.pend) .no),(70,.int .i64 ((pnv s.pend).length:Nat)),(71,ii (i:Int))] (enO bs 0)):=by
 have hlen:(pnv s.pend).length=s.pend.length:=by simp
 have hlr:(rav s.run).length=s.run.length:=by simp
 have hlp:=w.pen
 have hrr:=w.run
 intro m
 induction m with
 | zero=>
  intro i bs hi hbl hB
  rw [Ai (by omega)] at hB
  have hB:bs++[]++(C8.pl [(s.run.length:Int)]++iC s.run)=B:=hB
  rw [Bd,<-Al] at hB
  have hm:∀ n∈[(s.run.length:Int)],n<=9223372036854775807:=fun n hn=>by simp at hn;omega
  have l1:=C8.pl_len hm
  simp only [Ap,Bq] at l1
  have h1:=SW.nums_ok [(s.run.length:Int)] (by simp) hm (by simp) bs (by simp;omega)
  have next:=P3 s w B hne s.run.length 0 (bs++C8.pl [(s.run.length:Int)]) (by omega) (by rw [Aj];omega) hB
  rw [<-hlr] at h1
  rw [<-hlr] at next
  refine gW hE ?_;conv=>whnf
  refine aF fun h=>?_
  refine gW hE ?_;conv=>whnf
  refine .eff [] [0,1] _ _ rfl (aA.strip h1) ?_
  refine gW hE ?_;conv=>whnf
  refine To.part [7,97,98,99] [0,1] rfl rfl rfl ?_
  exact next
 | succ m ih=>
  intro i bs hi hbl hB
  have hlt:i<s.pend.length:=by omega
  rw [Ag hlt] at hB
  have get:=EI hlt
  obtain ⟨g1,g2⟩:=w.pg s.pend[i] (Bw hlt)
  generalize s.pend[i]=x at hB get g1 g2
  have hB:bs++((C8.pl x.g.il++C8.pl [x.seq,x.at'])++jT (s.pend.drop (i+1)))++(C8.pl [(s.run.length:Int)]++iC s.run)=B:=hB
  rw [<-Al bs,<-Al bs] at hB
  have l1:=E1 x.g g1
  have l2:=C8.pl_len (nE g2)
  simp only [Ap,Bq] at l2
  have hp:=C8.pg_ok x.g g1
  have h1:=SW.ws_ok bs (C8.pl x.g.il) (by omega)
  have h2:=SW.nums_ok [x.seq,x.at'] (by simp) (nE g2) (by simp) (bs++C8.pl x.g.il) (by simp;omega)
  have next:=ih (i+1) _ (by omega) (by simp only [Aj];omega) hB
  refine gW hE ?_;conv=>whnf
  refine aT fun h=>?_
  refine gW hE ?_;conv=>whnf
  refine ⟨i,rfl,?_⟩
  refine gW hE ?_;conv=>whnf
  refine ⟨_,get,?_⟩
  refine gW hE ?_;conv=>whnf
  refine .pure _ [] hp ?_
  refine gW hE ?_;conv=>whnf
  refine .sole rfl (.eff [] [0,1] _ _ rfl h1 ?_)
  refine gW hE ?_;conv=>whnf
  refine .eff [] [0,1] _ _ rfl (aA.strip h2) ?_
  refine gW hE ?_;conv=>whnf
  refine aJ ?_
  refine gW hE ?_;conv=>whnf
  refine To.part [1,7,69,70,71] [0,1] rfl rfl rfl ?_
  exact next
theorem K8 {l:List Nat} {i:Nat} (h:i<l.length):(fv l)[i]? =some (.int .u64 (l[i]:Int)):=by simp [fv,h]
theorem P5 (s:Sta) (w:Wr s) (B:List UInt8) (hne:B≠[]):∀ (m i:Nat) (bs:List UInt8),i+m=s.hist.length->bs.length+8*m<=15000->bs++lJ (s.hist.drop i)++(C8.pl [(s.pend.length:Int)]++(jT s.pend++(C8.pl [(s.run.length:Int)]++iC s.run)))=B->
  To E BI (.pure (.ret (.tup [.str B,ii 0]))) (.head (stk BI 0) [(1,.ptr s.cs),(7,.ref 0 0),(49,.slice 1 (fv s.hist) .no),(50,.int .i64 ((fv s.hist).length:Nat)),(51,ii (i:Int))] (enO bs 0)):=by
 have hlen:(fv s.hist).length=s.hist.length:=by simp
 have hlr:(pnv s.pend).length=s.pend.length:=by simp
 have hlp:=w.pen
 have hlh:=w.his
 intro m
 induction m with
 | zero=>
  intro i bs hi hbl hB
  rw [Ai (by omega)] at hB
  have hB:bs++[]++(C8.pl [(s.pend.length:Int)]++(jT s.pend++(C8.pl [(s.run.length:Int)]++iC s.run)))=B:=hB
  rw [Bd,<-Al,<-Al] at hB
  have hm:∀ n∈[(s.pend.length:Int)],n<=9223372036854775807:=fun n hn=>by simp at hn;omega
  have l1:=C8.pl_len hm
  simp only [Ap,Bq] at l1
  have h1:=SW.nums_ok [(s.pend.length:Int)] (by simp) hm (by simp) bs (by simp;omega)
  have next:=P4 s w B hne s.pend.length 0 (bs++C8.pl [(s.pend.length:Int)]) (by omega) (by rw [Aj];omega) hB
  rw [<-hlr] at h1
  rw [<-hlr] at next
  refine gW hE ?_;conv=>whnf
  refine aF fun h=>?_
  refine gW hE ?_;conv=>whnf
  refine .eff [] [0,1] _ _ rfl (aA.strip h1) ?_
  refine gW hE ?_;conv=>whnf
  refine To.part [1,7,69,70,71] [0,1] rfl rfl rfl ?_
  exact next
 | succ m ih=>
  intro i bs hi hbl hB
  have hlt:i<s.hist.length:=by omega
  rw [Ag hlt] at hB
  have get:=K8 hlt
  generalize s.hist[i]=x at hB get
  have hB:bs++(mP x++lJ (s.hist.drop (i+1)))++(C8.pl [(s.pend.length:Int)]++(jT s.pend++(C8.pl [(s.run.length:Int)]++iC s.run)))=B:=hB
  rw [<-Al bs] at hB
  have l1:(mP x).length=8:=eU x 8
  have hp:=OF x
  have h1:=SW.ws_ok bs (mP x) (by omega)
  have next:=ih (i+1) _ (by omega) (by simp only [Aj];omega) hB
  refine gW hE ?_;conv=>whnf
  refine aT fun h=>?_
  refine gW hE ?_;conv=>whnf
  refine ⟨i,rfl,?_⟩
  refine gW hE ?_;conv=>whnf
  refine ⟨_,get,?_⟩
  refine gW hE ?_;conv=>whnf
  refine .pure _ [] hp ?_
  refine gW hE ?_;conv=>whnf
  refine .sole rfl (.eff [] [0,1] _ _ rfl h1 ?_)
  refine gW hE ?_;conv=>whnf
  refine aJ ?_
  refine gW hE ?_;conv=>whnf
  refine To.part [1,7,49,50,51] [0,1] rfl rfl rfl ?_
  exact next
def enB (s:Sta):List AObj:=[.cells 31 s.cs]
def TO (s:Sta):List AObj:=[.fcells s.cs]
theorem TN (s:Sta):frzs [0] (enB s)=TO s:=by kernel_rfl
theorem P9 (s:Sta):tH [1] (aC (TO s)) [(1,.ref 0 0),(2,.str []),(3,ii 0)]=[(1,.ptr s.cs),(2,.str []),(3,ii 0)]:=by kernel_rfl
theorem P8 {g:Goal} {ks:List KI} (s:Sta) (h:To E BI g (.code ks [(1,.ptr s.cs),(2,.str []),(3,ii 0)] (TO s))):To E BI g (.code ks [(1,.ref 0 0),(2,.str []),(3,ii 0)] (enB s)):=by
 refine To.frz [1] [0] ?_
 rw [TN,P9]
 exact h
def P6 (s:Sta):List UInt8:=if hJ s=true then cP s else []
theorem EB (s:Sta) (hc:s.c.sm) (hs:Sm s.run) (hw:hJ s=true->Wr s):aA Tryz.prog 12 [s.av] [] (.ret (.tup [.str (P6 s),ii (if hJ s=true then 0 else 1)])) []:=by
 have hck:=oV s hc hs
 unfold P6
 cases hq:hJ s with
 | false=>
  rw [hq] at hck
  have hck:aA Tryz.prog 13 [s.av] [] (.ret (ii 1)) []:=hck
  show aA _ _ _ _ (.ret (.tup [.str [],ii 1])) _
  refine cT (E:=E) (fn:=Tryz.f12) (g:=.pure _) fun _=>?_
  repeat' first | (refine gN hE ?_;conv=>whnf) | refine .pure _ [] hck ?_ | exact rfl | refine aY ?_ | refine aN ?_ | refine aT fun h=>?_ | refine aF fun h=>?_ | refine ⟨fun h=>?_,fun h=>?_⟩ | refine aJ ?_ | refine ⟨_,rfl,?_⟩ | refine aD ?_ | fail
 | true=>
  rw [hq] at hck
  have hck:aA Tryz.prog 13 [s.av] [] (.ret (ii 0)) []:=hck
  show aA _ _ _ _ (.ret (.tup [.str (cP s),ii 0])) _
  have w:=hw hq
  have he:aA Tryz.prog 31 [s.cmd.av] [] (.ret (.tup [.str (gJ s),ii (C8.chk s.cmd)])) []:=C8.enc_ok s.cmd
  have hlh:(fv s.hist).length=s.hist.length:=by simp
  have hl1:=w.con
  have hl2:=w.his
  obtain ⟨n1,n2,n3,n4⟩:=w.nums
  have h1:=SW.nums_fresh ((gJ s).length:Int) (by omega)
  rw [Br] at h1
  have lp:(C8.putN (gJ s).length).length<=10:=by
   have:=C8.pn_len (n:=((gJ s).length:Int)) (by omega)
   rw [Br] at this
   omega
  have h2:=SW.ws_ok (C8.putN (gJ s).length) (gJ s) (by omega)
  have hm:∀ n∈[s.now,s.nxt,(s.hist.length:Int)],n<=9223372036854775807:=fun n hn=>by simp at hn;omega
  have l3:=C8.pl_len hm
  simp only [Ap,Bq] at l3
  have h3:=SW.nums_ok [s.now,s.nxt,(s.hist.length:Int)] (by simp) hm (by simp) (C8.putN (gJ s).length++gJ s) (by simp;omega)
  have hne:cP s≠[]:=by
   intro h
   have:=congrArg Hx h
   unfold cP at this
   have e:C8.pl [s.now,s.nxt,(s.hist.length:Int)]≠[]:=C8.pl_ne _ _
   have:=Ez.2 e
   simp only [Aj,Bq] at *
   omega
  have next:=P5 s w (cP s) hne s.hist.length 0 (C8.putN (gJ s).length++gJ s++C8.pl [s.now,s.nxt,(s.hist.length:Int)]) (by omega) (by simp only [Aj];omega) (by unfold cP;simp only [Dq,Al])
  rw [<-hlh] at h3
  rw [<-hlh] at next
  generalize gJ s=C at he h1 h2 h3 next
  generalize cP s=B at next
  generalize C8.chk s.cmd=ck at he
  refine cT (E:=E) (fn:=Tryz.f12) (g:=.pure _) fun _=>?_
  refine dI hE 13 ?_;conv=>whnf
  refine To.cutC [1,2,3] 1 rfl rfl rfl rfl ?_
  refine P8 s ?_
  refine gW hE ?_;conv=>whnf
  refine .pure _ [] hck ?_
  refine gW hE ?_;conv=>whnf
  refine Ad (fun h=>absurd h (by decide)) (fun _=>?_)
  refine gW hE ?_;conv=>whnf
  refine .pure _ [] he ?_
  refine gW hE ?_;conv=>whnf
  refine .eff [] [1] _ _ rfl (aA.strip h1) ?_
  refine gW hE ?_;conv=>whnf
  refine .eff [] [1,2] _ _ rfl h2 ?_
  refine gW hE ?_;conv=>whnf
  refine .eff [] [1,2] _ _ rfl (aA.strip h3) ?_
  refine gW hE ?_;conv=>whnf
  refine To.part [1,7,49,50,51] [1,2] rfl rfl rfl ?_
  exact next
open C8 (leN pG lI vL)
set_option maxRecDepth 10000
def yE (l:List UInt8):AVal:=if l.length<8 then .tup [.int .u64 0,.int .i64 0,.int .i64 10] else .tup [.int .u64 (leN (l.take 8)),.int .i64 8,.int .i64 0]
noncomputable abbrev fGF:Func:=Tryz.f57
theorem GX (l:List UInt8) (hl:8<=l.length):∀ (f i:Nat),i+f=8->
  To E fGF (.pure (.ret (.tup [.int .u64 (leN (l.take 8)),.int .i64 8,.int .i64 0]))) (.head (stk fGF 0) [(0,.str l),(5,.int .u64 (leN (l.take i))),(10,.int .i64 i)] []):=by
 intro f
 induction f with
 | zero=>
  intro i hi
  have e:i=8:=by omega
  subst e
  refine gW hE ?_;conv=>whnf
  refine aF fun h=>?_
  repeat' first | (refine gN hE ?_;conv=>whnf) | exact rfl | refine aY ?_ | refine aN ?_ | refine aT fun h=>?_ | refine aF fun h=>?_ | refine ⟨fun h=>?_,fun h=>?_⟩ | refine aJ ?_ | refine ⟨_,rfl,?_⟩ | refine aD ?_ | fail
 | succ f ih=>
  intro i hi
  obtain ⟨c,hc⟩:∃ c,l[i]? =some c:=⟨l[i]'(by omega),Ab (by omega)⟩
  have hc2:c.toNat<256:=c.toNat_lt
  have hacc:=pG (l.take i)
  rw [Cy,Dt (by omega)] at hacc
  have h5:2 ^ (8*(i+1))=256*2 ^ (8*i):=by rw [Eu,Ev];omega
  have h4:c.toNat*2 ^ (8*i)<=255*2 ^ (8*i):=Bi _ (by omega)
  have h6:2 ^ (8*(i+1))<=2 ^ 64:=Ew (by decide) (by omega)
  have e2:(8*(i:Int)).toNat=8*i:=by omega
  have e3:(c.toNat:Int)*2 ^ (8*i)=((c.toNat*2 ^ (8*i):Nat):Int):=by simp
  have e4:fY .or .u64 (leN (l.take i):Int) ((c.toNat*2 ^ (8*i):Nat):Int)=((leN (l.take (i+1)):Nat):Int):=by
   rw [tT .u64 _ _ (by simp only [bQ];omega) (by simp only [bQ];omega),JQ hacc,vL hc,lI,Cy,Dt (by omega)]
  have next:=ih (i+1) (by omega)
  refine gW hE ?_;conv=>whnf
  refine aT fun h=>?_
  refine gW hE ?_;conv=>whnf
  refine ⟨i,rfl,?_⟩
  refine gW hE ?_;conv=>whnf
  refine ⟨c,hc,?_⟩
  refine gW hE ?_;conv=>whnf
  refine Fk (Ad (show inR IntKind.u64 (c.toNat:Int) from mG (by simp only [bQ];omega)) ?_)
  refine gW hE ?_;conv=>whnf
  refine aJ ?_
  refine gW hE ?_;conv=>whnf
  refine Ad (show (0:Int)<=8*(i:Int) by omega) ?_
  refine gW hE ?_;conv=>whnf
  refine Fk (Ad (Ad (by rw [e2];simp only [IntKind.bits];omega) (by rw [e2,e3];exact mG (by simp only [bQ];omega))) ?_)
  refine gW hE ?_;conv=>whnf
  rw [e2,e3,e4]
  refine aJ ?_
  refine gW hE ?_;conv=>whnf
  refine To.part [0,5,10] [] rfl rfl rfl ?_
  exact next
theorem PI (l:List UInt8):aA Tryz.prog 57 [.str l] [] (.ret (yE l)) []:=by
 unfold yE
 by_cases h:l.length<8
 .rw [if_pos h]
  refine cT (E:=E) (fn:=Tryz.f57) (g:=.pure _) fun _=>?_
  refine gW hE ?_;conv=>whnf
  refine Ad (fun _=>?_) (fun h=>absurd (of_decide_eq_false h) (by omega))
  repeat' first | (refine gN hE ?_;conv=>whnf) | exact rfl | refine aY ?_ | refine aN ?_ | refine aT fun h=>?_ | refine aF fun h=>?_ | refine ⟨fun h=>?_,fun h=>?_⟩ | refine aJ ?_ | refine ⟨_,rfl,?_⟩ | refine aD ?_ | fail
 .rw [if_neg h]
  have next:=GX l (by omega) 8 0 rfl
  refine cT (E:=E) (fn:=Tryz.f57) (g:=.pure _) fun _=>?_
  refine gW hE ?_;conv=>whnf
  refine Ad (fun h=>absurd (of_decide_eq_true h) (by omega)) (fun _=>?_)
  repeat' first | (refine gN hE ?_;conv=>whnf) | exact rfl | refine aY ?_ | refine aN ?_ | refine aT fun h=>?_ | refine aF fun h=>?_ | refine ⟨fun h=>?_,fun h=>?_⟩ | refine aJ ?_ | refine ⟨_,rfl,?_⟩ | refine aD ?_ | fail
  refine To.part [0,5,10] [] rfl rfl rfl ?_
  exact next
open C8 (leN bA bY rGan rdO rdU oY pD aS aH aW bC hD fL rC nS bD bT tRd)
set_option maxRecDepth 10000
abbrev RSt:Type:=Option ((Sta×Bool)×List UInt8)
def Con.nil:Con:=⟨[],[],0,0⟩
def Sta.nil:Sta:=⟨Con.nil,0,0,[],[],[]⟩
def kR:Nat->List Int->List UInt8->Option (List Int×List UInt8)
 | 0,hs,s=>some (hs,s)
 | m+1,hs,s=>match bA s with
  | none=>none
  | some (h,s)=>kR m (hs++[h]) s
def rR (c:Con) (now nxt:Int) (hi:List Nat) (ps:List Pn):Nat->List Rn->List UInt8->RSt
 | 0,rs,s=>some ((⟨c,now,nxt,ps,rs,hi⟩,s==[]),s)
 | m+1,rs,s=>match rGan s with
  | none=>none
  | some (g,s)=>match bA s with
   | none=>none
   | some (q,s)=>match bA s with
        | none=>none
        | some (a,s)=>match bA s with
         | none=>none
         | some (t,s)=>match bA s with
          | none=>none
          | some (f,s)=>if decide ((s.length:Int)<g.pods)=true then some ((⟨c,now,nxt,ps,rs,hi⟩,false),s) else match kR g.pods.toNat [] s with
           | none=>none
           | some (hs,s)=>rR c now nxt hi ps m (rs++[⟨g,q,a,t,f,hs⟩]) s
def rRs (c:Con) (now nxt:Int) (hi:List Nat) (ps:List Pn) (s:List UInt8):RSt:=match bY s with
 | none=>none
 | some (n,s)=>rR c now nxt hi ps n.toNat [] s
def rP (c:Con) (now nxt:Int) (hi:List Nat):Nat->List Pn->List UInt8->RSt
 | 0,ps,s=>rRs c now nxt hi ps s
 | m+1,ps,s=>match rGan s with
  | none=>none
  | some (g,s)=>match bA s with
   | none=>none
   | some (q,s)=>match bA s with
        | none=>none
        | some (a,s)=>rP c now nxt hi m (ps++[⟨g,q,a⟩]) s
def rPs (c:Con) (now nxt:Int) (hi:List Nat) (s:List UInt8):RSt:=match bY s with
 | none=>none
 | some (n,s)=>rP c now nxt hi n.toNat [] s
def rH (c:Con) (now nxt:Int):Nat->List Nat->List UInt8->RSt
 | 0,hi,s=>rPs c now nxt hi s
 | m+1,hi,s=>if s.length<8 then some ((⟨c,now,nxt,[],[],hi⟩,false),s) else rH c now nxt m (hi++[leN (s.take 8)]) (s.drop 8)
def rB (c:Con) (s:List UInt8):RSt:=match bA s with
 | none=>none
 | some (now,s)=>match bA s with
  | none=>none
  | some (nxt,s)=>match bY s with
   | none=>none
   | some (n,s)=>rH c now nxt n.toNat [] s
def rSt (s:List UInt8):RSt:=match bY s with
 | none=>none
 | some (n,s)=>match C8.dec (s.take n.toNat) with
  | none=>some ((Sta.nil,false),s)
  | some x=>if x.k=1 then rB x.c (s.drop n.toNat) else some ((Sta.nil,false),s)
def stR (p:Sta×Bool):AVal:=.tup [p.1.av,.bool p.2]
noncomputable abbrev fRd:Func:=Tryz.f20
abbrev reC (c:Con) (now nxt:Int) (p r h:AVal):List AVal:=[.slice 11 (nav c.ns) .no,.slice 6 (hav c.hs) .no,ii c.half,ii c.age,ii now,ii nxt,p,r,h]
theorem xN {s s':List UInt8} {g:Gan} (h:rGan s=some (g,s')):s'.length+1<=s.length/\0<=g.pods/\g.pods<=9223372036854775807:=by
 unfold C8.rGan at h
 split at h
 .cases h
 .rename_i h1
  split at h
  .cases h
  .rename_i h2
   split at h
   .cases h
   .rename_i h3
    split at h
    .cases h
    .rename_i h4
     split at h
     .cases h
     .rename_i h5
      split at h
      .cases h
      .rename_i h6
       split at h
       .cases h
       .rename_i h7
        cases h
        have b1:=bD h1
        have b2:=bD h2
        have b3:=bD h3
        have b4:=C8.rVec_b h4
        have b5:=bD h5
        have b6:=bD h6
        have b7:=bD h7
        exact ⟨by omega,b3.1,b3.2.1⟩
abbrev reR (c:Con) (now nxt:Int) (hi:List Nat) (ps:List Pn) (rs:List Rn) (s:List UInt8):List AObj:=[.cells tRd [.str s],.cells 31 (reC c now nxt (.slice 11 (pnv ps) .no) (.slice 14 (rav rs) (.own 2 0)) (.slice 1 (fv hi) .no)),.tail 0 14 70]
abbrev reG (g:Gan) (q a t f:Int) (x:AVal):List AVal:=[ii g.id,ii g.ten,ii g.pods,ii g.need.a,ii g.need.b,ii g.need.c,ii g.run,ii g.lev,ii g.pref,ii q,ii a,ii t,ii f,x]
theorem N2 (c:Con) (now nxt:Int) (hi:List Nat) (ps:List Pn) (rs:List Rn) (hrs:rs.length<=1000000) (n:Int) (i:Nat) (hin:(i:Int)<9223372036854775807) (g:Gan) (q a t f:Int) (hp:0<=g.pods/\g.pods<=9223372036854775807) (r:Res) (O:List AObj) (m:Nat)
  (cont:∀ (hs:List Int) (s:List UInt8),s.length<=1000000->rs.length+s.length+1<=1000000->hs.length<=1000000->oY stR (rR c now nxt hi ps m (rs++[⟨g,q,a,t,f,hs⟩]) s)=r->pD (rR c now nxt hi ps m (rs++[⟨g,q,a,t,f,hs⟩]) s)=O->
   To E fRd (.full 1 r O) (.head (stk fRd 2) [(0,.ref 0 0),(2,.ref 1 0),(99,.int .i64 n),(100,.int .i64 ((i:Int)+1))] (reR c now nxt hi ps (rs++[⟨g,q,a,t,f,hs⟩]) s))):
  ∀ (k j:Nat) (s:List UInt8) (hs:List Int),(j+k:Int)=g.pods->hs.length+s.length<=1000000->rs.length+s.length+1<=1000000->
   oY stR (match kR k hs s with | none=>none | some (hs,s)=>rR c now nxt hi ps m (rs++[⟨g,q,a,t,f,hs⟩]) s)=r->pD (match kR k hs s with | none=>none | some (hs,s)=>rR c now nxt hi ps m (rs++[⟨g,q,a,t,f,hs⟩]) s)=O->
  To E fRd (.full 1 r O) (.head (stk fRd 3) [(0,.ref 0 0),(2,.ref 1 0),(10,.ref 3 0),(99,.int .i64 n),(100,.int .i64 i),(125,ii g.pods),(126,.int .i64 j)]
   (reR c now nxt hi ps rs s++[.cells 70 (reG g q a t f (.slice 1 (iv hs) (.own 4 0))),.tail 0 1 3])):=by
 intro k
 induction k with
 | zero=>
  intro j s hs hj hl hl2 hr ho
  have hr:oY stR (rR c now nxt hi ps m (rs++[⟨g,q,a,t,f,hs⟩]) s)=r:=hr
  have ho:pD (rR c now nxt hi ps m (rs++[⟨g,q,a,t,f,hs⟩]) s)=O:=ho
  have hlen:(rav rs).length=rs.length:=by simp
  have next:=cont hs s (by omega) hl2 (by omega) hr ho
  have e:rav (rs++[⟨g,q,a,t,f,hs⟩])=rav rs++[Rn.av ⟨g,q,a,t,f,hs⟩]:=by simp
  unfold reR at next
  rw [e] at next
  refine gW hE ?_;conv=>whnf
  refine aF fun h=>?_
  repeat' first | (refine gN hE ?_;conv=>whnf) | refine ⟨⟨by simp only [maxLen];simp;omega,by simp;omega⟩,?_⟩ | exact rfl | refine aY ?_ | refine aN ?_ | refine aT fun h=>?_ | refine aF fun h=>?_ | refine ⟨fun h=>?_,fun h=>?_⟩ | refine aJ ?_ | refine ⟨_,rfl,?_⟩ | refine aD ?_ | fail
  refine To.part [0,2,99,100] [0,1,2] rfl rfl rfl ?_
  exact next
 | succ k ih=>
  intro j s hs hj hl hl2 hr ho
  unfold kR at hr ho
  have hlen:(iv hs).length=hs.length:=by simp
  refine gW hE ?_;conv=>whnf
  refine aT fun h=>?_
  refine dI hE 3 ?_;conv=>whnf
  refine To.permAt hE [0,1,2,6] [3,4,5,7] (by rfl) ?_;conv=>whnf
  refine aL ?_;conv=>whnf
  refine aH (o:=bA s) (fun h1=>?_) (fun ⟨u,s1⟩ h1=>?_)
  .simp only [h1] at hr ho
   have hr:Res.pan (aS 10)=r:=hr
   have ho:rdU=O:=ho
   subst hr ho
   refine .effp [] [0] _ _ rfl (bC h1) ?_
   exact ⟨[],[0],⟨rfl,rfl⟩,rfl,rfl⟩
  simp only [h1] at hr ho
  refine .eff [] [0] _ _ rfl (aW h1) ?_
  have b1:=bD h1
  have next:=ih (j+1) s1 (hs++[u]) (by omega) (by simp;omega) (by omega) hr ho
  have e:iv (hs++[u])=iv hs++[ii u]:=by simp
  rw [e] at next;conv=>whnf
  refine aL ?_;conv=>whnf;conv=>whnf
  refine aL ?_;conv=>whnf
  refine ⟨⟨by simp only [maxLen];simp;omega,by simp;omega⟩,?_⟩;conv=>whnf
  refine aL ?_;conv=>whnf;conv=>whnf
  refine aL ?_;conv=>whnf
  refine gW hE ?_;conv=>whnf
  refine aJ ?_
  refine gW hE ?_;conv=>whnf
  refine To.part [0,2,10,99,100,125,126] [0,1,2,3,4] rfl rfl rfl ?_
  exact next
theorem NW (c:Con) (now nxt:Int) (hi:List Nat) (ps:List Pn) (n:Int) (hn:n<=9223372036854775807) (r:Res) (O:List AObj):∀ (m i:Nat) (s:List UInt8) (rs:List Rn),(i+m:Int)=n->rs.length+s.length<=1000000->oY stR (rR c now nxt hi ps m rs s)=r->pD (rR c now nxt hi ps m rs s)=O->
  To E fRd (.full 1 r O) (.head (stk fRd 2) [(0,.ref 0 0),(2,.ref 1 0),(99,.int .i64 n),(100,.int .i64 i)] (reR c now nxt hi ps rs s)):=by
 intro m
 induction m with
 | zero=>
  intro i s rs hi2 hl hr ho
  have hr:Res.ret (.tup [Sta.av ⟨c,now,nxt,ps,rs,hi⟩,.bool (s==[])])=r:=hr
  have ho:rdO s=O:=ho
  subst hr ho
  refine gW hE ?_;conv=>whnf
  refine aF fun h=>?_
  refine dI hE 2 ?_;conv=>whnf
  refine To.permAt hE [0,1,2,3,4,5] [6,7] (by rfl) ?_;conv=>whnf
  refine aL ?_;conv=>whnf;conv=>whnf
  refine aL ?_;conv=>whnf;conv=>whnf
  refine aL ?_;conv=>whnf
  refine gW hE ?_;conv=>whnf
  refine ⟨[],[0],⟨rfl,rfl⟩,?_⟩
  exact ⟨rfl,rfl⟩
 | succ m ih=>
  intro i s rs hi2 hl hr ho
  unfold rR at hr ho
  have hlen:(rav rs).length=rs.length:=by simp
  refine gW hE ?_;conv=>whnf
  refine aT fun h=>?_
  refine gW hE ?_;conv=>whnf
  refine aH (o:=rGan s) (fun h1=>?_) (fun ⟨g,s1⟩ h1=>?_)
  .simp only [h1] at hr ho
   have hr:Res.pan (aS 10)=r:=hr
   have ho:rdU=O:=ho
   subst hr ho
   refine .effp [] [0] _ _ rfl (nS h1) ?_
   exact ⟨[],[0],⟨rfl,rfl⟩,rfl,rfl⟩
  simp only [h1] at hr ho
  refine .eff [] [0] _ _ rfl (rC h1) ?_
  refine gW hE ?_;conv=>whnf
  refine aH (o:=bA s1) (fun h2=>?_) (fun ⟨q,s2⟩ h2=>?_)
  .simp only [h2] at hr ho
   have hr:Res.pan (aS 10)=r:=hr
   have ho:rdU=O:=ho
   subst hr ho
   refine .effp [] [0] _ _ rfl (bC h2) ?_
   exact ⟨[],[0],⟨rfl,rfl⟩,rfl,rfl⟩
  simp only [h2] at hr ho
  refine .eff [] [0] _ _ rfl (aW h2) ?_
  refine gW hE ?_;conv=>whnf
  refine aH (o:=bA s2) (fun h3=>?_) (fun ⟨a,s3⟩ h3=>?_)
  .simp only [h3] at hr ho
   have hr:Res.pan (aS 10)=r:=hr
   have ho:rdU=O:=ho
   subst hr ho
   refine .effp [] [0] _ _ rfl (bC h3) ?_
   exact ⟨[],[0],⟨rfl,rfl⟩,rfl,rfl⟩
  simp only [h3] at hr ho
  refine .eff [] [0] _ _ rfl (aW h3) ?_
  refine gW hE ?_;conv=>whnf
  refine aH (o:=bA s3) (fun h4=>?_) (fun ⟨t,s4⟩ h4=>?_)
  .simp only [h4] at hr ho
   have hr:Res.pan (aS 10)=r:=hr
   have ho:rdU=O:=ho
   subst hr ho
   refine .effp [] [0] _ _ rfl (bC h4) ?_
   exact ⟨[],[0],⟨rfl,rfl⟩,rfl,rfl⟩
  simp only [h4] at hr ho
  refine .eff [] [0] _ _ rfl (aW h4) ?_
  refine gW hE ?_;conv=>whnf
  refine aH (o:=bA s4) (fun h5=>?_) (fun ⟨f,s5⟩ h5=>?_)
  .simp only [h5] at hr ho
   have hr:Res.pan (aS 10)=r:=hr
   have ho:rdU=O:=ho
   subst hr ho
   refine .effp [] [0] _ _ rfl (bC h5) ?_
   exact ⟨[],[0],⟨rfl,rfl⟩,rfl,rfl⟩
  simp only [h5] at hr ho
  refine .eff [] [0] _ _ rfl (aW h5) ?_
  have b1:=xN h1
  have b2:=bD h2
  have b3:=bD h3
  have b4:=bD h4
  have b5:=bD h5
  refine gW hE ?_;conv=>whnf
  refine Ad (fun hd=>?_) (fun hd=>?_)
  .rw [if_pos hd] at hr ho
   have hr:Res.ret (.tup [Sta.av ⟨c,now,nxt,ps,rs,hi⟩,.bool false])=r:=hr
   have ho:rdO s5=O:=ho
   subst hr ho
   refine gW hE ?_;conv=>whnf
   refine ⟨[],[0],⟨rfl,rfl⟩,?_⟩
   exact ⟨rfl,rfl⟩
  .rw [if_neg (by rw [hd];decide)] at hr ho
   refine gW hE ?_;conv=>whnf
   refine To.part [0,2,10,99,100,125,126] [0,1,2,3] rfl rfl rfl ?_
   refine To.begin 3 13 3 rfl rfl ?_
   exact N2 c now nxt hi ps rs (by omega) n i (by omega) g q a t f b1.2 r O m (fun hs s' k1 k2 k3 hr ho=>ih (i+1) s' _ (by omega) (by simp;omega) hr ho) g.pods.toNat 0 s5 [] (by omega) (by simp;omega) (by omega) hr ho
abbrev reP (c:Con) (now nxt:Int) (hi:List Nat) (ps:List Pn) (s:List UInt8):List AObj:=[.cells tRd [.str s],.cells 31 (reC c now nxt (.slice 11 (pnv ps) (.own 2 0)) (.slice 14 [] .nil) (.slice 1 (fv hi) .no)),.tail 0 11 67]
theorem NY (c:Con) (now nxt:Int) (hi:List Nat) (n:Int) (hn:n<=9223372036854775807) (r:Res) (O:List AObj):∀ (m i:Nat) (s:List UInt8) (ps:List Pn),(i+m:Int)=n->ps.length+s.length<=1000000->oY stR (rP c now nxt hi m ps s)=r->pD (rP c now nxt hi m ps s)=O->
  To E fRd (.full 1 r O) (.head (stk fRd 1) [(0,.ref 0 0),(2,.ref 1 0),(82,.int .i64 n),(83,.int .i64 i)] (reP c now nxt hi ps s)):=by
 intro m
 induction m with
 | zero=>
  intro i s ps hi2 hl hr ho
  unfold rP rRs at hr ho
  refine gW hE ?_;conv=>whnf
  refine aF fun h=>?_
  refine gW hE ?_;conv=>whnf
  refine aH (o:=bY s) (fun h1=>?_) (fun ⟨k,s1⟩ h1=>?_)
  .simp only [h1] at hr ho
   have hr:Res.pan (aS 10)=r:=hr
   have ho:rdU=O:=ho
   subst hr ho
   refine .effp [] [0] _ _ rfl (fL h1) ?_
   exact ⟨[],[0],⟨rfl,rfl⟩,rfl,rfl⟩
  simp only [h1] at hr ho
  refine .eff [] [0] _ _ rfl (hD h1) ?_
  have b1:=bT h1
  refine gW hE ?_;conv=>whnf
  refine To.part [0,2,99,100] [0,1] rfl rfl rfl ?_
  refine To.begin 1 7 70 rfl rfl ?_
  exact NW c now nxt hi ps k (by omega) r O k.toNat 0 s1 [] (by omega) (by simp;omega) hr ho
 | succ m ih=>
  intro i s ps hi2 hl hr ho
  unfold rP at hr ho
  have hlen:(pnv ps).length=ps.length:=by simp
  refine gW hE ?_;conv=>whnf
  refine aT fun h=>?_
  refine dI hE 3 ?_;conv=>whnf
  refine To.permAt hE [0,1,2,4,6,11] [3,5,7,8,9,10,12] (by rfl) ?_;conv=>whnf
  refine aL ?_;conv=>whnf
  refine aH (o:=rGan s) (fun h1=>?_) (fun ⟨g,s1⟩ h1=>?_)
  .simp only [h1] at hr ho
   have hr:Res.pan (aS 10)=r:=hr
   have ho:rdU=O:=ho
   subst hr ho
   refine .effp [] [0] _ _ rfl (nS h1) ?_
   exact ⟨[],[0],⟨rfl,rfl⟩,rfl,rfl⟩
  simp only [h1] at hr ho
  refine .eff [] [0] _ _ rfl (rC h1) ?_;conv=>whnf
  refine aL ?_;conv=>whnf
  refine aH (o:=bA s1) (fun h2=>?_) (fun ⟨q,s2⟩ h2=>?_)
  .simp only [h2] at hr ho
   have hr:Res.pan (aS 10)=r:=hr
   have ho:rdU=O:=ho
   subst hr ho
   refine .effp [] [0] _ _ rfl (bC h2) ?_
   exact ⟨[],[0],⟨rfl,rfl⟩,rfl,rfl⟩
  simp only [h2] at hr ho
  refine .eff [] [0] _ _ rfl (aW h2) ?_;conv=>whnf
  refine aL ?_;conv=>whnf
  refine aH (o:=bA s2) (fun h3=>?_) (fun ⟨a,s3⟩ h3=>?_)
  .simp only [h3] at hr ho
   have hr:Res.pan (aS 10)=r:=hr
   have ho:rdU=O:=ho
   subst hr ho
   refine .effp [] [0] _ _ rfl (bC h3) ?_
   exact ⟨[],[0],⟨rfl,rfl⟩,rfl,rfl⟩
  simp only [h3] at hr ho
  refine .eff [] [0] _ _ rfl (aW h3) ?_;conv=>whnf
  refine aL ?_;conv=>whnf;conv=>whnf
  refine aL ?_;conv=>whnf;conv=>whnf
  refine aL ?_;conv=>whnf
  refine ⟨⟨by simp only [maxLen];simp;omega,by simp;omega⟩,?_⟩;conv=>whnf
  refine aL ?_;conv=>whnf;conv=>whnf
  refine aL ?_;conv=>whnf
  refine gW hE ?_;conv=>whnf
  refine aJ ?_
  refine gW hE ?_;conv=>whnf
  refine To.part [0,2,82,83] [0,1,2] rfl rfl rfl ?_
  have b1:=xN h1
  have b2:=bD h2
  have b3:=bD h3
  have next:=ih (i+1) s3 (ps++[⟨g,q,a⟩]) (by omega) (by simp;omega) hr ho
  have e:pnv (ps++[⟨g,q,a⟩])=pnv ps++[Pn.av ⟨g,q,a⟩]:=by simp
  unfold reP at next
  rw [e] at next
  exact next
abbrev reH (c:Con) (now nxt:Int) (hi:List Nat) (s:List UInt8):List AObj:=[.cells tRd [.str s],.cells 31 (reC c now nxt (.slice 11 [] .nil) (.slice 14 [] .nil) (.slice 1 (fv hi) (.own 2 0))),.tail 0 1 90]
theorem N1 (c:Con) (now nxt:Int) (n:Int) (hn:n<=9223372036854775807) (r:Res) (O:List AObj):∀ (m i:Nat) (s:List UInt8) (hi:List Nat),(i+m:Int)=n->hi.length+s.length<=1000000->oY stR (rH c now nxt m hi s)=r->pD (rH c now nxt m hi s)=O->
  To E fRd (.full 1 r O) (.head (stk fRd 0) [(0,.ref 0 0),(2,.ref 1 0),(50,.int .i64 n),(51,.int .i64 i)] (reH c now nxt hi s)):=by
 intro m
 induction m with
 | zero=>
  intro i s hi hi2 hl hr ho
  unfold rH rPs at hr ho
  refine gW hE ?_;conv=>whnf
  refine aF fun h=>?_
  refine gW hE ?_;conv=>whnf
  refine aH (o:=bY s) (fun h1=>?_) (fun ⟨k,s1⟩ h1=>?_)
  .simp only [h1] at hr ho
   have hr:Res.pan (aS 10)=r:=hr
   have ho:rdU=O:=ho
   subst hr ho
   refine .effp [] [0] _ _ rfl (fL h1) ?_
   exact ⟨[],[0],⟨rfl,rfl⟩,rfl,rfl⟩
  simp only [h1] at hr ho
  refine .eff [] [0] _ _ rfl (hD h1) ?_
  have b1:=bT h1
  refine gW hE ?_;conv=>whnf
  refine To.part [0,2,82,83] [0,1] rfl rfl rfl ?_
  refine To.begin 1 6 67 rfl rfl ?_
  exact NY c now nxt hi k (by omega) r O k.toNat 0 s1 [] (by omega) (by simp;omega) hr ho
 | succ m ih=>
  intro i s hi hi2 hl hr ho
  unfold rH at hr ho
  have hlen:(fv hi).length=hi.length:=by simp
  have hg:=PI s
  unfold yE at hg
  by_cases h8:s.length<8
  .rw [if_pos h8] at hr ho hg
   have hr:Res.ret (.tup [Sta.av ⟨c,now,nxt,[],[],hi⟩,.bool false])=r:=hr
   have ho:rdO s=O:=ho
   subst hr ho
   refine gW hE ?_;conv=>whnf
   refine aT fun h=>?_
   refine gW hE ?_;conv=>whnf
   refine .pure _ [] hg ?_
   refine gW hE ?_;conv=>whnf
   refine Ad (fun _=>?_) (fun h=>absurd h (by decide))
   refine To.loose ?_
   refine gW hE ?_;conv=>whnf
   refine ⟨[],[0],⟨rfl,rfl⟩,?_⟩
   exact ⟨rfl,rfl⟩
  .rw [if_neg h8] at hr ho hg
   have next:=ih (i+1) (s.drop 8) (hi++[leN (s.take 8)]) (by omega) (by simp;omega) hr ho
   have e:fv (hi++[leN (s.take 8)])=fv hi++[.int .u64 ((leN (s.take 8):Nat):Int)]:=by simp
   unfold reH at next
   rw [e] at next
   refine gW hE ?_;conv=>whnf
   refine aT fun h=>?_
   refine gW hE ?_;conv=>whnf
   refine .pure _ [] hg ?_
   refine gW hE ?_;conv=>whnf
   refine Ad (fun h=>absurd h (by decide)) (fun _=>?_)
   refine gW hE ?_;conv=>whnf
   refine ⟨8,rfl,?_⟩
   refine gW hE ?_;conv=>whnf
   refine ⟨by omega,?_⟩
   refine gW hE ?_;conv=>whnf
   refine ⟨⟨by simp only [maxLen];simp;omega,by simp;omega⟩,?_⟩
   refine gW hE ?_;conv=>whnf
   refine aJ ?_
   refine gW hE ?_;conv=>whnf
   refine To.part [0,2,50,51] [0,1,2] rfl rfl rfl ?_
   exact next
theorem zX (s:List UInt8) (hs:s.length<=1000000) (r:Res) (O:List AObj) (hr:oY stR (rSt s)=r) (ho:pD (rSt s)=O):aA Tryz.prog 20 [.ref 0 0] (rdO s) r O:=by
 unfold rSt at hr ho
 refine cT (E:=E) (fn:=Tryz.f20) (g:=.full 1 _ _) fun _=>?_
 refine gW hE ?_;conv=>whnf
 refine aH (o:=bY s) (fun h1=>?_) (fun ⟨n,s1⟩ h1=>?_)
 .simp only [h1] at hr ho
  have hr:Res.pan (aS 10)=r:=hr
  have ho:rdU=O:=ho
  subst hr ho
  refine .effp [] [0] _ _ rfl (fL h1) ?_
  exact ⟨[],[0],⟨rfl,rfl⟩,rfl,rfl⟩
 simp only [h1] at hr ho
 refine .eff [] [0] _ _ rfl (hD h1) ?_
 have b1:=bT h1
 have hd:=C8.decode_ok (s1.take n.toNat) (by simp;omega)
 unfold C8.decX C8.decE at hd
 have hn0:n=((n.toNat:Nat):Int):=by omega
 refine aH (o:=C8.dec (s1.take n.toNat)) (fun h2=>?_) (fun x h2=>?_)
 .simp only [h2] at hr ho hd
  have hd:aA Tryz.prog 55 [.str (s1.take n.toNat)] [] (.ret (.tup [Cmd.zero.av,ii 10])) []:=hd
  have hr:Res.ret (.tup [Sta.av Sta.nil,.bool false])=r:=hr
  have ho:rdO s1=O:=ho
  subst hr ho
  refine gW hE ?_;conv=>whnf
  refine ⟨n.toNat,hn0,?_⟩
  refine gW hE ?_;conv=>whnf
  refine ⟨by omega,?_⟩
  refine gW hE ?_;conv=>whnf
  refine .pure _ [] hd ?_
  refine gW hE ?_;conv=>whnf
  refine Ad (fun _=>?_) (fun h=>absurd h (by decide))
  refine gW hE ?_;conv=>whnf
  refine Ad (fun _=>?_) (fun h=>absurd h (by decide))
  refine To.loose ?_
  refine gW hE ?_;conv=>whnf
  refine ⟨[],[0],⟨rfl,rfl⟩,?_⟩
  exact ⟨rfl,rfl⟩
 .simp only [h2] at hr ho hd
  have hd:aA Tryz.prog 55 [.str (s1.take n.toNat)] [] (.ret (.tup [x.av,ii 0])) []:=hd
  by_cases hk:x.k=1
  .rw [if_pos hk] at hr ho
   unfold rB at hr ho
   refine gW hE ?_;conv=>whnf
   refine ⟨n.toNat,hn0,?_⟩
   refine gW hE ?_;conv=>whnf
   refine ⟨by omega,?_⟩
   refine gW hE ?_;conv=>whnf
   refine .pure _ [] hd ?_
   refine gW hE ?_;conv=>whnf
   refine Ad (fun h=>absurd h (by decide)) (fun _=>?_)
   refine gW hE ?_;conv=>whnf
   refine Ad (fun h=>absurd h (by simp [hk])) (fun _=>?_)
   refine gW hE ?_;conv=>whnf
   refine ⟨n.toNat,hn0,?_⟩
   refine gW hE ?_;conv=>whnf
   refine ⟨by omega,?_⟩
   refine dI hE 13 ?_;conv=>whnf
   refine To.permAt hE [0,1,2,4,6,8,10] [3,5,7,9,11] (by rfl) ?_;conv=>whnf
   refine aL ?_;conv=>whnf
   refine aH (o:=bA (s1.drop n.toNat)) (fun h3=>?_) (fun ⟨now,s2⟩ h3=>?_)
   .simp only [h3] at hr ho
    have hr:Res.pan (aS 10)=r:=hr
    have ho:rdU=O:=ho
    subst hr ho
    refine .effp [] [0] _ _ rfl (bC h3) ?_
    exact ⟨[],[0],⟨rfl,rfl⟩,rfl,rfl⟩
   simp only [h3] at hr ho
   refine .eff [] [0] _ _ rfl (aW h3) ?_
   have b3:=bD h3;conv=>whnf
   refine aL ?_;conv=>whnf
   refine aH (o:=bA s2) (fun h4=>?_) (fun ⟨nxt,s3⟩ h4=>?_)
   .simp only [h4] at hr ho
    have hr:Res.pan (aS 10)=r:=hr
    have ho:rdU=O:=ho
    subst hr ho
    refine .effp [] [0] _ _ rfl (bC h4) ?_
    exact ⟨[],[0],⟨rfl,rfl⟩,rfl,rfl⟩
   simp only [h4] at hr ho
   refine .eff [] [0] _ _ rfl (aW h4) ?_
   have b4:=bD h4;conv=>whnf
   refine aL ?_;conv=>whnf;conv=>whnf
   refine aL ?_;conv=>whnf;conv=>whnf
   refine aL ?_;conv=>whnf;conv=>whnf
   refine aL ?_;conv=>whnf
   refine gW hE ?_;conv=>whnf
   refine aH (o:=bY s3) (fun h5=>?_) (fun ⟨k,s4⟩ h5=>?_)
   .simp only [h5] at hr ho
    have hr:Res.pan (aS 10)=r:=hr
    have ho:rdU=O:=ho
    subst hr ho
    refine .effp [] [0] _ _ rfl (fL h5) ?_
    exact ⟨[],[0],⟨rfl,rfl⟩,rfl,rfl⟩
   simp only [h5] at hr ho
   refine .eff [] [0] _ _ rfl (hD h5) ?_
   have b5:=bT h5
   have b6:(s1.drop n.toNat).length<=s1.length:=by simp
   refine gW hE ?_;conv=>whnf
   refine To.part [0,2,50,51] [0,1] rfl rfl rfl ?_
   refine To.begin 1 8 90 rfl rfl ?_
   exact N1 x.c now nxt k (by omega) r O k.toNat 0 s4 [] (by omega) (by simp;omega) hr ho
  .rw [if_neg hk] at hr ho
   have hr:Res.ret (.tup [Sta.av Sta.nil,.bool false])=r:=hr
   have ho:rdO s1=O:=ho
   subst hr ho
   refine gW hE ?_;conv=>whnf
   refine ⟨n.toNat,hn0,?_⟩
   refine gW hE ?_;conv=>whnf
   refine ⟨by omega,?_⟩
   refine gW hE ?_;conv=>whnf
   refine .pure _ [] hd ?_
   refine gW hE ?_;conv=>whnf
   refine Ad (fun h=>absurd h (by decide)) (fun _=>?_)
   refine gW hE ?_;conv=>whnf
   refine Ad (fun _=>?_) (fun h=>absurd h (by simp [hk]))
   refine To.loose ?_
   refine gW hE ?_;conv=>whnf
   refine ⟨[],[0],⟨rfl,rfl⟩,?_⟩
   exact ⟨rfl,rfl⟩
theorem N4 {s s':List UInt8} (hs:s.length<=1000000) {x:Sta} {b:Bool} (h:rSt s=some ((x,b),s')):aA Tryz.prog 20 [.ref 0 0] (rdO s) (.ret (.tup [x.av,.bool b])) (rdO s'):=zX s hs _ _ (by rw [h];rfl) (by rw [h];rfl)
theorem IY {s:List UInt8} (hs:s.length<=1000000) (h:rSt s=none):aA Tryz.prog 20 [.ref 0 0] (rdO s) (.pan (aS 10)) rdU:=zX s hs _ _ (by rw [h];rfl) (by rw [h];rfl)
open C8 (bA bY rGan rdO rdU aS aH bD bT tRd)
set_option maxRecDepth 10000
abbrev zSt:List AVal:=[.slice 11 [] .nil,.slice 6 [] .nil,ii 0,ii 0,ii 0,ii 0,.slice 11 [] .nil,.slice 14 [] .nil,.slice 1 [] .nil]
abbrev deO (s:List UInt8):List AObj:=[.cells 9 [.str s],.cells 31 zSt,.cells 4 [.bool false]]
abbrev deX (s:List UInt8) (x:Sta) (b:Bool):List AObj:=[.cells 9 [.str s],.cells 31 x.cs,.cells 4 [.bool b]]
abbrev deU:List AObj:=mV (fun _=>.undef) (deO [])
theorem TY {s s':List UInt8} (hs:s.length<=1000000) {x:Sta} {b:Bool} (h:rSt s=some ((x,b),s')):aA Tryz.prog 19 [.ref 0 0,.ref 1 0,.ref 2 0] (deO s) (.ret (.tup [])) (deX s x b):=by
 refine cT (E:=E) (fn:=Tryz.f19) (g:=.full 3 _ _) fun _=>?_
 refine gW hE ?_;conv=>whnf
 refine .eff [] [3] _ _ rfl (N4 hs h) ?_
 refine gW hE ?_;conv=>whnf
 exact ⟨[],[0,1,2],⟨rfl,rfl⟩,rfl,rfl⟩
theorem QM {s:List UInt8} (hs:s.length<=1000000) (h:rSt s=none):aA Tryz.prog 19 [.ref 0 0,.ref 1 0,.ref 2 0] (deO s) (.pan (aS 10)) deU:=by
 refine aA.blur (obs':=deO s) ?_
 refine cT (E:=E) (fn:=Tryz.f19) (g:=.full 3 _ _) fun _=>?_
 refine gW hE ?_;conv=>whnf
 refine .effp [] [3] _ _ rfl (IY hs h) ?_
 exact ⟨[],[0,1,2],⟨rfl,rfl⟩,rfl,rfl⟩
abbrev dV:AVal:=.func (.func 19) [] [.ref 0 0,.ref 1 0,.ref 2 0]
theorem NO {s s':List UInt8} (hs:s.length<=1000000) {x:Sta} {b:Bool} (h:rSt s=some ((x,b),s')):aA Tryz.prog 18 [dV] (deO s) (.ret (ii 0)) (deX s x b):=by
 refine cT (E:=E) (fn:=Tryz.f18) (g:=.full 3 _ _) fun _=>?_
 refine gW hE ?_;conv=>whnf
 refine To.defer (f:=53) (args:=[.ref 3 0]) _ rfl rfl ?_
 refine gW C8.hEt ?_;conv=>whnf
 refine .eff [] [0,1,2] _ _ rfl (TY hs h) ?_
 refine gW C8.hEt ?_;conv=>whnf
 refine To.leave (f:=53) (args:=[.ref 3 0]) [] rfl [] [3] rfl (C8.catch_ret 0) ?_
 refine To.left hE rfl rfl ?_
 refine ⟨[],[0,1,2],⟨rfl,rfl⟩,?_⟩
 exact ⟨rfl,rfl⟩
theorem H8 {s:List UInt8} (hs:s.length<=1000000) (h:rSt s=none):aA Tryz.prog 18 [dV] (deO s) (.ret (ii 10)) deU:=by
 refine cT (E:=E) (fn:=Tryz.f18) (g:=.full 3 _ _) fun _=>?_
 refine gW hE ?_;conv=>whnf
 refine To.defer (f:=53) (args:=[.ref 3 0]) _ rfl rfl ?_
 refine gW C8.hEt ?_;conv=>whnf
 refine .effp [] [0,1,2] _ _ rfl (QM hs h) ?_;conv=>whnf
 refine To.leave (f:=53) (args:=[.ref 3 0]) [] rfl [] [3] rfl (C8.catch_pan 0 10) ?_
 refine To.left hE rfl rfl ?_
 refine ⟨[],[0,1,2],⟨rfl,rfl⟩,?_⟩
 exact ⟨rfl,rfl⟩
theorem JC:∀ (m:Nat) (hs:List Int) (s:List UInt8) (hs':List Int) (s':List UInt8),kR m hs s=some (hs',s')->hs'.length+s'.length<=hs.length+s.length
 | 0,hs,s,hs',s',h=>by cases h;exact Bb _
 | m+1,hs,s,hs',s',h=>by
  unfold kR at h
  split at h
  .cases h
  .rename_i h1
   have b:=bD h1
   have:=JC m _ _ _ _ h
   simp at this
   omega
theorem UJ (c:Con) (now nxt:Int) (hi:List Nat) (ps:List Pn) (N:Nat):∀ (m:Nat) (rs:List Rn) (s:List UInt8) (x:Sta) (b:Bool) (s':List UInt8),rR c now nxt hi ps m rs s=some ((x,b),s')->rs.length+s.length<=N->(∀ y∈rs,y.hs.length<=N)->x.c=c/\x.run.length<=N/\∀ y∈x.run,y.hs.length<=N
 | 0,rs,s,x,b,s',h,hl,hy=>by cases h;exact ⟨rfl,by show rs.length<=N;omega,hy⟩
 | m+1,rs,s,x,b,s',h,hl,hy=>by
  unfold rR at h
  split at h
  .cases h
  .rename_i h1
   split at h
   .cases h
   .rename_i h2
    split at h
    .cases h
    .rename_i h3
     split at h
     .cases h
     .rename_i h4
      split at h
      .cases h
      .rename_i h5
       have b1:=xN h1
       have b2:=bD h2
       have b3:=bD h3
       have b4:=bD h4
       have b5:=bD h5
       split at h
       .cases h;exact ⟨rfl,by show rs.length<=N;omega,hy⟩
       .split at h
        .cases h
        .rename_i hs' s6 h6
         have b6:=JC _ _ _ _ _ h6
         simp at b6
         refine UJ c now nxt hi ps N m _ _ x b s' h (by simp;omega) fun y hm=>?_
         rcases Bf.1 hm with hm | hm
         .exact hy y hm
         .rw [Dl] at hm
          subst hm
          show hs'.length<=N
          omega
theorem UK (c:Con) (now nxt:Int) (hi:List Nat) (N:Nat):∀ (m:Nat) (ps:List Pn) (s:List UInt8) (x:Sta) (b:Bool) (s':List UInt8),rP c now nxt hi m ps s=some ((x,b),s')->s.length<=N->x.c=c/\x.run.length<=N/\∀ y∈x.run,y.hs.length<=N
 | 0,ps,s,x,b,s',h,hl=>by
  unfold rP rRs at h
  split at h
  .cases h
  .rename_i h1
   have b1:=bT h1
   exact UJ c now nxt hi ps N _ _ _ x b s' h (by simp;omega) fun y hy=>by cases hy
 | m+1,ps,s,x,b,s',h,hl=>by
  unfold rP at h
  split at h
  .cases h
  .rename_i h1
   split at h
   .cases h
   .rename_i h2
    split at h
    .cases h
    .rename_i h3
     have b1:=xN h1
     have b2:=bD h2
     have b3:=bD h3
     exact UK c now nxt hi N m _ _ x b s' h (by omega)
theorem UL (c:Con) (now nxt:Int) (N:Nat):∀ (m:Nat) (hi:List Nat) (s:List UInt8) (x:Sta) (b:Bool) (s':List UInt8),rH c now nxt m hi s=some ((x,b),s')->s.length<=N->x.c=c/\x.run.length<=N/\∀ y∈x.run,y.hs.length<=N
 | 0,hi,s,x,b,s',h,hl=>by
  unfold rH rPs at h
  split at h
  .cases h
  .rename_i h1
   have b1:=bT h1
   exact UK c now nxt hi N _ _ _ x b s' h (by omega)
 | m+1,hi,s,x,b,s',h,hl=>by
  unfold rH at h
  split at h
  .cases h;exact ⟨rfl,Bh _,fun y hy=>by cases hy⟩
  .exact UL c now nxt N m _ _ x b s' h (by simp;omega)
theorem RC {s s':List UInt8} {x:Sta} {b:Bool} (h:rSt s=some ((x,b),s')) (hl:s.length<=1000000):x.c.sm/\Sm x.run:=by
 unfold rSt at h
 split at h
 .cases h
 .rename_i n s1 h1
  have b1:=bT h1
  split at h
  .cases h
   exact ⟨⟨Bh _,Bh _⟩,Bh _,fun y hy=>by cases hy⟩
  .rename_i y h2
   have hch:C8.chk y=0:=by
    unfold C8.dec at h2
    split at h2
    .split at h2
     .rename_i hh
      cases h2
      exact hh.2
     .cases h2
    .cases h2
   have T:=C8.chk_told hch
   have t1:=T.ln
   have t2:=T.lh
   simp only [Cv] at t1 t2
   split at h
   .unfold rB at h
    split at h
    .cases h
    .rename_i h3
     split at h
     .cases h
     .rename_i h4
      split at h
      .cases h
      .rename_i h5
       have b3:=bD h3
       have b4:=bD h4
       have b5:=bT h5
       simp only [Fa] at b3
       obtain ⟨e1,e2,e3⟩:=UL y.c _ _ 1000000 _ _ _ x b s' h (by omega)
       rw [e1]
       exact ⟨⟨by omega,by omega⟩,by omega,fun z hz=>by have:=e3 z hz;omega⟩
   .cases h
    exact ⟨⟨Bh _,Bh _⟩,Bh _,fun y hy=>by cases hy⟩
def qT (s:List UInt8):Option Sta:=match rSt s with
 | some ((x,b),_)=>if b=true/\hJ x=true then some x else none
 | none=>none
def MA (s:List UInt8):Sta:=(qT s).getD Sta.nil
def MB (s:List UInt8):Int:=match qT s with | some _=>0 | none=>10
theorem xF (s:List UInt8) (hs:s.length<=1000000):aA Tryz.prog 8 [.str s] [] (.ret (.tup [(MA s).av,ii (MB s)])) []:=by
 unfold MA MB qT
 refine cT (E:=E) (fn:=Tryz.f8) (g:=.pure _) fun _=>?_
 refine gW hE ?_;conv=>whnf
 refine aH (o:=rSt s) (fun h=>?_) (fun ⟨⟨x,b⟩,s'⟩ h=>?_)
 .simp only [h]
  refine .eff [] [0,2,3] _ _ rfl (H8 hs h) ?_
  repeat' first | (refine gN hE ?_;conv=>whnf) | exact rfl | refine aY ?_ | refine aN ?_ | refine aT fun h=>?_ | refine aF fun h=>?_ | refine ⟨fun h=>?_,fun h=>?_⟩ | refine aJ ?_ | refine ⟨_,rfl,?_⟩ | refine aD ?_ | fail
 .obtain ⟨hc,hr⟩:=RC h hs
  have hk:=oV x hc hr
  simp only [h]
  refine .eff [] [0,2,3] _ _ rfl (NO hs h) ?_
  cases b with
  | false=>
   rw [if_neg (fun q=>absurd q.1 (by decide))]
   repeat' first | (refine gN hE ?_;conv=>whnf) | exact rfl | refine aY ?_ | refine aN ?_ | refine aT fun h=>?_ | refine aF fun h=>?_ | refine ⟨fun h=>?_,fun h=>?_⟩ | refine aJ ?_ | refine ⟨_,rfl,?_⟩ | refine aD ?_ | fail
  | true=>
   cases hq:hJ x with
   | false=>
    rw [hq] at hk
    have hk:aA Tryz.prog 13 [x.av] [] (.ret (ii 1)) []:=hk
    rw [if_neg (fun q=>absurd q.2 (by decide))]
    repeat' first | (refine gN hE ?_;conv=>whnf) | refine .pure _ [] hk ?_ | exact rfl | refine aY ?_ | refine aN ?_ | refine aT fun h=>?_ | refine aF fun h=>?_ | refine ⟨fun h=>?_,fun h=>?_⟩ | refine aJ ?_ | refine ⟨_,rfl,?_⟩ | refine aD ?_ | fail
   | true=>
    rw [hq] at hk
    have hk:aA Tryz.prog 13 [x.av] [] (.ret (ii 0)) []:=hk
    rw [if_pos ⟨rfl,rfl⟩]
    repeat' first | (refine gN hE ?_;conv=>whnf) | refine .pure _ [] hk ?_ | exact rfl | refine aY ?_ | refine aN ?_ | refine aT fun h=>?_ | refine aF fun h=>?_ | refine ⟨fun h=>?_,fun h=>?_⟩ | refine aJ ?_ | refine ⟨_,rfl,?_⟩ | refine aD ?_ | fail
open C8 (leN bA bY rGan aU jD dX pl putN aP lE dY)
theorem iZ {v:V3} (h:cO v=true):okI v.l=true:=by
 unfold cO at h
 simp only [Ac,decide_eq_true_eq] at h
 simp only [V3.l,okI,kD,Ac,decide_eq_true_eq,and_true]
 omega
theorem HQ {v:V3} (h:zB v=true):okI v.l=true:=by
 unfold zB at h
 simp at h
 simp only [V3.l,okI,kD,Ac,decide_eq_true_eq,and_true]
 omega
theorem JX {bl:Bool} {i:Nat} {x:Nod} (hi:i<=100) (h:mU bl i x=true):x.ok=true:=by
 unfold mU at h
 by_cases hb:qX i x
 .rw [if_pos hb] at h;cases h
 .rw [if_neg hb] at h
  unfold qX at hb
  have h3:okI x.n.l=true/\okI x.b.l=true/\okI x.l.l=true:=by
   cases bl with
   | true=>
    simp only [if_true,Ac] at h
    exact ⟨iZ h.1,iZ h.2.1,iZ h.2.2.1⟩
   | false=>
    rw [if_neg (by decide)] at h
    simp only [Ac] at h
    exact ⟨HQ h.1,HQ h.2.1,HQ h.2.2⟩
  unfold Nod.ok
  rw [h3.1,h3.2.1,h3.2.2]
  simp only [okI,kD,Ac,decide_eq_true_eq,and_true]
  omega
theorem vR (ns:List Nod):∀ (l:List Nod) (i:Nat),i+l.length<=100->jW ns i l=true->pT l=true
 | [],_,_,_=>rfl
 | x::r,i,hi,h=>by
  unfold jW at h
  simp at hi
  by_cases hx:mU (rlB ns i) i x=true
  .rw [if_pos hx] at h
   unfold pT
   rw [JX (by omega) hx,vR ns r (i+1) (by omega) h]
   rfl
  .rw [if_neg hx] at h;cases h
theorem KR {x:Hos} (h:jK x=true):x.ok=true:=by
 unfold jK at h
 by_cases hb:vE x
 .rw [if_pos hb] at h;cases h
 .rw [if_neg hb] at h
  unfold vE at hb
  unfold Hos.ok
  rw [iZ h]
  simp only [okI,kD,Ac,decide_eq_true_eq,and_true]
  omega
theorem A2:∀ (l:List Hos),l.all jK=true->mQ l=true
 | [],_=>rfl
 | x::r,h=>by
  rw [Gz,Ac] at h
  unfold mQ
  rw [KR h.1,A2 r h.2]
  rfl
theorem wX {c:Con} (h:hO c=0):c.tok=true/\c.ns.length<=12/\c.hs.length<=24:=by
 unfold hO at h
 by_cases h1:uQ c
 .rw [if_pos h1] at h
  by_cases h2:jW c.ns 0 c.ns=true
  .rw [if_pos h2] at h
   by_cases h3:c.hs.all jK=true
   .unfold uQ at h1
    refine ⟨?_,h1.1.2,h1.2.1.2⟩
    unfold Con.tok
    rw [vR c.ns c.ns 0 (by omega) h2,A2 _ h3]
    simp only [Bool.and_self,Co,okI,kD,Ac,decide_eq_true_eq,and_true]
    omega
   .rw [if_neg h3] at h;cases h
  .rw [if_neg h2] at h;cases h
 .rw [if_neg h1] at h;cases h
theorem wR {c:Con} (h:iV c=true):c.tok=true/\c.ns.length<=12/\c.hs.length<=24:=by
 unfold iV at h
 simp only [Ac,decide_eq_true_eq] at h
 obtain ⟨ns,hs,half,age⟩:=c
 obtain ⟨h1,h2,h3,h4⟩:=h
 simp only at h1 h2 h3 h4
 subst h1 h2 h3 h4
 exact ⟨rfl,by simp,by simp⟩
theorem D6 {c:Con} (h:c.tok=true) (hn:c.ns.length<=12) (hh:c.hs.length<=24):C8.chk ⟨1,c,Gan.zero,0⟩=0:=by
 have e1:((nav c.ns).length:Int)<=12:=by simp;omega
 have e2:((hav c.hs).length:Int)<=24:=by simp;omega
 have e3:C8.chkL ⟨1,c,Gan.zero,0⟩=0:=by
  unfold C8.chkL
  rw [decide_eq_true e1,decide_eq_true e2]
  rfl
 unfold C8.chk C8.chk2 C8.chk3 C8.chk4 C8.chkC C8.chkG C8.chkN
 rw [e3,h]
 rfl
theorem yQ {s:Sta} (h:hJ s=true):C8.chk s.cmd=0:=by
 unfold hJ EY at h
 simp only [Ac,De,decide_eq_true_eq] at h
 obtain ⟨⟨h1,_⟩,_⟩:=h
 rcases h1 with h1 | h1
 .obtain ⟨a,b,c⟩:=wR h1
  exact D6 a b c
 .obtain ⟨a,b,c⟩:=wX h1
  exact D6 a b c
theorem CR {c:Con} {t:Int} (h:cC c.ns t=true):0<=t/\t<(c.ns.length:Int):=by
 unfold cC at h
 by_cases h1:0<=t
 .rw [if_pos (decide_eq_true h1)] at h
  by_cases h2:t<(c.ns.length:Int)
  .exact ⟨h1,h2⟩
  .rw [if_neg (by rw [decide_eq_false h2];decide)] at h;cases h
 .rw [if_neg (by rw [decide_eq_false h1];decide)] at h;cases h
theorem BA {c:Con} {g:Gan} (hn:c.ns.length<=12) (h:iJ c g=0):g.ok=true:=by
 obtain ⟨h1,h2⟩:=wE.1 h
 have h3:=CR h2
 unfold DO at h1
 simp only [Ac,decide_eq_true_eq] at h1
 have h4:=iZ h1.2.1
 unfold Gan.ok
 rw [h4]
 simp only [okI,kD,Ac,decide_eq_true_eq,and_true]
 omega
theorem FK {s:Sta} (h:hJ s=true):(s.c.tok=true/\s.c.ns.length<=12/\s.c.hs.length<=24)/\(∀ x∈s.c.hs,0<=x.f/\x.f<=100)/\(0<=s.now/\s.now<=1099511627776)/\(1<=s.nxt/\s.nxt<=1099511627776)/\s.hist.length=s.c.ns.length/\s.pend.length+s.run.length<=32:=by
 unfold hJ EY at h
 simp only [Ac,De,decide_eq_true_eq] at h
 obtain ⟨⟨h1,h2,h3,h4,h5⟩,_⟩:=h
 refine ⟨?_,?_,h2,h3,h4,h5⟩
 .rcases h1 with h1 | h1
  .exact wR h1
  .exact wX h1
 .intro x hx
  rcases h1 with h1 | h1
  .unfold iV at h1
   simp only [Ac,decide_eq_true_eq] at h1
   rw [h1.2.1] at hx
   cases hx
  .unfold hO at h1
   by_cases q1:uQ s.c
   .rw [if_pos q1] at h1
    by_cases q2:jW s.c.ns 0 s.c.ns=true
    .rw [if_pos q2] at h1
     by_cases q3:s.c.hs.all jK=true
     .have:=Ck.1 q3 x hx
      unfold jK at this
      by_cases hb:vE x
      .rw [if_pos hb] at this;cases this
      .unfold vE at hb
       omega
     .rw [if_neg q3] at h1;cases h1
    .rw [if_neg q2] at h1;cases h1
   .rw [if_neg q1] at h1;cases h1
theorem MJ {s:Sta} (h:hJ s=true):(gJ s).length<=10000:=by
 obtain ⟨⟨h1,h2,h3⟩,_⟩:=FK h
 have e:gJ s=pl s.cmd.il:=if_pos (yQ h)
 rw [e]
 have key:∀ (l:List Int),okI l=true->(pl l).length<=10*l.length:=fun l hl=>C8.pl_len (nE hl)
 have kn:∀ (l:List Nod),pT l=true->(pl (C8.nodL l)).length<=110*l.length:=by
  intro l
  induction l with
  | nil=>intro _;simp [C8.nodL,pl]
  | cons x r ih=>
   intro hl
   unfold pT at hl
   rw [Ac] at hl
   have e:C8.nodL (x::r)=x.il++C8.nodL r:=rfl
   rw [e,C8.pl_append,Aj]
   have:=C8.il_len x hl.1
   have:=ih hl.2
   simp only [Ap]
   omega
 have kh:∀ (l:List Hos),mQ l=true->(pl (C8.hosL l)).length<=60*l.length:=by
  intro l
  induction l with
  | nil=>intro _;simp [C8.hosL,pl]
  | cons x r ih=>
   intro hl
   unfold mQ at hl
   rw [Ac] at hl
   have e:C8.hosL (x::r)=x.il++C8.hosL r:=rfl
   rw [e,C8.pl_append,Aj]
   have:=C8.ih_len x hl.1
   have:=ih hl.2
   simp only [Ap]
   omega
 unfold Con.tok at h1
 simp only [Ac] at h1
 have a1:=kn _ h1.1.1
 have a2:=kh _ h1.1.2
 have m1:=key [(1:Int)] rfl
 have m2:(pl [((nav s.c.ns).length:Int)]).length<=10:=by
  have:=C8.pl_len (l:=[((nav s.c.ns).length:Int)]) (fun n hn=>by simp at hn;omega)
  simpa using this
 have m3:(pl [((hav s.c.hs).length:Int)]).length<=10:=by
  have:=C8.pl_len (l:=[((hav s.c.hs).length:Int)]) (fun n hn=>by simp at hn;omega)
  simpa using this
 have m4:=key [s.c.half,s.c.age] h1.2
 have e2:s.cmd.il=[(1:Int)]++([((nav s.c.ns).length:Int)]++(C8.nodL s.c.ns++([((hav s.c.hs).length:Int)]++(C8.hosL s.c.hs++[s.c.half,s.c.age])))):=rfl
 rw [e2]
 simp only [C8.pl_append,Aj,Ap,Bq] at *
 omega
theorem DI {s:Sta} (h:hJ s=true):Wr s:=by
 obtain ⟨⟨h1,h2,h3⟩,hf,h4,h5,h6,h7⟩:=FK h
 have hq:=h
 unfold hJ at hq
 simp only [Ac,Ck] at hq
 refine ⟨MJ h,⟨h4.1,h4.2,by omega,h5.2⟩,by omega,by omega,by omega,fun x hx=>?_,fun x hx=>?_⟩
 .have hx1:=hq.2.2.1.1 x hx
  unfold pnB at hx1
  simp only [Ac,decide_eq_true_eq] at hx1
  refine ⟨BA h2 hx1.1,?_⟩
  have:=hx1.2.2
  simp only [okI,kD,Ac,decide_eq_true_eq,and_true]
  omega
 .have hx1:=hq.2.2.1.2 x hx
  have hc:=(FJ h hx).chk
  obtain ⟨k1,k2⟩:=FM hc
  rw [BC] at k2
  unfold pnB rnB at hx1
  simp only [Ac,decide_eq_true_eq] at hx1
  obtain ⟨⟨a1,_,a2⟩,⟨b1,b2⟩,_,b3⟩:=hx1
  have hp:=nF a1
  have hp2:1<=x.g.pods/\x.g.pods<=16:=hp
  have hne:x.hs≠[]:=fun e=>by rw [e] at k1;simp at k1;omega
  have hfl:0<=x.fl/\x.fl<=100:=by
   cases hh:x.hs with
   | nil=>exact absurd hh hne
   | cons u r=>
    have hu:=k2 u (by rw [hh];exact Bt ..)
    rw [hh] at b3
    have b3:(cS s.c.hs u).f=x.fl:=b3
    have hlt:u.toNat<s.c.hs.length:=by omega
    have hm:cS s.c.hs u∈s.c.hs:=by
     unfold cS
     rw [Ab hlt]
     exact Bw hlt
    have:=hf _ hm
    omega
  have a2:(0<=x.seq/\x.seq<s.nxt)/\0<=x.at'/\x.at'<=s.now:=a2
  refine ⟨BA h2 a1,?_,?_,hne,by omega⟩
  .simp only [okI,kD,Ac,decide_eq_true_eq,and_true]
   omega
  .have key:∀ (l:List Int),(∀ u∈l,0<=u/\u<(s.c.hs.length:Int))->okI l=true:=by
    intro l
    induction l with
    | nil=>intro _;rfl
    | cons u r ih=>
     intro hl
     have hu:=hl u (Bt ..)
     unfold okI
     rw [ih fun v hv=>hl v (Ct _ hv)]
     simp only [kD,Ac,decide_eq_true_eq,and_true]
     omega
   exact key x.hs fun u hu=>⟨(k2 u hu).1,(k2 u hu).2.1⟩
open C8 (leN pG lI bA bY rGan aU jD dX pl putN aP lE dY bD bT)
theorem AY (x:Nat):∀ (i:Nat),leN (uY x i)=x % 2 ^ (8*i)
 | 0=>by simp [uY,leN,Jp]
 | i+1=>by
  rw [wM,lI,eU,AY x i]
  unfold wN
  rw [Ff,Nat.mod_mod,Eu,Ev,Nat.mod_mul,Cz (2 ^ (8*i)),show (2:Nat) ^ (8*1)=256 from rfl]
theorem EV {x:Nat} (h:x<18446744073709551616):leN (mP x)=x:=by
 unfold mP
 rw [AY,Dm (by omega)]
theorem EU:∀ {a b:List UInt8},a.length=b.length->leN a=leN b->a=b
 | [],[],_,_=>rfl
 | [],_::_,h,_=>by simp at h
 | _::_,[],h,_=>by simp at h
 | x::r,y::s,h,e=>by
  simp only [leN] at e
  have hx:=x.toNat_lt
  have hy:=y.toNat_lt
  have e1:x.toNat=y.toNat:=by omega
  have e2:leN r=leN s:=by omega
  rw [UInt8.toNat_inj.1 e1,EU (by simpa using h) e2]
theorem PN {l:List UInt8} (h:l.length=8):mP (leN l)=l:=by
 have h1:=pG l
 rw [h] at h1
 refine EU ?_ (EV (by omega))
 rw [h]
 exact eU _ 8
theorem sI (c:Con) (now nxt:Int):∀ (l acc:List Nat) (s:List UInt8),(∀ x∈l,x<18446744073709551616)->rH c now nxt l.length acc (lJ l++s)=rPs c now nxt (acc++l) s
 | [],acc,s,_=>by rw [Bd];rfl
 | x::r,acc,s,h=>by
  have hl:(mP x).length=8:=eU x 8
  have e:lJ (x::r)++s=mP x++(lJ r++s):=by rw [<-Al];rfl
  rw [e,Ap]
  unfold rH
  rw [if_neg (by rw [Aj];omega)]
  have e1:(mP x++(lJ r++s)).take 8=mP x:=by rw [Dg (by omega),Cl (by omega)]
  have e2:(mP x++(lJ r++s)).drop 8=lJ r++s:=by rw [<-hl,Hp]
  rw [e1,e2,EV (h x (Bt ..)),sI c now nxt r _ s fun y hy=>h y (Ct _ hy),Al]
  rfl
theorem JM (a b:Int) (s:List UInt8):pl [a,b]++s=putN a.toNat++(putN b.toNat++s):=by simp [pl]
theorem ok2 {a b:Int} (h:okI [a,b]=true):(0<=a/\a<=1099511627777)/\0<=b/\b<=1099511627777:=by
 have h1:=C8.okI_b h a (by simp)
 have h2:=C8.okI_b h b (by simp)
 omega
theorem I6 (c:Con) (now nxt:Int) (hi:List Nat):∀ (l acc:List Pn) (s:List UInt8),(∀ x∈l,x.g.ok=true/\okI [x.seq,x.at']=true)->rP c now nxt hi l.length acc (jT l++s)=rRs c now nxt hi (acc++l) s
 | [],acc,s,_=>by rw [Bd];rfl
 | x::r,acc,s,h=>by
  obtain ⟨h1,h2⟩:=h x (Bt ..)
  obtain ⟨b1,b2⟩:=ok2 h2
  have e:jT (x::r)++s=pl x.g.il++(putN x.seq.toNat++(putN x.at'.toNat++(jT r++s))):=by
   rw [<-JM]
   show (pl x.g.il++pl [x.seq,x.at']++jT r)++s=_
   simp only [Al]
  rw [e,Ap]
  unfold rP
  rw [jD h1]
  dsimp only
  rw [aU b1.1 b1.2]
  dsimp only
  rw [aU b2.1 b2.2]
  dsimp only
  rw [I6 c now nxt hi r _ s fun y hy=>h y (Ct _ hy),Al]
  rfl
theorem nU:∀ (l acc:List Int) (s:List UInt8),okI l=true->kR l.length acc (pl l++s)=some (acc++l,s)
 | [],acc,s,_=>by rw [Bd];rfl
 | x::r,acc,s,h=>by
  have b:=C8.okI_b h x (Bt ..)
  have e:pl (x::r)++s=putN x.toNat++(pl r++s):=by simp [pl]
  have h2:okI r=true:=by unfold okI at h;rw [Ac] at h;exact h.2
  rw [e,Ap]
  unfold kR
  rw [aU b.1 (by omega)]
  dsimp only
  rw [nU r _ s h2,Al]
  rfl
theorem EJ:∀ (l:List Int),l.length<=(pl l).length
 | []=>Bh _
 | x::r=>by
  have:=EJ r
  have:=C8.putN_pos x.toNat
  simp only [pl,Aj,Ap]
  omega
theorem I4 (c:Con) (now nxt:Int) (hi:List Nat) (ps:List Pn):∀ (l acc:List Rn),(∀ x∈l,(x.hs.length:Int)=x.g.pods/\x.g.ok=true/\okI [x.seq,x.at',x.st,x.fl]=true/\okI x.hs=true)->rR c now nxt hi ps l.length acc (iC l)=some ((⟨c,now,nxt,ps,acc++l,hi⟩,true),[])
 | [],acc,_=>by rw [Bd];rfl
 | x::r,acc,h=>by
  obtain ⟨h0,h1,h2,h3⟩:=h x (Bt ..)
  have b1:=C8.okI_b h2 x.seq (by simp)
  have b2:=C8.okI_b h2 x.at' (by simp)
  have b3:=C8.okI_b h2 x.st (by simp)
  have b4:=C8.okI_b h2 x.fl (by simp)
  have e:iC (x::r)=pl x.g.il++(putN x.seq.toNat++(putN x.at'.toNat++(putN x.st.toNat++(putN x.fl.toNat++(pl x.hs++iC r))))):=by
   show (pl x.g.il++pl [x.seq,x.at',x.st,x.fl]++pl x.hs)++iC r=_
   simp [pl]
  rw [e,Ap]
  unfold rR
  rw [jD h1]
  dsimp only
  rw [aU b1.1 (by omega)]
  dsimp only
  rw [aU b2.1 (by omega)]
  dsimp only
  rw [aU b3.1 (by omega)]
  dsimp only
  rw [aU b4.1 (by omega)]
  dsimp only
  have hg:=EJ x.hs
  rw [if_neg (by rw [decide_eq_false (by rw [Aj];omega)];decide),show x.g.pods.toNat=x.hs.length from by omega,nU _ _ _ h3]
  dsimp only
  rw [I4 c now nxt hi ps r _ fun y hy=>h y (Ct _ hy),Al]
  rfl
theorem A4:∀ (l:List Nat),(lJ l).length=8*l.length
 | []=>rfl
 | x::r=>by
  have:(mP x).length=8:=eU x 8
  unfold lJ
  rw [Aj,A4 r,Ap]
  omega
theorem AH:∀ (l:List Pn),l.length<=(jT l).length
 | []=>Bh _
 | x::r=>by
  have h1:=AH r
  have h2:=EJ [x.seq,x.at']
  unfold jT
  simp only [Aj,Ap,Bq] at *
  omega
theorem zQ:∀ (l:List Rn),l.length<=(iC l).length
 | []=>Bh _
 | x::r=>by
  have h1:=zQ r
  have h2:=EJ [x.seq,x.at',x.st,x.fl]
  unfold iC
  simp only [Aj,Ap,Bq] at *
  omega
theorem N6 {s:Sta} (h:hJ s=true) (hH:∀ x∈s.hist,x<18446744073709551616):rSt (cP s)=some ((s,true),[]):=by
 have w:=DI h
 have hc:=yQ h
 obtain ⟨w1,⟨n1,n2,n3,n4⟩,w2,w3,w4,w5,w6⟩:=w
 have hd:C8.dec (gJ s)=some s.cmd:=by
  have e:gJ s=pl s.cmd.il:=if_pos hc
  unfold C8.dec
  rw [e,C8.rCmd_put (C8.chk_told hc)]
  exact if_pos ⟨rfl,hc⟩
 have l1:=A4 s.hist
 have l2:=AH s.pend
 have l3:=zQ s.run
 have e:cP s=putN ((gJ s).length:Int).toNat++(gJ s++(putN s.now.toNat++(putN s.nxt.toNat++(putN (s.hist.length:Int).toNat++(lJ s.hist++(putN (s.pend.length:Int).toNat++(jT s.pend++(putN (s.run.length:Int).toNat++iC s.run)))))))):=by
  unfold cP
  simp [pl]
 rw [e]
 unfold rSt
 rw [dX (by omega) (by omega) _ (by rw [Aj];omega)]
 dsimp only
 rw [Br,Gi,Hp,hd]
 dsimp only
 rw [if_pos (show s.cmd.k=1 from rfl)]
 unfold rB
 rw [aU n1 (by omega)]
 dsimp only
 rw [aU n3 (by omega)]
 dsimp only
 rw [dX (by omega) (by omega) _ (by rw [Aj];omega)]
 dsimp only
 rw [Br,sI _ _ _ _ _ _ hH]
 unfold rPs
 rw [dX (by omega) (by omega) _ (by rw [Aj];omega)]
 dsimp only
 rw [Br,I6 _ _ _ _ _ _ _ w5]
 unfold rRs
 rw [dX (by omega) (by omega) _ (by omega)]
 dsimp only
 rw [Br,I4 _ _ _ _ _ _ _ fun x hx=>?_]
 .rfl
 .obtain ⟨k1,k2,k3,_,_⟩:=w6 x hx
  exact ⟨(FM (FJ h hx).chk).1,k1,k2,k3⟩
theorem QJ {s:Sta} (h:hJ s=true) (hH:∀ x∈s.hist,x<18446744073709551616):qT (cP s)=some s:=by
 unfold qT
 rw [N6 h hH]
 exact if_pos ⟨rfl,h⟩
theorem sJ (c:Con) (now nxt:Int) (x:Sta) (s':List UInt8):∀ (m:Nat) (acc:List Nat) (s:List UInt8),rH c now nxt m acc s=some ((x,true),s')->∃ l t,l.length=m/\(∀ y∈l,y<18446744073709551616)/\s=lJ l++t/\rPs c now nxt (acc++l) t=some ((x,true),s')
 | 0,acc,s,h=>⟨[],s,rfl,(fun y hy=>by cases hy),rfl,by rw [Bd];exact h⟩
 | m+1,acc,s,h=>by
  unfold rH at h
  split at h
  .cases h
  .rename_i h8
   obtain ⟨l,t,k1,k2,k3,k4⟩:=sJ c now nxt x s' m _ _ h
   have hl:(s.take 8).length=8:=by rw [Cy];omega
   refine ⟨leN (s.take 8)::l,t,by rw [Ap,k1],fun y hy=>?_,?_,by rw [Al] at k4;exact k4⟩
   .rcases Bk.1 hy with rfl | hy
    .have:=pG (s.take 8)
     rw [hl] at this
     omega
    .exact k2 y hy
   .have e:lJ (leN (s.take 8)::l)++t=mP (leN (s.take 8))++(lJ l++t):=by rw [<-Al];rfl
    rw [e,PN hl,<-k3,Ep]
theorem I7 (c:Con) (now nxt:Int) (hi:List Nat) (x:Sta) (s':List UInt8):∀ (m:Nat) (acc:List Pn) (s:List UInt8),rP c now nxt hi m acc s=some ((x,true),s')->∃ l t,l.length=m/\s=jT l++t/\rRs c now nxt hi (acc++l) t=some ((x,true),s')
 | 0,acc,s,h=>⟨[],s,rfl,rfl,by rw [Bd];exact h⟩
 | m+1,acc,s,h=>by
  unfold rP at h
  split at h
  .cases h
  .rename_i g s1 h1
   split at h
   .cases h
   .rename_i q s2 h2
    split at h
    .cases h
    .rename_i a s3 h3
     obtain ⟨l,t,k1,k3,k4⟩:=I7 c now nxt hi x s' m _ _ h
     refine ⟨⟨g,q,a⟩::l,t,by rw [Ap,k1],?_,by rw [Al] at k4;exact k4⟩
     have e:jT (⟨g,q,a⟩::l)++t=pl g.il++(putN q.toNat++(putN a.toNat++(jT l++t))):=by
      rw [<-JM]
      show (pl g.il++pl [q,a]++jT l)++t=_
      simp only [Al]
     rw [e,<-k3,<-aP h3,<-aP h2,<-lE h1]
theorem nV:∀ (m:Nat) (acc:List Int) (s:List UInt8) (hs:List Int) (t:List UInt8),kR m acc s=some (hs,t)->∃ l,l.length=m/\hs=acc++l/\s=pl l++t
 | 0,acc,s,hs,t,h=>by cases h;exact ⟨[],rfl,by rw [Bd],rfl⟩
 | m+1,acc,s,hs,t,h=>by
  unfold kR at h
  split at h
  .cases h
  .rename_i u s1 h1
   obtain ⟨l,k1,k2,k3⟩:=nV m _ _ _ _ h
   refine ⟨u::l,by rw [Ap,k1],by rw [k2,Al];rfl,?_⟩
   have e:pl (u::l)++t=putN u.toNat++(pl l++t):=by simp [pl]
   rw [e,<-k3,<-aP h1]
theorem I5 (c:Con) (now nxt:Int) (hi:List Nat) (ps:List Pn) (x:Sta) (s':List UInt8):∀ (m:Nat) (acc:List Rn) (s:List UInt8),rR c now nxt hi ps m acc s=some ((x,true),s')->∃ l,l.length=m/\s=iC l/\x=⟨c,now,nxt,ps,acc++l,hi⟩
 | 0,acc,s,h=>by
  unfold rR at h
  simp only [Cf,Gb] at h
  obtain ⟨⟨h1,h2⟩,h3⟩:=h
  refine ⟨[],rfl,?_,by rw [Bd];exact h1.symm⟩
  show s=[]
  simpa using h2
 | m+1,acc,s,h=>by
  unfold rR at h
  split at h
  .cases h
  .rename_i g s1 h1
   split at h
   .cases h
   .rename_i q s2 h2
    split at h
    .cases h
    .rename_i a s3 h3
     split at h
     .cases h
     .rename_i t s4 h4
      split at h
      .cases h
      .rename_i f s5 h5
       split at h
       .cases h
       .split at h
        .cases h
        .rename_i hs s6 h6
         obtain ⟨l0,j1,j2,j3⟩:=nV _ _ _ _ _ h6
         obtain ⟨l,k1,k2,k3⟩:=I5 c now nxt hi ps x s' m _ _ h
         have j2:hs=l0:=j2
         subst j2
         refine ⟨⟨g,q,a,t,f,hs⟩::l,by rw [Ap,k1],?_,by rw [Al] at k3;exact k3⟩
         have e:iC (⟨g,q,a,t,f,hs⟩::l)=pl g.il++(putN q.toNat++(putN a.toNat++(putN t.toNat++(putN f.toNat++(pl hs++iC l))))):=by
          show (pl g.il++pl [q,a,t,f]++pl hs)++iC l=_
          simp [pl]
         rw [e,<-k2,<-j3,<-aP h5,<-aP h4,<-aP h3,<-aP h2,<-lE h1]
theorem N7 {s s':List UInt8} {x:Sta} (h:rSt s=some ((x,true),s')):s=cP x/\(∀ y∈x.hist,y<18446744073709551616):=by
 unfold rSt at h
 split at h
 .cases h
 .rename_i n s1 h1
  have hn:=dY h1
  have bn:=bT h1
  split at h
  .cases h
  .rename_i y h2
   split at h
   .rename_i hk
    obtain ⟨g1,g2⟩:=C8.dec_spec h2
    have g3:=C8.dec_can h2
    have T:=C8.chk_told g2
    unfold rB at h
    split at h
    .cases h
    .rename_i now s2 h3
     split at h
     .cases h
     .rename_i nxt s3 h4
      split at h
      .cases h
      .rename_i k s4 h5
       have b5:=bT h5
       obtain ⟨l1,t1,e1,e2,e3,e4⟩:=sJ y.c now nxt x s' _ _ _ h
       unfold rPs at e4
       split at e4
       .cases e4
       .rename_i k2 s5 h6
        have b6:=bT h6
        obtain ⟨l2,t2,f1,f3,f4⟩:=I7 y.c now nxt _ x s' _ _ _ e4
        unfold rRs at f4
        split at f4
        .cases f4
        .rename_i k3 s6 h7
         have b7:=bT h7
         obtain ⟨l3,q1,q2,q3⟩:=I5 y.c now nxt _ _ x s' _ _ _ f4
         subst q3
         refine ⟨?_,e2⟩
         have hy:y=⟨1,y.c,Gan.zero,0⟩:=by
          obtain ⟨yk,yc,yg,yn⟩:=y
          have a1:yk=1:=hk
          have a2:yg=Gan.zero:=C8.gan_none (T.g.resolve_left (by omega))
          have a3:yn=0:=T.n.resolve_left (by omega)
          subst a1 a2 a3
          rfl
         have ec:gJ ⟨y.c,now,nxt,[]++l2,[]++l3,[]++l1⟩=s1.take n.toNat:=by
          have e:gJ ⟨y.c,now,nxt,[]++l2,[]++l3,[]++l1⟩=C8.encB ⟨1,y.c,Gan.zero,0⟩:=rfl
          rw [e,<-hy]
          unfold C8.encB
          rw [if_pos g2,g3]
         have el:(s1.take n.toNat).length=n.toNat:=by rw [Cy];omega
         unfold cP
         rw [ec,el]
         have z1:=aP hn
         have z2:=aP h3
         have z3:=aP h4
         have z4:=aP (dY h5)
         have z5:=aP (dY h6)
         have z6:=aP (dY h7)
         have w1:k.toNat=(([]++l1:List Nat).length:Int).toNat:=by rw [Eg,e1,Br]
         have w2:k2.toNat=(([]++l2:List Pn).length:Int).toNat:=by rw [Eg,f1,Br]
         have w3:k3.toNat=(([]++l3:List Rn).length:Int).toNat:=by rw [Eg,q1,Br]
         rw [w1] at z4
         rw [w2] at z5
         rw [w3] at z6
         have zz:s=putN n.toNat++(s1.take n.toNat++(putN now.toNat++(putN nxt.toNat++(putN (([]++l1:List Nat).length:Int).toNat++(lJ l1++(putN (([]++l2:List Pn).length:Int).toNat++(jT l2++(putN (([]++l3:List Rn).length:Int).toNat++iC l3)))))))):=by
          rw [<-q2,<-z6,<-f3,<-z5,<-e3,<-z4,<-z3,<-z2,Ep,<-z1]
         rw [zz]
         simp [pl]
   .cases h
theorem OB {s:List UInt8} {x:Sta} (h:qT s=some x):cP x=s/\hJ x=true:=by
 unfold qT at h
 split at h
 .rename_i y b s' h1
  split at h
  .rename_i hh
   cases h
   obtain ⟨rfl,hk⟩:=hh
   exact ⟨(N7 h1).1.symm,hk⟩
  .cases h
 .cases h
noncomputable abbrev LO:Func:=Tryz.f73
theorem GJ (x:Rn) (hx:x.hs.length<=1048576):∀ (m i:Nat),i+m=x.hs.length->
  To E LO (.pure (.ret (.bool true))) (.head (stk LO 0) [(2,.ref 0 0),(3,.ref 1 0),(5,.int .i64 i)] [.cells 70 x.cs,.cells 70 x.cs]):=by
 have hlen:(iv x.hs).length=x.hs.length:=by simp
 intro m
 induction m with
 | zero=>
  intro i hi
  refine gW hE ?_;conv=>whnf
  refine aF fun h=>?_
  repeat' first | (refine gN hE ?_;conv=>whnf) | exact rfl | refine aY ?_ | refine aN ?_ | refine aT fun h=>?_ | refine aF fun h=>?_ | refine ⟨fun h=>?_,fun h=>?_⟩ | refine aJ ?_ | refine ⟨_,rfl,?_⟩ | refine aD ?_ | fail
 | succ m ih=>
  intro i hi
  have hlt:i<x.hs.length:=by omega
  have get:=gU hlt
  generalize x.hs[i]=u at get
  have next:=ih (i+1) (by omega)
  refine gW hE ?_;conv=>whnf
  refine aT fun h=>?_
  repeat' first | (refine gN hE ?_;conv=>whnf) | refine Ad (fun h=>absurd h (by simp;done)) (fun _=>?_) | refine ⟨i,rfl,?_⟩ | refine ⟨_,get,?_⟩ | exact rfl | refine aY ?_ | refine aN ?_ | refine aT fun h=>?_ | refine aF fun h=>?_ | refine ⟨fun h=>?_,fun h=>?_⟩ | refine aJ ?_ | refine ⟨_,rfl,?_⟩ | refine aD ?_ | fail
  refine To.part [2,3,5] [0,1] rfl rfl rfl ?_
  exact next
theorem JR (x:Rn) (hx:x.hs.length<=1048576):aA Tryz.prog 73 [x.av,x.av] [] (.ret (.bool true)) []:=by
 have next:=GJ x hx x.hs.length 0 (by omega)
 refine cT (E:=E) (fn:=Tryz.f73) (g:=.pure _) fun _=>?_
 repeat' first | (refine gN hE ?_;conv=>whnf) | refine Ad (fun h=>absurd h (by simp;done)) (fun _=>?_) | exact rfl | refine aY ?_ | refine aN ?_ | refine aT fun h=>?_ | refine aF fun h=>?_ | refine ⟨fun h=>?_,fun h=>?_⟩ | refine aJ ?_ | refine ⟨_,rfl,?_⟩ | refine aD ?_ | fail
 refine To.part [2,3,5] [0,1] rfl rfl rfl ?_
 exact next
noncomputable abbrev E7:Func:=Tryz.f29
theorem uR (l:List Rn) (hs:Sm l):∀ (m i:Nat),i+m=l.length->
  To E E7 (.pure (.ret (.bool true))) (.head (stk E7 0) [(0,.slice 14 (rav l) .no),(1,.slice 14 (rav l) .no),(5,.int .i64 i)] []):=by
 have hlen:(rav l).length=l.length:=by simp
 have hl:=hs.1
 intro m
 induction m with
 | zero=>
  intro i hi
  refine gW hE ?_;conv=>whnf
  refine aF fun h=>?_
  repeat' first | (refine gN hE ?_;conv=>whnf) | exact rfl | refine aY ?_ | refine aN ?_ | refine aT fun h=>?_ | refine aF fun h=>?_ | refine ⟨fun h=>?_,fun h=>?_⟩ | refine aJ ?_ | refine ⟨_,rfl,?_⟩ | refine aD ?_ | fail
 | succ m ih=>
  intro i hi
  have hlt:i<l.length:=by omega
  have get:=mD hlt
  have ho:=JR l[i] (hs.at hlt)
  generalize l[i]=x at get ho
  have next:=ih (i+1) (by omega)
  refine gW hE ?_;conv=>whnf
  refine aT fun h=>?_
  repeat' first | (refine gN hE ?_;conv=>whnf) | refine Ad (fun h=>absurd h (by simp;done)) (fun _=>?_) | refine ⟨i,rfl,?_⟩ | refine ⟨_,get,?_⟩ | refine .pure _ [] ho ?_ | exact rfl | refine aY ?_ | refine aN ?_ | refine aT fun h=>?_ | refine aF fun h=>?_ | refine ⟨fun h=>?_,fun h=>?_⟩ | refine aJ ?_ | refine ⟨_,rfl,?_⟩ | refine aD ?_ | fail
  refine To.part [0,1,5] [] rfl rfl rfl ?_
  exact next
theorem IK (l:List Rn) (hs:Sm l):aA Tryz.prog 29 [.slice 14 (rav l) .no,.slice 14 (rav l) .no] [] (.ret (.bool true)) []:=by
 have next:=uR l hs l.length 0 (by omega)
 refine cT (E:=E) (fn:=Tryz.f29) (g:=.pure _) fun _=>?_
 repeat' first | (refine gN hE ?_;conv=>whnf) | refine Ad (fun h=>absurd h (by simp;done)) (fun _=>?_) | exact rfl | refine aY ?_ | refine aN ?_ | refine aT fun h=>?_ | refine aF fun h=>?_ | refine ⟨fun h=>?_,fun h=>?_⟩ | refine aJ ?_ | refine ⟨_,rfl,?_⟩ | refine aD ?_ | fail
 refine To.part [0,1,5] [] rfl rfl rfl ?_
 exact next
noncomputable abbrev FA:Func:=Tryz.f30
theorem uX (l:List Nat) (hl:l.length<=1048576):∀ (m i:Nat),i+m=l.length->
  To E FA (.pure (.ret (.bool true))) (.head (stk FA 0) [(0,.slice 1 (fv l) .no),(1,.slice 1 (fv l) .no),(5,.int .i64 i)] []):=by
 have hlen:(fv l).length=l.length:=by simp
 intro m
 induction m with
 | zero=>
  intro i hi
  refine gW hE ?_;conv=>whnf
  refine aF fun h=>?_
  repeat' first | (refine gN hE ?_;conv=>whnf) | exact rfl | refine aY ?_ | refine aN ?_ | refine aT fun h=>?_ | refine aF fun h=>?_ | refine ⟨fun h=>?_,fun h=>?_⟩ | refine aJ ?_ | refine ⟨_,rfl,?_⟩ | refine aD ?_ | fail
 | succ m ih=>
  intro i hi
  have hlt:i<l.length:=by omega
  have get:=K8 hlt
  generalize l[i]=x at get
  have next:=ih (i+1) (by omega)
  refine gW hE ?_;conv=>whnf
  refine aT fun h=>?_
  repeat' first | (refine gN hE ?_;conv=>whnf) | refine Ad (fun h=>absurd h (by simp;done)) (fun _=>?_) | refine ⟨i,rfl,?_⟩ | refine ⟨_,get,?_⟩ | exact rfl | refine aY ?_ | refine aN ?_ | refine aT fun h=>?_ | refine aF fun h=>?_ | refine ⟨fun h=>?_,fun h=>?_⟩ | refine aJ ?_ | refine ⟨_,rfl,?_⟩ | refine aD ?_ | fail
  refine To.part [0,1,5] [] rfl rfl rfl ?_
  exact next
theorem LF (l:List Nat) (hl:l.length<=1048576):aA Tryz.prog 30 [.slice 1 (fv l) .no,.slice 1 (fv l) .no] [] (.ret (.bool true)) []:=by
 have next:=uX l hl l.length 0 (by omega)
 refine cT (E:=E) (fn:=Tryz.f30) (g:=.pure _) fun _=>?_
 repeat' first | (refine gN hE ?_;conv=>whnf) | refine Ad (fun h=>absurd h (by simp;done)) (fun _=>?_) | exact rfl | refine aY ?_ | refine aN ?_ | refine aT fun h=>?_ | refine aF fun h=>?_ | refine ⟨fun h=>?_,fun h=>?_⟩ | refine aJ ?_ | refine ⟨_,rfl,?_⟩ | refine aD ?_ | fail
 refine To.part [0,1,5] [] rfl rfl rfl ?_
 exact next
theorem MG (c:Con):C8.sameC c c=true:=by
 have h1:=C8.same_self ⟨1,c,Gan.zero,0⟩
 unfold C8.same at h1
 simp only [Ac] at h1
 exact h1.2.2.2
theorem pY (s:Sta) (hs:Sm s.run) (hh:s.hist.length<=1048576):aA Tryz.prog 10 [s.av,s.av] [] (.ret (.bool true)) []:=by
 have h1:=C8.rsame_c s.c s.c
 rw [MG] at h1
 have h2:=Q2.same_ok (s.pend.map Pn.q) (s.pend.map Pn.q)
 rw [decide_eq_true rfl,RF] at h2
 have h3:=IK s.run hs
 have h4:=LF s.hist hh
 refine cT (E:=E) (fn:=Tryz.f10) (g:=.pure _) fun _=>?_
 repeat' first | (refine gN hE ?_;conv=>whnf) | refine Ad (fun _=>?_) (fun h=>absurd h (by simp;done)) | refine .pure _ [] h1 ?_ | refine .pure _ [] h2 ?_ | refine .pure _ [] h3 ?_ | refine .pure _ [] h4 ?_ | exact rfl | refine aY ?_ | refine aN ?_ | refine aT fun h=>?_ | refine aF fun h=>?_ | refine ⟨fun h=>?_,fun h=>?_⟩ | refine aJ ?_ | refine ⟨_,rfl,?_⟩ | refine aD ?_ | fail
def Sta.new:Sta:=⟨Con.nil,0,1,[],[],[]⟩
theorem J2:aA Tryz.prog 17 [] [] (.ret Sta.new.av) []:=by
 refine cT (E:=E) (fn:=Tryz.f17) (g:=.pure _) fun _=>?_
 repeat' first | (refine gN hE ?_;conv=>whnf) | exact rfl | refine aY ?_ | refine aN ?_ | refine aT fun h=>?_ | refine aF fun h=>?_ | refine ⟨fun h=>?_,fun h=>?_⟩ | refine aJ ?_ | refine ⟨_,rfl,?_⟩ | refine aD ?_ | fail
theorem nD {n:Nat} (h:n<128):C8.putN n=[Dz n]:=by rw [C8.putN,if_pos h]
theorem xS:hJ Sta.new=true:=by rfl
theorem OL:hJ Sta.nil=false:=by rfl
def AQ:List UInt8:=[5,1,0,0,0,0,0,1,0,0,0]
theorem QQ {s:Sta} (h:hJ s=true):gJ s=C8.pl s.cmd.il:=if_pos (yQ h)
theorem EN:cP Sta.new=AQ:=by
 have e:gJ Sta.new=C8.pl [1,0,0,0,0]:=QQ xS
 have e1:C8.putN (0:Int).toNat=[0]:=nD (by decide)
 have e2:C8.putN (1:Int).toNat=[1]:=nD (by decide)
 have e3:C8.pl [1,0,0,0,0]=[1,0,0,0,0]:=by
  simp only [C8.pl,e1,e2]
  rfl
 have e4:C8.putN 5=[5]:=nD (by decide)
 unfold cP
 rw [e,e3]
 show C8.putN 5++[1,0,0,0,0]++C8.pl [(0:Int),1,0]++[]++C8.pl [(0:Int)]++[]++C8.pl [(0:Int)]++[]=_
 simp only [C8.pl,e1,e2,e4]
 rfl
theorem CP:Sta.new.c.sm/\Sm Sta.new.run:=⟨⟨Bh _,Bh _⟩,Bh _,fun y hy=>by cases hy⟩
theorem CO:Sta.nil.c.sm/\Sm Sta.nil.run:=⟨⟨Bh _,Bh _⟩,Bh _,fun y hy=>by cases hy⟩
theorem P7:aA Tryz.prog 12 [Sta.new.av] [] (.ret (.tup [.str AQ,ii 0])) []:=by
 have:=EB Sta.new CP.1 CP.2 DI
 unfold P6 at this
 rw [xS,if_pos rfl,EN] at this
 exact this
theorem QL:aA Tryz.prog 8 [.str AQ] [] (.ret (.tup [Sta.new.av,ii 0])) []:=by
 have:=xF AQ (by decide)
 have e:qT AQ=some Sta.new:=by rw [<-EN];exact QJ xS fun x hx=>by cases hx
 unfold MA MB at this
 rw [e] at this
 exact this
theorem QK:aA Tryz.prog 8 [.str (AQ++[120])] [] (.ret (.tup [Sta.nil.av,ii 10])) []:=by
 have:=xF (AQ++[120]) (by decide)
 have e:qT (AQ++[120])=none:=by rfl
 unfold MA MB at this
 rw [e] at this
 exact this
theorem QU:aA Tryz.prog 13 [Sta.nil.av] [] (.ret (ii 1)) []:=by
 have:=oV Sta.nil CO.1 CO.2
 rw [OL] at this
 exact this
theorem DP:aA Tryz.prog 7 [] [] (.ret (.bool true)) []:=by
 have hs:=pY Sta.new CP.2 (Bh _)
 have h1:=P7
 have h2:=QL
 have h3:=QK
 have h4:=QU
 have h5:=J2
 refine cT (E:=E) (fn:=Tryz.f7) (g:=.pure _) fun _=>?_
 repeat' first | (refine gN hE ?_;conv=>whnf) | refine .pure _ [] h5 ?_ | refine .pure _ [] h1 ?_ | refine .pure _ [] h2 ?_ | refine .pure _ [] h3 ?_ | refine .pure _ [] hs ?_ | refine .pure _ [] (aA.strip h4) ?_ | refine .pure _ [] h4 ?_ | exact rfl | refine aY ?_ | refine aN ?_ | refine aT fun h=>?_ | refine aF fun h=>?_ | refine ⟨fun h=>?_,fun h=>?_⟩ | refine aJ ?_ | refine ⟨_,rfl,?_⟩ | refine aD ?_ | fail
theorem G7 {s:List UInt8} {x:Sta} (h:qT s=some x) (hl:s.length<=1000000):x.c.sm/\Sm x.run:=by
 unfold qT at h
 split at h
 .rename_i y b s' h1
  split at h
  .cases h
   exact RC h1 hl
  .cases h
 .cases h
theorem IB (s:List UInt8):aA Tryz.prog 5 [.str s] [] (.ret (.bool true)) []:=by
 have h0:=DP
 by_cases hl:s.length<=20000
 .have h1:=xF s (by omega)
  unfold MA MB at h1
  cases hd:qT s with
  | none=>
   rw [hd] at h1
   have h1:aA Tryz.prog 8 [.str s] [] (.ret (.tup [Sta.nil.av,ii 10])) []:=h1
   have h2:=pY Sta.nil CO.2 (Bh _)
   refine cT (E:=E) (fn:=Tryz.f5) (g:=.pure _) fun _=>?_
   refine gW hE ?_;conv=>whnf
   refine aF fun h=>?_
   repeat' first | (refine gN hE ?_;conv=>whnf) | refine .pure _ [] h0 ?_ | refine .pure _ [] h1 ?_ | refine .pure _ [] h2 ?_ | exact rfl | refine aY ?_ | refine aN ?_ | refine aT fun h=>?_ | refine aF fun h=>?_ | refine ⟨fun h=>?_,fun h=>?_⟩ | refine aJ ?_ | refine ⟨_,rfl,?_⟩ | refine aD ?_ | fail
  | some x=>
   rw [hd] at h1
   have h1:aA Tryz.prog 8 [.str s] [] (.ret (.tup [x.av,ii 0])) []:=h1
   obtain ⟨e1,e2⟩:=OB hd
   obtain ⟨x1,x2⟩:=G7 hd (by omega)
   have h2:=EB x x1 x2 DI
   unfold P6 at h2
   rw [e2,if_pos rfl,if_pos rfl,e1] at h2
   have hse:(s==s)=true:=by simp
   refine cT (E:=E) (fn:=Tryz.f5) (g:=.pure _) fun _=>?_
   refine gW hE ?_;conv=>whnf
   refine aF fun h=>?_
   repeat' first | (refine gN hE ?_;conv=>whnf) | refine .pure _ [] h0 ?_ | refine .pure _ [] h1 ?_ | refine .pure _ [] h2 ?_ | refine Ad (fun _=>?_) (fun h=>absurd (hse.symm.trans h) (by decide)) | exact rfl | refine aY ?_ | refine aN ?_ | refine aT fun h=>?_ | refine aF fun h=>?_ | refine ⟨fun h=>?_,fun h=>?_⟩ | refine aJ ?_ | refine ⟨_,rfl,?_⟩ | refine aD ?_ | fail
 .refine cT (E:=E) (fn:=Tryz.f5) (g:=.pure _) fun _=>?_
  refine gW hE ?_;conv=>whnf
  refine aT fun h=>?_
  repeat' first | (refine gN hE ?_;conv=>whnf) | refine .pure _ [] h0 ?_ | exact rfl | refine aY ?_ | refine aN ?_ | refine aT fun h=>?_ | refine aF fun h=>?_ | refine ⟨fun h=>?_,fun h=>?_⟩ | refine aJ ?_ | refine ⟨_,rfl,?_⟩ | refine aD ?_ | fail
open Go.ChangeShapes Go.WideShapes Go.ChangeAt Go.RowKit
set_option maxRecDepth 100000
section
variable {N:Nat}
end
section
variable {N:Nat}
end
section
variable {H:Type} {enc:TypeId×Value->H} {W:World} {r:Reach} {base b0:Nat} {spare:Nat->Bool} {held:Bool} {v:Value} {d:DataW H} {ps:List MemPlace}
end
structure StaSm (s:Sta):Prop where
 c:s.c.sm
 pend:s.pend.length<=1048576
 run:Sm s.run
 hist:s.hist.length<=1048576
 fix:∀ x∈s.hist,x<18446744073709551616
section
variable {H:Type} {enc:TypeId×Value->H} {W:World} {r:Reach} {base b0:Nat} {spare:Nat->Bool} {held:Bool} {v:Value} {d:DataW H} {ps:List MemPlace}
theorem GG (hv:Iv Tryz.prog W r b0 9 v):∃ l:List UInt8,Rep (Mw W) [] v (.str l):=by
 obtain ⟨l,rfl,h⟩:=OH (by kernel_rfl) (JT (by kernel_rfl) hv)
 exact ⟨l,.str l h⟩
end
end Go.Proofs.YtmalnhgopkfdaaaGreat
