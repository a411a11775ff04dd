/-
  States as bytes, as walks; the laws.
-/
import Derived.Lib.Builder
import Derived.Lib.UnsafeStr
import Derived.Lib.Walk
import Derived.Shelf.RegionOpenPlain
import Derived.Test.YtmalnhgopkfdaaaGreatRows
import Derived.Test.YtmalnhgopkfdaaaGreatSAD
set_option linter.all false
set_option maxHeartbeats 1000000
open And renaming intro->Aa
open Bool renaming and_eq_true->Ad,false_and->Ce,false_or->Ji,not_eq_false'->De,not_eq_true'->Cb,or_eq_true->Dg,true_and->Bt
open Decidable renaming not_not->Dl
open Exists renaming intro->Al
open Go.Builtin renaming unsafeSliceData_->Jh,unsafeString_->Kd
open Go.Result renaming andThen->Eb
open Go.Value renaming okWide->Js
open Go.World renaming shape?->Kr
open Int renaming fdiv_eq_ediv_of_nonneg->Gh,le_refl->Gi,toNat_natCast->Br,toNat_of_nonneg->Fq
open List renaming all_cons->Dq,all_eq_true->Cl,any_cons->Gb,append_assoc->Aj,append_nil->Ay,drop_eq_getElem_cons->Ae,drop_eq_nil_of_le->Af,drop_left->Im,drop_of_length_le->Jr,drop_zero->Db,getElem?_eq_getElem->Ac,getElem_mem->Bn,length->Hu,length_append->Ag,length_cons->Ao,length_drop->Dy,length_map->Cv,length_nil->Bg,length_pos_iff->Fp,length_take->Cq,map_append->Cf,map_nil->Kt,mem_append->Ba,mem_cons->Bh,mem_cons_of_mem->Co,mem_cons_self->Bl,mem_singleton->Df,nil_append->Ez,nodup_iff_pairwise_ne->Ir,pairwise_iff_getElem->Ix,range->Dc,range'->Eh,range_eq_range'->Eu,range_succ->Ia,replicate->Ai,replicate_succ->Ig,set_append_right->Hg,take_add_one->Gw,take_append_drop->Fj,take_append_of_le_length->Dd,take_left->Gz,take_length->Fu,take_of_length_le->Cs,take_zero->Ft
open Nat renaming le_refl->Bc,le_trans->Cx,min_eq_left->Ei,mod_eq_of_lt->Dx,mod_one->Kh,mul_add->Fc,mul_comm->Dj,mul_le_mul_right->Bp,pow_add->Fe,pow_le_pow_right->Dm,sub_zero->Fy,zero_add->Bk,zero_le->Bm
open Ne renaming symm->Ds
open Option renaming map_eq_some_iff->Bx
open Option.some renaming inj->Fl,injEq->Cu
open Or renaming inl->Em
open Prod.mk renaming inj->Fm,injEq->Gq
open UInt8 renaming ofNat->Di,toNat_ofNat'->Fx
namespace Go.Proofs.YtmalnhgopkfdaaaGreat.SW
open Go Go.AW Go.Proofs Go.RowKit
set_option maxRecDepth 100000
set_option maxHeartbeats 2000000
abbrev tWr:TypeId:=83
theorem CD:liesAt Tryz.prog Tryz.prog.depth tWr (2 / Tryz.prog.cellsOf tWr) 0 81 1=true:=by kernel_rfl
theorem BL:(Tryz.prog.info? 81).map (·.size)=some 2:=by kernel_rfl
theorem OB:Tryz.prog.underlying 78=some (.pointer 81):=by kernel_rfl
theorem OA:Tryz.prog.underlying 168=some .unsafePointer:=by kernel_rfl
theorem ST:Tryz.prog.funcs[121]? =some Tryz.f121:=by kernel_rfl
theorem jQ (b:Nat) (w:World) (h0:w.cell? ⟨b,0,none⟩=some (.pointer none)) (hsh:w.shape? b=some (tWr,2)) (hfz:w.frozen? ⟨b,0,none⟩=false):
  Calls Tryz.prog 79 #[.pointer (some ⟨b,0,none⟩)] w fun e w'=>e= .returned (.tuple #[])/\w'=w.setCell ⟨b,0,none⟩ (.pointer (some ⟨b,0,none⟩)):=by
 obtain ⟨j,hj,hjs⟩:=Bx.1 BL
 go_enter Tryz.func79,Tryz.ntmps79
 go_wp2
 rw [Lib.run_to_unsafe w ⟨b,0,none⟩ OB OA hj (by rw [hjs];decide) hsh (Nat.zero_lt_succ 1)]
 simp only [Eb]
 rw [Oper.upon_value]
 go_wp2
 rw [run_callFunc_extern ST (by kernel_rfl) (by kernel_rfl) (by kernel_rfl) (e:=Extern.AbiNoEscape.same) (by kernel_rfl)]
 rw [Lib.run_noEscape]
 simp only [Eb]
 rw [Oper.upon_value]
 go_wp2
 rw [Lib.run_from_unsafe w ⟨b,0,none⟩ OA OB hj hsh CD]
 simp only [Eb]
 rw [Oper.upon_value]
 go_wp2
 go_end0
 exact ⟨rfl,rfl⟩
theorem ZY:Tryz.prog.underlying 137=some (.pointer 5):=by kernel_rfl
theorem aBi:Tryz.prog.cellsOf 5=1:=by kernel_rfl
theorem sA (b g cap:Nat) (p:Value) (cur:Array Value) (l:List UInt8) (w:World) (hbk:w.heap[b]? =some (.cells #[p,.slice (some ⟨g,0,none⟩) l.length cap] tWr (0,0))) (hg:w.heap[g]? =some (.cells cur 5 (0,0))) (h0:l≠[])
  (hcap:l.length<=cap) (hcm:cap<=maxLen) (hcs:cur.size=cap) (hcell:∀ (j:Nat) x,l[j]? =some x->w.cell? ⟨g,j,none⟩=some (.int .u8 x.toNat)):
  Calls Tryz.prog 36 #[.pointer (some ⟨b,0,none⟩)] w fun e w'=>e= .returned (.string ⟨l.toArray⟩)/\GD g l.length w w':=by
 have hl0:l.length≠0:=by simpa using h0
 have c1:w.drew.cell? ⟨b,1,none⟩=some (.slice (some ⟨g,0,none⟩) l.length cap):=by
  have:w.drew.heap[b]? =some (.cells #[p,.slice (some ⟨g,0,none⟩) l.length cap] tWr (0,0)):=hbk
  rw [Lib.cell_of_heap this];rfl
 have hSD:(Jh #[79] 137 #[.slice (some ⟨g,0,none⟩) l.length cap]).run Tryz.prog w.drew= .ok (.pointer (some ⟨g,0,none⟩)) w.drew:=
  Lib.run_unsafeSliceData_row _ _ _ _ _ _ (by omega)
 have hUS:(Kd #[137,3] 9 #[.pointer (some ⟨g,0,none⟩),.int .i64 l.length]).run Tryz.prog w.drew= .ok (.string ⟨l.toArray⟩) (w.drew.freeze ⟨g,0,none⟩ l.length):=by
  refine Lib.run_unsafeString_row w.drew 137 3 9 5 ZY aBi g cur.size (by have hg':w.drew.heap[g]? =some (.cells cur 5 (0,0)):=hg;simp [Kr,hg']) l h0 (by omega) (by unfold maxLen at hcm;omega) ?_
  intro j x hx
  rw [bH,Bk]
  exact hcell j x hx
 have mixed:Tryz.prog.follows Departure.mixedOrders=true:=hE.mix
 go_enter Tryz.func36,Tryz.ntmps36
 go_wp2
 go_region_o
 all_goals (go_wp2;go_ret;exact ⟨rfl,SH hl0⟩)
theorem yW (s:AVal):aA Tryz.prog 79 [.ref 0 0] [.cells tWr [.nilptr,s]] (.ret (.tup [])) [.cells tWr [.ref 0 0,s]]:=
 pG (fun _ _=>by rfl) jQ s
theorem str_ok (l:List UInt8) (h0:l≠[]) (p:AVal):aA Tryz.prog 36 [.ref 0 0] [.cells tWr [p,.slice 1 (l.map ub) (.own 1 0)],.tail 0 1 5] (.ret (.str l)) [.dead,.dead]:=
 oB (fun _ _=>by rfl) sA l h0 p
open Go Go.AW Go.Proofs
open C8 (pl putN put_ok pn_len)
set_option maxRecDepth 10000
abbrev wrO (bs:List UInt8) (g:Nat):List AObj:=[.cells tWr [.ref 0 0,.slice 1 (bs.map ub) (.own 1 g)],.tail g 1 5]
theorem C2 (xs:List AVal):aA Tryz.prog 79 [.ref 0 0] [.cells tWr [.ref 0 0,.slice 1 xs (.own 1 0)],.tail 0 1 5] (.ret (.tup [])) [.cells tWr [.ref 0 0,.slice 1 xs (.own 1 0)],.tail 0 1 5]:=by
 refine cT (E:=E) (fn:=Tryz.f79) (g:=.full 2 _ _) fun _=>?_
 repeat' first | (refine gN hE ?_;conv=>whnf) | exact rfl | refine aY ?_ | refine aN ?_ | refine aT fun h=>?_ | refine aF fun h=>?_ | refine ⟨fun h=>?_,fun h=>?_⟩ | refine aJ ?_ | refine ⟨_,rfl,?_⟩ | refine aD ?_ | fail
 exact ⟨[],[0,1],⟨rfl,rfl⟩,rfl,rfl⟩
theorem qD (s:List UInt8) (hs:s.length<=1000):aA Tryz.prog 33 [.ref 0 0,.str s] [.cells tWr [.nilptr,.slice 1 [] .nil]] (.ret (.tup [ii s.length,.nilif])) (wrO s 0):=by
 refine cT (E:=(Eo [14] [])) (fn:=Tryz.f33) (g:=.full 1 _ _) fun _=>?_
 refine gW (hEo [14] []) ?_;conv=>whnf
 refine .eff [] [0] _ _ rfl (yW _) ?_
 refine gW (hEo [14] []) ?_;conv=>whnf
 refine ⟨⟨by simp only [maxLen];simp;omega,by simp;omega⟩,?_⟩
 refine gW (hEo [14] []) ?_;conv=>whnf
 exact ⟨[],[0,1],⟨rfl,rfl⟩,rfl,rfl⟩
theorem ws_ok (bs s:List UInt8) (hs:bs.length+s.length<=1000000):aA Tryz.prog 33 [.ref 0 0,.str s] (wrO bs 0) (.ret (.tup [ii s.length,.nilif])) (wrO (bs++s) 1):=by
 refine cT (E:=(Eo [14] [])) (fn:=Tryz.f33) (g:=.full 2 _ _) fun _=>?_
 refine gW (hEo [14] []) ?_;conv=>whnf
 refine .eff [] [0,1] _ _ rfl (C2 _) ?_
 refine gW (hEo [14] []) ?_;conv=>whnf
 refine ⟨⟨by simp only [maxLen];simp;omega,by simp;omega⟩,?_⟩
 refine gW (hEo [14] []) ?_;conv=>whnf
 refine ⟨[],[0,1],⟨rfl,rfl⟩,?_⟩;conv=>whnf
 refine ⟨rfl,?_⟩
 rw [Cf]
 rfl
noncomputable abbrev FL:Func:=Tryz.f32
theorem sO (l:List Int) (hl:((iv l).length:Int)<=9223372036854775807) (hb:∀ n∈l,n<=9223372036854775807) (B:List UInt8) (g0:Nat) (hlen:10*l.length<=1000):∀ (n i g:Nat) (bs:List UInt8),i+n=l.length->(g=0\/g=1)->(n=0->g=g0)->(0<n->g0=1)->bs.length+10*n<=100000->bs++pl (l.drop i)=B->
  To E FL (.full 2 (.ret (.tup [])) (wrO B g0)) (.head (stk FL 0) [(0,.ref 0 0),(6,.slice 1 (iv l) .no),(7,.int .i64 ((iv l).length:Nat)),(8,.int .i64 i)] (wrO bs g)):=by
 have hln:(iv l).length=l.length:=by simp
 intro n
 induction n with
 | zero=>
  intro i g bs hi hg hg0 _ hbl hB
  have e:=hg0 rfl
  subst e
  rw [Af (by omega)] at hB
  have hB:bs++[]=B:=hB
  rw [Ay] at hB
  subst hB
  refine gW hE ?_;conv=>whnf
  refine aF fun h=>?_
  refine gW hE ?_;conv=>whnf
  refine ⟨[],[0,1],⟨rfl,rfl⟩,?_⟩
  rcases hg with rfl | rfl
  .exact ⟨rfl,rfl⟩
  .exact ⟨rfl,rfl⟩
 | succ n ih=>
  intro i g bs hi hg _ hg1 hbl hB
  have e1:=hg1 (by omega)
  subst e1
  have hlt:i<l.length:=by omega
  rw [Ae hlt] at hB
  have hbx:=hb l[i] (Bn hlt)
  generalize hx:l[i]=x at hB hbx
  have hB:bs++(putN x.toNat++pl (l.drop (i+1)))=B:=hB
  rw [<-Aj] at hB
  have get:(iv l)[i]? =some (ii x):=(cG hlt).trans (by rw [hx])
  have hp:=pn_len hbx
  refine gW hE ?_;conv=>whnf
  refine aT fun h=>?_
  refine gW hE ?_;conv=>whnf
  refine ⟨i,rfl,?_⟩
  refine gW hE ?_;conv=>whnf
  refine ⟨_,get,?_⟩
  refine gW hE ?_;conv=>whnf
  refine .pure _ [] (C8.put_ok x) ?_
  refine gW hE ?_;conv=>whnf
  have next:=ih (i+1) 1 (bs++putN x.toNat) (by omega) (.inr rfl) (fun _=>rfl) (fun _=>rfl) (by simp;omega) hB
  rcases hg with rfl | rfl
  .refine .sole rfl (.eff [] [0,1] _ _ rfl (ws_ok bs _ (by omega)) ?_)
   refine gW hE ?_;conv=>whnf
   refine aJ ?_
   refine gW hE ?_;conv=>whnf
   refine To.part [0,6,7,8] [0,1] rfl rfl rfl ?_
   exact next
  .refine .sole rfl (.eff [] [0,1] _ _ rfl (ws_ok bs _ (by omega)) ?_)
   refine gW hE ?_;conv=>whnf
   refine aJ ?_
   refine gW hE ?_;conv=>whnf
   refine To.part [0,6,7,8] [0,1] rfl rfl rfl ?_
   exact next
theorem nums_ok (l:List Int) (h0:l≠[]) (hb:∀ n∈l,n<=9223372036854775807) (hlen:l.length<=100) (bs:List UInt8) (hbs:bs.length+10*l.length<=100000):
  aA Tryz.prog 32 [.ref 0 0,.slice 1 (iv l) .no] (wrO bs 0) (.ret (.tup [])) (wrO (bs++pl l) 1):=by
 have hln:(iv l).length=l.length:=by simp
 have hpos:0<l.length:=Fp.2 h0
 refine cT (E:=E) (fn:=Tryz.f32) (g:=.full 2 _ _) fun _=>?_
 refine gW hE ?_;conv=>whnf
 refine To.part [0,6,7,8] [0,1] rfl rfl rfl ?_
 exact sO l (by omega) hb _ 1 (by omega) l.length 0 0 bs (by omega) (.inl rfl) (fun h=>by omega) (fun _=>rfl) (by omega) rfl
theorem nums_fresh (k:Int) (hk:k<=9223372036854775807):aA Tryz.prog 32 [.ref 0 0,.slice 1 [ii k] .no] [.cells tWr [.nilptr,.slice 1 [] .nil]] (.ret (.tup [])) (wrO (putN k.toNat) 0):=by
 have hp:=pn_len hk
 refine cT (E:=E) (fn:=Tryz.f32) (g:=.full 1 _ _) fun _=>?_
 refine gW hE ?_;conv=>whnf
 refine gW hE ?_;conv=>whnf
 refine Aa (fun _=>?_) (fun h=>absurd (of_decide_eq_false h) (by simp))
 refine gW hE ?_;conv=>whnf
 refine ⟨0,rfl,?_⟩
 refine gW hE ?_;conv=>whnf
 refine ⟨_,rfl,?_⟩
 refine gW hE ?_;conv=>whnf
 refine .pure _ [] (C8.put_ok k) ?_
 refine gW hE ?_;conv=>whnf
 refine .sole rfl (.eff [] [0] _ _ rfl (qD _ (by omega)) ?_)
 refine gW hE ?_;conv=>whnf
 refine aJ ?_
 refine gW hE ?_;conv=>whnf
 refine gW hE ?_;conv=>whnf
 refine Aa (fun h=>absurd (of_decide_eq_true h) (by simp)) (fun _=>?_)
 refine gW hE ?_;conv=>whnf
 refine ⟨[],[0,1],⟨rfl,rfl⟩,?_⟩
 exact ⟨rfl,rfl⟩
end Go.Proofs.YtmalnhgopkfdaaaGreat.SW
namespace Go.Proofs.YtmalnhgopkfdaaaGreat
open Go Go.AW Go.Proofs
set_option maxRecDepth 10000
def xX (x i:Nat):UInt8:=Di (x / 2 ^ (8*i) % 256)
def xW (x i:Nat):List UInt8:=(Dc i).map (xX x)
def lH (x:Nat):List UInt8:=xW x 8
theorem eM (x i:Nat):(xW x i).length=i:=by simp [xW]
theorem sY (x i:Nat):xW x (i+1)=xW x i++[xX x i]:=by simp [xW,Ia]
theorem aBU (x i:Nat):IntKind.u8.wrap ((x:Int).fdiv (2 ^ (8*i)))=((((xX x i).toNat:Nat)):Int):=by
 rw [Gh _ (by exact Int.le_of_lt (Int.pow_pos (by decide)))]
 have:(x:Int) / 2 ^ (8*i)=((x / 2 ^ (8*i):Nat):Int):=by simp
 rw [this,I3,xX,Fx,Nat.mod_mod]
noncomputable abbrev fPF:Func:=Tryz.f34
theorem MG (x:Nat):∀ (m i:Nat) (row:List AVal),i+m=8->row=(xW x i).map ub++Ai m (.int .u8 0)->
  To E fPF (.pure (.ret (.str (lH x)))) (.head (stk fPF 0) [(0,.int .u64 x),(3,.row 0 0),(7,.int .i64 8),(8,.int .i64 i)] [.row 0 1 5 row]):=by
 intro m
 induction m with
 | zero=>
  intro i row hi hr
  have e:i=8:=by omega
  subst e
  subst hr
  refine gW hE ?_;conv=>whnf
  refine aF fun h=>?_
  refine gW hE ?_;conv=>whnf
  refine Al (xW x 8) (Aa (by simp) (Aa (by simp [eM]) ?_))
  refine gW hE ?_;conv=>whnf
  rfl
 | succ m ih=>
  intro i row hi hr
  have hlen:row.length=8:=by rw [hr];simp [eM];omega
  have e1:(8*(i:Int)).toNat=8*i:=by omega
  have e2:=aBU x i
  have next:=ih (i+1) (row.set i (ub (xX x i))) (by omega) (by
   rw [hr,sY,Cf,Hg _ _ (by simp [eM])]
   simp [eM,Ig])
  refine gW hE ?_;conv=>whnf
  refine aT fun h=>?_
  repeat' first | (refine gN hE ?_;conv=>whnf) | refine @Or.inr (inR IntKind.u8 _/\_) _ ?_ | refine aJ ?_ | refine Aa (Aa (show (0:Int)<=8*(i:Int) by omega) (show (8*(i:Int)).toNat<=64 by omega)) ?_ | refine ⟨i,rfl,?_⟩ | refine Aa (show i<row.length by omega) ?_ | exact rfl | refine aY ?_ | refine aN ?_ | refine aT fun h=>?_ | refine aF fun h=>?_ | refine ⟨fun h=>?_,fun h=>?_⟩ | refine aJ ?_ | refine ⟨_,rfl,?_⟩ | refine aD ?_ | fail
  refine To.part [0,3,7,8] [0] rfl rfl rfl ?_
  rw [e1,e2]
  exact next
theorem V2 (x:Nat):aA Tryz.prog 34 [.int .u64 x] [] (.ret (.str (lH x))) []:=by
 have next:=MG x 8 0 (Ai 8 (.int .u8 0)) rfl rfl
 refine cT (E:=E) (fn:=Tryz.f34) (g:=.pure _) fun _=>?_
 repeat' first | (refine gN hE ?_;conv=>whnf) | exact rfl | refine aY ?_ | refine aN ?_ | refine aT fun h=>?_ | refine aF fun h=>?_ | refine ⟨fun h=>?_,fun h=>?_⟩ | refine aJ ?_ | refine ⟨_,rfl,?_⟩ | refine aD ?_ | fail
 refine To.part [0,3,7,8] [0] rfl rfl rfl ?_
 exact next
end Go.Proofs.YtmalnhgopkfdaaaGreat
namespace Go.Proofs.YtmalnhgopkfdaaaGreat.C8
open Go Go.AW Go.Proofs
set_option maxRecDepth 10000
theorem EI (a b c:Int) (ha:a<=9223372036854775807) (hb:b<=9223372036854775807) (hc:c<=9223372036854775807):aA Tryz.prog 75 [.ref 0 0,.slice 1 [ii a,ii b,ii c] .no] [.cells tWr [.nilptr,.slice 1 [] .nil]] (.ret (.tup [])) (wrO (putN a.toNat++putN b.toNat++putN c.toNat) 0):=by
 have p1:=pn_len ha
 have p2:=pn_len hb
 have p3:=pn_len hc
 refine cT (E:=E) (fn:=Tryz.f75) (g:=.full 1 _ _) fun _=>?_
 refine gW hE ?_;conv=>whnf
 refine gW hE ?_;conv=>whnf
 refine Aa (fun _=>?_) (fun h=>absurd (of_decide_eq_false h) (by simp))
 refine gW hE ?_;conv=>whnf
 refine ⟨0,rfl,?_⟩
 refine gW hE ?_;conv=>whnf
 refine ⟨_,rfl,?_⟩
 refine gW hE ?_;conv=>whnf
 refine .pure _ [] (put_ok _) ?_
 refine gW hE ?_;conv=>whnf
 refine .sole rfl (.eff [] [0] _ _ rfl (qD _ (by omega)) ?_)
 refine gW hE ?_;conv=>whnf
 refine aJ ?_
 refine gW hE ?_;conv=>whnf
 refine gW hE ?_;conv=>whnf
 refine Aa (fun _=>?_) (fun h=>absurd (of_decide_eq_false h) (by simp))
 refine gW hE ?_;conv=>whnf
 refine ⟨1,rfl,?_⟩
 refine gW hE ?_;conv=>whnf
 refine ⟨_,rfl,?_⟩
 refine gW hE ?_;conv=>whnf
 refine .pure _ [] (put_ok _) ?_
 refine gW hE ?_;conv=>whnf
 refine .sole rfl (.eff [] [0,1] _ _ rfl (ws_ok _ _ (by omega)) ?_)
 refine gW hE ?_;conv=>whnf
 refine aJ ?_
 refine gW hE ?_;conv=>whnf
 refine gW hE ?_;conv=>whnf
 refine Aa (fun _=>?_) (fun h=>absurd (of_decide_eq_false h) (by simp))
 refine gW hE ?_;conv=>whnf
 refine ⟨2,rfl,?_⟩
 refine gW hE ?_;conv=>whnf
 refine ⟨_,rfl,?_⟩
 refine gW hE ?_;conv=>whnf
 refine .pure _ [] (put_ok _) ?_
 refine gW hE ?_;conv=>whnf
 refine .sole rfl (.eff [] [0,1] _ _ rfl (ws_ok _ _ (by simp;omega)) ?_)
 refine gW hE ?_;conv=>whnf
 refine aJ ?_
 refine gW hE ?_;conv=>whnf
 refine gW hE ?_;conv=>whnf
 refine Aa (fun h=>absurd (of_decide_eq_true h) (by simp)) (fun _=>?_)
 refine gW hE ?_;conv=>whnf
 refine ⟨[],[0,1],⟨rfl,rfl⟩,?_⟩
 exact ⟨rfl,rfl⟩
theorem DB (g:Gan) (h:g.ok=true):aA Tryz.prog 77 [.ref 0 0,g.av] [.cells tWr [.nilptr,.slice 1 [] .nil]] (.ret (.tup [])) (wrO (pl g.il) 0):=by
 obtain ⟨h1,h2,h3⟩:=gan_b h
 have b1:=l3_m h1 g.id (by simp)
 have b2:=l3_m h1 g.ten (by simp)
 have b3:=l3_m h1 g.pods (by simp)
 have p1:=pn_len b1
 have p2:=pn_len b2
 have p3:=pn_len b3
 have l2:=pl_len (v3_m h2)
 simp only [V3.l,Ao,Bg] at l2
 have e:pl g.il=(putN g.id.toNat++putN g.ten.toNat++putN g.pods.toNat)++pl g.need.l++pl [g.run,g.lev,g.pref]:=by simp [pl,Gan.il,V3.l]
 rw [e]
 refine cT (E:=E) (fn:=Tryz.f77) (g:=.full 1 _ _) fun _=>?_
 refine gW hE ?_;conv=>whnf
 refine .eff [] [0] _ _ rfl (aA.strip (EI g.id g.ten g.pods b1 b2 b3)) ?_
 refine gW hE ?_;conv=>whnf
 refine .eff [] [0,2] _ _ rfl (oH g.need h2 _ (by simp;omega)) ?_
 refine gW hE ?_;conv=>whnf
 refine .eff [] [0,2] _ _ rfl (aA.strip (nums_ok [g.run,g.lev,g.pref] (by simp) (l3_m h3) (by simp) _ (by simp [V3.l];omega))) ?_
 refine gW hE ?_;conv=>whnf
 refine ⟨[],[0,2],⟨rfl,rfl⟩,?_⟩
 exact ⟨rfl,rfl⟩
theorem pg_ok (g:Gan) (h:g.ok=true):aA Tryz.prog 35 [g.av] [] (.ret (.str (pl g.il))) []:=by
 have hne:pl g.il≠[]:=pl_ne _ _
 refine cT (E:=E) (fn:=Tryz.f35) (g:=.pure _) fun _=>?_
 refine gW hE ?_;conv=>whnf
 refine .eff [] [1] _ _ rfl (DB g h) ?_
 refine gW hE ?_;conv=>whnf
 refine .eff [] [1,2] _ _ rfl (str_ok _ hne _) ?_
 refine gW hE ?_;conv=>whnf
end Go.Proofs.YtmalnhgopkfdaaaGreat.C8
namespace Go.Proofs.YtmalnhgopkfdaaaGreat
open Go Go.AW Go.Proofs
set_option maxRecDepth 10000
def Sta.cmd (s:Sta):Cmd:=⟨1,s.c,Gan.zero,0⟩
def fZ (s:Sta):List UInt8:=C8.encB s.cmd
def lG:List Nat->List UInt8
 | []=>[]
 | x::r=>lH x++lG r
def gJ:List Pn->List UInt8
 | []=>[]
 | x::r=>(C8.pl x.g.il++C8.pl [x.seq,x.at'])++gJ r
def eB:List Rn->List UInt8
 | []=>[]
 | x::r=>(C8.pl x.g.il++C8.pl [x.seq,x.at',x.st,x.fl]++C8.pl x.hs)++eB r
def cN (s:Sta):List UInt8:=C8.putN (fZ s).length++fZ s++C8.pl [s.now,s.nxt,(s.hist.length:Int)]++lG s.hist++C8.pl [(s.pend.length:Int)]++gJ s.pend++C8.pl [(s.run.length:Int)]++eB s.run
structure Wr (s:Sta):Prop where
 con:(fZ s).length<=10000
 nums:0<=s.now/\s.now<=1099511627776/\0<=s.nxt/\s.nxt<=1099511627776
 his:s.hist.length<=100
 pen:s.pend.length<=32
 run:s.run.length<=32
 pg:∀ x∈s.pend,x.g.ok=true/\okI [x.seq,x.at']=true
 rg:∀ x∈s.run,x.g.ok=true/\okI [x.seq,x.at',x.st,x.fl]=true/\okI x.hs=true/\x.hs≠[]/\x.hs.length<=16
noncomputable abbrev FN:Func:=Tryz.f12
abbrev enO (bs:List UInt8) (g:Nat):List AObj:=SW.wrO bs g
theorem vE (g:Gan) (h:g.ok=true):(C8.pl g.il).length<=90:=by
 obtain ⟨h1,h2,h3⟩:=C8.gan_b h
 have l1:=C8.pl_len (C8.l3_m h1)
 have l2:=C8.pl_len (C8.v3_m h2)
 have l3:=C8.pl_len (C8.l3_m h3)
 have e:C8.pl g.il=C8.pl [g.id,g.ten,g.pods]++C8.pl g.need.l++C8.pl [g.run,g.lev,g.pref]:=by simp [C8.pl,Gan.il,V3.l]
 simp only [V3.l,Ao,Bg] at l1 l2 l3
 rw [e,Ag,Ag]
 simp only [V3.l]
 omega
theorem fD {l:List Int} (h:okI l=true):∀ n∈l,n<=9223372036854775807:=fun n hn=>by have:=C8.okI_b h n hn;omega
theorem XW (s:Sta) (w:Wr s) (B:List UInt8) (hne:B≠[]):∀ (m i:Nat) (bs:List UInt8),i+m=s.run.length->bs.length+300*m<=40000->bs++eB (s.run.drop i)=B->
  To E FN (.pure (.ret (.tup [.str B,ii 0]))) (.head (stk FN 2) [(7,.ref 0 0),(97,.slice 14 (rav s.run) .no),(98,.int .i64 ((rav s.run).length:Nat)),(99,ii (i:Int))] (enO bs 0)):=by
 have hlen:(rav s.run).length=s.run.length:=by simp
 have hlr:=w.run
 intro m
 induction m with
 | zero=>
  intro i bs hi hbl hB
  rw [Af (by omega)] at hB
  have hB:bs++[]=B:=hB
  rw [Ay] at hB
  subst hB
  refine gW hE ?_;conv=>whnf
  refine aF fun h=>?_
  refine gW hE ?_;conv=>whnf
  refine .eff [] [0,1] _ _ rfl (SW.str_ok _ hne _) ?_
  refine gW hE ?_;conv=>whnf
 | succ m ih=>
  intro i bs hi hbl hB
  have hlt:i<s.run.length:=by omega
  rw [Ae hlt] at hB
  have get:=fQ hlt
  obtain ⟨g1,g2,g3,g4,g5⟩:=w.rg s.run[i] (Bn hlt)
  generalize s.run[i]=x at hB get g1 g2 g3 g4 g5
  have hB:bs++((C8.pl x.g.il++C8.pl [x.seq,x.at',x.st,x.fl]++C8.pl x.hs)++eB (s.run.drop (i+1)))=B:=hB
  rw [<-Aj,<-Aj,<-Aj] at hB
  have l1:=vE x.g g1
  have l2:=C8.pl_len (fD g2)
  have l3:=C8.pl_len (fD g3)
  simp only [Ao,Bg] at l2
  have hp:=C8.pg_ok x.g g1
  have h1:=SW.ws_ok bs (C8.pl x.g.il) (by omega)
  have h2:=SW.nums_ok [x.seq,x.at',x.st,x.fl] (by simp) (fD g2) (by simp) (bs++C8.pl x.g.il) (by simp;omega)
  have h3:=SW.nums_ok x.hs g4 (fD g3) (by omega) (bs++C8.pl x.g.il++C8.pl [x.seq,x.at',x.st,x.fl]) (by simp only [Ag];omega)
  have next:=ih (i+1) _ (by omega) (by simp only [Ag];omega) hB
  refine gW hE ?_;conv=>whnf
  refine aT fun h=>?_
  refine gW hE ?_;conv=>whnf
  refine ⟨i,rfl,?_⟩
  refine gW hE ?_;conv=>whnf
  refine ⟨_,get,?_⟩
  refine gW hE ?_;conv=>whnf
  refine .pure _ [] hp ?_
  refine gW hE ?_;conv=>whnf
  refine .sole rfl (.eff [] [0,1] _ _ rfl h1 ?_)
  refine gW hE ?_;conv=>whnf
  refine .eff [] [0,1] _ _ rfl (aA.strip h2) ?_
  refine gW hE ?_;conv=>whnf
  refine .eff [] [0,1] _ _ rfl h3 ?_
  refine gW hE ?_;conv=>whnf
  refine aJ ?_
  refine gW hE ?_;conv=>whnf
  refine To.part [7,97,98,99] [0,1] rfl rfl rfl ?_
  exact next
theorem XX (s:Sta) (w:Wr s) (B:List UInt8) (hne:B≠[]):∀ (m i:Nat) (bs:List UInt8),i+m=s.pend.length->bs.length+150*m<=20000->bs++gJ (s.pend.drop i)++(C8.pl [(s.run.length:Int)]++eB s.run)=B->
  To E FN (.pure (.ret (.tup [.str B,ii 0]))) (.head (stk FN 1) [(1,.ptr s.cs),(7,.ref 0 0),(69,.slice 11 (pnv s.pend) .no),(70,.int .i64 ((pnv s.pend).length:Nat)),(71,ii (i:Int))] (enO bs 0)):=by
 have hlen:(pnv s.pend).length=s.pend.length:=by simp
 have hlr:(rav s.run).length=s.run.length:=by simp
 have hlp:=w.pen
 have hrr:=w.run
 intro m
 induction m with
 | zero=>
  intro i bs hi hbl hB
  rw [Af (by omega)] at hB
  have hB:bs++[]++(C8.pl [(s.run.length:Int)]++eB s.run)=B:=hB
  rw [Ay,<-Aj] at hB
  have hm:∀ n∈[(s.run.length:Int)],n<=9223372036854775807:=fun n hn=>by simp at hn;omega
  have l1:=C8.pl_len hm
  simp only [Ao,Bg] at l1
  have h1:=SW.nums_ok [(s.run.length:Int)] (by simp) hm (by simp) bs (by simp;omega)
  have next:=XW s w B hne s.run.length 0 (bs++C8.pl [(s.run.length:Int)]) (by omega) (by rw [Ag];omega) hB
  rw [<-hlr] at h1
  rw [<-hlr] at next
  refine gW hE ?_;conv=>whnf
  refine aF fun h=>?_
  refine gW hE ?_;conv=>whnf
  refine .eff [] [0,1] _ _ rfl (aA.strip h1) ?_
  refine gW hE ?_;conv=>whnf
  refine To.part [7,97,98,99] [0,1] rfl rfl rfl ?_
  exact next
 | succ m ih=>
  intro i bs hi hbl hB
  have hlt:i<s.pend.length:=by omega
  rw [Ae hlt] at hB
  have get:=uX hlt
  obtain ⟨g1,g2⟩:=w.pg s.pend[i] (Bn hlt)
  generalize s.pend[i]=x at hB get g1 g2
  have hB:bs++((C8.pl x.g.il++C8.pl [x.seq,x.at'])++gJ (s.pend.drop (i+1)))++(C8.pl [(s.run.length:Int)]++eB s.run)=B:=hB
  rw [<-Aj bs,<-Aj bs] at hB
  have l1:=vE x.g g1
  have l2:=C8.pl_len (fD g2)
  simp only [Ao,Bg] at l2
  have hp:=C8.pg_ok x.g g1
  have h1:=SW.ws_ok bs (C8.pl x.g.il) (by omega)
  have h2:=SW.nums_ok [x.seq,x.at'] (by simp) (fD g2) (by simp) (bs++C8.pl x.g.il) (by simp;omega)
  have next:=ih (i+1) _ (by omega) (by simp only [Ag];omega) hB
  refine gW hE ?_;conv=>whnf
  refine aT fun h=>?_
  refine gW hE ?_;conv=>whnf
  refine ⟨i,rfl,?_⟩
  refine gW hE ?_;conv=>whnf
  refine ⟨_,get,?_⟩
  refine gW hE ?_;conv=>whnf
  refine .pure _ [] hp ?_
  refine gW hE ?_;conv=>whnf
  refine .sole rfl (.eff [] [0,1] _ _ rfl h1 ?_)
  refine gW hE ?_;conv=>whnf
  refine .eff [] [0,1] _ _ rfl (aA.strip h2) ?_
  refine gW hE ?_;conv=>whnf
  refine aJ ?_
  refine gW hE ?_;conv=>whnf
  refine To.part [1,7,69,70,71] [0,1] rfl rfl rfl ?_
  exact next
theorem HX {l:List Nat} {i:Nat} (h:i<l.length):(fv l)[i]? =some (.int .u64 (l[i]:Int)):=by simp [fv,h]
theorem XY (s:Sta) (w:Wr s) (B:List UInt8) (hne:B≠[]):∀ (m i:Nat) (bs:List UInt8),i+m=s.hist.length->bs.length+8*m<=15000->bs++lG (s.hist.drop i)++(C8.pl [(s.pend.length:Int)]++(gJ s.pend++(C8.pl [(s.run.length:Int)]++eB s.run)))=B->
  To E FN (.pure (.ret (.tup [.str B,ii 0]))) (.head (stk FN 0) [(1,.ptr s.cs),(7,.ref 0 0),(49,.slice 1 (fv s.hist) .no),(50,.int .i64 ((fv s.hist).length:Nat)),(51,ii (i:Int))] (enO bs 0)):=by
 have hlen:(fv s.hist).length=s.hist.length:=by simp
 have hlr:(pnv s.pend).length=s.pend.length:=by simp
 have hlp:=w.pen
 have hlh:=w.his
 intro m
 induction m with
 | zero=>
  intro i bs hi hbl hB
  rw [Af (by omega)] at hB
  have hB:bs++[]++(C8.pl [(s.pend.length:Int)]++(gJ s.pend++(C8.pl [(s.run.length:Int)]++eB s.run)))=B:=hB
  rw [Ay,<-Aj,<-Aj] at hB
  have hm:∀ n∈[(s.pend.length:Int)],n<=9223372036854775807:=fun n hn=>by simp at hn;omega
  have l1:=C8.pl_len hm
  simp only [Ao,Bg] at l1
  have h1:=SW.nums_ok [(s.pend.length:Int)] (by simp) hm (by simp) bs (by simp;omega)
  have next:=XX s w B hne s.pend.length 0 (bs++C8.pl [(s.pend.length:Int)]) (by omega) (by rw [Ag];omega) hB
  rw [<-hlr] at h1
  rw [<-hlr] at next
  refine gW hE ?_;conv=>whnf
  refine aF fun h=>?_
  refine gW hE ?_;conv=>whnf
  refine .eff [] [0,1] _ _ rfl (aA.strip h1) ?_
  refine gW hE ?_;conv=>whnf
  refine To.part [1,7,69,70,71] [0,1] rfl rfl rfl ?_
  exact next
 | succ m ih=>
  intro i bs hi hbl hB
  have hlt:i<s.hist.length:=by omega
  rw [Ae hlt] at hB
  have get:=HX hlt
  generalize s.hist[i]=x at hB get
  have hB:bs++(lH x++lG (s.hist.drop (i+1)))++(C8.pl [(s.pend.length:Int)]++(gJ s.pend++(C8.pl [(s.run.length:Int)]++eB s.run)))=B:=hB
  rw [<-Aj bs] at hB
  have l1:(lH x).length=8:=eM x 8
  have hp:=V2 x
  have h1:=SW.ws_ok bs (lH x) (by omega)
  have next:=ih (i+1) _ (by omega) (by simp only [Ag];omega) hB
  refine gW hE ?_;conv=>whnf
  refine aT fun h=>?_
  refine gW hE ?_;conv=>whnf
  refine ⟨i,rfl,?_⟩
  refine gW hE ?_;conv=>whnf
  refine ⟨_,get,?_⟩
  refine gW hE ?_;conv=>whnf
  refine .pure _ [] hp ?_
  refine gW hE ?_;conv=>whnf
  refine .sole rfl (.eff [] [0,1] _ _ rfl h1 ?_)
  refine gW hE ?_;conv=>whnf
  refine aJ ?_
  refine gW hE ?_;conv=>whnf
  refine To.part [1,7,49,50,51] [0,1] rfl rfl rfl ?_
  exact next
def enB (s:Sta):List AObj:=[.cells 31 s.cs]
def aA2 (s:Sta):List AObj:=[.fcells s.cs]
theorem aA1 (s:Sta):frzs [0] (enB s)=aA2 s:=by kernel_rfl
theorem X1 (s:Sta):uP [1] (aE (aA2 s)) [(1,.ref 0 0),(2,.str []),(3,ii 0)]=[(1,.ptr s.cs),(2,.str []),(3,ii 0)]:=by kernel_rfl
theorem X0 {g:Goal} {ks:List KI} (s:Sta) (h:To E FN g (.code ks [(1,.ptr s.cs),(2,.str []),(3,ii 0)] (aA2 s))):To E FN g (.code ks [(1,.ref 0 0),(2,.str []),(3,ii 0)] (enB s)):=by
 refine To.frz [1] [0] ?_
 rw [aA1,X1]
 exact h
def aA0 (s:Sta):List UInt8:=if gA s=true then cN s else []
theorem U4 (s:Sta) (hc:s.c.sm) (hs:Sm s.run) (hw:gA s=true->Wr s):aA Tryz.prog 12 [s.av] [] (.ret (.tup [.str (aA0 s),ii (if gA s=true then 0 else 1)])) []:=by
 have hck:=sC s hc hs
 unfold aA0
 cases hq:gA s with
 | false=>
  rw [hq] at hck
  have hck:aA Tryz.prog 13 [s.av] [] (.ret (ii 1)) []:=hck
  show aA _ _ _ _ (.ret (.tup [.str [],ii 1])) _
  refine cT (E:=E) (fn:=Tryz.f12) (g:=.pure _) fun _=>?_
  repeat' first | (refine gN hE ?_;conv=>whnf) | refine .pure _ [] hck ?_ | exact rfl | refine aY ?_ | refine aN ?_ | refine aT fun h=>?_ | refine aF fun h=>?_ | refine ⟨fun h=>?_,fun h=>?_⟩ | refine aJ ?_ | refine ⟨_,rfl,?_⟩ | refine aD ?_ | fail
 | true=>
  rw [hq] at hck
  have hck:aA Tryz.prog 13 [s.av] [] (.ret (ii 0)) []:=hck
  show aA _ _ _ _ (.ret (.tup [.str (cN s),ii 0])) _
  have w:=hw hq
  have he:aA Tryz.prog 31 [s.cmd.av] [] (.ret (.tup [.str (fZ s),ii (C8.chk s.cmd)])) []:=C8.enc_ok s.cmd
  have hlh:(fv s.hist).length=s.hist.length:=by simp
  have hl1:=w.con
  have hl2:=w.his
  obtain ⟨n1,n2,n3,n4⟩:=w.nums
  have h1:=SW.nums_fresh ((fZ s).length:Int) (by omega)
  rw [Br] at h1
  have lp:(C8.putN (fZ s).length).length<=10:=by
   have:=C8.pn_len (n:=((fZ s).length:Int)) (by omega)
   rw [Br] at this
   omega
  have h2:=SW.ws_ok (C8.putN (fZ s).length) (fZ s) (by omega)
  have hm:∀ n∈[s.now,s.nxt,(s.hist.length:Int)],n<=9223372036854775807:=fun n hn=>by simp at hn;omega
  have l3:=C8.pl_len hm
  simp only [Ao,Bg] at l3
  have h3:=SW.nums_ok [s.now,s.nxt,(s.hist.length:Int)] (by simp) hm (by simp) (C8.putN (fZ s).length++fZ s) (by simp;omega)
  have hne:cN s≠[]:=by
   intro h
   have:=congrArg Hu h
   unfold cN at this
   have e:C8.pl [s.now,s.nxt,(s.hist.length:Int)]≠[]:=C8.pl_ne _ _
   have:=Fp.2 e
   simp only [Ag,Bg] at *
   omega
  have next:=XY s w (cN s) hne s.hist.length 0 (C8.putN (fZ s).length++fZ s++C8.pl [s.now,s.nxt,(s.hist.length:Int)]) (by omega) (by simp only [Ag];omega) (by unfold cN;simp only [Db,Aj])
  rw [<-hlh] at h3
  rw [<-hlh] at next
  generalize fZ s=C at he h1 h2 h3 next
  generalize cN s=B at next
  generalize C8.chk s.cmd=ck at he
  refine cT (E:=E) (fn:=Tryz.f12) (g:=.pure _) fun _=>?_
  refine bW hE 13 ?_;conv=>whnf
  refine To.cutC [1,2,3] 1 rfl rfl rfl rfl ?_
  refine X0 s ?_
  refine gW hE ?_;conv=>whnf
  refine .pure _ [] hck ?_
  refine gW hE ?_;conv=>whnf
  refine Aa (fun h=>absurd h (by decide)) (fun _=>?_)
  refine gW hE ?_;conv=>whnf
  refine .pure _ [] he ?_
  refine gW hE ?_;conv=>whnf
  refine .eff [] [1] _ _ rfl (aA.strip h1) ?_
  refine gW hE ?_;conv=>whnf
  refine .eff [] [1,2] _ _ rfl h2 ?_
  refine gW hE ?_;conv=>whnf
  refine .eff [] [1,2] _ _ rfl (aA.strip h3) ?_
  refine gW hE ?_;conv=>whnf
  refine To.part [1,7,49,50,51] [1,2] rfl rfl rfl ?_
  exact next
open C8 (leN leN_lt nS AE)
set_option maxRecDepth 10000
def oQ (l:List UInt8):AVal:=if l.length<8 then .tup [.int .u64 0,.int .i64 0,.int .i64 10] else .tup [.int .u64 (leN (l.take 8)),.int .i64 8,.int .i64 0]
noncomputable abbrev fGF:Func:=Tryz.f57
theorem MX (l:List UInt8) (hl:8<=l.length):∀ (f i:Nat),i+f=8->
  To E fGF (.pure (.ret (.tup [.int .u64 (leN (l.take 8)),.int .i64 8,.int .i64 0]))) (.head (stk fGF 0) [(0,.str l),(5,.int .u64 (leN (l.take i))),(10,.int .i64 i)] []):=by
 intro f
 induction f with
 | zero=>
  intro i hi
  have e:i=8:=by omega
  subst e
  refine gW hE ?_;conv=>whnf
  refine aF fun h=>?_
  repeat' first | (refine gN hE ?_;conv=>whnf) | exact rfl | refine aY ?_ | refine aN ?_ | refine aT fun h=>?_ | refine aF fun h=>?_ | refine ⟨fun h=>?_,fun h=>?_⟩ | refine aJ ?_ | refine ⟨_,rfl,?_⟩ | refine aD ?_ | fail
 | succ f ih=>
  intro i hi
  obtain ⟨c,hc⟩:∃ c,l[i]? =some c:=⟨l[i]'(by omega),Ac (by omega)⟩
  have hc2:c.toNat<256:=c.toNat_lt
  have hacc:=leN_lt (l.take i)
  rw [Cq,Ei (by omega)] at hacc
  have h5:2 ^ (8*(i+1))=256*2 ^ (8*i):=by rw [Fc,Fe];omega
  have h4:c.toNat*2 ^ (8*i)<=255*2 ^ (8*i):=Bp _ (by omega)
  have h6:2 ^ (8*(i+1))<=2 ^ 64:=Dm (by decide) (by omega)
  have e2:(8*(i:Int)).toNat=8*i:=by omega
  have e3:(c.toNat:Int)*2 ^ (8*i)=((c.toNat*2 ^ (8*i):Nat):Int):=by simp
  have e4:iC .or .u64 (leN (l.take i):Int) ((c.toNat*2 ^ (8*i):Nat):Int)=((leN (l.take (i+1)):Nat):Int):=by
   rw [yK .u64 _ _ (by simp only [bF];omega) (by simp only [bF];omega),QS hacc,AE hc,nS,Cq,Ei (by omega)]
  have next:=ih (i+1) (by omega)
  refine gW hE ?_;conv=>whnf
  refine aT fun h=>?_
  refine gW hE ?_;conv=>whnf
  refine ⟨i,rfl,?_⟩
  refine gW hE ?_;conv=>whnf
  refine ⟨c,hc,?_⟩
  refine gW hE ?_;conv=>whnf
  refine Em (Aa (show inR IntKind.u64 (c.toNat:Int) from eS (by simp only [bF];omega)) ?_)
  refine gW hE ?_;conv=>whnf
  refine aJ ?_
  refine gW hE ?_;conv=>whnf
  refine Aa (show (0:Int)<=8*(i:Int) by omega) ?_
  refine gW hE ?_;conv=>whnf
  refine Em (Aa (Aa (by rw [e2];simp only [IntKind.bits];omega) (by rw [e2,e3];exact eS (by simp only [bF];omega))) ?_)
  refine gW hE ?_;conv=>whnf
  rw [e2,e3,e4]
  refine aJ ?_
  refine gW hE ?_;conv=>whnf
  refine To.part [0,5,10] [] rfl rfl rfl ?_
  exact next
theorem XD (l:List UInt8):aA Tryz.prog 57 [.str l] [] (.ret (oQ l)) []:=by
 unfold oQ
 by_cases h:l.length<8
 .rw [if_pos h]
  refine cT (E:=E) (fn:=Tryz.f57) (g:=.pure _) fun _=>?_
  refine gW hE ?_;conv=>whnf
  refine Aa (fun _=>?_) (fun h=>absurd (of_decide_eq_false h) (by omega))
  repeat' first | (refine gN hE ?_;conv=>whnf) | exact rfl | refine aY ?_ | refine aN ?_ | refine aT fun h=>?_ | refine aF fun h=>?_ | refine ⟨fun h=>?_,fun h=>?_⟩ | refine aJ ?_ | refine ⟨_,rfl,?_⟩ | refine aD ?_ | fail
 .rw [if_neg h]
  have next:=MX l (by omega) 8 0 rfl
  refine cT (E:=E) (fn:=Tryz.f57) (g:=.pure _) fun _=>?_
  refine gW hE ?_;conv=>whnf
  refine Aa (fun h=>absurd (of_decide_eq_true h) (by omega)) (fun _=>?_)
  repeat' first | (refine gN hE ?_;conv=>whnf) | exact rfl | refine aY ?_ | refine aN ?_ | refine aT fun h=>?_ | refine aF fun h=>?_ | refine ⟨fun h=>?_,fun h=>?_⟩ | refine aJ ?_ | refine ⟨_,rfl,?_⟩ | refine aD ?_ | fail
  refine To.part [0,5,10] [] rfl rfl rfl ?_
  exact next
open C8 (leN bB rCount rGan rdO rdU sH sN aW aK bE bJ jO gQ uW qN rNum_b bQ tRd)
set_option maxRecDepth 10000
abbrev RSt:Type:=Option ((Sta×Bool)×List UInt8)
def Con.nil:Con:=⟨[],[],0,0⟩
def Sta.nil:Sta:=⟨Con.nil,0,0,[],[],[]⟩
def jW:Nat->List Int->List UInt8->Option (List Int×List UInt8)
 | 0,hs,s=>some (hs,s)
 | m+1,hs,s=>match bB s with
  | none=>none
  | some (h,s)=>jW m (hs++[h]) s
def rR (c:Con) (now nxt:Int) (hi:List Nat) (ps:List Pn):Nat->List Rn->List UInt8->RSt
 | 0,rs,s=>some ((⟨c,now,nxt,ps,rs,hi⟩,s==[]),s)
 | m+1,rs,s=>match rGan s with
  | none=>none
  | some (g,s)=>match bB s with
   | none=>none
   | some (q,s)=>match bB s with
        | none=>none
        | some (a,s)=>match bB s with
         | none=>none
         | some (t,s)=>match bB s with
          | none=>none
          | some (f,s)=>if decide ((s.length:Int)<g.pods)=true then some ((⟨c,now,nxt,ps,rs,hi⟩,false),s) else match jW g.pods.toNat [] s with
           | none=>none
           | some (hs,s)=>rR c now nxt hi ps m (rs++[⟨g,q,a,t,f,hs⟩]) s
def rRs (c:Con) (now nxt:Int) (hi:List Nat) (ps:List Pn) (s:List UInt8):RSt:=match rCount s with
 | none=>none
 | some (n,s)=>rR c now nxt hi ps n.toNat [] s
def rP (c:Con) (now nxt:Int) (hi:List Nat):Nat->List Pn->List UInt8->RSt
 | 0,ps,s=>rRs c now nxt hi ps s
 | m+1,ps,s=>match rGan s with
  | none=>none
  | some (g,s)=>match bB s with
   | none=>none
   | some (q,s)=>match bB s with
        | none=>none
        | some (a,s)=>rP c now nxt hi m (ps++[⟨g,q,a⟩]) s
def rPs (c:Con) (now nxt:Int) (hi:List Nat) (s:List UInt8):RSt:=match rCount s with
 | none=>none
 | some (n,s)=>rP c now nxt hi n.toNat [] s
def rH (c:Con) (now nxt:Int):Nat->List Nat->List UInt8->RSt
 | 0,hi,s=>rPs c now nxt hi s
 | m+1,hi,s=>if s.length<8 then some ((⟨c,now,nxt,[],[],hi⟩,false),s) else rH c now nxt m (hi++[leN (s.take 8)]) (s.drop 8)
def rB (c:Con) (s:List UInt8):RSt:=match bB s with
 | none=>none
 | some (now,s)=>match bB s with
  | none=>none
  | some (nxt,s)=>match rCount s with
   | none=>none
   | some (n,s)=>rH c now nxt n.toNat [] s
def rSt (s:List UInt8):RSt:=match rCount s with
 | none=>none
 | some (n,s)=>match C8.dec (s.take n.toNat) with
  | none=>some ((Sta.nil,false),s)
  | some x=>if x.k=1 then rB x.c (s.drop n.toNat) else some ((Sta.nil,false),s)
def stR (p:Sta×Bool):AVal:=.tup [p.1.av,.bool p.2]
noncomputable abbrev fRd:Func:=Tryz.f20
abbrev reC (c:Con) (now nxt:Int) (p r h:AVal):List AVal:=[.slice 11 (nav c.ns) .no,.slice 6 (hav c.hs) .no,ii c.half,ii c.age,ii now,ii nxt,p,r,h]
theorem wO {s s':List UInt8} {g:Gan} (h:rGan s=some (g,s')):s'.length+1<=s.length/\0<=g.pods/\g.pods<=9223372036854775807:=by
 unfold C8.rGan at h
 split at h
 .cases h
 .rename_i h1
  split at h
  .cases h
  .rename_i h2
   split at h
   .cases h
   .rename_i h3
    split at h
    .cases h
    .rename_i h4
     split at h
     .cases h
     .rename_i h5
      split at h
      .cases h
      .rename_i h6
       split at h
       .cases h
       .rename_i h7
        cases h
        have b1:=rNum_b h1
        have b2:=rNum_b h2
        have b3:=rNum_b h3
        have b4:=C8.rVec_b h4
        have b5:=rNum_b h5
        have b6:=rNum_b h6
        have b7:=rNum_b h7
        exact ⟨by omega,b3.1,b3.2.1⟩
abbrev reR (c:Con) (now nxt:Int) (hi:List Nat) (ps:List Pn) (rs:List Rn) (s:List UInt8):List AObj:=[.cells tRd [.str s],.cells 31 (reC c now nxt (.slice 11 (pnv ps) .no) (.slice 14 (rav rs) (.own 2 0)) (.slice 1 (fv hi) .no)),.tail 0 14 70]
abbrev reG (g:Gan) (q a t f:Int) (x:AVal):List AVal:=[ii g.id,ii g.ten,ii g.pods,ii g.need.a,ii g.need.b,ii g.need.c,ii g.run,ii g.lev,ii g.pref,ii q,ii a,ii t,ii f,x]
theorem VK (c:Con) (now nxt:Int) (hi:List Nat) (ps:List Pn) (rs:List Rn) (hrs:rs.length<=1000000) (n:Int) (i:Nat) (hin:(i:Int)<9223372036854775807) (g:Gan) (q a t f:Int) (hp:0<=g.pods/\g.pods<=9223372036854775807) (r:Res) (O:List AObj) (m:Nat)
  (cont:∀ (hs:List Int) (s:List UInt8),s.length<=1000000->rs.length+s.length+1<=1000000->hs.length<=1000000->sH stR (rR c now nxt hi ps m (rs++[⟨g,q,a,t,f,hs⟩]) s)=r->sN (rR c now nxt hi ps m (rs++[⟨g,q,a,t,f,hs⟩]) s)=O->
   To E fRd (.full 1 r O) (.head (stk fRd 2) [(0,.ref 0 0),(2,.ref 1 0),(99,.int .i64 n),(100,.int .i64 ((i:Int)+1))] (reR c now nxt hi ps (rs++[⟨g,q,a,t,f,hs⟩]) s))):
  ∀ (k j:Nat) (s:List UInt8) (hs:List Int),(j+k:Int)=g.pods->hs.length+s.length<=1000000->rs.length+s.length+1<=1000000->
   sH stR (match jW k hs s with | none=>none | some (hs,s)=>rR c now nxt hi ps m (rs++[⟨g,q,a,t,f,hs⟩]) s)=r->sN (match jW k hs s with | none=>none | some (hs,s)=>rR c now nxt hi ps m (rs++[⟨g,q,a,t,f,hs⟩]) s)=O->
  To E fRd (.full 1 r O) (.head (stk fRd 3) [(0,.ref 0 0),(2,.ref 1 0),(10,.ref 3 0),(99,.int .i64 n),(100,.int .i64 i),(125,ii g.pods),(126,.int .i64 j)]
   (reR c now nxt hi ps rs s++[.cells 70 (reG g q a t f (.slice 1 (iv hs) (.own 4 0))),.tail 0 1 3])):=by
 intro k
 induction k with
 | zero=>
  intro j s hs hj hl hl2 hr ho
  have hr:sH stR (rR c now nxt hi ps m (rs++[⟨g,q,a,t,f,hs⟩]) s)=r:=hr
  have ho:sN (rR c now nxt hi ps m (rs++[⟨g,q,a,t,f,hs⟩]) s)=O:=ho
  have hlen:(rav rs).length=rs.length:=by simp
  have next:=cont hs s (by omega) hl2 (by omega) hr ho
  have e:rav (rs++[⟨g,q,a,t,f,hs⟩])=rav rs++[Rn.av ⟨g,q,a,t,f,hs⟩]:=by simp
  unfold reR at next
  rw [e] at next
  refine gW hE ?_;conv=>whnf
  refine aF fun h=>?_
  repeat' first | (refine gN hE ?_;conv=>whnf) | refine ⟨⟨by simp only [maxLen];simp;omega,by simp;omega⟩,?_⟩ | exact rfl | refine aY ?_ | refine aN ?_ | refine aT fun h=>?_ | refine aF fun h=>?_ | refine ⟨fun h=>?_,fun h=>?_⟩ | refine aJ ?_ | refine ⟨_,rfl,?_⟩ | refine aD ?_ | fail
  refine To.part [0,2,99,100] [0,1,2] rfl rfl rfl ?_
  exact next
 | succ k ih=>
  intro j s hs hj hl hl2 hr ho
  unfold jW at hr ho
  have hlen:(iv hs).length=hs.length:=by simp
  refine gW hE ?_;conv=>whnf
  refine aT fun h=>?_
  refine bW hE 3 ?_;conv=>whnf
  refine To.permAt hE [0,1,2,6] [3,4,5,7] (by rfl) ?_;conv=>whnf
  refine aL ?_;conv=>whnf
  refine aK (o:=bB s) (fun h1=>?_) (fun ⟨u,s1⟩ h1=>?_)
  .simp only [h1] at hr ho
   have hr:Res.pan (aW 10)=r:=hr
   have ho:rdU=O:=ho
   subst hr ho
   refine .effp [] [0] _ _ rfl (bJ h1) ?_
   exact ⟨[],[0],⟨rfl,rfl⟩,rfl,rfl⟩
  simp only [h1] at hr ho
  refine .eff [] [0] _ _ rfl (bE h1) ?_
  have b1:=rNum_b h1
  have next:=ih (j+1) s1 (hs++[u]) (by omega) (by simp;omega) (by omega) hr ho
  have e:iv (hs++[u])=iv hs++[ii u]:=by simp
  rw [e] at next;conv=>whnf
  refine aL ?_;conv=>whnf;conv=>whnf
  refine aL ?_;conv=>whnf
  refine ⟨⟨by simp only [maxLen];simp;omega,by simp;omega⟩,?_⟩;conv=>whnf
  refine aL ?_;conv=>whnf;conv=>whnf
  refine aL ?_;conv=>whnf
  refine gW hE ?_;conv=>whnf
  refine aJ ?_
  refine gW hE ?_;conv=>whnf
  refine To.part [0,2,10,99,100,125,126] [0,1,2,3,4] rfl rfl rfl ?_
  exact next
theorem VA (c:Con) (now nxt:Int) (hi:List Nat) (ps:List Pn) (n:Int) (hn:n<=9223372036854775807) (r:Res) (O:List AObj):∀ (m i:Nat) (s:List UInt8) (rs:List Rn),(i+m:Int)=n->rs.length+s.length<=1000000->sH stR (rR c now nxt hi ps m rs s)=r->sN (rR c now nxt hi ps m rs s)=O->
  To E fRd (.full 1 r O) (.head (stk fRd 2) [(0,.ref 0 0),(2,.ref 1 0),(99,.int .i64 n),(100,.int .i64 i)] (reR c now nxt hi ps rs s)):=by
 intro m
 induction m with
 | zero=>
  intro i s rs hi2 hl hr ho
  have hr:Res.ret (.tup [Sta.av ⟨c,now,nxt,ps,rs,hi⟩,.bool (s==[])])=r:=hr
  have ho:rdO s=O:=ho
  subst hr ho
  refine gW hE ?_;conv=>whnf
  refine aF fun h=>?_
  refine bW hE 2 ?_;conv=>whnf
  refine To.permAt hE [0,1,2,3,4,5] [6,7] (by rfl) ?_;conv=>whnf
  refine aL ?_;conv=>whnf;conv=>whnf
  refine aL ?_;conv=>whnf;conv=>whnf
  refine aL ?_;conv=>whnf
  refine gW hE ?_;conv=>whnf
  refine ⟨[],[0],⟨rfl,rfl⟩,?_⟩
  exact ⟨rfl,rfl⟩
 | succ m ih=>
  intro i s rs hi2 hl hr ho
  unfold rR at hr ho
  have hlen:(rav rs).length=rs.length:=by simp
  refine gW hE ?_;conv=>whnf
  refine aT fun h=>?_
  refine gW hE ?_;conv=>whnf
  refine aK (o:=rGan s) (fun h1=>?_) (fun ⟨g,s1⟩ h1=>?_)
  .simp only [h1] at hr ho
   have hr:Res.pan (aW 10)=r:=hr
   have ho:rdU=O:=ho
   subst hr ho
   refine .effp [] [0] _ _ rfl (qN h1) ?_
   exact ⟨[],[0],⟨rfl,rfl⟩,rfl,rfl⟩
  simp only [h1] at hr ho
  refine .eff [] [0] _ _ rfl (uW h1) ?_
  refine gW hE ?_;conv=>whnf
  refine aK (o:=bB s1) (fun h2=>?_) (fun ⟨q,s2⟩ h2=>?_)
  .simp only [h2] at hr ho
   have hr:Res.pan (aW 10)=r:=hr
   have ho:rdU=O:=ho
   subst hr ho
   refine .effp [] [0] _ _ rfl (bJ h2) ?_
   exact ⟨[],[0],⟨rfl,rfl⟩,rfl,rfl⟩
  simp only [h2] at hr ho
  refine .eff [] [0] _ _ rfl (bE h2) ?_
  refine gW hE ?_;conv=>whnf
  refine aK (o:=bB s2) (fun h3=>?_) (fun ⟨a,s3⟩ h3=>?_)
  .simp only [h3] at hr ho
   have hr:Res.pan (aW 10)=r:=hr
   have ho:rdU=O:=ho
   subst hr ho
   refine .effp [] [0] _ _ rfl (bJ h3) ?_
   exact ⟨[],[0],⟨rfl,rfl⟩,rfl,rfl⟩
  simp only [h3] at hr ho
  refine .eff [] [0] _ _ rfl (bE h3) ?_
  refine gW hE ?_;conv=>whnf
  refine aK (o:=bB s3) (fun h4=>?_) (fun ⟨t,s4⟩ h4=>?_)
  .simp only [h4] at hr ho
   have hr:Res.pan (aW 10)=r:=hr
   have ho:rdU=O:=ho
   subst hr ho
   refine .effp [] [0] _ _ rfl (bJ h4) ?_
   exact ⟨[],[0],⟨rfl,rfl⟩,rfl,rfl⟩
  simp only [h4] at hr ho
  refine .eff [] [0] _ _ rfl (bE h4) ?_
  refine gW hE ?_;conv=>whnf
  refine aK (o:=bB s4) (fun h5=>?_) (fun ⟨f,s5⟩ h5=>?_)
  .simp only [h5] at hr ho
   have hr:Res.pan (aW 10)=r:=hr
   have ho:rdU=O:=ho
   subst hr ho
   refine .effp [] [0] _ _ rfl (bJ h5) ?_
   exact ⟨[],[0],⟨rfl,rfl⟩,rfl,rfl⟩
  simp only [h5] at hr ho
  refine .eff [] [0] _ _ rfl (bE h5) ?_
  have b1:=wO h1
  have b2:=rNum_b h2
  have b3:=rNum_b h3
  have b4:=rNum_b h4
  have b5:=rNum_b h5
  refine gW hE ?_;conv=>whnf
  refine Aa (fun hd=>?_) (fun hd=>?_)
  .rw [if_pos hd] at hr ho
   have hr:Res.ret (.tup [Sta.av ⟨c,now,nxt,ps,rs,hi⟩,.bool false])=r:=hr
   have ho:rdO s5=O:=ho
   subst hr ho
   refine gW hE ?_;conv=>whnf
   refine ⟨[],[0],⟨rfl,rfl⟩,?_⟩
   exact ⟨rfl,rfl⟩
  .rw [if_neg (by rw [hd];decide)] at hr ho
   refine gW hE ?_;conv=>whnf
   refine To.part [0,2,10,99,100,125,126] [0,1,2,3] rfl rfl rfl ?_
   refine To.begin 3 13 3 rfl rfl ?_
   exact VK c now nxt hi ps rs (by omega) n i (by omega) g q a t f b1.2 r O m (fun hs s' k1 k2 k3 hr ho=>ih (i+1) s' _ (by omega) (by simp;omega) hr ho) g.pods.toNat 0 s5 [] (by omega) (by simp;omega) (by omega) hr ho
abbrev reP (c:Con) (now nxt:Int) (hi:List Nat) (ps:List Pn) (s:List UInt8):List AObj:=[.cells tRd [.str s],.cells 31 (reC c now nxt (.slice 11 (pnv ps) (.own 2 0)) (.slice 14 [] .nil) (.slice 1 (fv hi) .no)),.tail 0 11 67]
theorem VC (c:Con) (now nxt:Int) (hi:List Nat) (n:Int) (hn:n<=9223372036854775807) (r:Res) (O:List AObj):∀ (m i:Nat) (s:List UInt8) (ps:List Pn),(i+m:Int)=n->ps.length+s.length<=1000000->sH stR (rP c now nxt hi m ps s)=r->sN (rP c now nxt hi m ps s)=O->
  To E fRd (.full 1 r O) (.head (stk fRd 1) [(0,.ref 0 0),(2,.ref 1 0),(82,.int .i64 n),(83,.int .i64 i)] (reP c now nxt hi ps s)):=by
 intro m
 induction m with
 | zero=>
  intro i s ps hi2 hl hr ho
  unfold rP rRs at hr ho
  refine gW hE ?_;conv=>whnf
  refine aF fun h=>?_
  refine gW hE ?_;conv=>whnf
  refine aK (o:=rCount s) (fun h1=>?_) (fun ⟨k,s1⟩ h1=>?_)
  .simp only [h1] at hr ho
   have hr:Res.pan (aW 10)=r:=hr
   have ho:rdU=O:=ho
   subst hr ho
   refine .effp [] [0] _ _ rfl (gQ h1) ?_
   exact ⟨[],[0],⟨rfl,rfl⟩,rfl,rfl⟩
  simp only [h1] at hr ho
  refine .eff [] [0] _ _ rfl (jO h1) ?_
  have b1:=bQ h1
  refine gW hE ?_;conv=>whnf
  refine To.part [0,2,99,100] [0,1] rfl rfl rfl ?_
  refine To.begin 1 7 70 rfl rfl ?_
  exact VA c now nxt hi ps k (by omega) r O k.toNat 0 s1 [] (by omega) (by simp;omega) hr ho
 | succ m ih=>
  intro i s ps hi2 hl hr ho
  unfold rP at hr ho
  have hlen:(pnv ps).length=ps.length:=by simp
  refine gW hE ?_;conv=>whnf
  refine aT fun h=>?_
  refine bW hE 3 ?_;conv=>whnf
  refine To.permAt hE [0,1,2,4,6,11] [3,5,7,8,9,10,12] (by rfl) ?_;conv=>whnf
  refine aL ?_;conv=>whnf
  refine aK (o:=rGan s) (fun h1=>?_) (fun ⟨g,s1⟩ h1=>?_)
  .simp only [h1] at hr ho
   have hr:Res.pan (aW 10)=r:=hr
   have ho:rdU=O:=ho
   subst hr ho
   refine .effp [] [0] _ _ rfl (qN h1) ?_
   exact ⟨[],[0],⟨rfl,rfl⟩,rfl,rfl⟩
  simp only [h1] at hr ho
  refine .eff [] [0] _ _ rfl (uW h1) ?_;conv=>whnf
  refine aL ?_;conv=>whnf
  refine aK (o:=bB s1) (fun h2=>?_) (fun ⟨q,s2⟩ h2=>?_)
  .simp only [h2] at hr ho
   have hr:Res.pan (aW 10)=r:=hr
   have ho:rdU=O:=ho
   subst hr ho
   refine .effp [] [0] _ _ rfl (bJ h2) ?_
   exact ⟨[],[0],⟨rfl,rfl⟩,rfl,rfl⟩
  simp only [h2] at hr ho
  refine .eff [] [0] _ _ rfl (bE h2) ?_;conv=>whnf
  refine aL ?_;conv=>whnf
  refine aK (o:=bB s2) (fun h3=>?_) (fun ⟨a,s3⟩ h3=>?_)
  .simp only [h3] at hr ho
   have hr:Res.pan (aW 10)=r:=hr
   have ho:rdU=O:=ho
   subst hr ho
   refine .effp [] [0] _ _ rfl (bJ h3) ?_
   exact ⟨[],[0],⟨rfl,rfl⟩,rfl,rfl⟩
  simp only [h3] at hr ho
  refine .eff [] [0] _ _ rfl (bE h3) ?_;conv=>whnf
  refine aL ?_;conv=>whnf;conv=>whnf
  refine aL ?_;conv=>whnf;conv=>whnf
  refine aL ?_;conv=>whnf
  refine ⟨⟨by simp only [maxLen];simp;omega,by simp;omega⟩,?_⟩;conv=>whnf
  refine aL ?_;conv=>whnf;conv=>whnf
  refine aL ?_;conv=>whnf
  refine gW hE ?_;conv=>whnf
  refine aJ ?_
  refine gW hE ?_;conv=>whnf
  refine To.part [0,2,82,83] [0,1,2] rfl rfl rfl ?_
  have b1:=wO h1
  have b2:=rNum_b h2
  have b3:=rNum_b h3
  have next:=ih (i+1) s3 (ps++[⟨g,q,a⟩]) (by omega) (by simp;omega) hr ho
  have e:pnv (ps++[⟨g,q,a⟩])=pnv ps++[Pn.av ⟨g,q,a⟩]:=by simp
  unfold reP at next
  rw [e] at next
  exact next
abbrev reH (c:Con) (now nxt:Int) (hi:List Nat) (s:List UInt8):List AObj:=[.cells tRd [.str s],.cells 31 (reC c now nxt (.slice 11 [] .nil) (.slice 14 [] .nil) (.slice 1 (fv hi) (.own 2 0))),.tail 0 1 90]
theorem VI (c:Con) (now nxt:Int) (n:Int) (hn:n<=9223372036854775807) (r:Res) (O:List AObj):∀ (m i:Nat) (s:List UInt8) (hi:List Nat),(i+m:Int)=n->hi.length+s.length<=1000000->sH stR (rH c now nxt m hi s)=r->sN (rH c now nxt m hi s)=O->
  To E fRd (.full 1 r O) (.head (stk fRd 0) [(0,.ref 0 0),(2,.ref 1 0),(50,.int .i64 n),(51,.int .i64 i)] (reH c now nxt hi s)):=by
 intro m
 induction m with
 | zero=>
  intro i s hi hi2 hl hr ho
  unfold rH rPs at hr ho
  refine gW hE ?_;conv=>whnf
  refine aF fun h=>?_
  refine gW hE ?_;conv=>whnf
  refine aK (o:=rCount s) (fun h1=>?_) (fun ⟨k,s1⟩ h1=>?_)
  .simp only [h1] at hr ho
   have hr:Res.pan (aW 10)=r:=hr
   have ho:rdU=O:=ho
   subst hr ho
   refine .effp [] [0] _ _ rfl (gQ h1) ?_
   exact ⟨[],[0],⟨rfl,rfl⟩,rfl,rfl⟩
  simp only [h1] at hr ho
  refine .eff [] [0] _ _ rfl (jO h1) ?_
  have b1:=bQ h1
  refine gW hE ?_;conv=>whnf
  refine To.part [0,2,82,83] [0,1] rfl rfl rfl ?_
  refine To.begin 1 6 67 rfl rfl ?_
  exact VC c now nxt hi k (by omega) r O k.toNat 0 s1 [] (by omega) (by simp;omega) hr ho
 | succ m ih=>
  intro i s hi hi2 hl hr ho
  unfold rH at hr ho
  have hlen:(fv hi).length=hi.length:=by simp
  have hg:=XD s
  unfold oQ at hg
  by_cases h8:s.length<8
  .rw [if_pos h8] at hr ho hg
   have hr:Res.ret (.tup [Sta.av ⟨c,now,nxt,[],[],hi⟩,.bool false])=r:=hr
   have ho:rdO s=O:=ho
   subst hr ho
   refine gW hE ?_;conv=>whnf
   refine aT fun h=>?_
   refine gW hE ?_;conv=>whnf
   refine .pure _ [] hg ?_
   refine gW hE ?_;conv=>whnf
   refine Aa (fun _=>?_) (fun h=>absurd h (by decide))
   refine To.loose ?_
   refine gW hE ?_;conv=>whnf
   refine ⟨[],[0],⟨rfl,rfl⟩,?_⟩
   exact ⟨rfl,rfl⟩
  .rw [if_neg h8] at hr ho hg
   have next:=ih (i+1) (s.drop 8) (hi++[leN (s.take 8)]) (by omega) (by simp;omega) hr ho
   have e:fv (hi++[leN (s.take 8)])=fv hi++[.int .u64 ((leN (s.take 8):Nat):Int)]:=by simp
   unfold reH at next
   rw [e] at next
   refine gW hE ?_;conv=>whnf
   refine aT fun h=>?_
   refine gW hE ?_;conv=>whnf
   refine .pure _ [] hg ?_
   refine gW hE ?_;conv=>whnf
   refine Aa (fun h=>absurd h (by decide)) (fun _=>?_)
   refine gW hE ?_;conv=>whnf
   refine ⟨8,rfl,?_⟩
   refine gW hE ?_;conv=>whnf
   refine ⟨by omega,?_⟩
   refine gW hE ?_;conv=>whnf
   refine ⟨⟨by simp only [maxLen];simp;omega,by simp;omega⟩,?_⟩
   refine gW hE ?_;conv=>whnf
   refine aJ ?_
   refine gW hE ?_;conv=>whnf
   refine To.part [0,2,50,51] [0,1,2] rfl rfl rfl ?_
   exact next
theorem DY (s:List UInt8) (hs:s.length<=1000000) (r:Res) (O:List AObj) (hr:sH stR (rSt s)=r) (ho:sN (rSt s)=O):aA Tryz.prog 20 [.ref 0 0] (rdO s) r O:=by
 unfold rSt at hr ho
 refine cT (E:=E) (fn:=Tryz.f20) (g:=.full 1 _ _) fun _=>?_
 refine gW hE ?_;conv=>whnf
 refine aK (o:=rCount s) (fun h1=>?_) (fun ⟨n,s1⟩ h1=>?_)
 .simp only [h1] at hr ho
  have hr:Res.pan (aW 10)=r:=hr
  have ho:rdU=O:=ho
  subst hr ho
  refine .effp [] [0] _ _ rfl (gQ h1) ?_
  exact ⟨[],[0],⟨rfl,rfl⟩,rfl,rfl⟩
 simp only [h1] at hr ho
 refine .eff [] [0] _ _ rfl (jO h1) ?_
 have b1:=bQ h1
 have hd:=C8.decode_ok (s1.take n.toNat) (by simp;omega)
 unfold C8.decX C8.decE at hd
 have hn0:n=((n.toNat:Nat):Int):=by omega
 refine aK (o:=C8.dec (s1.take n.toNat)) (fun h2=>?_) (fun x h2=>?_)
 .simp only [h2] at hr ho hd
  have hd:aA Tryz.prog 55 [.str (s1.take n.toNat)] [] (.ret (.tup [Cmd.zero.av,ii 10])) []:=hd
  have hr:Res.ret (.tup [Sta.av Sta.nil,.bool false])=r:=hr
  have ho:rdO s1=O:=ho
  subst hr ho
  refine gW hE ?_;conv=>whnf
  refine ⟨n.toNat,hn0,?_⟩
  refine gW hE ?_;conv=>whnf
  refine ⟨by omega,?_⟩
  refine gW hE ?_;conv=>whnf
  refine .pure _ [] hd ?_
  refine gW hE ?_;conv=>whnf
  refine Aa (fun _=>?_) (fun h=>absurd h (by decide))
  refine gW hE ?_;conv=>whnf
  refine Aa (fun _=>?_) (fun h=>absurd h (by decide))
  refine To.loose ?_
  refine gW hE ?_;conv=>whnf
  refine ⟨[],[0],⟨rfl,rfl⟩,?_⟩
  exact ⟨rfl,rfl⟩
 .simp only [h2] at hr ho hd
  have hd:aA Tryz.prog 55 [.str (s1.take n.toNat)] [] (.ret (.tup [x.av,ii 0])) []:=hd
  by_cases hk:x.k=1
  .rw [if_pos hk] at hr ho
   unfold rB at hr ho
   refine gW hE ?_;conv=>whnf
   refine ⟨n.toNat,hn0,?_⟩
   refine gW hE ?_;conv=>whnf
   refine ⟨by omega,?_⟩
   refine gW hE ?_;conv=>whnf
   refine .pure _ [] hd ?_
   refine gW hE ?_;conv=>whnf
   refine Aa (fun h=>absurd h (by decide)) (fun _=>?_)
   refine gW hE ?_;conv=>whnf
   refine Aa (fun h=>absurd h (by simp [hk])) (fun _=>?_)
   refine gW hE ?_;conv=>whnf
   refine ⟨n.toNat,hn0,?_⟩
   refine gW hE ?_;conv=>whnf
   refine ⟨by omega,?_⟩
   refine bW hE 13 ?_;conv=>whnf
   refine To.permAt hE [0,1,2,4,6,8,10] [3,5,7,9,11] (by rfl) ?_;conv=>whnf
   refine aL ?_;conv=>whnf
   refine aK (o:=bB (s1.drop n.toNat)) (fun h3=>?_) (fun ⟨now,s2⟩ h3=>?_)
   .simp only [h3] at hr ho
    have hr:Res.pan (aW 10)=r:=hr
    have ho:rdU=O:=ho
    subst hr ho
    refine .effp [] [0] _ _ rfl (bJ h3) ?_
    exact ⟨[],[0],⟨rfl,rfl⟩,rfl,rfl⟩
   simp only [h3] at hr ho
   refine .eff [] [0] _ _ rfl (bE h3) ?_
   have b3:=rNum_b h3;conv=>whnf
   refine aL ?_;conv=>whnf
   refine aK (o:=bB s2) (fun h4=>?_) (fun ⟨nxt,s3⟩ h4=>?_)
   .simp only [h4] at hr ho
    have hr:Res.pan (aW 10)=r:=hr
    have ho:rdU=O:=ho
    subst hr ho
    refine .effp [] [0] _ _ rfl (bJ h4) ?_
    exact ⟨[],[0],⟨rfl,rfl⟩,rfl,rfl⟩
   simp only [h4] at hr ho
   refine .eff [] [0] _ _ rfl (bE h4) ?_
   have b4:=rNum_b h4;conv=>whnf
   refine aL ?_;conv=>whnf;conv=>whnf
   refine aL ?_;conv=>whnf;conv=>whnf
   refine aL ?_;conv=>whnf;conv=>whnf
   refine aL ?_;conv=>whnf
   refine gW hE ?_;conv=>whnf
   refine aK (o:=rCount s3) (fun h5=>?_) (fun ⟨k,s4⟩ h5=>?_)
   .simp only [h5] at hr ho
    have hr:Res.pan (aW 10)=r:=hr
    have ho:rdU=O:=ho
    subst hr ho
    refine .effp [] [0] _ _ rfl (gQ h5) ?_
    exact ⟨[],[0],⟨rfl,rfl⟩,rfl,rfl⟩
   simp only [h5] at hr ho
   refine .eff [] [0] _ _ rfl (jO h5) ?_
   have b5:=bQ h5
   have b6:(s1.drop n.toNat).length<=s1.length:=by simp
   refine gW hE ?_;conv=>whnf
   refine To.part [0,2,50,51] [0,1] rfl rfl rfl ?_
   refine To.begin 1 8 90 rfl rfl ?_
   exact VI x.c now nxt k (by omega) r O k.toNat 0 s4 [] (by omega) (by simp;omega) hr ho
  .rw [if_neg hk] at hr ho
   have hr:Res.ret (.tup [Sta.av Sta.nil,.bool false])=r:=hr
   have ho:rdO s1=O:=ho
   subst hr ho
   refine gW hE ?_;conv=>whnf
   refine ⟨n.toNat,hn0,?_⟩
   refine gW hE ?_;conv=>whnf
   refine ⟨by omega,?_⟩
   refine gW hE ?_;conv=>whnf
   refine .pure _ [] hd ?_
   refine gW hE ?_;conv=>whnf
   refine Aa (fun h=>absurd h (by decide)) (fun _=>?_)
   refine gW hE ?_;conv=>whnf
   refine Aa (fun _=>?_) (fun h=>absurd h (by simp [hk]))
   refine To.loose ?_
   refine gW hE ?_;conv=>whnf
   refine ⟨[],[0],⟨rfl,rfl⟩,?_⟩
   exact ⟨rfl,rfl⟩
theorem VP {s s':List UInt8} (hs:s.length<=1000000) {x:Sta} {b:Bool} (h:rSt s=some ((x,b),s')):aA Tryz.prog 20 [.ref 0 0] (rdO s) (.ret (.tup [x.av,.bool b])) (rdO s'):=DY s hs _ _ (by rw [h];rfl) (by rw [h];rfl)
theorem PQ {s:List UInt8} (hs:s.length<=1000000) (h:rSt s=none):aA Tryz.prog 20 [.ref 0 0] (rdO s) (.pan (aW 10)) rdU:=DY s hs _ _ (by rw [h];rfl) (by rw [h];rfl)
open C8 (bB rCount rGan rdO rdU aW aK rNum_b bQ tRd)
set_option maxRecDepth 10000
abbrev zSt:List AVal:=[.slice 11 [] .nil,.slice 6 [] .nil,ii 0,ii 0,ii 0,ii 0,.slice 11 [] .nil,.slice 14 [] .nil,.slice 1 [] .nil]
abbrev deO (s:List UInt8):List AObj:=[.cells 9 [.str s],.cells 31 zSt,.cells 4 [.bool false]]
abbrev deX (s:List UInt8) (x:Sta) (b:Bool):List AObj:=[.cells 9 [.str s],.cells 31 x.cs,.cells 4 [.bool b]]
abbrev deU:List AObj:=pF (fun _=>.undef) (deO [])
theorem aBd {s s':List UInt8} (hs:s.length<=1000000) {x:Sta} {b:Bool} (h:rSt s=some ((x,b),s')):aA Tryz.prog 19 [.ref 0 0,.ref 1 0,.ref 2 0] (deO s) (.ret (.tup [])) (deX s x b):=by
 refine cT (E:=E) (fn:=Tryz.f19) (g:=.full 3 _ _) fun _=>?_
 refine gW hE ?_;conv=>whnf
 refine .eff [] [3] _ _ rfl (VP hs h) ?_
 refine gW hE ?_;conv=>whnf
 exact ⟨[],[0,1,2],⟨rfl,rfl⟩,rfl,rfl⟩
theorem YI {s:List UInt8} (hs:s.length<=1000000) (h:rSt s=none):aA Tryz.prog 19 [.ref 0 0,.ref 1 0,.ref 2 0] (deO s) (.pan (aW 10)) deU:=by
 refine aA.blur (obs':=deO s) ?_
 refine cT (E:=E) (fn:=Tryz.f19) (g:=.full 3 _ _) fun _=>?_
 refine gW hE ?_;conv=>whnf
 refine .effp [] [3] _ _ rfl (PQ hs h) ?_
 exact ⟨[],[0,1,2],⟨rfl,rfl⟩,rfl,rfl⟩
abbrev dV:AVal:=.func (.func 19) [] [.ref 0 0,.ref 1 0,.ref 2 0]
theorem U2 {s s':List UInt8} (hs:s.length<=1000000) {x:Sta} {b:Bool} (h:rSt s=some ((x,b),s')):aA Tryz.prog 18 [dV] (deO s) (.ret (ii 0)) (deX s x b):=by
 refine cT (E:=E) (fn:=Tryz.f18) (g:=.full 3 _ _) fun _=>?_
 refine gW hE ?_;conv=>whnf
 refine To.defer (f:=53) (args:=[.ref 3 0]) _ rfl rfl ?_
 refine gW C8.hEt ?_;conv=>whnf
 refine .eff [] [0,1,2] _ _ rfl (aBd hs h) ?_
 refine gW C8.hEt ?_;conv=>whnf
 refine To.leave (f:=53) (args:=[.ref 3 0]) [] rfl [] [3] rfl (C8.catch_ret 0) ?_
 refine To.left hE rfl rfl ?_
 refine ⟨[],[0,1,2],⟨rfl,rfl⟩,?_⟩
 exact ⟨rfl,rfl⟩
theorem OJ {s:List UInt8} (hs:s.length<=1000000) (h:rSt s=none):aA Tryz.prog 18 [dV] (deO s) (.ret (ii 10)) deU:=by
 refine cT (E:=E) (fn:=Tryz.f18) (g:=.full 3 _ _) fun _=>?_
 refine gW hE ?_;conv=>whnf
 refine To.defer (f:=53) (args:=[.ref 3 0]) _ rfl rfl ?_
 refine gW C8.hEt ?_;conv=>whnf
 refine .effp [] [0,1,2] _ _ rfl (YI hs h) ?_;conv=>whnf
 refine To.leave (f:=53) (args:=[.ref 3 0]) [] rfl [] [3] rfl (C8.catch_pan 0 10) ?_
 refine To.left hE rfl rfl ?_
 refine ⟨[],[0,1,2],⟨rfl,rfl⟩,?_⟩
 exact ⟨rfl,rfl⟩
theorem P5:∀ (m:Nat) (hs:List Int) (s:List UInt8) (hs':List Int) (s':List UInt8),jW m hs s=some (hs',s')->hs'.length+s'.length<=hs.length+s.length
 | 0,hs,s,hs',s',h=>by cases h;exact Bc _
 | m+1,hs,s,hs',s',h=>by
  unfold jW at h
  split at h
  .cases h
  .rename_i h1
   have b:=rNum_b h1
   have:=P5 m _ _ _ _ h
   simp at this
   omega
theorem aBz (c:Con) (now nxt:Int) (hi:List Nat) (ps:List Pn) (N:Nat):∀ (m:Nat) (rs:List Rn) (s:List UInt8) (x:Sta) (b:Bool) (s':List UInt8),rR c now nxt hi ps m rs s=some ((x,b),s')->rs.length+s.length<=N->(∀ y∈rs,y.hs.length<=N)->x.c=c/\x.run.length<=N/\∀ y∈x.run,y.hs.length<=N
 | 0,rs,s,x,b,s',h,hl,hy=>by cases h;exact ⟨rfl,by show rs.length<=N;omega,hy⟩
 | m+1,rs,s,x,b,s',h,hl,hy=>by
  unfold rR at h
  split at h
  .cases h
  .rename_i h1
   split at h
   .cases h
   .rename_i h2
    split at h
    .cases h
    .rename_i h3
     split at h
     .cases h
     .rename_i h4
      split at h
      .cases h
      .rename_i h5
       have b1:=wO h1
       have b2:=rNum_b h2
       have b3:=rNum_b h3
       have b4:=rNum_b h4
       have b5:=rNum_b h5
       split at h
       .cases h;exact ⟨rfl,by show rs.length<=N;omega,hy⟩
       .split at h
        .cases h
        .rename_i hs' s6 h6
         have b6:=P5 _ _ _ _ _ h6
         simp at b6
         refine aBz c now nxt hi ps N m _ _ x b s' h (by simp;omega) fun y hm=>?_
         rcases Ba.1 hm with hm | hm
         .exact hy y hm
         .rw [Df] at hm
          subst hm
          show hs'.length<=N
          omega
theorem aBA (c:Con) (now nxt:Int) (hi:List Nat) (N:Nat):∀ (m:Nat) (ps:List Pn) (s:List UInt8) (x:Sta) (b:Bool) (s':List UInt8),rP c now nxt hi m ps s=some ((x,b),s')->s.length<=N->x.c=c/\x.run.length<=N/\∀ y∈x.run,y.hs.length<=N
 | 0,ps,s,x,b,s',h,hl=>by
  unfold rP rRs at h
  split at h
  .cases h
  .rename_i h1
   have b1:=bQ h1
   exact aBz c now nxt hi ps N _ _ _ x b s' h (by simp;omega) fun y hy=>by cases hy
 | m+1,ps,s,x,b,s',h,hl=>by
  unfold rP at h
  split at h
  .cases h
  .rename_i h1
   split at h
   .cases h
   .rename_i h2
    split at h
    .cases h
    .rename_i h3
     have b1:=wO h1
     have b2:=rNum_b h2
     have b3:=rNum_b h3
     exact aBA c now nxt hi N m _ _ x b s' h (by omega)
theorem aBB (c:Con) (now nxt:Int) (N:Nat):∀ (m:Nat) (hi:List Nat) (s:List UInt8) (x:Sta) (b:Bool) (s':List UInt8),rH c now nxt m hi s=some ((x,b),s')->s.length<=N->x.c=c/\x.run.length<=N/\∀ y∈x.run,y.hs.length<=N
 | 0,hi,s,x,b,s',h,hl=>by
  unfold rH rPs at h
  split at h
  .cases h
  .rename_i h1
   have b1:=bQ h1
   exact aBA c now nxt hi N _ _ _ x b s' h (by omega)
 | m+1,hi,s,x,b,s',h,hl=>by
  unfold rH at h
  split at h
  .cases h;exact ⟨rfl,Bm _,fun y hy=>by cases hy⟩
  .exact aBB c now nxt N m _ _ x b s' h (by simp;omega)
theorem Y5 {s s':List UInt8} {x:Sta} {b:Bool} (h:rSt s=some ((x,b),s')) (hl:s.length<=1000000):x.c.sm/\Sm x.run:=by
 unfold rSt at h
 split at h
 .cases h
 .rename_i n s1 h1
  have b1:=bQ h1
  split at h
  .cases h
   exact ⟨⟨Bm _,Bm _⟩,Bm _,fun y hy=>by cases hy⟩
  .rename_i y h2
   have hch:C8.chk y=0:=by
    unfold C8.dec at h2
    split at h2
    .split at h2
     .rename_i hh
      cases h2
      exact hh.2
     .cases h2
    .cases h2
   have T:=C8.chk_told hch
   have t1:=T.ln
   have t2:=T.lh
   simp only [Cv] at t1 t2
   split at h
   .unfold rB at h
    split at h
    .cases h
    .rename_i h3
     split at h
     .cases h
     .rename_i h4
      split at h
      .cases h
      .rename_i h5
       have b3:=rNum_b h3
       have b4:=rNum_b h4
       have b5:=bQ h5
       simp only [Dy] at b3
       obtain ⟨e1,e2,e3⟩:=aBB y.c _ _ 1000000 _ _ _ x b s' h (by omega)
       rw [e1]
       exact ⟨⟨by omega,by omega⟩,by omega,fun z hz=>by have:=e3 z hz;omega⟩
   .cases h
    exact ⟨⟨Bm _,Bm _⟩,Bm _,fun y hy=>by cases hy⟩
def rO (s:List UInt8):Option Sta:=match rSt s with
 | some ((x,b),_)=>if b=true/\gA x=true then some x else none
 | none=>none
def yQ (s:List UInt8):Sta:=(rO s).getD Sta.nil
def zV (s:List UInt8):Int:=match rO s with | some _=>0 | none=>10
theorem BN (s:List UInt8) (hs:s.length<=1000000):aA Tryz.prog 8 [.str s] [] (.ret (.tup [(yQ s).av,ii (zV s)])) []:=by
 unfold yQ zV rO
 refine cT (E:=E) (fn:=Tryz.f8) (g:=.pure _) fun _=>?_
 refine gW hE ?_;conv=>whnf
 refine aK (o:=rSt s) (fun h=>?_) (fun ⟨⟨x,b⟩,s'⟩ h=>?_)
 .simp only [h]
  refine .eff [] [0,2,3] _ _ rfl (OJ hs h) ?_
  repeat' first | (refine gN hE ?_;conv=>whnf) | exact rfl | refine aY ?_ | refine aN ?_ | refine aT fun h=>?_ | refine aF fun h=>?_ | refine ⟨fun h=>?_,fun h=>?_⟩ | refine aJ ?_ | refine ⟨_,rfl,?_⟩ | refine aD ?_ | fail
 .obtain ⟨hc,hr⟩:=Y5 h hs
  have hk:=sC x hc hr
  simp only [h]
  refine .eff [] [0,2,3] _ _ rfl (U2 hs h) ?_
  cases b with
  | false=>
   rw [if_neg (fun q=>absurd q.1 (by decide))]
   repeat' first | (refine gN hE ?_;conv=>whnf) | exact rfl | refine aY ?_ | refine aN ?_ | refine aT fun h=>?_ | refine aF fun h=>?_ | refine ⟨fun h=>?_,fun h=>?_⟩ | refine aJ ?_ | refine ⟨_,rfl,?_⟩ | refine aD ?_ | fail
  | true=>
   cases hq:gA x with
   | false=>
    rw [hq] at hk
    have hk:aA Tryz.prog 13 [x.av] [] (.ret (ii 1)) []:=hk
    rw [if_neg (fun q=>absurd q.2 (by decide))]
    repeat' first | (refine gN hE ?_;conv=>whnf) | refine .pure _ [] hk ?_ | exact rfl | refine aY ?_ | refine aN ?_ | refine aT fun h=>?_ | refine aF fun h=>?_ | refine ⟨fun h=>?_,fun h=>?_⟩ | refine aJ ?_ | refine ⟨_,rfl,?_⟩ | refine aD ?_ | fail
   | true=>
    rw [hq] at hk
    have hk:aA Tryz.prog 13 [x.av] [] (.ret (ii 0)) []:=hk
    rw [if_pos ⟨rfl,rfl⟩]
    repeat' first | (refine gN hE ?_;conv=>whnf) | refine .pure _ [] hk ?_ | exact rfl | refine aY ?_ | refine aN ?_ | refine aT fun h=>?_ | refine aF fun h=>?_ | refine ⟨fun h=>?_,fun h=>?_⟩ | refine aJ ?_ | refine ⟨_,rfl,?_⟩ | refine aD ?_ | fail
open C8 (leN bB rCount rGan aZ kV eL pl putN aR nM dB)
theorem kQ {v:V3} (h:aV v=true):okI v.l=true:=by
 unfold aV at h
 simp only [Ad,decide_eq_true_eq] at h
 simp only [V3.l,okI,hO,Ad,decide_eq_true_eq,and_true]
 omega
theorem NZ {v:V3} (h:zB v=true):okI v.l=true:=by
 unfold zB at h
 simp at h
 simp only [V3.l,okI,hO,Ad,decide_eq_true_eq,and_true]
 omega
theorem QZ {bl:Bool} {i:Nat} {x:Nod} (hi:i<=100) (h:kZ bl i x=true):x.ok=true:=by
 unfold kZ at h
 by_cases hb:mH i x
 .rw [if_pos hb] at h;cases h
 .rw [if_neg hb] at h
  unfold mH at hb
  have h3:okI x.n.l=true/\okI x.b.l=true/\okI x.l.l=true:=by
   cases bl with
   | true=>
    simp only [if_true,Ad] at h
    exact ⟨kQ h.1,kQ h.2.1,kQ h.2.2.1⟩
   | false=>
    rw [if_neg (by decide)] at h
    simp only [Ad] at h
    exact ⟨NZ h.1,NZ h.2.1,NZ h.2.2⟩
  unfold Nod.ok
  rw [h3.1,h3.2.1,h3.2.2]
  simp only [okI,hO,Ad,decide_eq_true_eq,and_true]
  omega
theorem AK (ns:List Nod):∀ (l:List Nod) (i:Nat),i+l.length<=100->jF ns i l=true->pB l=true
 | [],_,_,_=>rfl
 | x::r,i,hi,h=>by
  unfold jF at h
  simp at hi
  by_cases hx:kZ (rlB ns i) i x=true
  .rw [if_pos hx] at h
   unfold pB
   rw [QZ (by omega) hx,AK ns r (i+1) (by omega) h]
   rfl
  .rw [if_neg hx] at h;cases h
theorem RX {x:Hos} (h:hP x=true):x.ok=true:=by
 unfold hP at h
 by_cases hb:tL x
 .rw [if_pos hb] at h;cases h
 .rw [if_neg hb] at h
  unfold tL at hb
  unfold Hos.ok
  rw [kQ h]
  simp only [okI,hO,Ad,decide_eq_true_eq,and_true]
  omega
theorem E4:∀ (l:List Hos),l.all hP=true->jY l=true
 | [],_=>rfl
 | x::r,h=>by
  rw [Dq,Ad] at h
  unfold jY
  rw [RX h.1,E4 r h.2]
  rfl
theorem BE {c:Con} (h:eV c=0):c.tok=true/\c.ns.length<=12/\c.hs.length<=24:=by
 unfold eV at h
 by_cases h1:sB c
 .rw [if_pos h1] at h
  by_cases h2:jF c.ns 0 c.ns=true
  .rw [if_pos h2] at h
   by_cases h3:c.hs.all hP=true
   .unfold sB at h1
    refine ⟨?_,h1.1.2,h1.2.1.2⟩
    unfold Con.tok
    rw [AK c.ns c.ns 0 (by omega) h2,E4 _ h3]
    simp only [Bool.and_self,Bt,okI,hO,Ad,decide_eq_true_eq,and_true]
    omega
   .rw [if_neg h3] at h;cases h
  .rw [if_neg h2] at h;cases h
 .rw [if_neg h1] at h;cases h
theorem A9 {c:Con} (h:fV c=true):c.tok=true/\c.ns.length<=12/\c.hs.length<=24:=by
 unfold fV at h
 simp only [Ad,decide_eq_true_eq] at h
 obtain ⟨ns,hs,half,age⟩:=c
 obtain ⟨h1,h2,h3,h4⟩:=h
 simp only at h1 h2 h3 h4
 subst h1 h2 h3 h4
 exact ⟨rfl,by simp,by simp⟩
theorem JC {c:Con} (h:c.tok=true) (hn:c.ns.length<=12) (hh:c.hs.length<=24):C8.chk ⟨1,c,Gan.zero,0⟩=0:=by
 have e1:((nav c.ns).length:Int)<=12:=by simp;omega
 have e2:((hav c.hs).length:Int)<=24:=by simp;omega
 have e3:C8.chkL ⟨1,c,Gan.zero,0⟩=0:=by
  unfold C8.chkL
  rw [decide_eq_true e1,decide_eq_true e2]
  rfl
 unfold C8.chk C8.chk2 C8.chk3 C8.chk4 C8.chkC C8.chkG C8.chkN
 rw [e3,h]
 rfl
theorem C0 {s:Sta} (h:gA s=true):C8.chk s.cmd=0:=by
 unfold gA FB at h
 simp only [Ad,Dg,decide_eq_true_eq] at h
 obtain ⟨⟨h1,_⟩,_⟩:=h
 rcases h1 with h1 | h1
 .obtain ⟨a,b,c⟩:=A9 h1
  exact JC a b c
 .obtain ⟨a,b,c⟩:=BE h1
  exact JC a b c
theorem HQ {c:Con} {t:Int} (h:bS c.ns t=true):0<=t/\t<(c.ns.length:Int):=by
 unfold bS at h
 by_cases h1:0<=t
 .rw [if_pos (decide_eq_true h1)] at h
  by_cases h2:t<(c.ns.length:Int)
  .exact ⟨h1,h2⟩
  .rw [if_neg (by rw [decide_eq_false h2];decide)] at h;cases h
 .rw [if_neg (by rw [decide_eq_false h1];decide)] at h;cases h
theorem FF {c:Con} {g:Gan} (hn:c.ns.length<=12) (h:hY c g=0):g.ok=true:=by
 obtain ⟨h1,h2⟩:=oT.1 h
 have h3:=HQ h2
 unfold zZ at h1
 simp only [Ad,decide_eq_true_eq] at h1
 have h4:=kQ h1.2.1
 unfold Gan.ok
 rw [h4]
 simp only [okI,hO,Ad,decide_eq_true_eq,and_true]
 omega
theorem C1 {s:Sta} (h:gA s=true):(s.c.tok=true/\s.c.ns.length<=12/\s.c.hs.length<=24)/\(∀ x∈s.c.hs,0<=x.f/\x.f<=100)/\(0<=s.now/\s.now<=1099511627776)/\(1<=s.nxt/\s.nxt<=1099511627776)/\s.hist.length=s.c.ns.length/\s.pend.length+s.run.length<=32:=by
 unfold gA FB at h
 simp only [Ad,Dg,decide_eq_true_eq] at h
 obtain ⟨⟨h1,h2,h3,h4,h5⟩,_⟩:=h
 refine ⟨?_,?_,h2,h3,h4,h5⟩
 .rcases h1 with h1 | h1
  .exact A9 h1
  .exact BE h1
 .intro x hx
  rcases h1 with h1 | h1
  .unfold fV at h1
   simp only [Ad,decide_eq_true_eq] at h1
   rw [h1.2.1] at hx
   cases hx
  .unfold eV at h1
   by_cases q1:sB s.c
   .rw [if_pos q1] at h1
    by_cases q2:jF s.c.ns 0 s.c.ns=true
    .rw [if_pos q2] at h1
     by_cases q3:s.c.hs.all hP=true
     .have:=Cl.1 q3 x hx
      unfold hP at this
      by_cases hb:tL x
      .rw [if_pos hb] at this;cases this
      .unfold tL at hb
       omega
     .rw [if_neg q3] at h1;cases h1
    .rw [if_neg q2] at h1;cases h1
   .rw [if_neg q1] at h1;cases h1
theorem TT {s:Sta} (h:gA s=true):(fZ s).length<=10000:=by
 obtain ⟨⟨h1,h2,h3⟩,_⟩:=C1 h
 have e:fZ s=pl s.cmd.il:=if_pos (C0 h)
 rw [e]
 have key:∀ (l:List Int),okI l=true->(pl l).length<=10*l.length:=fun l hl=>C8.pl_len (fD hl)
 have kn:∀ (l:List Nod),pB l=true->(pl (C8.nodL l)).length<=110*l.length:=by
  intro l
  induction l with
  | nil=>intro _;simp [C8.nodL,pl]
  | cons x r ih=>
   intro hl
   unfold pB at hl
   rw [Ad] at hl
   have e:C8.nodL (x::r)=x.il++C8.nodL r:=rfl
   rw [e,C8.pl_append,Ag]
   have:=C8.il_len x hl.1
   have:=ih hl.2
   simp only [Ao]
   omega
 have kh:∀ (l:List Hos),jY l=true->(pl (C8.hosL l)).length<=60*l.length:=by
  intro l
  induction l with
  | nil=>intro _;simp [C8.hosL,pl]
  | cons x r ih=>
   intro hl
   unfold jY at hl
   rw [Ad] at hl
   have e:C8.hosL (x::r)=x.il++C8.hosL r:=rfl
   rw [e,C8.pl_append,Ag]
   have:=C8.ih_len x hl.1
   have:=ih hl.2
   simp only [Ao]
   omega
 unfold Con.tok at h1
 simp only [Ad] at h1
 have a1:=kn _ h1.1.1
 have a2:=kh _ h1.1.2
 have m1:=key [(1:Int)] rfl
 have m2:(pl [((nav s.c.ns).length:Int)]).length<=10:=by
  have:=C8.pl_len (l:=[((nav s.c.ns).length:Int)]) (fun n hn=>by simp at hn;omega)
  simpa using this
 have m3:(pl [((hav s.c.hs).length:Int)]).length<=10:=by
  have:=C8.pl_len (l:=[((hav s.c.hs).length:Int)]) (fun n hn=>by simp at hn;omega)
  simpa using this
 have m4:=key [s.c.half,s.c.age] h1.2
 have e2:s.cmd.il=[(1:Int)]++([((nav s.c.ns).length:Int)]++(C8.nodL s.c.ns++([((hav s.c.hs).length:Int)]++(C8.hosL s.c.hs++[s.c.half,s.c.age])))):=rfl
 rw [e2]
 simp only [C8.pl_append,Ag,Ao,Bg] at *
 omega
theorem IM {s:Sta} (h:gA s=true):Wr s:=by
 obtain ⟨⟨h1,h2,h3⟩,hf,h4,h5,h6,h7⟩:=C1 h
 have hq:=h
 unfold gA at hq
 simp only [Ad,Cl] at hq
 refine ⟨TT h,⟨h4.1,h4.2,by omega,h5.2⟩,by omega,by omega,by omega,fun x hx=>?_,fun x hx=>?_⟩
 .have hx1:=hq.2.2.1.1 x hx
  unfold pnB at hx1
  simp only [Ad,decide_eq_true_eq] at hx1
  refine ⟨FF h2 hx1.1,?_⟩
  have:=hx1.2.2
  simp only [okI,hO,Ad,decide_eq_true_eq,and_true]
  omega
 .have hx1:=hq.2.2.1.2 x hx
  have hc:=(K5 h hx).chk
  obtain ⟨k1,k2⟩:=K7 hc
  rw [xV] at k2
  unfold pnB rnB at hx1
  simp only [Ad,decide_eq_true_eq] at hx1
  obtain ⟨⟨a1,_,a2⟩,⟨b1,b2⟩,_,b3⟩:=hx1
  have hp:=jK a1
  have hp2:1<=x.g.pods/\x.g.pods<=16:=hp
  have hne:x.hs≠[]:=fun e=>by rw [e] at k1;simp at k1;omega
  have hfl:0<=x.fl/\x.fl<=100:=by
   cases hh:x.hs with
   | nil=>exact absurd hh hne
   | cons u r=>
    have hu:=k2 u (by rw [hh];exact Bl ..)
    rw [hh] at b3
    have b3:(bG s.c.hs u).f=x.fl:=b3
    have hlt:u.toNat<s.c.hs.length:=by omega
    have hm:bG s.c.hs u∈s.c.hs:=by
     unfold bG
     rw [Ac hlt]
     exact Bn hlt
    have:=hf _ hm
    omega
  have a2:(0<=x.seq/\x.seq<s.nxt)/\0<=x.at'/\x.at'<=s.now:=a2
  refine ⟨FF h2 a1,?_,?_,hne,by omega⟩
  .simp only [okI,hO,Ad,decide_eq_true_eq,and_true]
   omega
  .have key:∀ (l:List Int),(∀ u∈l,0<=u/\u<(s.c.hs.length:Int))->okI l=true:=by
    intro l
    induction l with
    | nil=>intro _;rfl
    | cons u r ih=>
     intro hl
     have hu:=hl u (Bl ..)
     unfold okI
     rw [ih fun v hv=>hl v (Co _ hv)]
     simp only [hO,Ad,decide_eq_true_eq,and_true]
     omega
   exact key x.hs fun u hu=>⟨(k2 u hu).1,(k2 u hu).2.1⟩
open C8 (leN leN_lt nS bB rCount rGan aZ kV eL pl putN aR nM dB rNum_b bQ)
theorem EZ (x:Nat):∀ (i:Nat),leN (xW x i)=x % 2 ^ (8*i)
 | 0=>by simp [xW,leN,Kh]
 | i+1=>by
  rw [sY,nS,eM,EZ x i]
  unfold xX
  rw [Fx,Nat.mod_mod,Fc,Fe,Nat.mod_mul,Dj (2 ^ (8*i)),show (2:Nat) ^ (8*1)=256 from rfl]
theorem KF {x:Nat} (h:x<18446744073709551616):leN (lH x)=x:=by
 unfold lH
 rw [EZ,Dx (by omega)]
theorem KE:∀ {a b:List UInt8},a.length=b.length->leN a=leN b->a=b
 | [],[],_,_=>rfl
 | [],_::_,h,_=>by simp at h
 | _::_,[],h,_=>by simp at h
 | x::r,y::s,h,e=>by
  simp only [leN] at e
  have hx:=x.toNat_lt
  have hy:=y.toNat_lt
  have e1:x.toNat=y.toNat:=by omega
  have e2:leN r=leN s:=by omega
  rw [UInt8.toNat_inj.1 e1,KE (by simpa using h) e2]
theorem XI {l:List UInt8} (h:l.length=8):lH (leN l)=l:=by
 have h1:=leN_lt l
 rw [h] at h1
 refine KE ?_ (KF (by omega))
 rw [h]
 exact eM _ 8
theorem wN (c:Con) (now nxt:Int):∀ (l acc:List Nat) (s:List UInt8),(∀ x∈l,x<18446744073709551616)->rH c now nxt l.length acc (lG l++s)=rPs c now nxt (acc++l) s
 | [],acc,s,_=>by rw [Ay];rfl
 | x::r,acc,s,h=>by
  have hl:(lH x).length=8:=eM x 8
  have e:lG (x::r)++s=lH x++(lG r++s):=by rw [<-Aj];rfl
  rw [e,Ao]
  unfold rH
  rw [if_neg (by rw [Ag];omega)]
  have e1:(lH x++(lG r++s)).take 8=lH x:=by rw [Dd (by omega),Cs (by omega)]
  have e2:(lH x++(lG r++s)).drop 8=lG r++s:=by rw [<-hl,Im]
  rw [e1,e2,KF (h x (Bl ..)),wN c now nxt r _ s fun y hy=>h y (Co _ hy),Aj]
  rfl
theorem QI (a b:Int) (s:List UInt8):pl [a,b]++s=putN a.toNat++(putN b.toNat++s):=by simp [pl]
theorem ok2 {a b:Int} (h:okI [a,b]=true):(0<=a/\a<=1099511627777)/\0<=b/\b<=1099511627777:=by
 have h1:=C8.okI_b h a (by simp)
 have h2:=C8.okI_b h b (by simp)
 omega
theorem P0 (c:Con) (now nxt:Int) (hi:List Nat):∀ (l acc:List Pn) (s:List UInt8),(∀ x∈l,x.g.ok=true/\okI [x.seq,x.at']=true)->rP c now nxt hi l.length acc (gJ l++s)=rRs c now nxt hi (acc++l) s
 | [],acc,s,_=>by rw [Ay];rfl
 | x::r,acc,s,h=>by
  obtain ⟨h1,h2⟩:=h x (Bl ..)
  obtain ⟨b1,b2⟩:=ok2 h2
  have e:gJ (x::r)++s=pl x.g.il++(putN x.seq.toNat++(putN x.at'.toNat++(gJ r++s))):=by
   rw [<-QI]
   show (pl x.g.il++pl [x.seq,x.at']++gJ r)++s=_
   simp only [Aj]
  rw [e,Ao]
  unfold rP
  rw [kV h1]
  dsimp only
  rw [aZ b1.1 b1.2]
  dsimp only
  rw [aZ b2.1 b2.2]
  dsimp only
  rw [P0 c now nxt hi r _ s fun y hy=>h y (Co _ hy),Aj]
  rfl
theorem qQ:∀ (l acc:List Int) (s:List UInt8),okI l=true->jW l.length acc (pl l++s)=some (acc++l,s)
 | [],acc,s,_=>by rw [Ay];rfl
 | x::r,acc,s,h=>by
  have b:=C8.okI_b h x (Bl ..)
  have e:pl (x::r)++s=putN x.toNat++(pl r++s):=by simp [pl]
  have h2:okI r=true:=by unfold okI at h;rw [Ad] at h;exact h.2
  rw [e,Ao]
  unfold jW
  rw [aZ b.1 (by omega)]
  dsimp only
  rw [qQ r _ s h2,Aj]
  rfl
theorem JX:∀ (l:List Int),l.length<=(pl l).length
 | []=>Bm _
 | x::r=>by
  have:=JX r
  have:=C8.putN_pos x.toNat
  simp only [pl,Ag,Ao]
  omega
theorem PY (c:Con) (now nxt:Int) (hi:List Nat) (ps:List Pn):∀ (l acc:List Rn),(∀ x∈l,(x.hs.length:Int)=x.g.pods/\x.g.ok=true/\okI [x.seq,x.at',x.st,x.fl]=true/\okI x.hs=true)->rR c now nxt hi ps l.length acc (eB l)=some ((⟨c,now,nxt,ps,acc++l,hi⟩,true),[])
 | [],acc,_=>by rw [Ay];rfl
 | x::r,acc,h=>by
  obtain ⟨h0,h1,h2,h3⟩:=h x (Bl ..)
  have b1:=C8.okI_b h2 x.seq (by simp)
  have b2:=C8.okI_b h2 x.at' (by simp)
  have b3:=C8.okI_b h2 x.st (by simp)
  have b4:=C8.okI_b h2 x.fl (by simp)
  have e:eB (x::r)=pl x.g.il++(putN x.seq.toNat++(putN x.at'.toNat++(putN x.st.toNat++(putN x.fl.toNat++(pl x.hs++eB r))))):=by
   show (pl x.g.il++pl [x.seq,x.at',x.st,x.fl]++pl x.hs)++eB r=_
   simp [pl]
  rw [e,Ao]
  unfold rR
  rw [kV h1]
  dsimp only
  rw [aZ b1.1 (by omega)]
  dsimp only
  rw [aZ b2.1 (by omega)]
  dsimp only
  rw [aZ b3.1 (by omega)]
  dsimp only
  rw [aZ b4.1 (by omega)]
  dsimp only
  have hg:=JX x.hs
  rw [if_neg (by rw [decide_eq_false (by rw [Ag];omega)];decide),show x.g.pods.toNat=x.hs.length from by omega,qQ _ _ _ h3]
  dsimp only
  rw [PY c now nxt hi ps r _ fun y hy=>h y (Co _ hy),Aj]
  rfl
theorem E7:∀ (l:List Nat),(lG l).length=8*l.length
 | []=>rfl
 | x::r=>by
  have:(lH x).length=8:=eM x 8
  unfold lG
  rw [Ag,E7 r,Ao]
  omega
theorem EC:∀ (l:List Pn),l.length<=(gJ l).length
 | []=>Bm _
 | x::r=>by
  have h1:=EC r
  have h2:=JX [x.seq,x.at']
  unfold gJ
  simp only [Ag,Ao,Bg] at *
  omega
theorem DP:∀ (l:List Rn),l.length<=(eB l).length
 | []=>Bm _
 | x::r=>by
  have h1:=DP r
  have h2:=JX [x.seq,x.at',x.st,x.fl]
  unfold eB
  simp only [Ag,Ao,Bg] at *
  omega
theorem VT {s:Sta} (h:gA s=true) (hH:∀ x∈s.hist,x<18446744073709551616):rSt (cN s)=some ((s,true),[]):=by
 have w:=IM h
 have hc:=C0 h
 obtain ⟨w1,⟨n1,n2,n3,n4⟩,w2,w3,w4,w5,w6⟩:=w
 have hd:C8.dec (fZ s)=some s.cmd:=by
  have e:fZ s=pl s.cmd.il:=if_pos hc
  unfold C8.dec
  rw [e,C8.rCmd_put (C8.chk_told hc)]
  exact if_pos ⟨rfl,hc⟩
 have l1:=E7 s.hist
 have l2:=EC s.pend
 have l3:=DP s.run
 have e:cN s=putN ((fZ s).length:Int).toNat++(fZ s++(putN s.now.toNat++(putN s.nxt.toNat++(putN (s.hist.length:Int).toNat++(lG s.hist++(putN (s.pend.length:Int).toNat++(gJ s.pend++(putN (s.run.length:Int).toNat++eB s.run)))))))):=by
  unfold cN
  simp [pl]
 rw [e]
 unfold rSt
 rw [eL (by omega) (by omega) _ (by rw [Ag];omega)]
 dsimp only
 rw [Br,Gz,Im,hd]
 dsimp only
 rw [if_pos (show s.cmd.k=1 from rfl)]
 unfold rB
 rw [aZ n1 (by omega)]
 dsimp only
 rw [aZ n3 (by omega)]
 dsimp only
 rw [eL (by omega) (by omega) _ (by rw [Ag];omega)]
 dsimp only
 rw [Br,wN _ _ _ _ _ _ hH]
 unfold rPs
 rw [eL (by omega) (by omega) _ (by rw [Ag];omega)]
 dsimp only
 rw [Br,P0 _ _ _ _ _ _ _ w5]
 unfold rRs
 rw [eL (by omega) (by omega) _ (by omega)]
 dsimp only
 rw [Br,PY _ _ _ _ _ _ _ fun x hx=>?_]
 .rfl
 .obtain ⟨k1,k2,k3,_,_⟩:=w6 x hx
  exact ⟨(K7 (K5 h hx).chk).1,k1,k2,k3⟩
theorem K2 {s:Sta} (h:gA s=true) (hH:∀ x∈s.hist,x<18446744073709551616):rO (cN s)=some s:=by
 unfold rO
 rw [VT h hH]
 exact if_pos ⟨rfl,h⟩
theorem sK (c:Con) (now nxt:Int) (x:Sta) (s':List UInt8):∀ (m:Nat) (acc:List Nat) (s:List UInt8),rH c now nxt m acc s=some ((x,true),s')->∃ l t,l.length=m/\(∀ y∈l,y<18446744073709551616)/\s=lG l++t/\rPs c now nxt (acc++l) t=some ((x,true),s')
 | 0,acc,s,h=>⟨[],s,rfl,(fun y hy=>by cases hy),rfl,by rw [Ay];exact h⟩
 | m+1,acc,s,h=>by
  unfold rH at h
  split at h
  .cases h
  .rename_i h8
   obtain ⟨l,t,k1,k2,k3,k4⟩:=sK c now nxt x s' m _ _ h
   have hl:(s.take 8).length=8:=by rw [Cq];omega
   refine ⟨leN (s.take 8)::l,t,by rw [Ao,k1],fun y hy=>?_,?_,by rw [Aj] at k4;exact k4⟩
   .rcases Bh.1 hy with rfl | hy
    .have:=leN_lt (s.take 8)
     rw [hl] at this
     omega
    .exact k2 y hy
   .have e:lG (leN (s.take 8)::l)++t=lH (leN (s.take 8))++(lG l++t):=by rw [<-Aj];rfl
    rw [e,XI hl,<-k3,Fj]
theorem P1 (c:Con) (now nxt:Int) (hi:List Nat) (x:Sta) (s':List UInt8):∀ (m:Nat) (acc:List Pn) (s:List UInt8),rP c now nxt hi m acc s=some ((x,true),s')->∃ l t,l.length=m/\s=gJ l++t/\rRs c now nxt hi (acc++l) t=some ((x,true),s')
 | 0,acc,s,h=>⟨[],s,rfl,rfl,by rw [Ay];exact h⟩
 | m+1,acc,s,h=>by
  unfold rP at h
  split at h
  .cases h
  .rename_i g s1 h1
   split at h
   .cases h
   .rename_i q s2 h2
    split at h
    .cases h
    .rename_i a s3 h3
     obtain ⟨l,t,k1,k3,k4⟩:=P1 c now nxt hi x s' m _ _ h
     refine ⟨⟨g,q,a⟩::l,t,by rw [Ao,k1],?_,by rw [Aj] at k4;exact k4⟩
     have e:gJ (⟨g,q,a⟩::l)++t=pl g.il++(putN q.toNat++(putN a.toNat++(gJ l++t))):=by
      rw [<-QI]
      show (pl g.il++pl [q,a]++gJ l)++t=_
      simp only [Aj]
     rw [e,<-k3,<-aR h3,<-aR h2,<-nM h1]
theorem qS:∀ (m:Nat) (acc:List Int) (s:List UInt8) (hs:List Int) (t:List UInt8),jW m acc s=some (hs,t)->∃ l,l.length=m/\hs=acc++l/\s=pl l++t
 | 0,acc,s,hs,t,h=>by cases h;exact ⟨[],rfl,by rw [Ay],rfl⟩
 | m+1,acc,s,hs,t,h=>by
  unfold jW at h
  split at h
  .cases h
  .rename_i u s1 h1
   obtain ⟨l,k1,k2,k3⟩:=qS m _ _ _ _ h
   refine ⟨u::l,by rw [Ao,k1],by rw [k2,Aj];rfl,?_⟩
   have e:pl (u::l)++t=putN u.toNat++(pl l++t):=by simp [pl]
   rw [e,<-k3,<-aR h1]
theorem PZ (c:Con) (now nxt:Int) (hi:List Nat) (ps:List Pn) (x:Sta) (s':List UInt8):∀ (m:Nat) (acc:List Rn) (s:List UInt8),rR c now nxt hi ps m acc s=some ((x,true),s')->∃ l,l.length=m/\s=eB l/\x=⟨c,now,nxt,ps,acc++l,hi⟩
 | 0,acc,s,h=>by
  unfold rR at h
  simp only [Cu,Gq] at h
  obtain ⟨⟨h1,h2⟩,h3⟩:=h
  refine ⟨[],rfl,?_,by rw [Ay];exact h1.symm⟩
  show s=[]
  simpa using h2
 | m+1,acc,s,h=>by
  unfold rR at h
  split at h
  .cases h
  .rename_i g s1 h1
   split at h
   .cases h
   .rename_i q s2 h2
    split at h
    .cases h
    .rename_i a s3 h3
     split at h
     .cases h
     .rename_i t s4 h4
      split at h
      .cases h
      .rename_i f s5 h5
       split at h
       .cases h
       .split at h
        .cases h
        .rename_i hs s6 h6
         obtain ⟨l0,j1,j2,j3⟩:=qS _ _ _ _ _ h6
         obtain ⟨l,k1,k2,k3⟩:=PZ c now nxt hi ps x s' m _ _ h
         have j2:hs=l0:=j2
         subst j2
         refine ⟨⟨g,q,a,t,f,hs⟩::l,by rw [Ao,k1],?_,by rw [Aj] at k3;exact k3⟩
         have e:eB (⟨g,q,a,t,f,hs⟩::l)=pl g.il++(putN q.toNat++(putN a.toNat++(putN t.toNat++(putN f.toNat++(pl hs++eB l))))):=by
          show (pl g.il++pl [q,a,t,f]++pl hs)++eB l=_
          simp [pl]
         rw [e,<-k2,<-j3,<-aR h5,<-aR h4,<-aR h3,<-aR h2,<-nM h1]
theorem VV {s s':List UInt8} {x:Sta} (h:rSt s=some ((x,true),s')):s=cN x/\(∀ y∈x.hist,y<18446744073709551616):=by
 unfold rSt at h
 split at h
 .cases h
 .rename_i n s1 h1
  have hn:=dB h1
  have bn:=bQ h1
  split at h
  .cases h
  .rename_i y h2
   split at h
   .rename_i hk
    obtain ⟨g1,g2⟩:=C8.dec_spec h2
    have g3:=C8.dec_can h2
    have T:=C8.chk_told g2
    unfold rB at h
    split at h
    .cases h
    .rename_i now s2 h3
     split at h
     .cases h
     .rename_i nxt s3 h4
      split at h
      .cases h
      .rename_i k s4 h5
       have b5:=bQ h5
       obtain ⟨l1,t1,e1,e2,e3,e4⟩:=sK y.c now nxt x s' _ _ _ h
       unfold rPs at e4
       split at e4
       .cases e4
       .rename_i k2 s5 h6
        have b6:=bQ h6
        obtain ⟨l2,t2,f1,f3,f4⟩:=P1 y.c now nxt _ x s' _ _ _ e4
        unfold rRs at f4
        split at f4
        .cases f4
        .rename_i k3 s6 h7
         have b7:=bQ h7
         obtain ⟨l3,q1,q2,q3⟩:=PZ y.c now nxt _ _ x s' _ _ _ f4
         subst q3
         refine ⟨?_,e2⟩
         have hy:y=⟨1,y.c,Gan.zero,0⟩:=by
          obtain ⟨yk,yc,yg,yn⟩:=y
          have a1:yk=1:=hk
          have a2:yg=Gan.zero:=C8.gan_none (T.g.resolve_left (by omega))
          have a3:yn=0:=T.n.resolve_left (by omega)
          subst a1 a2 a3
          rfl
         have ec:fZ ⟨y.c,now,nxt,[]++l2,[]++l3,[]++l1⟩=s1.take n.toNat:=by
          have e:fZ ⟨y.c,now,nxt,[]++l2,[]++l3,[]++l1⟩=C8.encB ⟨1,y.c,Gan.zero,0⟩:=rfl
          rw [e,<-hy]
          unfold C8.encB
          rw [if_pos g2,g3]
         have el:(s1.take n.toNat).length=n.toNat:=by rw [Cq];omega
         unfold cN
         rw [ec,el]
         have z1:=aR hn
         have z2:=aR h3
         have z3:=aR h4
         have z4:=aR (dB h5)
         have z5:=aR (dB h6)
         have z6:=aR (dB h7)
         have w1:k.toNat=(([]++l1:List Nat).length:Int).toNat:=by rw [Ez,e1,Br]
         have w2:k2.toNat=(([]++l2:List Pn).length:Int).toNat:=by rw [Ez,f1,Br]
         have w3:k3.toNat=(([]++l3:List Rn).length:Int).toNat:=by rw [Ez,q1,Br]
         rw [w1] at z4
         rw [w2] at z5
         rw [w3] at z6
         have zz:s=putN n.toNat++(s1.take n.toNat++(putN now.toNat++(putN nxt.toNat++(putN (([]++l1:List Nat).length:Int).toNat++(lG l1++(putN (([]++l2:List Pn).length:Int).toNat++(gJ l2++(putN (([]++l3:List Rn).length:Int).toNat++eB l3)))))))):=by
          rw [<-q2,<-z6,<-f3,<-z5,<-e3,<-z4,<-z3,<-z2,Fj,<-z1]
         rw [zz]
         simp [pl]
   .cases h
theorem JV {s:List UInt8} {x:Sta} (h:rO s=some x):cN x=s/\gA x=true:=by
 unfold rO at h
 split at h
 .rename_i y b s' h1
  split at h
  .rename_i hh
   cases h
   obtain ⟨rfl,hk⟩:=hh
   exact ⟨(VV h1).1.symm,hk⟩
  .cases h
 .cases h
noncomputable abbrev SZ:Func:=Tryz.f73
theorem MK (x:Rn) (hx:x.hs.length<=1048576):∀ (m i:Nat),i+m=x.hs.length->
  To E SZ (.pure (.ret (.bool true))) (.head (stk SZ 0) [(2,.ref 0 0),(3,.ref 1 0),(5,.int .i64 i)] [.cells 70 x.cs,.cells 70 x.cs]):=by
 have hlen:(iv x.hs).length=x.hs.length:=by simp
 intro m
 induction m with
 | zero=>
  intro i hi
  refine gW hE ?_;conv=>whnf
  refine aF fun h=>?_
  repeat' first | (refine gN hE ?_;conv=>whnf) | exact rfl | refine aY ?_ | refine aN ?_ | refine aT fun h=>?_ | refine aF fun h=>?_ | refine ⟨fun h=>?_,fun h=>?_⟩ | refine aJ ?_ | refine ⟨_,rfl,?_⟩ | refine aD ?_ | fail
 | succ m ih=>
  intro i hi
  have hlt:i<x.hs.length:=by omega
  have get:=cG hlt
  generalize x.hs[i]=u at get
  have next:=ih (i+1) (by omega)
  refine gW hE ?_;conv=>whnf
  refine aT fun h=>?_
  repeat' first | (refine gN hE ?_;conv=>whnf) | refine Aa (fun h=>absurd h (by simp;done)) (fun _=>?_) | refine ⟨i,rfl,?_⟩ | refine ⟨_,get,?_⟩ | exact rfl | refine aY ?_ | refine aN ?_ | refine aT fun h=>?_ | refine aF fun h=>?_ | refine ⟨fun h=>?_,fun h=>?_⟩ | refine aJ ?_ | refine ⟨_,rfl,?_⟩ | refine aD ?_ | fail
  refine To.part [2,3,5] [0,1] rfl rfl rfl ?_
  exact next
theorem QT (x:Rn) (hx:x.hs.length<=1048576):aA Tryz.prog 73 [x.av,x.av] [] (.ret (.bool true)) []:=by
 have next:=MK x hx x.hs.length 0 (by omega)
 refine cT (E:=E) (fn:=Tryz.f73) (g:=.pure _) fun _=>?_
 repeat' first | (refine gN hE ?_;conv=>whnf) | refine Aa (fun h=>absurd h (by simp;done)) (fun _=>?_) | exact rfl | refine aY ?_ | refine aN ?_ | refine aT fun h=>?_ | refine aF fun h=>?_ | refine ⟨fun h=>?_,fun h=>?_⟩ | refine aJ ?_ | refine ⟨_,rfl,?_⟩ | refine aD ?_ | fail
 refine To.part [2,3,5] [0,1] rfl rfl rfl ?_
 exact next
noncomputable abbrev KQ:Func:=Tryz.f29
theorem zM (l:List Rn) (hs:Sm l):∀ (m i:Nat),i+m=l.length->
  To E KQ (.pure (.ret (.bool true))) (.head (stk KQ 0) [(0,.slice 14 (rav l) .no),(1,.slice 14 (rav l) .no),(5,.int .i64 i)] []):=by
 have hlen:(rav l).length=l.length:=by simp
 have hl:=hs.1
 intro m
 induction m with
 | zero=>
  intro i hi
  refine gW hE ?_;conv=>whnf
  refine aF fun h=>?_
  repeat' first | (refine gN hE ?_;conv=>whnf) | exact rfl | refine aY ?_ | refine aN ?_ | refine aT fun h=>?_ | refine aF fun h=>?_ | refine ⟨fun h=>?_,fun h=>?_⟩ | refine aJ ?_ | refine ⟨_,rfl,?_⟩ | refine aD ?_ | fail
 | succ m ih=>
  intro i hi
  have hlt:i<l.length:=by omega
  have get:=fQ hlt
  have ho:=QT l[i] (hs.at hlt)
  generalize l[i]=x at get ho
  have next:=ih (i+1) (by omega)
  refine gW hE ?_;conv=>whnf
  refine aT fun h=>?_
  repeat' first | (refine gN hE ?_;conv=>whnf) | refine Aa (fun h=>absurd h (by simp;done)) (fun _=>?_) | refine ⟨i,rfl,?_⟩ | refine ⟨_,get,?_⟩ | refine .pure _ [] ho ?_ | exact rfl | refine aY ?_ | refine aN ?_ | refine aT fun h=>?_ | refine aF fun h=>?_ | refine ⟨fun h=>?_,fun h=>?_⟩ | refine aJ ?_ | refine ⟨_,rfl,?_⟩ | refine aD ?_ | fail
  refine To.part [0,1,5] [] rfl rfl rfl ?_
  exact next
theorem OV (l:List Rn) (hs:Sm l):aA Tryz.prog 29 [.slice 14 (rav l) .no,.slice 14 (rav l) .no] [] (.ret (.bool true)) []:=by
 have next:=zM l hs l.length 0 (by omega)
 refine cT (E:=E) (fn:=Tryz.f29) (g:=.pure _) fun _=>?_
 repeat' first | (refine gN hE ?_;conv=>whnf) | refine Aa (fun h=>absurd h (by simp;done)) (fun _=>?_) | exact rfl | refine aY ?_ | refine aN ?_ | refine aT fun h=>?_ | refine aF fun h=>?_ | refine ⟨fun h=>?_,fun h=>?_⟩ | refine aJ ?_ | refine ⟨_,rfl,?_⟩ | refine aD ?_ | fail
 refine To.part [0,1,5] [] rfl rfl rfl ?_
 exact next
noncomputable abbrev KT:Func:=Tryz.f30
theorem zS (l:List Nat) (hl:l.length<=1048576):∀ (m i:Nat),i+m=l.length->
  To E KT (.pure (.ret (.bool true))) (.head (stk KT 0) [(0,.slice 1 (fv l) .no),(1,.slice 1 (fv l) .no),(5,.int .i64 i)] []):=by
 have hlen:(fv l).length=l.length:=by simp
 intro m
 induction m with
 | zero=>
  intro i hi
  refine gW hE ?_;conv=>whnf
  refine aF fun h=>?_
  repeat' first | (refine gN hE ?_;conv=>whnf) | exact rfl | refine aY ?_ | refine aN ?_ | refine aT fun h=>?_ | refine aF fun h=>?_ | refine ⟨fun h=>?_,fun h=>?_⟩ | refine aJ ?_ | refine ⟨_,rfl,?_⟩ | refine aD ?_ | fail
 | succ m ih=>
  intro i hi
  have hlt:i<l.length:=by omega
  have get:=HX hlt
  generalize l[i]=x at get
  have next:=ih (i+1) (by omega)
  refine gW hE ?_;conv=>whnf
  refine aT fun h=>?_
  repeat' first | (refine gN hE ?_;conv=>whnf) | refine Aa (fun h=>absurd h (by simp;done)) (fun _=>?_) | refine ⟨i,rfl,?_⟩ | refine ⟨_,get,?_⟩ | exact rfl | refine aY ?_ | refine aN ?_ | refine aT fun h=>?_ | refine aF fun h=>?_ | refine ⟨fun h=>?_,fun h=>?_⟩ | refine aJ ?_ | refine ⟨_,rfl,?_⟩ | refine aD ?_ | fail
  refine To.part [0,1,5] [] rfl rfl rfl ?_
  exact next
theorem SL (l:List Nat) (hl:l.length<=1048576):aA Tryz.prog 30 [.slice 1 (fv l) .no,.slice 1 (fv l) .no] [] (.ret (.bool true)) []:=by
 have next:=zS l hl l.length 0 (by omega)
 refine cT (E:=E) (fn:=Tryz.f30) (g:=.pure _) fun _=>?_
 repeat' first | (refine gN hE ?_;conv=>whnf) | refine Aa (fun h=>absurd h (by simp;done)) (fun _=>?_) | exact rfl | refine aY ?_ | refine aN ?_ | refine aT fun h=>?_ | refine aF fun h=>?_ | refine ⟨fun h=>?_,fun h=>?_⟩ | refine aJ ?_ | refine ⟨_,rfl,?_⟩ | refine aD ?_ | fail
 refine To.part [0,1,5] [] rfl rfl rfl ?_
 exact next
theorem TQ (c:Con):C8.sameC c c=true:=by
 have h1:=C8.same_self ⟨1,c,Gan.zero,0⟩
 unfold C8.same at h1
 simp only [Ad] at h1
 exact h1.2.2.2
theorem tS (s:Sta) (hs:Sm s.run) (hh:s.hist.length<=1048576):aA Tryz.prog 10 [s.av,s.av] [] (.ret (.bool true)) []:=by
 have h1:=C8.rsame_c s.c s.c
 rw [TQ] at h1
 have h2:=Q2.same_ok (s.pend.map Pn.q) (s.pend.map Pn.q)
 rw [decide_eq_true rfl,QM] at h2
 have h3:=OV s.run hs
 have h4:=SL s.hist hh
 refine cT (E:=E) (fn:=Tryz.f10) (g:=.pure _) fun _=>?_
 repeat' first | (refine gN hE ?_;conv=>whnf) | refine Aa (fun _=>?_) (fun h=>absurd h (by simp;done)) | refine .pure _ [] h1 ?_ | refine .pure _ [] h2 ?_ | refine .pure _ [] h3 ?_ | refine .pure _ [] h4 ?_ | exact rfl | refine aY ?_ | refine aN ?_ | refine aT fun h=>?_ | refine aF fun h=>?_ | refine ⟨fun h=>?_,fun h=>?_⟩ | refine aJ ?_ | refine ⟨_,rfl,?_⟩ | refine aD ?_ | fail
def Sta.new:Sta:=⟨Con.nil,0,1,[],[],[]⟩
theorem Q3:aA Tryz.prog 17 [] [] (.ret Sta.new.av) []:=by
 refine cT (E:=E) (fn:=Tryz.f17) (g:=.pure _) fun _=>?_
 repeat' first | (refine gN hE ?_;conv=>whnf) | exact rfl | refine aY ?_ | refine aN ?_ | refine aT fun h=>?_ | refine aF fun h=>?_ | refine ⟨fun h=>?_,fun h=>?_⟩ | refine aJ ?_ | refine ⟨_,rfl,?_⟩ | refine aD ?_ | fail
theorem pU {n:Nat} (h:n<128):C8.putN n=[Di n]:=by rw [C8.putN,if_pos h]
theorem B6:gA Sta.new=true:=by rfl
theorem WK:gA Sta.nil=false:=by rfl
def EM:List UInt8:=[5,1,0,0,0,0,0,1,0,0,0]
theorem YM {s:Sta} (h:gA s=true):fZ s=C8.pl s.cmd.il:=if_pos (C0 h)
theorem J5:cN Sta.new=EM:=by
 have e:fZ Sta.new=C8.pl [1,0,0,0,0]:=YM B6
 have e1:C8.putN (0:Int).toNat=[0]:=pU (by decide)
 have e2:C8.putN (1:Int).toNat=[1]:=pU (by decide)
 have e3:C8.pl [1,0,0,0,0]=[1,0,0,0,0]:=by
  simp only [C8.pl,e1,e2]
  rfl
 have e4:C8.putN 5=[5]:=pU (by decide)
 unfold cN
 rw [e,e3]
 show C8.putN 5++[1,0,0,0,0]++C8.pl [(0:Int),1,0]++[]++C8.pl [(0:Int)]++[]++C8.pl [(0:Int)]++[]=_
 simp only [C8.pl,e1,e2,e4]
 rfl
theorem HO:Sta.new.c.sm/\Sm Sta.new.run:=⟨⟨Bm _,Bm _⟩,Bm _,fun y hy=>by cases hy⟩
theorem HN:Sta.nil.c.sm/\Sm Sta.nil.run:=⟨⟨Bm _,Bm _⟩,Bm _,fun y hy=>by cases hy⟩
theorem XZ:aA Tryz.prog 12 [Sta.new.av] [] (.ret (.tup [.str EM,ii 0])) []:=by
 have:=U4 Sta.new HO.1 HO.2 IM
 unfold aA0 at this
 rw [B6,if_pos rfl,J5] at this
 exact this
theorem YH:aA Tryz.prog 8 [.str EM] [] (.ret (.tup [Sta.new.av,ii 0])) []:=by
 have:=BN EM (by decide)
 have e:rO EM=some Sta.new:=by rw [<-J5];exact K2 B6 fun x hx=>by cases hx
 unfold yQ zV at this
 rw [e] at this
 exact this
theorem YF:aA Tryz.prog 8 [.str (EM++[120])] [] (.ret (.tup [Sta.nil.av,ii 10])) []:=by
 have:=BN (EM++[120]) (by decide)
 have e:rO (EM++[120])=none:=by rfl
 unfold yQ zV at this
 rw [e] at this
 exact this
theorem YP:aA Tryz.prog 13 [Sta.nil.av] [] (.ret (ii 1)) []:=by
 have:=sC Sta.nil HN.1 HN.2
 rw [WK] at this
 exact this
theorem IS:aA Tryz.prog 7 [] [] (.ret (.bool true)) []:=by
 have hs:=tS Sta.new HO.2 (Bm _)
 have h1:=XZ
 have h2:=YH
 have h3:=YF
 have h4:=YP
 have h5:=Q3
 refine cT (E:=E) (fn:=Tryz.f7) (g:=.pure _) fun _=>?_
 repeat' first | (refine gN hE ?_;conv=>whnf) | refine .pure _ [] h5 ?_ | refine .pure _ [] h1 ?_ | refine .pure _ [] h2 ?_ | refine .pure _ [] h3 ?_ | refine .pure _ [] hs ?_ | refine .pure _ [] (aA.strip h4) ?_ | refine .pure _ [] h4 ?_ | exact rfl | refine aY ?_ | refine aN ?_ | refine aT fun h=>?_ | refine aF fun h=>?_ | refine ⟨fun h=>?_,fun h=>?_⟩ | refine aJ ?_ | refine ⟨_,rfl,?_⟩ | refine aD ?_ | fail
theorem NG {s:List UInt8} {x:Sta} (h:rO s=some x) (hl:s.length<=1000000):x.c.sm/\Sm x.run:=by
 unfold rO at h
 split at h
 .rename_i y b s' h1
  split at h
  .cases h
   exact Y5 h1 hl
  .cases h
 .cases h
noncomputable abbrev aBY:Func:=Tryz.f150
theorem GY (l:List Int) (hl:l.length<=1048576) (v:Int) (r:Bool):∀ (m i:Nat),i+m=l.length->inB v (l.drop i)=r->
  To E aBY (.pure (.ret (.bool r))) (.head (stk aBY 0) [(0,ii v),(1,.slice 1 (iv l) .no),(5,ii i)] []):=by
 have hlen:(iv l).length=l.length:=by simp
 intro m
 induction m with
 | zero=>
  intro i hi hr
  rw [Af (by omega)] at hr
  have hr:false=r:=hr
  subst hr
  refine gW hE ?_;conv=>whnf
  refine aF fun h=>?_
  repeat' first | (refine gN hE ?_;conv=>whnf) | exact rfl | refine aY ?_ | refine aN ?_ | refine aT fun h=>?_ | refine aF fun h=>?_ | refine ⟨fun h=>?_,fun h=>?_⟩ | refine aJ ?_ | refine ⟨_,rfl,?_⟩ | refine aD ?_ | fail
 | succ m ih=>
  intro i hi hr
  have hlt:i<l.length:=by omega
  rw [Ae hlt] at hr
  have get:=cG hlt
  generalize l[i]=x at hr get
  unfold inB at hr
  rw [Gb] at hr
  have ih:=ih (i+1) (by omega)
  have hc:(v==x)=(x==v):=by
   by_cases h:v=x
   .subst h;rfl
   .rw [beq_eq_false_iff_ne.2 h,beq_eq_false_iff_ne.2 (Ds h)]
  rw [hc] at hr
  cases hq:(x==v) with
  | true=>
   rw [hq] at hr
   have hr:true=r:=hr
   subst hr
   refine gW hE ?_;conv=>whnf
   refine aT fun h=>?_
   repeat' first | (refine gN hE ?_;conv=>whnf) | refine ⟨i,rfl,?_⟩ | refine ⟨_,get,?_⟩ | refine Aa (fun h=>?_) (fun h=>absurd h (by rw [hq];decide)) | exact rfl | refine aY ?_ | refine aN ?_ | refine aT fun h=>?_ | refine aF fun h=>?_ | refine ⟨fun h=>?_,fun h=>?_⟩ | refine aJ ?_ | refine ⟨_,rfl,?_⟩ | refine aD ?_ | fail
  | false=>
   rw [hq,Ji] at hr
   have next:=ih hr
   refine gW hE ?_;conv=>whnf
   refine aT fun h=>?_
   repeat' first | (refine gN hE ?_;conv=>whnf) | refine ⟨i,rfl,?_⟩ | refine ⟨_,get,?_⟩ | refine Aa (fun h=>absurd h (by rw [hq];decide)) (fun h=>?_) | exact rfl | refine aY ?_ | refine aN ?_ | refine aT fun h=>?_ | refine aF fun h=>?_ | refine ⟨fun h=>?_,fun h=>?_⟩ | refine aJ ?_ | refine ⟨_,rfl,?_⟩ | refine aD ?_ | fail
   exact To.cut [0,1,5] 0 rfl rfl rfl rfl next
theorem PF (l:List Int) (hl:l.length<=1048576) (v:Int):aA Tryz.prog 150 [ii v,.slice 1 (iv l) .no] [] (.ret (.bool (inB v l))) []:=by
 refine cT (E:=E) (fn:=Tryz.f150) (g:=.pure _) fun _=>?_
 refine gW hE ?_;conv=>whnf
 exact To.cut [0,1,5] 0 rfl rfl rfl rfl (GY l hl v _ l.length 0 (by omega) rfl)
noncomputable abbrev aB0:Func:=Tryz.f115
theorem OS (l:List Rn) (hs:Sm l) (ids:List Int) (hd:ids.length<=1048576) (R:List Rn):∀ (m i:Nat) (acc:List Rn),i+m=l.length->acc.length<=i->acc++cJ (l.drop i) ids=R->
  To (Eo [5] []) aB0 (.pure (.ret (.slice 14 (rav R) .no))) (.head (stk aB0 0) [(0,.slice 14 (rav l) .no),(1,.slice 1 (iv ids) .no),(5,.slice 14 (rav acc) (.own 0 0)),(6,ii i)] [.tail 0 14 70]):=by
 have hlen:(rav l).length=l.length:=by simp
 have hl:=hs.1
 intro m
 induction m with
 | zero=>
  intro i acc hi ha hR
  rw [Af (by omega)] at hR
  have hR:acc++[]=R:=hR
  rw [Ay] at hR
  subst hR
  refine gW (hEo [5] []) ?_;conv=>whnf
  refine aF fun h=>?_
  repeat' first | (refine gN (hEo [5] []) ?_;conv=>whnf) | exact rfl | refine aY ?_ | refine aN ?_ | refine aT fun h=>?_ | refine aF fun h=>?_ | refine ⟨fun h=>?_,fun h=>?_⟩ | refine aJ ?_ | refine ⟨_,rfl,?_⟩ | refine aD ?_ | fail
 | succ m ih=>
  intro i acc hi ha hR
  have hlt:i<l.length:=by omega
  rw [Ae hlt] at hR
  generalize hq:l[i]=x at hR
  have get:(rav l)[i]? =some x.av:=(fQ hlt).trans (by rw [hq])
  have hla:(rav acc).length=acc.length:=by simp
  have hc:=PF ids hd x.g.id
  cases hw:inB x.g.id ids with
  | true=>
   rw [hw] at hc
   rw [tO hw] at hR
   have next:=ih (i+1) acc (by omega) (by omega) hR
   refine gW (hEo [5] []) ?_;conv=>whnf
   refine aT fun h=>?_
   repeat' first | (refine gN (hEo [5] []) ?_;conv=>whnf) | refine ⟨i,rfl,?_⟩ | refine ⟨_,get,?_⟩ | refine .pure _ [] hc ?_ | exact rfl | refine aY ?_ | refine aN ?_ | refine aT fun h=>?_ | refine aF fun h=>?_ | refine ⟨fun h=>?_,fun h=>?_⟩ | refine aJ ?_ | refine ⟨_,rfl,?_⟩ | refine aD ?_ | fail
   refine To.part [0,1,5,6] [0] rfl rfl rfl ?_
   exact next
  | false=>
   rw [hw] at hc
   rw [tN hw] at hR
   have next:=ih (i+1) (acc++[x]) (by omega) (by simp;omega) (by rw [Aj];exact hR)
   have e:rav (acc++[x])=rav acc++[x.av]:=by simp
   rw [e] at next
   refine gW (hEo [5] []) ?_;conv=>whnf
   refine aT fun h=>?_
   repeat' first | (refine gN (hEo [5] []) ?_;conv=>whnf) | refine ⟨i,rfl,?_⟩ | refine ⟨_,get,?_⟩ | refine .pure _ [] hc ?_ | refine ⟨⟨by simp only [maxLen];simp;omega,by simp;omega⟩,?_⟩ | exact rfl | refine aY ?_ | refine aN ?_ | refine aT fun h=>?_ | refine aF fun h=>?_ | refine ⟨fun h=>?_,fun h=>?_⟩ | refine aJ ?_ | refine ⟨_,rfl,?_⟩ | refine aD ?_ | fail
   refine To.part [0,1,5,6] [0] rfl rfl rfl ?_
   exact next
theorem DL (l:List Rn) (hs:Sm l) (ids:List Int) (hd:ids.length<=1048576):aA Tryz.prog 115 [.slice 14 (rav l) .no,.slice 1 (iv ids) .no] [] (.ret (.slice 14 (rav (cJ l ids)) .no)) []:=by
 refine cT (E:=(Eo [5] [])) (fn:=Tryz.f115) (g:=.pure _) fun _=>?_
 refine gW (hEo [5] []) ?_;conv=>whnf
 refine To.part [0,1,5,6] [0] rfl rfl rfl ?_
 exact OS l hs ids hd _ l.length 0 [] (by omega) (by simp) rfl
theorem HW (s:Sta) (p:Pn) (G:Int) (N b:Bool) (hG:aA Tryz.prog 112 [s.c.av,p.g.av] [] (.ret (ii G)) []) (hN:G=0->aA Tryz.prog 113 [s.c.av,p.g.av] [] (.ret (.bool N)) [])
  (hb:(decide (G=0)&&(!N&&decide ((0<=p.seq/\p.seq<s.nxt)/\0<=p.at'/\p.at'<=s.now)))=b):aA Tryz.prog 65 [s.av,p.av] [] (.ret (.bool b)) []:=by
 by_cases h0:G=0
 .have hnv:=hN h0
  clear hN
  subst h0
  cases N with
  | true=>
   have hb:false=b:=hb
   subst hb
   refine cT (E:=E) (fn:=Tryz.f65) (g:=.pure _) fun _=>?_
   repeat' first | (refine gN hE ?_;conv=>whnf) | refine .pure _ [] hG ?_ | refine .pure _ [] hnv ?_ | exact rfl | refine aY ?_ | refine aN ?_ | refine aT fun h=>?_ | refine aF fun h=>?_ | refine ⟨fun h=>?_,fun h=>?_⟩ | refine aJ ?_ | refine ⟨_,rfl,?_⟩ | refine aD ?_ | fail
  | false=>
   have hb:decide ((0<=p.seq/\p.seq<s.nxt)/\0<=p.at'/\p.at'<=s.now)=b:=hb
   refine cT (E:=E) (fn:=Tryz.f65) (g:=.pure _) fun _=>?_
   repeat' first | (refine gN hE ?_;conv=>whnf) | refine .pure _ [] hG ?_ | refine .pure _ [] hnv ?_ | exact rfl | refine aY ?_ | refine aN ?_ | refine aT fun h=>?_ | refine aF fun h=>?_ | refine ⟨fun h=>?_,fun h=>?_⟩ | refine aJ ?_ | refine ⟨_,rfl,?_⟩ | refine aD ?_ | fail
   all_goals
    subst hb
    refine congrArg (fun q=>Res.ret (AVal.bool q)) ?_
    simp only [decide_eq_true_eq,decide_eq_false_iff_not,beq_iff_eq,beq_eq_false_iff_ne,ne_eq] at *
   all_goals first | (rw [decide_eq_false (by omega)];done) | (rw [decide_eq_true (by omega)];done) | (apply decide_eq_decide.2;omega) | (symm;rw [decide_eq_false (by omega)]) | (symm;rw [decide_eq_true (by omega)])
 .have e1:(G==0)=false:=beq_eq_false_iff_ne.2 h0
  rw [decide_eq_false h0] at hb
  have hb:false=b:=hb
  subst hb
  refine cT (E:=E) (fn:=Tryz.f65) (g:=.pure _) fun _=>?_
  repeat' first | (refine gN hE ?_;conv=>whnf) | refine .pure _ [] hG ?_ | refine Aa (fun h=>absurd (e1.symm.trans h) (by decide)) (fun _=>?_) | exact rfl | refine aY ?_ | refine aN ?_ | refine aT fun h=>?_ | refine aF fun h=>?_ | refine ⟨fun h=>?_,fun h=>?_⟩ | refine aJ ?_ | refine ⟨_,rfl,?_⟩ | refine aD ?_ | fail
theorem A1 (s:Sta) (hc:s.c.sm) (p:Pn):aA Tryz.prog 65 [s.av,p.av] [] (.ret (.bool (pnB s p))) []:=
 HW s p _ _ _ (G8 s.c hc p.g) (fun h=>D3 s.c hc p.g (by have:=jK h;omega) (by
  obtain ⟨h1,_⟩:=oT.1 h
  unfold zZ at h1
  simp only [Ad] at h1
  exact h1.2.1)) rfl
noncomputable abbrev ZF:Func:=Tryz.f66
theorem sF {g:Goal} {ks:List KI} (s:Sta) (r:Rn) (h:To E ZF g (.code ks [(2,.ptr s.cs),(3,.ptr r.cs)] (VG s r))):To E ZF g (.code ks [(2,.ref 0 0),(3,.ref 1 0)] (rnO s r)):=by
 refine To.frz [2,3] [0,1] ?_
 rw [PC,JM]
 exact h
theorem zL (s:Sta) (r:Rn) (W:List Rn) (F:List V3) (e1:Int) (k b:Bool)
  (h0:aA Tryz.prog 65 [s.av,r.pn.av] [] (.ret (.bool true)) [])
  (h1:aA Tryz.prog 114 [r.av] [] (.ret (ii e1)) [])
  (h2:aA Tryz.prog 115 [.slice 14 (rav s.run) .no,.slice 1 (iv [r.g.id]) .no] [] (.ret (.slice 14 (rav W) .no)) [])
  (h3:aA Tryz.prog 47 [s.c.av,.slice 14 (rav W) .no] [] (.ret (.slice 3 (vav F) .no)) [])
  (h4:aA Tryz.prog 116 [s.c.av,.slice 3 (vav F) .no,r.g.av,.slice 1 (iv r.hs) .no] [] (.ret (.bool k)) [])
  (hk:k=true->(iv r.hs)[0]? =some (ii (r.hs.headD 0))/\0<=r.hs.headD 0/\(hav s.c.hs)[(r.hs.headD 0).toNat]? =some (bG s.c.hs (r.hs.headD 0)).av)
  (hb:(decide ((r.at'<=r.st/\r.st<=s.now)/\s.now<e1)&&(k&&decide ((bG s.c.hs (r.hs.headD 0)).f=r.fl)))=b):
  aA Tryz.prog 66 [s.av,r.av] [] (.ret (.bool b)) []:=by
 have h2:aA Tryz.prog 115 [.slice 14 (rav s.run) .no,.slice 1 (iv [r.g.id]) .full] [] (.ret (.slice 14 (rav W) .no)) []:=aA.strip h2
 cases k with
 | true=>
  obtain ⟨g1,g2,g3⟩:=hk rfl
  generalize r.hs.headD 0=u at g1 g2 g3 hb
  generalize bG s.c.hs u=y at g3 hb
  refine cT (E:=E) (fn:=Tryz.f66) (g:=.pure _) fun _=>?_
  refine bW hE 13 ?_;conv=>whnf
  refine To.cutC [2,3] 2 rfl rfl rfl rfl ?_
  refine sF s r ?_
  repeat' first | (refine gN hE ?_;conv=>whnf) | refine .pure _ [] h0 ?_ | refine .pure _ [] h1 ?_ | refine .pure _ [] h2 ?_ | refine .pure _ [] h3 ?_ | refine .pure _ [] h4 ?_ | refine ⟨0,rfl,?_⟩ | refine ⟨_,g1,?_⟩ | refine Al u.toNat (Aa (by simp only [Fq g2]) ?_) | refine ⟨_,g3,?_⟩ | exact rfl | refine aY ?_ | refine aN ?_ | refine aT fun h=>?_ | refine aF fun h=>?_ | refine ⟨fun h=>?_,fun h=>?_⟩ | refine aJ ?_ | refine ⟨_,rfl,?_⟩ | refine aD ?_ | fail
  all_goals
   subst hb
   refine congrArg (fun q=>Res.ret (AVal.bool q)) ?_
   simp only [decide_eq_true_eq,decide_eq_false_iff_not] at *
   first | (rw [decide_eq_false (by omega)];rfl) | (rw [decide_eq_true (by omega)];rfl)
 | false=>
  refine cT (E:=E) (fn:=Tryz.f66) (g:=.pure _) fun _=>?_
  refine bW hE 13 ?_;conv=>whnf
  refine To.cutC [2,3] 2 rfl rfl rfl rfl ?_
  refine sF s r ?_
  repeat' first | (refine gN hE ?_;conv=>whnf) | refine .pure _ [] h0 ?_ | refine .pure _ [] h1 ?_ | refine .pure _ [] h2 ?_ | refine .pure _ [] h3 ?_ | refine .pure _ [] h4 ?_ | exact rfl | refine aY ?_ | refine aN ?_ | refine aT fun h=>?_ | refine aF fun h=>?_ | refine ⟨fun h=>?_,fun h=>?_⟩ | refine aJ ?_ | refine ⟨_,rfl,?_⟩ | refine aD ?_ | fail
  all_goals
   subst hb
   refine congrArg (fun q=>Res.ret (AVal.bool q)) ?_
   simp only [decide_eq_true_eq,decide_eq_false_iff_not] at *
   first | (rw [decide_eq_false (by omega)];rfl) | (rw [decide_eq_true (by omega)];rfl)
theorem zK (s:Sta) (r:Rn) (h0:aA Tryz.prog 65 [s.av,r.pn.av] [] (.ret (.bool false)) []):aA Tryz.prog 66 [s.av,r.av] [] (.ret (.bool false)) []:=by
 refine cT (E:=E) (fn:=Tryz.f66) (g:=.pure _) fun _=>?_
 refine bW hE 13 ?_;conv=>whnf
 refine To.cutC [2,3] 2 rfl rfl rfl rfl ?_
 refine sF s r ?_
 repeat' first | (refine gN hE ?_;conv=>whnf) | refine .pure _ [] h0 ?_ | exact rfl | refine aY ?_ | refine aN ?_ | refine aT fun h=>?_ | refine aF fun h=>?_ | refine ⟨fun h=>?_,fun h=>?_⟩ | refine aJ ?_ | refine ⟨_,rfl,?_⟩ | refine aD ?_ | fail
theorem BQ (s:Sta) (hc:s.c.sm) (hs:Sm s.run) (r:Rn) (hr:r.hs.length<=1048576):aA Tryz.prog 66 [s.av,r.av] [] (.ret (.bool (pnB s r.pn&&rnB s r))) []:=by
 have h0:=A1 s hc r.pn
 cases hp:pnB s r.pn with
 | false=>
  rw [hp] at h0
  exact zK s r h0
 | true=>
  rw [hp] at h0
  have hg:hY s.c r.g=0:=by
   unfold pnB at hp
   rw [Ad] at hp
   exact of_decide_eq_true hp.1
  have hv:aV r.g.need=true:=by
   obtain ⟨q1,_⟩:=oT.1 hg
   unfold zZ at q1
   simp only [Ad] at q1
   exact q1.2.1
  have hw:=vP hs [r.g.id]
  have h2:=DL s.run hs [r.g.id] (by simp)
  have h3:=DT s.c hc (cJ s.run [r.g.id]) hw
  have hf:=xV s.c (cJ s.run [r.g.id])
  have h4:=aBg s.c hc (hZ s.c (cJ s.run [r.g.id])) r.g hv r.hs hr
  refine zL s r _ _ _ _ _ h0 (VO r) h2 h3 h4 (fun hk=>?_) ?_
  .obtain ⟨a1,a2,a3⟩:=BD hf (jK hg).1 hk
   exact ⟨a1,a2,E5 a2 a3⟩
  .rw [N0]
   rfl
noncomputable abbrev fTw:Func:=Tryz.f67
theorem aBs (l:List Int) (hl:l.length<=1000) (i:Nat) (hi:i<l.length) (b:Bool) (hnd:¬ l.Nodup->b=true)
  (cont:(∀ (k:Nat) (h:k<i),(l[k]'(by omega))≠l[i])->To E fTw (.pure (.ret (.bool b))) (.head (stk fTw 0) [(0,.slice 1 (iv l) .no),(3,.int .i64 ((i:Int)+1))] [])):∀ (m k:Nat),k+m=i->(∀ (k':Nat) (h:k'<k) (h2:k'<l.length),l[k']≠l[i])->
  To E fTw (.pure (.ret (.bool b))) (.head (stk fTw 1) [(0,.slice 1 (iv l) .no),(3,.int .i64 i),(4,.int .i64 k)] []):=by
 have hlen:(iv l).length=l.length:=by simp
 intro m
 induction m with
 | zero=>
  intro k hk hne
  have next:=cont fun k' h=>hne k' (by omega) (by omega)
  refine gW hE ?_;conv=>whnf
  refine aF fun h=>?_
  repeat' first | (refine gN hE ?_;conv=>whnf) | exact rfl | refine aY ?_ | refine aN ?_ | refine aT fun h=>?_ | refine aF fun h=>?_ | refine ⟨fun h=>?_,fun h=>?_⟩ | refine aJ ?_ | refine ⟨_,rfl,?_⟩ | refine aD ?_ | fail
  refine To.part [0,3] [] rfl rfl rfl ?_
  exact next
 | succ m ih=>
  intro k hk hne
  have hlt:k<l.length:=by omega
  have gk:=cG hlt
  have gi:=cG hi
  by_cases he:l[k]=l[i]
  .have e1:(l[i]==l[k])=true:=by rw [he];simp
   have hb:b=true:=hnd fun hn=>by
    have p1:=Ix.1 (Ir.1 hn) k i hlt hi (by omega)
    exact p1 he
   subst hb
   clear cont ih hne hnd
   generalize l[k]=x at gk e1
   generalize l[i]=y at gi e1
   refine gW hE ?_;conv=>whnf
   refine aT fun h=>?_
   repeat' first | (refine gN hE ?_;conv=>whnf) | refine ⟨i,rfl,?_⟩ | refine ⟨_,gi,?_⟩ | refine ⟨k,rfl,?_⟩ | refine ⟨_,gk,?_⟩ | refine Aa (fun _=>?_) (fun h=>absurd (e1.symm.trans h) (by decide)) | exact rfl | refine aY ?_ | refine aN ?_ | refine aT fun h=>?_ | refine aF fun h=>?_ | refine ⟨fun h=>?_,fun h=>?_⟩ | refine aJ ?_ | refine ⟨_,rfl,?_⟩ | refine aD ?_ | fail
  .have e1:(l[i]==l[k])=false:=beq_eq_false_iff_ne.2 fun e=>he e.symm
   have next:=ih (k+1) (by omega) fun k' h h2=>by
    by_cases hkk:k'=k
    .subst hkk;exact he
    .exact hne k' (by omega) h2
   clear cont ih hne hnd he
   generalize l[k]=x at gk e1
   generalize l[i]=y at gi e1
   refine gW hE ?_;conv=>whnf
   refine aT fun h=>?_
   repeat' first | (refine gN hE ?_;conv=>whnf) | refine ⟨i,rfl,?_⟩ | refine ⟨_,gi,?_⟩ | refine ⟨k,rfl,?_⟩ | refine ⟨_,gk,?_⟩ | refine Aa (fun h=>absurd (e1.symm.trans h) (by decide)) (fun _=>?_) | exact rfl | refine aY ?_ | refine aN ?_ | refine aT fun h=>?_ | refine aF fun h=>?_ | refine ⟨fun h=>?_,fun h=>?_⟩ | refine aJ ?_ | refine ⟨_,rfl,?_⟩ | refine aD ?_ | fail
   refine To.part [0,3,4] [] rfl rfl rfl ?_
   exact next
theorem ZZ (l:List Int) (hl:l.length<=1000) (b:Bool) (hb:(!decide l.Nodup)=b):∀ (m i:Nat),i+m=l.length->(∀ (i' k:Nat) (_:i'<i) (_:k<i') (h2:i'<l.length) (h3:k<l.length),l[k]≠l[i'])->
  To E fTw (.pure (.ret (.bool b))) (.head (stk fTw 0) [(0,.slice 1 (iv l) .no),(3,.int .i64 i)] []):=by
 have hlen:(iv l).length=l.length:=by simp
 intro m
 induction m with
 | zero=>
  intro i hi hne
  have hn:l.Nodup:=Ir.2 (Ix.2 fun k j h1 h2 h=>hne j k (by omega) h h2 h1)
  rw [decide_eq_true hn] at hb
  have hb:false=b:=hb
  subst hb
  refine gW hE ?_;conv=>whnf
  refine aF fun h=>?_
  repeat' first | (refine gN hE ?_;conv=>whnf) | exact rfl | refine aY ?_ | refine aN ?_ | refine aT fun h=>?_ | refine aF fun h=>?_ | refine ⟨fun h=>?_,fun h=>?_⟩ | refine aJ ?_ | refine ⟨_,rfl,?_⟩ | refine aD ?_ | fail
 | succ m ih=>
  intro i hi hne
  have next:=aBs l hl i (by omega) b (fun hn=>by rw [<-hb,decide_eq_false hn];rfl) (fun hx=>ih (i+1) (by omega) fun i' k h1 h h2 h3=>by
   by_cases hii:i'=i
   .subst hii;exact hx k h
   .exact hne i' k (by omega) h h2 h3) i 0 (by omega) fun k' h h2=>by omega
  refine gW hE ?_;conv=>whnf
  refine aT fun h=>?_
  repeat' first | (refine gN hE ?_;conv=>whnf) | exact rfl | refine aY ?_ | refine aN ?_ | refine aT fun h=>?_ | refine aF fun h=>?_ | refine ⟨fun h=>?_,fun h=>?_⟩ | refine aJ ?_ | refine ⟨_,rfl,?_⟩ | refine aD ?_ | fail
  refine To.part [0,3,4] [] rfl rfl rfl ?_
  exact next
theorem DD (l:List Int) (hl:l.length<=1000):aA Tryz.prog 67 [.slice 1 (iv l) .no] [] (.ret (.bool (!decide l.Nodup))) []:=by
 have next:=ZZ l hl _ rfl l.length 0 (by omega) fun i' k h1 h h2 h3=>by omega
 refine cT (E:=E) (fn:=Tryz.f67) (g:=.pure _) fun _=>?_
 repeat' first | (refine gN hE ?_;conv=>whnf) | exact rfl | refine aY ?_ | refine aN ?_ | refine aT fun h=>?_ | refine aF fun h=>?_ | refine ⟨fun h=>?_,fun h=>?_⟩ | refine aJ ?_ | refine ⟨_,rfl,?_⟩ | refine aD ?_ | fail
 refine To.part [0,3] [] rfl rfl rfl ?_
 exact next
noncomputable abbrev aB2:Func:=Tryz.f68
theorem QA (s:Sta) (hc:s.c.sm) (U:List V3) (hU:U.length=s.c.ns.length) (hg:∀ i:Nat,i<U.length->(vav U)[i]? =some (atV U (i:Int)).av) (b:Bool):∀ (m i:Nat),i+m=U.length->((Eh i m).all fun i:Nat=>bO (atV U (i:Int)) (lA s.c (i:Int)))=b->
  To E aB2 (.pure (.ret (.bool b))) (.head (stk aB2 0) [(1,.ref 0 0),(3,.slice 3 (vav U) .no),(4,.int .i64 i)] [.cells 31 s.cs]):=by
 have hlen:(vav U).length=U.length:=by simp
 have hln:(nav s.c.ns).length=s.c.ns.length:=by simp
 have h1:=hc.ns
 intro m
 induction m with
 | zero=>
  intro i hi hb
  have hb:true=b:=hb
  subst hb
  refine gW hE ?_;conv=>whnf
  refine aF fun h=>?_
  repeat' first | (refine gN hE ?_;conv=>whnf) | exact rfl | refine aY ?_ | refine aN ?_ | refine aT fun h=>?_ | refine aF fun h=>?_ | refine ⟨fun h=>?_,fun h=>?_⟩ | refine aJ ?_ | refine ⟨_,rfl,?_⟩ | refine aD ?_ | fail
 | succ m ih=>
  intro i hi hb
  have hlt:i<U.length:=by omega
  have hb:(bO (atV U (i:Int)) (lA s.c (i:Int))&&((Eh (i+1) m).all fun i:Nat=>bO (atV U (i:Int)) (lA s.c (i:Int))))=b:=hb
  have next:=ih (i+1) (by omega)
  generalize ((Eh (i+1) m).all fun i:Nat=>bO (atV U (i:Int)) (lA s.c (i:Int)))=R at hb next
  have get:=hg i hlt
  have gn:=rA (c:=s.c) (n:=(i:Int)) ⟨by omega,by omega⟩
  have hn:=JK s.c hc (i:Int)
  have hl:=kU s.c hc (i:Int)
  rw [sG] at hl
  unfold lA at hb
  generalize atV U (i:Int)=u at hb get
  generalize dM s.c.ns (i:Int)=y at hb gn
  generalize mV s.c.ns (i:Int) (oZ s.c.ns)=v at hb hn
  cases hq:bS s.c.ns (i:Int) with
  | true=>
   rw [hq] at hb hl
   have ha:=kA v y.b
   have hb:(bO u (iG v y.b)&&R)=b:=hb
   generalize iG v y.b=w at ha hb
   have ho:=iZ u w
   cases hf:bO u w with
   | true=>
    rw [hf] at hb ho
    have next:=next hb
    refine gW hE ?_;conv=>whnf
    refine aT fun h=>?_
    repeat' first | (refine gN hE ?_;conv=>whnf) | refine ⟨i,rfl,?_⟩ | refine ⟨_,get,?_⟩ | refine .pure _ [] hn ?_ | refine .pure _ [] hl ?_ | refine ⟨_,gn,?_⟩ | refine .pure _ [] ha ?_ | refine .pure _ [] ho ?_ | exact rfl | refine aY ?_ | refine aN ?_ | refine aT fun h=>?_ | refine aF fun h=>?_ | refine ⟨fun h=>?_,fun h=>?_⟩ | refine aJ ?_ | refine ⟨_,rfl,?_⟩ | refine aD ?_ | fail
    refine To.part [1,3,4] [0] rfl rfl rfl ?_
    exact next
   | false=>
    rw [hf] at hb ho
    have hb:false=b:=hb
    subst hb
    refine gW hE ?_;conv=>whnf
    refine aT fun h=>?_
    repeat' first | (refine gN hE ?_;conv=>whnf) | refine ⟨i,rfl,?_⟩ | refine ⟨_,get,?_⟩ | refine .pure _ [] hn ?_ | refine .pure _ [] hl ?_ | refine ⟨_,gn,?_⟩ | refine .pure _ [] ha ?_ | refine .pure _ [] ho ?_ | exact rfl | refine aY ?_ | refine aN ?_ | refine aT fun h=>?_ | refine aF fun h=>?_ | refine ⟨fun h=>?_,fun h=>?_⟩ | refine aJ ?_ | refine ⟨_,rfl,?_⟩ | refine aD ?_ | fail
  | false=>
   rw [hq] at hb hl
   have hb:(bO u v&&R)=b:=hb
   have ho:=iZ u v
   cases hf:bO u v with
   | true=>
    rw [hf] at hb ho
    have next:=next hb
    refine gW hE ?_;conv=>whnf
    refine aT fun h=>?_
    repeat' first | (refine gN hE ?_;conv=>whnf) | refine ⟨i,rfl,?_⟩ | refine ⟨_,get,?_⟩ | refine .pure _ [] hn ?_ | refine .pure _ [] hl ?_ | refine .pure _ [] ho ?_ | exact rfl | refine aY ?_ | refine aN ?_ | refine aT fun h=>?_ | refine aF fun h=>?_ | refine ⟨fun h=>?_,fun h=>?_⟩ | refine aJ ?_ | refine ⟨_,rfl,?_⟩ | refine aD ?_ | fail
    refine To.part [1,3,4] [0] rfl rfl rfl ?_
    exact next
   | false=>
    rw [hf] at hb ho
    have hb:false=b:=hb
    subst hb
    refine gW hE ?_;conv=>whnf
    refine aT fun h=>?_
    repeat' first | (refine gN hE ?_;conv=>whnf) | refine ⟨i,rfl,?_⟩ | refine ⟨_,get,?_⟩ | refine .pure _ [] hn ?_ | refine .pure _ [] hl ?_ | refine .pure _ [] ho ?_ | exact rfl | refine aY ?_ | refine aN ?_ | refine aT fun h=>?_ | refine aF fun h=>?_ | refine ⟨fun h=>?_,fun h=>?_⟩ | refine aJ ?_ | refine ⟨_,rfl,?_⟩ | refine aD ?_ | fail
theorem HB (s:Sta) (hc:s.c.sm) (hr:s.run.length<=1048576):aA Tryz.prog 68 [s.av] [] (.ret (.bool (qU s))) []:=by
 have ho:=PA s.c hc s.run hr
 have hU:=EH s.c s.run
 have next:=QA s hc (ofL s.c s.run) hU (fun i hi=>by
  have:=I7 (c:=s.c) (l:=s.run) (n:=(i:Int)) ⟨by omega,by omega⟩
  rw [Br] at this
  exact this) _ (ofL s.c s.run).length 0 (by omega) rfl
 have e:((Eh 0 (ofL s.c s.run).length).all fun i:Nat=>bO (atV (ofL s.c s.run) (i:Int)) (lA s.c (i:Int)))=qU s:=by
  unfold qU
  rw [hU,Eu]
 rw [e] at next
 generalize qU s=q at next
 generalize ofL s.c s.run=U at ho next
 refine cT (E:=E) (fn:=Tryz.f68) (g:=.pure _) fun _=>?_
 repeat' first | (refine gN hE ?_;conv=>whnf) | refine .pure _ [] ho ?_ | exact rfl | refine aY ?_ | refine aN ?_ | refine aT fun h=>?_ | refine aF fun h=>?_ | refine ⟨fun h=>?_,fun h=>?_⟩ | refine aJ ?_ | refine ⟨_,rfl,?_⟩ | refine aD ?_ | fail
 refine To.part [1,3,4] [0] rfl rfl rfl ?_
 exact next
noncomputable abbrev uR:Func:=Tryz.f25
abbrev kO (s:Sta):List AObj:=[.cells 31 s.cs,.tail 0 1 3,.tail 0 1 3]
abbrev kF (j:Nat) (is qs:List Int) (ok:Bool) (i:Int):List (Nat×AVal):=[(1,.ref 0 0),(5,.slice 1 (iv is) (.own 1 0)),(6,.slice 1 (iv qs) (.own 2 0)),(7,.bool ok),(j,ii i)]
theorem RP (s:Sta) (hl:s.run.length<=1048576) (is qs:List Int) (i:Nat):To (Eo [5,6] []) uR (.pure (.ret (ii 1))) (.head (stk uR 1) (kF 9 is qs false (i:Int)) (kO s)):=by
 refine gW (hEo [5,6] []) ?_;conv=>whnf
 repeat' first | (refine gN (hEo [5,6] []) ?_;conv=>whnf) | exact rfl | refine aY ?_ | refine aN ?_ | refine aT fun h=>?_ | refine aF fun h=>?_ | refine ⟨fun h=>?_,fun h=>?_⟩ | refine aJ ?_ | refine ⟨_,rfl,?_⟩ | refine aD ?_ | fail
theorem RQ (s:Sta) (hl:s.run.length<=1048576) (is qs:List Int) (i:Nat):To (Eo [5,6] []) uR (.pure (.ret (ii 1))) (.head (stk uR 0) (kF 8 is qs false (i:Int)) (kO s)):=by
 have next:=RP s hl is qs 0
 refine gW (hEo [5,6] []) ?_;conv=>whnf
 repeat' first | (refine gN (hEo [5,6] []) ?_;conv=>whnf) | exact rfl | refine aY ?_ | refine aN ?_ | refine aT fun h=>?_ | refine aF fun h=>?_ | refine ⟨fun h=>?_,fun h=>?_⟩ | refine aJ ?_ | refine ⟨_,rfl,?_⟩ | refine aD ?_ | fail
 all_goals
  refine To.part [1,5,6,7,9] [0,1,2] rfl rfl rfl ?_
  exact next
def k3 (s:Sta):Int:=if (decide (ids s).Nodup&&(decide (uM s).Nodup&&qU s))=true then 0 else 1
theorem aBJ (s:Sta) (hc:s.c.sm) (hl:s.run.length<=32) (hp:s.pend.length<=32):To (Eo [5,6] []) uR (.pure (.ret (ii (k3 s)))) (.head (stk uR 1) (kF 9 (ids s) (uM s) true (s.run.length:Int)) (kO s)):=by
 have hlr:(rav s.run).length=s.run.length:=by simp
 have l1:(ids s).length<=64:=by unfold ids;simp;omega
 have l2:(uM s).length<=64:=by unfold uM;simp;omega
 have h1:=DD (ids s) (by omega)
 have h2:=DD (uM s) (by omega)
 have h3:=HB s hc (by omega)
 unfold k3
 generalize ids s=is at h1
 generalize uM s=qs at h2
 cases q1:decide is.Nodup with
 | false=>
  rw [q1] at h1
  show To _ _ (.pure (.ret (ii 1))) _
  refine gW (hEo [5,6] []) ?_;conv=>whnf
  refine aF fun h=>?_
  repeat' first | (refine gN (hEo [5,6] []) ?_;conv=>whnf) | refine .pure _ [] (aA.strip h1) ?_ | exact rfl | refine aY ?_ | refine aN ?_ | refine aT fun h=>?_ | refine aF fun h=>?_ | refine ⟨fun h=>?_,fun h=>?_⟩ | refine aJ ?_ | refine ⟨_,rfl,?_⟩ | refine aD ?_ | fail
 | true=>
  rw [q1] at h1
  cases q2:decide qs.Nodup with
  | false=>
   rw [q2] at h2
   show To _ _ (.pure (.ret (ii 1))) _
   refine gW (hEo [5,6] []) ?_;conv=>whnf
   refine aF fun h=>?_
   repeat' first | (refine gN (hEo [5,6] []) ?_;conv=>whnf) | refine .pure _ [] (aA.strip h1) ?_ | refine .pure _ [] (aA.strip h2) ?_ | exact rfl | refine aY ?_ | refine aN ?_ | refine aT fun h=>?_ | refine aF fun h=>?_ | refine ⟨fun h=>?_,fun h=>?_⟩ | refine aJ ?_ | refine ⟨_,rfl,?_⟩ | refine aD ?_ | fail
  | true=>
   rw [q2] at h2
   cases q3:qU s with
   | false=>
    rw [q3] at h3
    show To _ _ (.pure (.ret (ii 1))) _
    refine gW (hEo [5,6] []) ?_;conv=>whnf
    refine aF fun h=>?_
    repeat' first | (refine gN (hEo [5,6] []) ?_;conv=>whnf) | refine .pure _ [] (aA.strip h1) ?_ | refine .pure _ [] (aA.strip h2) ?_ | refine .pure _ [] h3 ?_ | exact rfl | refine aY ?_ | refine aN ?_ | refine aT fun h=>?_ | refine aF fun h=>?_ | refine ⟨fun h=>?_,fun h=>?_⟩ | refine aJ ?_ | refine ⟨_,rfl,?_⟩ | refine aD ?_ | fail
   | true=>
    rw [q3] at h3
    show To _ _ (.pure (.ret (ii 0))) _
    refine gW (hEo [5,6] []) ?_;conv=>whnf
    refine aF fun h=>?_
    repeat' first | (refine gN (hEo [5,6] []) ?_;conv=>whnf) | refine .pure _ [] (aA.strip h1) ?_ | refine .pure _ [] (aA.strip h2) ?_ | refine .pure _ [] h3 ?_ | exact rfl | refine aY ?_ | refine aN ?_ | refine aT fun h=>?_ | refine aF fun h=>?_ | refine ⟨fun h=>?_,fun h=>?_⟩ | refine aJ ?_ | refine ⟨_,rfl,?_⟩ | refine aD ?_ | fail
theorem aBH (s:Sta) (hc:s.c.sm) (hs:Sm s.run) (hl:s.run.length<=32) (hp:s.pend.length<=32) (r:Int):∀ (m i:Nat),i+m=s.run.length->(if ((s.run.drop i).all fun x=>pnB s x.pn&&rnB s x)=true then k3 s else 1)=r->
  To (Eo [5,6] []) uR (.pure (.ret (ii r))) (.head (stk uR 1) (kF 9 ((s.pend.map fun p=>p.g.id)++(s.run.take i).map fun x=>x.g.id) ((s.pend.map fun p=>p.seq)++(s.run.take i).map fun x=>x.seq) true (i:Int)) (kO s)):=by
 have hlr:(rav s.run).length=s.run.length:=by simp
 intro m
 induction m with
 | zero=>
  intro i hi hr
  rw [Af (by omega)] at hr
  have hr:k3 s=r:=hr
  subst hr
  have e:i=s.run.length:=by omega
  subst e
  rw [Fu]
  exact aBJ s hc hl hp
 | succ m ih=>
  intro i hi hr
  have hlt:i<s.run.length:=by omega
  have get:=fQ hlt
  have ho:=BQ s hc hs s.run[i] (hs.at hlt)
  have e0:s.run.take (i+1)=s.run.take i++[s.run[i]]:=by rw [Gw,Ac hlt];rfl
  have t1:(s.run.take (i+1)).map (fun x=>x.g.id)=(s.run.take i).map (fun x=>x.g.id)++[s.run[i].g.id]:=by rw [e0,Cf];rfl
  have t2:(s.run.take (i+1)).map (fun x=>x.seq)=(s.run.take i).map (fun x=>x.seq)++[s.run[i].seq]:=by rw [e0,Cf];rfl
  have k1:((s.pend.map fun p=>p.g.id)++(s.run.take i).map fun x=>x.g.id).length<=64:=by simp;omega
  have k2:((s.pend.map fun p=>p.seq)++(s.run.take i).map fun x=>x.seq).length<=64:=by simp;omega
  rw [Ae hlt,Dq] at hr
  have ih:=ih (i+1) (by omega)
  rw [t1,t2,<-Aj,<-Aj] at ih
  generalize s.run[i]=x at get ho hr ih
  generalize (s.pend.map fun p=>p.g.id)++(s.run.take i).map (fun x=>x.g.id)=is at ih k1
  generalize (s.pend.map fun p=>p.seq)++(s.run.take i).map (fun x=>x.seq)=qs at ih k2
  refine gW (hEo [5,6] []) ?_;conv=>whnf
  refine aT fun h=>?_
  refine gW (hEo [5,6] []) ?_;conv=>whnf
  refine aY ?_
  refine bW (hEo [5,6] []) 4 ?_;conv=>whnf
  refine To.permV (hEo [5,6] []) [0,1,2,3,4,5,6,7,8,10,11,12,13,14,15,16,17] [9,18,19,20] (by rfl) ?_;conv=>whnf
  refine ⟨i,rfl,?_⟩;conv=>whnf
  refine ⟨_,get,?_⟩;conv=>whnf
  refine ⟨i,rfl,?_⟩;conv=>whnf
  refine ⟨_,get,?_⟩;conv=>whnf
  refine Aa (by repeat (first | exact trivial | refine Aa rfl ?_ | refine Aa (Al i (Aa rfl (Al _ (Aa get rfl)))) ?_)) ?_;conv=>whnf
  refine Aa (Aa (show (iv is).length+1<=maxLen by simp only [maxLen];simp;omega) (show ((iv is).length+1)*8<=140737488355328 by simp;omega)) ?_;conv=>whnf
  refine Aa (by repeat (first | exact trivial | refine Aa rfl ?_ | refine Aa (Al i (Aa rfl (Al _ (Aa get rfl)))) ?_)) ?_;conv=>whnf
  refine Aa (Aa (show (iv qs).length+1<=maxLen by simp only [maxLen];simp;omega) (show ((iv qs).length+1)*8<=140737488355328 by simp;omega)) ?_;conv=>whnf
  refine Aa (by repeat (first | exact trivial | refine Aa rfl ?_ | refine Aa (Al i (Aa rfl (Al _ (Aa get rfl)))) ?_)) ?_;conv=>whnf
  refine Aa (by repeat (first | exact trivial | refine Aa rfl ?_ | refine Aa (Al i (Aa rfl (Al _ (Aa get rfl)))) ?_)) ?_;conv=>whnf
  refine Aa (by repeat (first | exact trivial | refine Aa rfl ?_ | refine Aa (Al i (Aa rfl (Al _ (Aa get rfl)))) ?_)) ?_
  cases hb:(pnB s x.pn&&rnB s x) with
  | true=>
   rw [hb,Bt] at hr
   rw [hb] at ho
   have next:=ih hr
   unfold kF at next
   rw [show iv (is++[x.g.id])=iv is++[ii x.g.id] from by simp,show iv (qs++[x.seq])=iv qs++[ii x.seq] from by simp] at next
   repeat' first | (refine gN (hEo [5,6] []) ?_;conv=>whnf) | refine ⟨i,rfl,?_⟩ | refine ⟨_,get,?_⟩ | refine .pure _ [] ho ?_ | exact rfl | refine aY ?_ | refine aN ?_ | refine aT fun h=>?_ | refine aF fun h=>?_ | refine ⟨fun h=>?_,fun h=>?_⟩ | refine aJ ?_ | refine ⟨_,rfl,?_⟩ | refine aD ?_ | fail
   refine To.part [1,5,6,7,9] [0,1,2] rfl rfl rfl ?_
   exact next
  | false=>
   rw [hb,Ce,if_neg (by decide)] at hr
   subst hr
   rw [hb] at ho
   have next:=RP s (by omega) (is++[x.g.id]) (qs++[x.seq]) (i+1)
   unfold kF at next
   rw [show iv (is++[x.g.id])=iv is++[ii x.g.id] from by simp,show iv (qs++[x.seq])=iv qs++[ii x.seq] from by simp] at next
   repeat' first | (refine gN (hEo [5,6] []) ?_;conv=>whnf) | refine ⟨i,rfl,?_⟩ | refine ⟨_,get,?_⟩ | refine .pure _ [] ho ?_ | exact rfl | refine aY ?_ | refine aN ?_ | refine aT fun h=>?_ | refine aF fun h=>?_ | refine ⟨fun h=>?_,fun h=>?_⟩ | refine aJ ?_ | refine ⟨_,rfl,?_⟩ | refine aD ?_ | fail
   refine To.part [1,5,6,7,9] [0,1,2] rfl rfl rfl ?_
   exact next
def k2v (s:Sta):Int:=if (s.run.all fun x=>pnB s x.pn&&rnB s x)=true then k3 s else 1
theorem aBI (s:Sta) (hc:s.c.sm) (hs:Sm s.run) (hl:s.run.length<=32) (hp:s.pend.length<=32) (r:Int):∀ (m i:Nat),i+m=s.pend.length->(if (s.pend.drop i).all (pnB s)=true then k2v s else 1)=r->
  To (Eo [5,6] []) uR (.pure (.ret (ii r))) (.head (stk uR 0) (kF 8 ((s.pend.take i).map fun x=>x.g.id) ((s.pend.take i).map fun x=>x.seq) true (i:Int)) (kO s)):=by
 have hlr:(pnv s.pend).length=s.pend.length:=by simp
 intro m
 induction m with
 | zero=>
  intro i hi hr
  rw [Af (by omega)] at hr
  have hr:k2v s=r:=hr
  have e:i=s.pend.length:=by omega
  subst e
  have next:=aBH s hc hs hl hp r s.run.length 0 (by omega) hr
  rw [Fu]
  rw [Ft,Kt,Kt,Ay,Ay] at next
  generalize (s.pend.map fun p=>p.g.id)=is at next
  generalize (s.pend.map fun p=>p.seq)=qs at next
  refine gW (hEo [5,6] []) ?_;conv=>whnf
  refine aF fun h=>?_
  repeat' first | (refine gN (hEo [5,6] []) ?_;conv=>whnf) | exact rfl | refine aY ?_ | refine aN ?_ | refine aT fun h=>?_ | refine aF fun h=>?_ | refine ⟨fun h=>?_,fun h=>?_⟩ | refine aJ ?_ | refine ⟨_,rfl,?_⟩ | refine aD ?_ | fail
  refine To.part [1,5,6,7,9] [0,1,2] rfl rfl rfl ?_
  exact next
 | succ m ih=>
  intro i hi hr
  have hlt:i<s.pend.length:=by omega
  have get:=uX hlt
  have ho:=A1 s hc s.pend[i]
  have e0:s.pend.take (i+1)=s.pend.take i++[s.pend[i]]:=by rw [Gw,Ac hlt];rfl
  have t1:(s.pend.take (i+1)).map (fun x=>x.g.id)=(s.pend.take i).map (fun x=>x.g.id)++[s.pend[i].g.id]:=by rw [e0,Cf];rfl
  have t2:(s.pend.take (i+1)).map (fun x=>x.seq)=(s.pend.take i).map (fun x=>x.seq)++[s.pend[i].seq]:=by rw [e0,Cf];rfl
  have k1:((s.pend.take i).map fun x=>x.g.id).length<=64:=by simp;omega
  have k2:((s.pend.take i).map fun x=>x.seq).length<=64:=by simp;omega
  rw [Ae hlt,Dq] at hr
  have ih:=ih (i+1) (by omega)
  rw [t1,t2] at ih
  generalize s.pend[i]=x at get ho hr ih
  generalize (s.pend.take i).map (fun x=>x.g.id)=is at ih k1
  generalize (s.pend.take i).map (fun x=>x.seq)=qs at ih k2
  refine gW (hEo [5,6] []) ?_;conv=>whnf
  refine aT fun h=>?_
  refine gW (hEo [5,6] []) ?_;conv=>whnf
  refine aY ?_
  refine bW (hEo [5,6] []) 4 ?_;conv=>whnf
  refine To.permV (hEo [5,6] []) [0,1,2,3,4,5,6,7,8,10,11,12,13,14,15,16,17] [9,18,19,20] (by rfl) ?_;conv=>whnf
  refine ⟨i,rfl,?_⟩;conv=>whnf
  refine ⟨_,get,?_⟩;conv=>whnf
  refine ⟨i,rfl,?_⟩;conv=>whnf
  refine ⟨_,get,?_⟩;conv=>whnf
  refine Aa (by repeat (first | exact trivial | refine Aa rfl ?_ | refine Aa (Al i (Aa rfl (Al _ (Aa get rfl)))) ?_)) ?_;conv=>whnf
  refine Aa (Aa (show (iv is).length+1<=maxLen by simp only [maxLen];simp;omega) (show ((iv is).length+1)*8<=140737488355328 by simp;omega)) ?_;conv=>whnf
  refine Aa (by repeat (first | exact trivial | refine Aa rfl ?_ | refine Aa (Al i (Aa rfl (Al _ (Aa get rfl)))) ?_)) ?_;conv=>whnf
  refine Aa (Aa (show (iv qs).length+1<=maxLen by simp only [maxLen];simp;omega) (show ((iv qs).length+1)*8<=140737488355328 by simp;omega)) ?_;conv=>whnf
  refine Aa (by repeat (first | exact trivial | refine Aa rfl ?_ | refine Aa (Al i (Aa rfl (Al _ (Aa get rfl)))) ?_)) ?_;conv=>whnf
  refine Aa (by repeat (first | exact trivial | refine Aa rfl ?_ | refine Aa (Al i (Aa rfl (Al _ (Aa get rfl)))) ?_)) ?_;conv=>whnf
  refine Aa (by repeat (first | exact trivial | refine Aa rfl ?_ | refine Aa (Al i (Aa rfl (Al _ (Aa get rfl)))) ?_)) ?_
  cases hb:pnB s x with
  | true=>
   rw [hb,Bt] at hr
   rw [hb] at ho
   have next:=ih hr
   unfold kF at next
   rw [show iv (is++[x.g.id])=iv is++[ii x.g.id] from by simp,show iv (qs++[x.seq])=iv qs++[ii x.seq] from by simp] at next
   repeat' first | (refine gN (hEo [5,6] []) ?_;conv=>whnf) | refine ⟨i,rfl,?_⟩ | refine ⟨_,get,?_⟩ | refine .pure _ [] ho ?_ | exact rfl | refine aY ?_ | refine aN ?_ | refine aT fun h=>?_ | refine aF fun h=>?_ | refine ⟨fun h=>?_,fun h=>?_⟩ | refine aJ ?_ | refine ⟨_,rfl,?_⟩ | refine aD ?_ | fail
   refine To.part [1,5,6,7,8] [0,1,2] rfl rfl rfl ?_
   exact next
  | false=>
   rw [hb,Ce,if_neg (by decide)] at hr
   subst hr
   rw [hb] at ho
   have next:=RQ s (by omega) (is++[x.g.id]) (qs++[x.seq]) (i+1)
   unfold kF at next
   rw [show iv (is++[x.g.id])=iv is++[ii x.g.id] from by simp,show iv (qs++[x.seq])=iv qs++[ii x.seq] from by simp] at next
   repeat' first | (refine gN (hEo [5,6] []) ?_;conv=>whnf) | refine ⟨i,rfl,?_⟩ | refine ⟨_,get,?_⟩ | refine .pure _ [] ho ?_ | exact rfl | refine aY ?_ | refine aN ?_ | refine aT fun h=>?_ | refine aF fun h=>?_ | refine ⟨fun h=>?_,fun h=>?_⟩ | refine aJ ?_ | refine ⟨_,rfl,?_⟩ | refine aD ?_ | fail
   refine To.part [1,5,6,7,8] [0,1,2] rfl rfl rfl ?_
   exact next
theorem H9 (c:Con):fV c=true↔(nav c.ns).length=0/\(hav c.hs).length=0/\c.half=0/\c.age=0:=by
 unfold fV
 simp only [Ad,decide_eq_true_eq,Cv,List.length_eq_zero_iff]
set_option maxHeartbeats 2000000 in
theorem FY (s:Sta) (hp:s.pend.length<=1048576) (hr:s.run.length<=1048576) (e:Bool) (he:e=true↔(nav s.c.ns).length=0/\(hav s.c.hs).length=0/\s.c.half=0/\s.c.age=0) (k:Int) (q:Bool) (b:Int)
  (hk:aA Tryz.prog 14 [s.c.av] [] (.ret (ii k)) [])
  (hq:s.pend.length<=32->aA Tryz.prog 45 [.slice 11 (pnv s.pend) .no] [] (.ret (.bool q)) [])
  (hbad:¬((e=true\/k=0)/\gE s)->b=1)
  (hgood:(e=true\/k=0)->gE s->To (Eo [5,6] []) uR (.pure (.ret (ii b))) (.head (stk uR 0) (kF 8 [] [] q 0) (kO s))):
  aA Tryz.prog 25 [s.av] [] (.ret (ii b)) []:=by
 have hlp:(pnv s.pend).length=s.pend.length:=by simp
 have hlr:(rav s.run).length=s.run.length:=by simp
 have hlh:(fv s.hist).length=s.hist.length:=by simp
 have hln:(nav s.c.ns).length=s.c.ns.length:=by simp
 cases e with
 | true=>
  obtain ⟨q1,q2,q3,q4⟩:=he.1 rfl
  clear he
  have e1:(((nav s.c.ns).length:Int)==0)=true:=by rw [q1];rfl
  have e2:(((hav s.c.hs).length:Int)==0)=true:=by rw [q2];rfl
  have e3:(s.c.half==0)=true:=by rw [q3];rfl
  have e4:(s.c.age==0)=true:=by rw [q4];rfl
  refine cT (E:=(Eo [5,6] [])) (fn:=Tryz.f25) (g:=.pure _) fun _=>?_
  repeat' first | (refine gN (hEo [5,6] []) ?_;conv=>whnf) | refine Aa (fun _=>?_) (fun h=>absurd (e1.symm.trans h) (by decide)) | refine Aa (fun _=>?_) (fun h=>absurd (e2.symm.trans h) (by decide)) | refine Aa (fun _=>?_) (fun h=>absurd (e3.symm.trans h) (by decide)) | refine Aa (fun _=>?_) (fun h=>absurd (e4.symm.trans h) (by decide)) | refine .pure _ [] hk ?_ | refine .pure _ [] (hq (by simp only [decide_eq_true_eq,decide_eq_false_iff_not] at *;omega)) ?_ | refine aJ ?_ | exact rfl | refine aY ?_ | refine aN ?_ | refine aT fun h=>?_ | refine aF fun h=>?_ | refine ⟨fun h=>?_,fun h=>?_⟩ | refine aJ ?_ | refine ⟨_,rfl,?_⟩ | refine aD ?_ | fail
  all_goals
   first
   | (refine congrArg (fun n=>Res.ret (AVal.int .i64 n)) (hbad fun hh=>?_).symm
      have h9:=hh.2
      unfold gE at h9
      clear hbad hgood hk hq hh
      simp only [decide_eq_true_eq,decide_eq_false_iff_not,bne_iff_ne,bne_eq_false_iff_eq,ne_eq,Cb,De,beq_iff_eq,beq_eq_false_iff_ne,Dl] at *
      omega)
   | (have hlens:gE s:=by
       clear hbad hgood hk hq
       unfold gE
       simp only [decide_eq_true_eq,decide_eq_false_iff_not,bne_iff_ne,bne_eq_false_iff_eq,ne_eq,Cb,De,beq_iff_eq,beq_eq_false_iff_ne,Dl] at *
       omega
      refine To.part [1,5,6,7,8] [0,2,3] rfl rfl rfl ?_
      exact hgood (.inl rfl) hlens)
 | false=>
  have hne:¬ ((nav s.c.ns).length=0/\(hav s.c.hs).length=0/\s.c.half=0/\s.c.age=0):=fun h=>absurd (he.2 h) (by decide)
  clear he
  refine cT (E:=(Eo [5,6] [])) (fn:=Tryz.f25) (g:=.pure _) fun _=>?_
  repeat' first | (refine gN (hEo [5,6] []) ?_;conv=>whnf) | refine .pure _ [] hk ?_ | refine .pure _ [] (hq (by simp only [decide_eq_true_eq,decide_eq_false_iff_not] at *;omega)) ?_ | refine aJ ?_ | exact rfl | refine aY ?_ | refine aN ?_ | refine aT fun h=>?_ | refine aF fun h=>?_ | refine ⟨fun h=>?_,fun h=>?_⟩ | refine aJ ?_ | refine ⟨_,rfl,?_⟩ | refine aD ?_ | fail
  all_goals
   first
   | (refine congrArg (fun n=>Res.ret (AVal.int .i64 n)) (hbad fun hh=>?_).symm
      have h9:=hh.2
      have h8:=hh.1.resolve_left (by decide)
      unfold gE at h9
      clear hbad hgood hk hq hh
      simp only [decide_eq_true_eq,decide_eq_false_iff_not,bne_iff_ne,bne_eq_false_iff_eq,ne_eq,Cb,De,beq_iff_eq,beq_eq_false_iff_ne,Dl] at *
      omega)
   | (exfalso
      clear hbad hgood hk hq
      simp only [decide_eq_true_eq,decide_eq_false_iff_not,bne_iff_ne,bne_eq_false_iff_eq,ne_eq,Cb,De,beq_iff_eq,beq_eq_false_iff_ne,Dl] at *
      omega)
   | (have hk0:k=0:=by
       clear hbad hgood hk hq
       simp only [decide_eq_true_eq,decide_eq_false_iff_not,bne_iff_ne,bne_eq_false_iff_eq,ne_eq,Cb,De,beq_iff_eq,beq_eq_false_iff_ne,Dl] at *
       omega
      have hlens:gE s:=by
       clear hbad hgood hk hq
       unfold gE
       simp only [decide_eq_true_eq,decide_eq_false_iff_not,bne_iff_ne,bne_eq_false_iff_eq,ne_eq,Cb,De,beq_iff_eq,beq_eq_false_iff_ne,Dl] at *
       omega
      refine To.part [1,5,6,7,8] [0,2,3] rfl rfl rfl ?_
      exact hgood (.inr hk0) hlens)
theorem qAb (s:Sta) (hc:s.c.sm) (hp:s.pend.length<=1048576) (hs:Sm s.run):aA Tryz.prog 25 [s.av] [] (.ret (ii (if gA s=true then 0 else 1))) []:=by
 have hsp:gA s=true↔((fV s.c=true\/eV s.c=0)/\gE s)/\O7 s.pend=true/\s.pend.all (pnB s)=true/\(s.run.all fun r=>pnB s r.pn&&rnB s r)=true/\(decide (ids s).Nodup&&(decide (uM s).Nodup&&qU s))=true:=by
  unfold gA FB gE
  simp only [Ad,Dg,decide_eq_true_eq]
  constructor
  .rintro ⟨h1,h2,⟨h3,h4⟩,h5⟩;exact ⟨h1,h2,h3,h4,h5⟩
  .rintro ⟨h1,h2,h3,h4,h5⟩;exact ⟨h1,h2,⟨h3,h4⟩,h5⟩
 refine FY s hp hs.1 (fV s.c) (H9 s.c) (eV s.c) (O7 s.pend) _ (check_ok s.c hc) (fun h=>?_) (fun h=>?_) (fun h1 h2=>?_)
 .have:=Q2.checkref_ok (s.pend.map Pn.q) (by rw [Cv];omega)
  rw [QM] at this
  exact this
 .exact if_neg fun hk=>h (hsp.1 hk).1
 .have hl:s.run.length<=32/\s.pend.length<=32:=by unfold gE at h2;omega
  cases hrow:O7 s.pend with
  | false=>
   rw [if_neg fun hk=>by have:=(hsp.1 hk).2.1;rw [hrow] at this;cases this]
   exact RQ s (by omega) [] [] 0
  | true=>
   have next:=aBI s hc hs hl.1 hl.2 (if gA s=true then 0 else 1) s.pend.length 0 (by omega) (by
    rw [Db]
    unfold k2v k3
    by_cases a1:s.pend.all (pnB s)=true
    .rw [if_pos a1]
     by_cases a2:(s.run.all fun r=>pnB s r.pn&&rnB s r)=true
     .rw [if_pos a2]
      by_cases a3:(decide (ids s).Nodup&&(decide (uM s).Nodup&&qU s))=true
      .rw [if_pos a3,if_pos (hsp.2 ⟨⟨h1,h2⟩,hrow,a1,a2,a3⟩)]
      .rw [if_neg a3,if_neg fun hk=>a3 (hsp.1 hk).2.2.2.2]
     .rw [if_neg a2,if_neg fun hk=>a2 (hsp.1 hk).2.2.2.1]
    .rw [if_neg a1,if_neg fun hk=>a1 (hsp.1 hk).2.2.1])
   exact next
open C8 (leN leN_lt dO wD pl putN)
set_option maxRecDepth 10000
noncomputable abbrev aB3:Func:=Tryz.f71
theorem HF (x:Nat):∀ (m i:Nat),i+m=8->
  To E aB3 (.pure (.ret (.str (lH x)))) (.head (stk aB3 0) [(0,.int .u64 x),(3,.str (xW x i)),(4,.int .i64 i)] []):=by
 intro m
 induction m with
 | zero=>
  intro i hi
  have e:i=8:=by omega
  subst e
  refine gW hE ?_;conv=>whnf
  refine aF fun h=>?_
  repeat' first | (refine gN hE ?_;conv=>whnf) | exact rfl | refine aY ?_ | refine aN ?_ | refine aT fun h=>?_ | refine aF fun h=>?_ | refine ⟨fun h=>?_,fun h=>?_⟩ | refine aJ ?_ | refine ⟨_,rfl,?_⟩ | refine aD ?_ | fail
 | succ m ih=>
  intro i hi
  have e1:(8*(i:Int)).toNat=8*i:=by omega
  have e2:=aBU x i
  have next:=ih (i+1) (by omega)
  rw [sY] at next
  have hl:=eM x i
  refine gW hE ?_;conv=>whnf
  refine aT fun h=>?_
  repeat' first | (refine gN hE ?_;conv=>whnf) | refine @Or.inr (inR IntKind.u8 _/\_) _ ?_ | refine aJ ?_ | refine Aa (Aa (show (0:Int)<=8*(i:Int) by omega) (show (8*(i:Int)).toNat<=64 by omega)) ?_ | refine Aa (show (8*(i:Int)).toNat<=64 by omega) ?_ | refine Al [xX x i] (Aa (by rw [e1,e2];rfl) (Aa (by simp) ?_)) | refine Aa (by simp only [Ag,Ao,Bg];omega) ?_ | exact rfl | refine aY ?_ | refine aN ?_ | refine aT fun h=>?_ | refine aF fun h=>?_ | refine ⟨fun h=>?_,fun h=>?_⟩ | refine aJ ?_ | refine ⟨_,rfl,?_⟩ | refine aD ?_ | fail
  refine To.part [0,3,4] [] rfl rfl rfl ?_
  exact next
theorem QJ (x:Nat):aA Tryz.prog 71 [.int .u64 x] [] (.ret (.str (lH x))) []:=by
 have next:=HF x 8 0 rfl
 refine cT (E:=E) (fn:=Tryz.f71) (g:=.pure _) fun _=>?_
 repeat' first | (refine gN hE ?_;conv=>whnf) | exact rfl | refine aY ?_ | refine aN ?_ | refine aT fun h=>?_ | refine aF fun h=>?_ | refine ⟨fun h=>?_,fun h=>?_⟩ | refine aJ ?_ | refine ⟨_,rfl,?_⟩ | refine aD ?_ | fail
 refine To.part [0,3,4] [] rfl rfl rfl ?_
 exact next
noncomputable abbrev aB6:Func:=Tryz.f63
theorem HV (l:List UInt8) (hl:8<=l.length):∀ (m j:Nat),j+m=8->
  To E aB6 (.pure (.ret (.tup [.int .u64 (leN (l.take 8)),.int .i64 8,.int .i64 0]))) (.head (stk aB6 0) [(0,.str l),(5,.int .u64 (leN ((l.take 8).drop (8-j)))),(6,.int .i64 (7-(j:Int)))] []):=by
 intro m
 induction m with
 | zero=>
  intro j hj
  have e:j=8:=by omega
  subst e
  rw [Nat.sub_self,Db]
  refine gW hE ?_;conv=>whnf
  refine aF fun h=>?_
  repeat' first | (refine gN hE ?_;conv=>whnf) | exact rfl | refine aY ?_ | refine aN ?_ | refine aT fun h=>?_ | refine aF fun h=>?_ | refine ⟨fun h=>?_,fun h=>?_⟩ | refine aJ ?_ | refine ⟨_,rfl,?_⟩ | refine aD ?_ | fail
 | succ m ih=>
  intro j hj
  have hlt:7-j<(l.take 8).length:=by rw [Cq];omega
  have hc:l[7-j]? =some (l.take 8)[7-j]:=by
   rw [List.getElem_take,Ac]
  have hd:(l.take 8).drop (8-(j+1))=(l.take 8)[7-j]::(l.take 8).drop (8-j):=by
   have:=Ae hlt
   rw [show 7-j+1=8-j from by omega] at this
   rw [show 8-(j+1)=7-j from by omega]
   exact this
  have hb:=leN_lt ((l.take 8).drop (8-j))
  rw [Dy,Cq,show min 8 l.length-(8-j)=j from by omega] at hb
  have next:=ih (j+1) (by omega)
  rw [hd] at next
  generalize (l.take 8)[7-j]=c at hc next
  have hc2:c.toNat<256:=c.toNat_lt
  have h6:2 ^ (8*j)<=2 ^ 56:=Dm (by decide) (by omega)
  have ev:leN (c::(l.take 8).drop (8-j))=c.toNat+256*leN ((l.take 8).drop (8-j)):=rfl
  rw [ev] at next
  generalize leN ((l.take 8).drop (8-j))=x at hb next
  have e3:(x:Int)*256+(c.toNat:Int)=((c.toNat+256*x:Nat):Int):=by omega
  have e4:(7:Int)-(j:Int)-1=7-((j+1:Nat):Int):=by omega
  rw [<-e3,<-e4] at next
  have e5:(7:Int)-(j:Int)=((7-j:Nat):Int):=by omega
  refine gW hE ?_;conv=>whnf
  refine aT fun h=>?_
  repeat' first | (refine gN hE ?_;conv=>whnf) | refine aJ ?_ | refine Al (7-j) (Aa e5 ?_) | refine ⟨c,hc,?_⟩ | exact rfl | refine aY ?_ | refine aN ?_ | refine aT fun h=>?_ | refine aF fun h=>?_ | refine ⟨fun h=>?_,fun h=>?_⟩ | refine aJ ?_ | refine ⟨_,rfl,?_⟩ | refine aD ?_ | fail
  refine To.part [0,5,6] [] rfl rfl rfl ?_
  exact next
theorem R3 (l:List UInt8):aA Tryz.prog 63 [.str l] [] (.ret (oQ l)) []:=by
 unfold oQ
 by_cases h:l.length<8
 .rw [if_pos h]
  refine cT (E:=E) (fn:=Tryz.f63) (g:=.pure _) fun _=>?_
  refine gW hE ?_;conv=>whnf
  refine Aa (fun _=>?_) (fun h=>absurd (of_decide_eq_false h) (by omega))
  repeat' first | (refine gN hE ?_;conv=>whnf) | exact rfl | refine aY ?_ | refine aN ?_ | refine aT fun h=>?_ | refine aF fun h=>?_ | refine ⟨fun h=>?_,fun h=>?_⟩ | refine aJ ?_ | refine ⟨_,rfl,?_⟩ | refine aD ?_ | fail
 .rw [if_neg h]
  have next:=HV l (by omega) 8 0 rfl
  rw [Fy,Jr (by rw [Cq];omega)] at next
  refine cT (E:=E) (fn:=Tryz.f63) (g:=.pure _) fun _=>?_
  refine gW hE ?_;conv=>whnf
  refine Aa (fun h=>absurd (of_decide_eq_true h) (by omega)) (fun _=>?_)
  repeat' first | (refine gN hE ?_;conv=>whnf) | exact rfl | refine aY ?_ | refine aN ?_ | refine aT fun h=>?_ | refine aF fun h=>?_ | refine ⟨fun h=>?_,fun h=>?_⟩ | refine aJ ?_ | refine ⟨_,rfl,?_⟩ | refine aD ?_ | fail
  refine To.part [0,5,6] [] rfl rfl rfl ?_
  exact next
open C8 (dO wD pl putN pn_len)
set_option maxRecDepth 10000
noncomputable abbrev kL:Func:=Tryz.f26
abbrev pwO (s:Sta):List AObj:=[.cells 31 s.cs]
theorem aAo (s:Sta) (x:Rn) (hx:okI x.hs=true) (hl:x.hs.length<=16) (i:Nat) (hi:i<100) (B:List UInt8) (rest:List UInt8)
  (cont:∀ bs:List UInt8,bs++rest=B->bs.length<=40000->To E kL (.pure (.ret (.str B))) (.head (stk kL 2) [(1,.ref 0 0),(5,.str bs),(9,.int .i64 ((i:Int)+1))] (pwO s))):∀ (m k:Nat) (bs:List UInt8),k+m=x.hs.length->bs.length+10*m<=40000->bs++(pl (x.hs.drop k)++rest)=B->
  To E kL (.pure (.ret (.str B))) (.head (stk kL 3) [(1,.ref 0 0),(5,.str bs),(9,.int .i64 i),(10,.ref 1 0),(11,.int .i64 k)] (pwO s++[.cells 70 x.cs])):=by
 have hlen:(iv x.hs).length=x.hs.length:=by simp
 intro m
 induction m with
 | zero=>
  intro k bs hk hbl hB
  rw [Af (by omega)] at hB
  have next:=cont bs hB (by omega)
  refine gW hE ?_;conv=>whnf
  refine aF fun h=>?_
  repeat' first | (refine gN hE ?_;conv=>whnf) | exact rfl | refine aY ?_ | refine aN ?_ | refine aT fun h=>?_ | refine aF fun h=>?_ | refine ⟨fun h=>?_,fun h=>?_⟩ | refine aJ ?_ | refine ⟨_,rfl,?_⟩ | refine aD ?_ | fail
  refine To.part [1,5,9] [0] rfl rfl rfl ?_
  exact next
 | succ m ih=>
  intro k bs hk hbl hB
  have hlt:k<x.hs.length:=by omega
  rw [Ae hlt] at hB
  have get:=cG hlt
  have hu:=fD hx x.hs[k] (Bn hlt)
  generalize x.hs[k]=u at hB get hu
  have hp:=pn_len hu
  have hB:bs++((putN u.toNat++pl (x.hs.drop (k+1)))++rest)=B:=hB
  rw [Aj (putN u.toNat),<-Aj bs] at hB
  have next:=ih (k+1) _ (by omega) (by rw [Ag];omega) hB
  refine gW hE ?_;conv=>whnf
  refine aT fun h=>?_
  repeat' first | (refine gN hE ?_;conv=>whnf) | refine ⟨k,rfl,?_⟩ | refine ⟨_,get,?_⟩ | refine .pure _ [] (dO _) ?_ | refine Aa (by simp only [Ag];omega) ?_ | exact rfl | refine aY ?_ | refine aN ?_ | refine aT fun h=>?_ | refine aF fun h=>?_ | refine ⟨fun h=>?_,fun h=>?_⟩ | refine aJ ?_ | refine ⟨_,rfl,?_⟩ | refine aD ?_ | fail
  refine To.part [1,5,9,10,11] [0,1] rfl rfl rfl ?_
  exact next
theorem aAm (s:Sta) (w:Wr s) (B:List UInt8):∀ (m i:Nat) (bs:List UInt8),i+m=s.run.length->bs.length+300*m<=30000->bs++eB (s.run.drop i)=B->
  To E kL (.pure (.ret (.str B))) (.head (stk kL 2) [(1,.ref 0 0),(5,.str bs),(9,.int .i64 i)] (pwO s)):=by
 have hlen:(rav s.run).length=s.run.length:=by simp
 have hlr:=w.run
 intro m
 induction m with
 | zero=>
  intro i bs hi hbl hB
  rw [Af (by omega)] at hB
  have hB:bs++[]=B:=hB
  rw [Ay] at hB
  subst hB
  refine gW hE ?_;conv=>whnf
  refine aF fun h=>?_
  repeat' first | (refine gN hE ?_;conv=>whnf) | exact rfl | refine aY ?_ | refine aN ?_ | refine aT fun h=>?_ | refine aF fun h=>?_ | refine ⟨fun h=>?_,fun h=>?_⟩ | refine aJ ?_ | refine ⟨_,rfl,?_⟩ | refine aD ?_ | fail
 | succ m ih=>
  intro i bs hi hbl hB
  have hlt:i<s.run.length:=by omega
  rw [Ae hlt] at hB
  have get:=fQ hlt
  obtain ⟨g1,g2,g3,g4,g5⟩:=w.rg s.run[i] (Bn hlt)
  generalize s.run[i]=x at hB get g1 g2 g3 g4 g5
  have hB:bs++((pl x.g.il++pl [x.seq,x.at',x.st,x.fl]++pl x.hs)++eB (s.run.drop (i+1)))=B:=hB
  have l1:=vE x.g g1
  have p1:=pn_len (fD g2 x.seq (by simp))
  have p2:=pn_len (fD g2 x.at' (by simp))
  have p3:=pn_len (fD g2 x.st (by simp))
  have p4:=pn_len (fD g2 x.fl (by simp))
  have l3:=C8.pl_len (fD g3)
  have hpg:=wD x.g g1
  have hB2:(bs++((((pl x.g.il++putN x.seq.toNat)++putN x.at'.toNat)++putN x.st.toNat)++putN x.fl.toNat))++(pl (x.hs.drop 0)++eB (s.run.drop (i+1)))=B:=by
   rw [<-hB]
   simp [pl]
  have next:=aAo s x g3 g5 i (by omega) B (eB (s.run.drop (i+1))) (fun bs' e hb'=>ih (i+1) bs' (by omega) (by
   have:bs'.length+(eB (s.run.drop (i+1))).length=B.length:=by rw [<-e,Ag]
   have h2:=congrArg Hu hB2
   simp only [Ag,Db] at h2
   omega) e) x.hs.length 0 _ (by omega) (by simp only [Ag];omega) hB2
  refine gW hE ?_;conv=>whnf
  refine aT fun h=>?_
  repeat' first | (refine gN hE ?_;conv=>whnf) | refine ⟨i,rfl,?_⟩ | refine ⟨_,get,?_⟩ | refine .pure _ [] hpg ?_ | refine .pure _ [] (dO _) ?_ | refine Aa (by simp only [Ag];omega) ?_ | exact rfl | refine aY ?_ | refine aN ?_ | refine aT fun h=>?_ | refine aF fun h=>?_ | refine ⟨fun h=>?_,fun h=>?_⟩ | refine aJ ?_ | refine ⟨_,rfl,?_⟩ | refine aD ?_ | fail
  refine To.part [1,5,9,10,11] [0,1] rfl rfl rfl ?_
  exact next
theorem aAn (s:Sta) (w:Wr s) (B:List UInt8):∀ (m i:Nat) (bs:List UInt8),i+m=s.pend.length->bs.length+150*m<=20000->bs++gJ (s.pend.drop i)++(pl [(s.run.length:Int)]++eB s.run)=B->
  To E kL (.pure (.ret (.str B))) (.head (stk kL 1) [(1,.ref 0 0),(5,.str bs),(7,.int .i64 i)] (pwO s)):=by
 have hlen:(pnv s.pend).length=s.pend.length:=by simp
 have hlr:(rav s.run).length=s.run.length:=by simp
 have hlp:=w.pen
 have hrr:=w.run
 intro m
 induction m with
 | zero=>
  intro i bs hi hbl hB
  rw [Af (by omega)] at hB
  have hB:bs++[]++(pl [(s.run.length:Int)]++eB s.run)=B:=hB
  have p1:=pn_len (n:=(s.run.length:Int)) (by omega)
  have hB2:(bs++putN (s.run.length:Int).toNat)++eB (s.run.drop 0)=B:=by rw [<-hB];simp [pl]
  have next:=aAm s w B s.run.length 0 _ (by omega) (by rw [Ag];omega) hB2
  rw [<-hlr] at next p1
  refine gW hE ?_;conv=>whnf
  refine aF fun h=>?_
  repeat' first | (refine gN hE ?_;conv=>whnf) | refine .pure _ [] (dO _) ?_ | refine Aa (by simp only [Ag];omega) ?_ | exact rfl | refine aY ?_ | refine aN ?_ | refine aT fun h=>?_ | refine aF fun h=>?_ | refine ⟨fun h=>?_,fun h=>?_⟩ | refine aJ ?_ | refine ⟨_,rfl,?_⟩ | refine aD ?_ | fail
  refine To.part [1,5,9] [0] rfl rfl rfl ?_
  exact next
 | succ m ih=>
  intro i bs hi hbl hB
  have hlt:i<s.pend.length:=by omega
  rw [Ae hlt] at hB
  have get:=uX hlt
  obtain ⟨g1,g2⟩:=w.pg s.pend[i] (Bn hlt)
  generalize s.pend[i]=x at hB get g1 g2
  have hB:bs++((pl x.g.il++pl [x.seq,x.at'])++gJ (s.pend.drop (i+1)))++(pl [(s.run.length:Int)]++eB s.run)=B:=hB
  have l1:=vE x.g g1
  have p1:=pn_len (fD g2 x.seq (by simp))
  have p2:=pn_len (fD g2 x.at' (by simp))
  have hpg:=wD x.g g1
  have hB2:(bs++((pl x.g.il++putN x.seq.toNat)++putN x.at'.toNat))++gJ (s.pend.drop (i+1))++(pl [(s.run.length:Int)]++eB s.run)=B:=by
   rw [<-hB]
   simp [pl]
  have next:=ih (i+1) _ (by omega) (by simp only [Ag];omega) hB2
  refine gW hE ?_;conv=>whnf
  refine aT fun h=>?_
  repeat' first | (refine gN hE ?_;conv=>whnf) | refine ⟨i,rfl,?_⟩ | refine ⟨_,get,?_⟩ | refine .pure _ [] hpg ?_ | refine .pure _ [] (dO _) ?_ | refine Aa (by simp only [Ag];omega) ?_ | exact rfl | refine aY ?_ | refine aN ?_ | refine aT fun h=>?_ | refine aF fun h=>?_ | refine ⟨fun h=>?_,fun h=>?_⟩ | refine aJ ?_ | refine ⟨_,rfl,?_⟩ | refine aD ?_ | fail
  refine To.part [1,5,7] [0] rfl rfl rfl ?_
  exact next
theorem aAp (s:Sta) (w:Wr s) (B:List UInt8):∀ (m i:Nat) (bs:List UInt8),i+m=s.hist.length->bs.length+8*m<=15000->bs++lG (s.hist.drop i)++(pl [(s.pend.length:Int)]++(gJ s.pend++(pl [(s.run.length:Int)]++eB s.run)))=B->
  To E kL (.pure (.ret (.str B))) (.head (stk kL 0) [(1,.ref 0 0),(5,.str bs),(6,.int .i64 i)] (pwO s)):=by
 have hlen:(fv s.hist).length=s.hist.length:=by simp
 have hlr:(pnv s.pend).length=s.pend.length:=by simp
 have hlp:=w.pen
 have hlh:=w.his
 intro m
 induction m with
 | zero=>
  intro i bs hi hbl hB
  rw [Af (by omega)] at hB
  have hB:bs++[]++(pl [(s.pend.length:Int)]++(gJ s.pend++(pl [(s.run.length:Int)]++eB s.run)))=B:=hB
  have p1:=pn_len (n:=(s.pend.length:Int)) (by omega)
  have hB2:(bs++putN (s.pend.length:Int).toNat)++gJ (s.pend.drop 0)++(pl [(s.run.length:Int)]++eB s.run)=B:=by rw [<-hB];simp [pl]
  have next:=aAn s w B s.pend.length 0 _ (by omega) (by rw [Ag];omega) hB2
  rw [<-hlr] at next p1
  refine gW hE ?_;conv=>whnf
  refine aF fun h=>?_
  repeat' first | (refine gN hE ?_;conv=>whnf) | refine .pure _ [] (dO _) ?_ | refine Aa (by simp only [Ag];omega) ?_ | exact rfl | refine aY ?_ | refine aN ?_ | refine aT fun h=>?_ | refine aF fun h=>?_ | refine ⟨fun h=>?_,fun h=>?_⟩ | refine aJ ?_ | refine ⟨_,rfl,?_⟩ | refine aD ?_ | fail
  refine To.part [1,5,7] [0] rfl rfl rfl ?_
  exact next
 | succ m ih=>
  intro i bs hi hbl hB
  have hlt:i<s.hist.length:=by omega
  rw [Ae hlt] at hB
  have get:=HX hlt
  generalize s.hist[i]=x at hB get
  have hB:bs++(lH x++lG (s.hist.drop (i+1)))++(pl [(s.pend.length:Int)]++(gJ s.pend++(pl [(s.run.length:Int)]++eB s.run)))=B:=hB
  rw [<-Aj bs] at hB
  have l1:(lH x).length=8:=eM x 8
  have hpf:=QJ x
  have next:=ih (i+1) _ (by omega) (by rw [Ag];omega) hB
  refine gW hE ?_;conv=>whnf
  refine aT fun h=>?_
  repeat' first | (refine gN hE ?_;conv=>whnf) | refine ⟨i,rfl,?_⟩ | refine ⟨_,get,?_⟩ | refine .pure _ [] hpf ?_ | refine Aa (by simp only [Ag];omega) ?_ | exact rfl | refine aY ?_ | refine aN ?_ | refine aT fun h=>?_ | refine aF fun h=>?_ | refine ⟨fun h=>?_,fun h=>?_⟩ | refine aJ ?_ | refine ⟨_,rfl,?_⟩ | refine aD ?_ | fail
  refine To.part [1,5,6] [0] rfl rfl rfl ?_
  exact next
theorem QC (s:Sta) (w:Wr s):aA Tryz.prog 26 [s.av] [] (.ret (.str (cN s))) []:=by
 have he:aA Tryz.prog 69 [s.cmd.av] [] (.ret (.tup [.str (fZ s),ii (C8.chk s.cmd)])) []:=C8.renc_ok s.cmd
 have hlh:(fv s.hist).length=s.hist.length:=by simp
 have hl1:=w.con
 have hl2:=w.his
 obtain ⟨n1,n2,n3,n4⟩:=w.nums
 have p0:=pn_len (n:=((fZ s).length:Int)) (by omega)
 have p1:=pn_len (n:=s.now) (by omega)
 have p2:=pn_len (n:=s.nxt) (by omega)
 have p3:=pn_len (n:=(s.hist.length:Int)) (by omega)
 have hB:(((putN ((fZ s).length:Int).toNat++fZ s)++putN s.now.toNat)++putN s.nxt.toNat)++putN (s.hist.length:Int).toNat++lG (s.hist.drop 0)++(pl [(s.pend.length:Int)]++(gJ s.pend++(pl [(s.run.length:Int)]++eB s.run)))=cN s:=by
  unfold cN
  simp [pl]
 have next:=aAp s w (cN s) s.hist.length 0 _ (by omega) (by simp only [Ag];omega) hB
 rw [<-hlh] at next p3
 generalize fZ s=C at he next p0 hl1
 generalize cN s=B at next
 generalize C8.chk s.cmd=ck at he
 refine cT (E:=E) (fn:=Tryz.f26) (g:=.pure _) fun _=>?_
 repeat' first | (refine gN hE ?_;conv=>whnf) | refine .pure _ [] he ?_ | refine .pure _ [] (dO _) ?_ | refine Aa (by simp only [Ag];omega) ?_ | exact rfl | refine aY ?_ | refine aN ?_ | refine aT fun h=>?_ | refine aF fun h=>?_ | refine ⟨fun h=>?_,fun h=>?_⟩ | refine aJ ?_ | refine ⟨_,rfl,?_⟩ | refine aD ?_ | fail
 refine To.part [1,5,6] [0] rfl rfl rfl ?_
 exact next
open C8 (leN PS pO pNum pGan pVec aG oM wW aC)
set_option maxRecDepth 10000
theorem bA {p q:PS} {n:Int} (h:pNum p=(n,q)):(0<=n/\n<=9223372036854775807)/\q.s.length<=p.s.length/\(q.b=false->p.b=false/\q.s.length+1<=p.s.length):=by
 have b:=wW p
 rw [h] at b
 refine ⟨⟨b.1,b.2.1⟩,b.2.2,fun hq=>?_⟩
 unfold C8.pNum at h
 split at h
 .cases h
  cases hq
 .rename_i m t hm
  have:=C8.rNum_b hm
  cases hb:p.b with
  | true=>
   rw [hb] at h
   cases h
   cases hq
  | false=>
   rw [hb] at h
   cases h
   exact ⟨rfl,by show t.length+1<=p.s.length;omega⟩
theorem qX {p q:PS} {g:Gan} (h:pGan p=(g,q)):(0<=g.pods/\g.pods<=9223372036854775807)/\q.s.length<=p.s.length/\(q.b=false->p.b=false/\q.s.length+1<=p.s.length):=by
 unfold C8.pGan at h
 dsimp only at h
 have e:∀ p:PS,pNum p=((pNum p).1,(pNum p).2):=fun p=>rfl
 have d1:=bA (e p)
 have d2:=bA (e (pNum p).2)
 have d3:=bA (e (pNum (pNum p).2).2)
 cases h
 unfold C8.pVec
 dsimp only
 generalize hp3:(pNum (pNum (pNum p).2).2)=y3 at *
 have d4:=bA (e y3.2)
 have d5:=bA (e (pNum y3.2).2)
 have d6:=bA (e (pNum (pNum y3.2).2).2)
 generalize hp6:(pNum (pNum (pNum y3.2).2).2)=y6 at *
 have d7:=bA (e y6.2)
 have d8:=bA (e (pNum y6.2).2)
 have d9:=bA (e (pNum (pNum y6.2).2).2)
 refine ⟨d3.1,by omega,fun hq=>?_⟩
 have a9:=d9.2.2 hq
 have a8:=d8.2.2 a9.1
 have a7:=d7.2.2 a8.1
 have a6:=d6.2.2 a7.1
 have a5:=d5.2.2 a6.1
 have a4:=d4.2.2 a5.1
 have a3:=d3.2.2 a4.1
 have a2:=d2.2.2 a3.1
 have a1:=d1.2.2 a2.1
 exact ⟨a1.1,by omega⟩
def qHi:Nat->Int->List Nat->PS->List Nat×PS
 | 0,_,hi,p=>(hi,p)
 | f+1,m,hi,p=>if 0<m/\p.b=false then (if p.s.length<8 then qHi f (m-1) (hi++[0]) ⟨p.s,true⟩ else qHi f (m-1) (hi++[leN (p.s.take 8)]) ⟨p.s.drop 8,false⟩) else (hi,p)
theorem JU (f:Nat) (m:Int) (hi:List Nat) (s:List UInt8):qHi f m hi ⟨s,true⟩=(hi,⟨s,true⟩):=by
 cases f with
 | zero=>rfl
 | succ f=>exact if_neg fun h=>by cases h.2
theorem D5 (f:Nat) {m:Int} (hm:m<=0) (hi:List Nat) (p:PS):qHi f m hi p=(hi,p):=by
 cases f with
 | zero=>rfl
 | succ f=>exact if_neg fun h=>by omega
noncomputable abbrev KU:Func:=Tryz.f23
abbrev hiF (n:Int) (hi:List Nat) (i:Nat):List (Nat×AVal):=[(0,.ref 0 0),(1,ii n),(5,.slice 1 (fv hi) (.own 1 0)),(6,.int .i64 i)]
abbrev hiO (p:PS):List AObj:=pO p++[.tail 0 1 90]
theorem RZ (n:Int) (hi:List Nat) (s:List UInt8) (i:Nat):To (Eo [5] []) KU (.full 1 (.ret (.slice 1 (fv hi) .no)) (pO ⟨s,true⟩)) (.head (stk KU 0) (hiF n hi i) (hiO ⟨s,true⟩)):=by
 refine gW (hEo [5] []) ?_;conv=>whnf
 repeat' first | (refine gN (hEo [5] []) ?_;conv=>whnf) | exact rfl | refine aY ?_ | refine aN ?_ | refine aT fun h=>?_ | refine aF fun h=>?_ | refine ⟨fun h=>?_,fun h=>?_⟩ | refine aJ ?_ | refine ⟨_,rfl,?_⟩ | refine aD ?_ | fail
 all_goals
  refine ⟨[],[0],⟨rfl,rfl⟩,?_⟩
  exact ⟨rfl,rfl⟩
theorem W6 (n:Int) (hn:0<=n/\n<=9223372036854775807):∀ (f i:Nat) (hi H:List Nat) (s:List UInt8) (P:PS),(i:Int)<=n->s.length<f->hi.length+f<=1000010->qHi f (n-i) hi ⟨s,false⟩=(H,P)->
  To (Eo [5] []) KU (.full 1 (.ret (.slice 1 (fv H) .no)) (pO P)) (.head (stk KU 0) (hiF n hi i) (hiO ⟨s,false⟩)):=by
 intro f
 induction f with
 | zero=>intro i hi H s P _ h;omega
 | succ f ih=>
  intro i hi H s P hin hs hl hq
  have hlen:(fv hi).length=hi.length:=by simp
  by_cases hm:(i:Int)<n
  .unfold qHi at hq
   rw [if_pos ⟨by omega,rfl⟩] at hq
   dsimp only at hq
   have hg:=R3 s
   unfold oQ at hg
   by_cases h8:s.length<8
   .rw [if_pos h8,JU] at hq
    rw [if_pos h8] at hg
    cases hq
    have next:=RZ n (hi++[0]) s (i+1)
    have e:fv (hi++[0])=fv hi++[.int .u64 0]:=by simp
    unfold hiF at next
    rw [e] at next
    rw [e]
    refine gW (hEo [5] []) ?_;conv=>whnf
    refine aT fun h=>?_
    repeat' first | (refine gN (hEo [5] []) ?_;conv=>whnf) | refine .pure _ [] hg ?_ | refine ⟨⟨by simp only [maxLen];simp;omega,by simp;omega⟩,?_⟩ | refine ⟨0,rfl,?_⟩ | exact rfl | refine aY ?_ | refine aN ?_ | refine aT fun h=>?_ | refine aF fun h=>?_ | refine ⟨fun h=>?_,fun h=>?_⟩ | refine aJ ?_ | refine ⟨_,rfl,?_⟩ | refine aD ?_ | fail
    refine To.part [0,1,5,6] [0,1] rfl rfl rfl ?_
    exact next
   .rw [if_neg h8] at hq hg
    have next:=ih (i+1) (hi++[leN (s.take 8)]) H (s.drop 8) P (by omega) (by simp;omega) (by simp;omega) (by rw [<-hq];congr 1;omega)
    have e:fv (hi++[leN (s.take 8)])=fv hi++[.int .u64 ((leN (s.take 8):Nat):Int)]:=by simp
    unfold hiF at next
    rw [e] at next
    generalize leN (s.take 8)=x at hg next
    refine gW (hEo [5] []) ?_;conv=>whnf
    refine aT fun h=>?_
    repeat' first | (refine gN (hEo [5] []) ?_;conv=>whnf) | refine .pure _ [] hg ?_ | refine ⟨⟨by simp only [maxLen];simp;omega,by simp;omega⟩,?_⟩ | refine ⟨8,rfl,?_⟩ | refine Aa (show 8<=s.length by omega) ?_ | exact rfl | refine aY ?_ | refine aN ?_ | refine aT fun h=>?_ | refine aF fun h=>?_ | refine ⟨fun h=>?_,fun h=>?_⟩ | refine aJ ?_ | refine ⟨_,rfl,?_⟩ | refine aD ?_ | fail
    refine To.part [0,1,5,6] [0,1] rfl rfl rfl ?_
    exact next
  .rw [D5 _ (by omega)] at hq
   cases hq
   refine gW (hEo [5] []) ?_;conv=>whnf
   refine aF fun h=>?_
   repeat' first | (refine gN (hEo [5] []) ?_;conv=>whnf) | exact rfl | refine aY ?_ | refine aN ?_ | refine aT fun h=>?_ | refine aF fun h=>?_ | refine ⟨fun h=>?_,fun h=>?_⟩ | refine aJ ?_ | refine ⟨_,rfl,?_⟩ | refine aD ?_ | fail
   refine ⟨[],[0],⟨rfl,rfl⟩,?_⟩
   exact ⟨rfl,rfl⟩
theorem W5 {p P:PS} {n:Int} {H:List Nat} (hn:0<=n/\n<=9223372036854775807) (hp:p.s.length<=1000000) (h:qHi (p.s.length+1) n [] p=(H,P)):aA Tryz.prog 23 [.ref 0 0,ii n] (pO p) (.ret (.slice 1 (fv H) .no)) (pO P):=by
 obtain ⟨s,b⟩:=p
 have hp:s.length<=1000000:=hp
 cases b with
 | true=>
  rw [JU] at h
  cases h
  have next:=RZ n [] s 0
  refine cT (E:=(Eo [5] [])) (fn:=Tryz.f23) (g:=.full 1 _ _) fun _=>?_
  refine gW (hEo [5] []) ?_;conv=>whnf
  refine To.part [0,1,5,6] [0,1] rfl rfl rfl ?_
  exact next
 | false=>
  have next:=W6 n hn (s.length+1) 0 [] H s P (by omega) (by omega) (by simp;omega) (by simpa using h)
  refine cT (E:=(Eo [5] [])) (fn:=Tryz.f23) (g:=.full 1 _ _) fun _=>?_
  refine gW (hEo [5] []) ?_;conv=>whnf
  refine To.part [0,1,5,6] [0,1] rfl rfl rfl ?_
  exact next
def qP:Nat->Int->List Pn->PS->List Pn×PS
 | 0,_,ps,p=>(ps,p)
 | f+1,m,ps,p=>if 0<m/\p.b=false then
   let g:=pGan p
   let q:=pNum g.2
   let a:=pNum q.2
   qP f (m-1) (ps++[⟨g.1,q.1,a.1⟩]) a.2 else (ps,p)
def qHo:Nat->Int->List Int->PS->List Int×PS
 | 0,_,hs,p=>(hs,p)
 | f+1,m,hs,p=>if 0<m/\p.b=false then qHo f (m-1) (hs++[(pNum p).1]) (pNum p).2 else (hs,p)
def qR:Nat->Int->List Rn->PS->List Rn×PS
 | 0,_,rs,p=>(rs,p)
 | f+1,m,rs,p=>if 0<m/\p.b=false then
   let g:=pGan p
   let q:=pNum g.2
   let a:=pNum q.2
   let t:=pNum a.2
   let l:=pNum t.2
   let h:=qHo (l.2.s.length+1) g.1.pods [] l.2
   qR f (m-1) (rs++[⟨g.1,q.1,a.1,t.1,l.1,h.1⟩]) h.2 else (rs,p)
theorem JT (f:Nat) {m:Int} {p:PS} (h:m<=0\/p.b=true) (ps:List Pn):qP f m ps p=(ps,p):=by
 cases f with
 | zero=>rfl
 | succ f=>exact if_neg fun q=>by rcases h with h | h;omega;rw [h] at q;cases q.2
theorem wP (f:Nat) {m:Int} {p:PS} (h:m<=0\/p.b=true) (hs:List Int):qHo f m hs p=(hs,p):=by
 cases f with
 | zero=>rfl
 | succ f=>exact if_neg fun q=>by rcases h with h | h;omega;rw [h] at q;cases q.2
theorem JS (f:Nat) {m:Int} {p:PS} (h:m<=0\/p.b=true) (rs:List Rn):qR f m rs p=(rs,p):=by
 cases f with
 | zero=>rfl
 | succ f=>exact if_neg fun q=>by rcases h with h | h;omega;rw [h] at q;cases q.2
theorem pe {α β:Type} (x:α×β):x=(x.1,x.2):=rfl
theorem P9:∀ (f:Nat) (m:Int) (ps:List Pn) (p:PS),(qP f m ps p).1.length<=ps.length+f/\(qP f m ps p).2.s.length<=p.s.length
 | 0,_,ps,p=>⟨by simp [qP],Bc _⟩
 | f+1,m,ps,p=>by
  unfold qP
  split
  .dsimp only
   have d0:=qX (pe (pGan p))
   generalize pGan p=g at d0
   have d1:=bA (pe (pNum g.2))
   generalize pNum g.2=q at d1
   have d2:=bA (pe (pNum q.2))
   generalize pNum q.2=a at d2
   have ih:=P9 f (m-1) (ps++[⟨g.1,q.1,a.1⟩]) a.2
   simp only [Ag,Ao,Bg] at ih
   omega
  .exact ⟨by show ps.length<=_;omega,Bc _⟩
theorem B1:∀ (f:Nat) (m:Int) (hs:List Int) (p:PS),(qHo f m hs p).1.length<=hs.length+f/\(qHo f m hs p).2.s.length<=p.s.length/\((qHo f m hs p).2.b=false->p.b=false)
 | 0,_,hs,p=>⟨by simp [qHo],Bc _,id⟩
 | f+1,m,hs,p=>by
  unfold qHo
  split
  .rename_i h
   have ih:=B1 f (m-1) (hs++[(pNum p).1]) (pNum p).2
   have d1:=bA (pe (pNum p))
   simp only [Ag,Ao,Bg] at ih
   exact ⟨by omega,by omega,fun _=>h.2⟩
  .exact ⟨by show hs.length<=_;omega,Bc _,id⟩
theorem P8 (N:Nat):∀ (f:Nat) (m:Int) (rs:List Rn) (p:PS),p.s.length<N->(∀ x∈rs,x.hs.length<=N)->(qR f m rs p).1.length<=rs.length+f/\∀ x∈(qR f m rs p).1,x.hs.length<=N
 | 0,_,rs,p,_,h=>⟨by simp [qR],h⟩
 | f+1,m,rs,p,hp,h=>by
  unfold qR
  split
  .dsimp only
   have d0:=qX (pe (pGan p))
   generalize pGan p=g at d0
   have d1:=bA (pe (pNum g.2))
   generalize pNum g.2=q at d1
   have d2:=bA (pe (pNum q.2))
   generalize pNum q.2=a at d2
   have d3:=bA (pe (pNum a.2))
   generalize pNum a.2=t at d3
   have d4:=bA (pe (pNum t.2))
   generalize pNum t.2=l at d4
   have d5:=B1 (l.2.s.length+1) g.1.pods [] l.2
   generalize qHo (l.2.s.length+1) g.1.pods [] l.2=u at d5
   simp only [Bg] at d5
   have ih:=P8 N f (m-1) (rs++[⟨g.1,q.1,a.1,t.1,l.1,u.1⟩]) u.2 (by omega) (fun x hx=>by
    rcases Ba.1 hx with hx | hx
    .exact h x hx
    .rw [Df] at hx
     subst hx
     show u.1.length<=N
     omega)
   simp only [Ag,Ao,Bg] at ih
   exact ⟨by omega,ih.2⟩
  .exact ⟨by show rs.length<=_;omega,h⟩
noncomputable abbrev mZ:Func:=Tryz.f9
abbrev rzO:AObj:=.cells 31 zSt
abbrev rpC (p:PS):AObj:=.cells 54 [.str p.s,.bool p.b]
abbrev rdR (c:Con) (now nxt:Int) (hi:List Nat) (ps:List Pn) (rs:List Rn) (p:PS):List AObj:=[rzO,rpC p,.cells 31 (reC c now nxt (.slice 11 (pnv ps) .no) (.slice 14 (rav rs) (.own 3 0)) (.slice 1 (fv hi) .no)),.tail 0 14 70]
theorem YE (s:List UInt8) (c:Con) (now nxt:Int) (hi:List Nat) (ps:List Pn) (rs:List Rn) (hrs:rs.length<=1048570) (m:Int) (hm:0<m/\m<=9223372036854775807) (g:Gan) (q a t l:Int) (hp:0<=g.pods/\g.pods<=9223372036854775807) (R:Res)
  (U:List Int) (Q:PS) (cont:To E mZ (.pure R) (.head (stk mZ 1) [(0,.str s),(2,.ref 0 0),(4,.ref 1 0),(8,.ref 2 0),(10,ii (m-1))] (rdR c now nxt hi ps (rs++[⟨g,q,a,t,l,U⟩]) Q))):
  ∀ (f k:Nat) (hs:List Int) (p:PS),(k:Int)<=g.pods->(p.b=false->p.s.length<f)->hs.length+f<=1048570->qHo f (g.pods-k) hs p=(U,Q)->
  To E mZ (.pure R) (.head (stk mZ 2) [(0,.str s),(2,.ref 0 0),(4,.ref 1 0),(8,.ref 2 0),(10,ii m),(11,.ref 4 0),(12,.int .i64 k)]
   (rdR c now nxt hi ps rs p++[.cells 70 (reG g q a t l (.slice 1 (iv hs) (.own 5 0))),.tail 0 1 3])):=by
 have hlr:(rav rs).length=rs.length:=by simp
 have e:rav (rs++[⟨g,q,a,t,l,U⟩])=rav rs++[Rn.av ⟨g,q,a,t,l,U⟩]:=by simp
 unfold rdR at cont
 rw [e] at cont
 intro f
 induction f with
 | zero=>
  intro k hs p hk hpb hl hq
  obtain ⟨z,b⟩:=p
  have hb:b=true:=by
   cases b with
   | true=>rfl
   | false=>have:=hpb rfl;omega
  subst hb
  cases hq
  refine gW hE ?_;conv=>whnf
  repeat' first | (refine gN hE ?_;conv=>whnf) | refine ⟨⟨by simp only [maxLen];simp;omega,by simp;omega⟩,?_⟩ | exact rfl | refine aY ?_ | refine aN ?_ | refine aT fun h=>?_ | refine aF fun h=>?_ | refine ⟨fun h=>?_,fun h=>?_⟩ | refine aJ ?_ | refine ⟨_,rfl,?_⟩ | refine aD ?_ | fail
  all_goals
   refine To.part [0,2,4,8,10] [0,1,2,3] rfl rfl rfl ?_
   exact cont
 | succ f ih=>
  intro k hs p hk hpb hl hq
  have hlen:(iv hs).length=hs.length:=by simp
  obtain ⟨z,b⟩:=p
  cases b with
  | true=>
   rw [wP _ (.inr rfl)] at hq
   cases hq
   refine gW hE ?_;conv=>whnf
   repeat' first | (refine gN hE ?_;conv=>whnf) | refine ⟨⟨by simp only [maxLen];simp;omega,by simp;omega⟩,?_⟩ | exact rfl | refine aY ?_ | refine aN ?_ | refine aT fun h=>?_ | refine aF fun h=>?_ | refine ⟨fun h=>?_,fun h=>?_⟩ | refine aJ ?_ | refine ⟨_,rfl,?_⟩ | refine aD ?_ | fail
   all_goals
    refine To.part [0,2,4,8,10] [0,1,2,3] rfl rfl rfl ?_
    exact cont
  | false=>
   have hz:z.length<f+1:=hpb rfl
   by_cases hk2:(k:Int)<g.pods
   .unfold qHo at hq
    rw [if_pos ⟨by omega,rfl⟩] at hq
    refine aC (o:=pNum ⟨z,false⟩) fun u p1 h1=>?_
    rw [h1] at hq
    dsimp only at hq
    have d1:=bA h1
    have d2:p1.b=false->p1.s.length+1<=z.length:=fun h=>(d1.2.2 h).2
    have next:=ih (k+1) (hs++[u]) p1 (by omega) (fun h=>by have:=d2 h;omega) (by simp;omega) (by rw [<-hq];congr 1;omega)
    have e2:iv (hs++[u])=iv hs++[ii u]:=by simp
    rw [e2] at next
    refine gW hE ?_;conv=>whnf
    refine aT fun h=>?_
    refine gW hE ?_;conv=>whnf
    refine aY ?_
    refine bW hE 3 ?_;conv=>whnf
    refine To.permAt hE [0,1,2,6] [3,4,5,7] (by rfl) ?_;conv=>whnf
    refine aL ?_;conv=>whnf
    refine .eff [] [1] _ _ rfl (aG h1) ?_;conv=>whnf
    refine aL ?_;conv=>whnf;conv=>whnf
    refine aL ?_;conv=>whnf
    refine ⟨⟨by simp only [maxLen];simp;omega,by simp;omega⟩,?_⟩;conv=>whnf
    refine aL ?_;conv=>whnf;conv=>whnf
    refine aL ?_;conv=>whnf
    refine gW hE ?_;conv=>whnf
    refine aJ ?_
    refine gW hE ?_;conv=>whnf
    refine To.part [0,2,4,8,10,11,12] [0,1,2,3,4,5] rfl rfl rfl ?_
    exact next
   .rw [wP _ (.inl (by omega))] at hq
    cases hq
    refine gW hE ?_;conv=>whnf
    refine aF fun h=>?_
    repeat' first | (refine gN hE ?_;conv=>whnf) | refine ⟨⟨by simp only [maxLen];simp;omega,by simp;omega⟩,?_⟩ | exact rfl | refine aY ?_ | refine aN ?_ | refine aT fun h=>?_ | refine aF fun h=>?_ | refine ⟨fun h=>?_,fun h=>?_⟩ | refine aJ ?_ | refine ⟨_,rfl,?_⟩ | refine aD ?_ | fail
    refine To.part [0,2,4,8,10] [0,1,2,3] rfl rfl rfl ?_
    exact cont
abbrev rdF (s:List UInt8) (j:Nat) (m:Int):List (Nat×AVal):=[(0,.str s),(2,.ref 0 0),(4,.ref 1 0),(8,.ref 2 0),(j,ii m)]
theorem YC (s:List UInt8) (c:Con) (now nxt:Int) (hi:List Nat) (ps:List Pn) (R:Res) (RS:List Rn) (Q:PS)
  (fin:∀ m:Int,m<=9223372036854775807->(m<=0\/Q.b=true)->To E mZ (.pure R) (.head (stk mZ 1) (rdF s 10 m) (rdR c now nxt hi ps RS Q))):
  ∀ (f:Nat) (m:Int) (rs:List Rn) (p:PS),m<=9223372036854775807->p.s.length<=1000000->(p.b=false->p.s.length<f)->rs.length+f<=1048560->qR f m rs p=(RS,Q)->
  To E mZ (.pure R) (.head (stk mZ 1) (rdF s 10 m) (rdR c now nxt hi ps rs p)):=by
 intro f
 induction f with
 | zero=>
  intro m rs p hm hp hpb hl hq
  have hb:p.b=true:=by
   cases hb:p.b with
   | true=>rfl
   | false=>have:=hpb hb;omega
  cases hq
  exact fin m hm (.inr hb)
 | succ f ih=>
  intro m rs p hm hp hpb hl hq
  by_cases h0:0<m/\p.b=false
  .unfold qR at hq
   rw [if_pos h0] at hq
   dsimp only at hq
   obtain ⟨z,b⟩:=p
   obtain ⟨hm0,hb⟩:=h0
   have hb:b=false:=hb
   subst hb
   have hz:z.length<f+1:=hpb rfl
   have hz2:z.length<=1000000:=hp
   refine aC (o:=pGan ⟨z,false⟩) fun g p1 h1=>?_
   rw [h1] at hq
   dsimp only at hq
   refine aC (o:=pNum p1) fun q p2 h2=>?_
   rw [h2] at hq
   dsimp only at hq
   refine aC (o:=pNum p2) fun a p3 h3=>?_
   rw [h3] at hq
   dsimp only at hq
   refine aC (o:=pNum p3) fun t p4 h4=>?_
   rw [h4] at hq
   dsimp only at hq
   refine aC (o:=pNum p4) fun l p5 h5=>?_
   rw [h5] at hq
   dsimp only at hq
   refine aC (o:=qHo (p5.s.length+1) g.pods [] p5) fun U p6 h6=>?_
   rw [h6] at hq
   dsimp only at hq
   have d1:=qX h1
   have d2:=bA h2
   have d3:=bA h3
   have d4:=bA h4
   have d5:=bA h5
   have d6:U.length<=0+(p5.s.length+1)/\p6.s.length<=p5.s.length/\(p6.b=false->p5.b=false):=by
    have:=B1 (p5.s.length+1) g.pods [] p5
    rw [h6] at this
    exact this
   have hz3:p1.s.length<=z.length:=d1.2.1
   have hlast:p6.b=false->p6.s.length<f:=fun h=>by
    have a5:=d5.2.2 (d6.2.2 h)
    have a4:=d4.2.2 a5.1
    have a3:=d3.2.2 a4.1
    have a2:=d2.2.2 a3.1
    have a1:=(d1.2.2 a2.1).2
    have a1:p1.s.length+1<=z.length:=a1
    have:=d6.2.1
    omega
   have next:=ih (m-1) (rs++[⟨g,q,a,t,l,U⟩]) p6 (by omega) (by have:=d6.2.1;omega) hlast (by simp;omega) hq
   have inn:=YE s c now nxt hi ps rs (by omega) m ⟨hm0,hm⟩ g q a t l d1.1 R U p6 next (p5.s.length+1) 0 [] p5 (by omega) (fun _=>by omega) (by simp;omega) (by simpa using h6)
   clear next ih fin hq h6 d6 hlast
   refine gW hE ?_;conv=>whnf
   refine aT fun h=>?_
   refine gW hE ?_;conv=>whnf
   refine aY ?_
   refine gW hE ?_;conv=>whnf
   refine .eff [] [1] _ _ rfl (oM h1) ?_
   refine gW hE ?_;conv=>whnf
   refine .eff [] [1] _ _ rfl (aG h2) ?_
   refine gW hE ?_;conv=>whnf
   refine .eff [] [1] _ _ rfl (aG h3) ?_
   refine gW hE ?_;conv=>whnf
   refine .eff [] [1] _ _ rfl (aG h4) ?_
   refine gW hE ?_;conv=>whnf
   refine .eff [] [1] _ _ rfl (aG h5) ?_
   refine gW hE ?_;conv=>whnf
   refine To.part [0,2,4,8,10,11,12] [0,1,2,3,4] rfl rfl rfl ?_
   refine To.begin 4 13 3 rfl rfl ?_
   exact inn
  .have hd:m<=0\/p.b=true:=by
    by_cases h1:0<m
    .right
     cases hb:p.b with
     | true=>rfl
     | false=>exact absurd ⟨h1,hb⟩ h0
    .left;omega
   rw [JS _ hd] at hq
   cases hq
   exact fin m hm hd
abbrev rdP (c:Con) (now nxt:Int) (hi:List Nat) (ps:List Pn) (p:PS):List AObj:=[rzO,rpC p,.cells 31 (reC c now nxt (.slice 11 (pnv ps) (.own 3 0)) (.slice 14 [] .nil) (.slice 1 (fv hi) .no)),.tail 0 11 67]
theorem aBb (s:List UInt8) (c:Con) (now nxt:Int) (hi:List Nat) (ps:List Pn) (R:Res) (p:PS) (hp:p.s.length<=1000000) (m:Int) (hd:m<=0\/p.b=true) (n:Int) (p2:PS) (h2:pNum p=(n,p2)) (RS:List Rn) (Q:PS) (hq:qR (p2.s.length+1) n [] p2=(RS,Q))
  (fin:∀ m:Int,m<=9223372036854775807->(m<=0\/Q.b=true)->To E mZ (.pure R) (.head (stk mZ 1) (rdF s 10 m) (rdR c now nxt hi ps RS Q))):
  To E mZ (.pure R) (.head (stk mZ 0) (rdF s 9 m) (rdP c now nxt hi ps p)):=by
 have d2:=bA h2
 have next:=YC s c now nxt hi ps R RS Q fin (p2.s.length+1) n [] p2 d2.1.2 (by omega) (fun _=>by omega) (by simp;omega) hq
 clear fin hq
 obtain ⟨z,b⟩:=p
 cases b with
 | true=>
  refine gW hE ?_;conv=>whnf
  repeat' first | (refine gN hE ?_;conv=>whnf) | refine .eff [] [1] _ _ rfl (aG h2) ?_ | exact rfl | refine aY ?_ | refine aN ?_ | refine aT fun h=>?_ | refine aF fun h=>?_ | refine ⟨fun h=>?_,fun h=>?_⟩ | refine aJ ?_ | refine ⟨_,rfl,?_⟩ | refine aD ?_ | fail
  all_goals
   refine To.part [0,2,4,8,10] [0,1,2] rfl rfl rfl ?_
   refine To.begin 2 7 70 rfl rfl ?_
   exact next
 | false=>
  have hm:m<=0:=hd.resolve_right fun h=>absurd (show false=true from h) (by decide)
  refine gW hE ?_;conv=>whnf
  refine aF fun h=>?_
  repeat' first | (refine gN hE ?_;conv=>whnf) | refine .eff [] [1] _ _ rfl (aG h2) ?_ | exact rfl | refine aY ?_ | refine aN ?_ | refine aT fun h=>?_ | refine aF fun h=>?_ | refine ⟨fun h=>?_,fun h=>?_⟩ | refine aJ ?_ | refine ⟨_,rfl,?_⟩ | refine aD ?_ | fail
  refine To.part [0,2,4,8,10] [0,1,2] rfl rfl rfl ?_
  refine To.begin 2 7 70 rfl rfl ?_
  exact next
theorem YD (s:List UInt8) (c:Con) (now nxt:Int) (hi:List Nat) (R:Res) (PP:List Pn) (Q:PS)
  (fin:∀ m:Int,m<=9223372036854775807->(m<=0\/Q.b=true)->To E mZ (.pure R) (.head (stk mZ 0) (rdF s 9 m) (rdP c now nxt hi PP Q))):
  ∀ (f:Nat) (m:Int) (ps:List Pn) (p:PS),m<=9223372036854775807->(p.b=false->p.s.length<f)->ps.length+f<=1048560->qP f m ps p=(PP,Q)->
  To E mZ (.pure R) (.head (stk mZ 0) (rdF s 9 m) (rdP c now nxt hi ps p)):=by
 intro f
 induction f with
 | zero=>
  intro m ps p hm hpb hl hq
  have hb:p.b=true:=by
   cases hb:p.b with
   | true=>rfl
   | false=>have:=hpb hb;omega
  cases hq
  exact fin m hm (.inr hb)
 | succ f ih=>
  intro m ps p hm hpb hl hq
  have hlen:(pnv ps).length=ps.length:=by simp
  by_cases h0:0<m/\p.b=false
  .unfold qP at hq
   rw [if_pos h0] at hq
   dsimp only at hq
   obtain ⟨z,b⟩:=p
   obtain ⟨hm0,hb⟩:=h0
   have hb:b=false:=hb
   subst hb
   have hz:z.length<f+1:=hpb rfl
   refine aC (o:=pGan ⟨z,false⟩) fun g p1 h1=>?_
   rw [h1] at hq
   dsimp only at hq
   refine aC (o:=pNum p1) fun q p2 h2=>?_
   rw [h2] at hq
   dsimp only at hq
   refine aC (o:=pNum p2) fun a p3 h3=>?_
   rw [h3] at hq
   dsimp only at hq
   have d1:=qX h1
   have d2:=bA h2
   have d3:=bA h3
   have hlast:p3.b=false->p3.s.length<f:=fun h=>by
    have a3:=d3.2.2 h
    have a2:=d2.2.2 a3.1
    have a1:=(d1.2.2 a2.1).2
    have a1:p1.s.length+1<=z.length:=a1
    omega
   have next:=ih (m-1) (ps++[⟨g,q,a⟩]) p3 (by omega) hlast (by simp;omega) hq
   have e:pnv (ps++[⟨g,q,a⟩])=pnv ps++[Pn.av ⟨g,q,a⟩]:=by simp
   unfold rdP at next
   rw [e] at next
   clear ih fin hq hlast
   refine gW hE ?_;conv=>whnf
   refine aT fun h=>?_
   refine gW hE ?_;conv=>whnf
   refine aY ?_
   refine bW hE 3 ?_;conv=>whnf
   refine To.permAt hE [0,1,2,4,6,11] [3,5,7,8,9,10,12] (by rfl) ?_;conv=>whnf
   refine aL ?_;conv=>whnf
   refine .eff [] [1] _ _ rfl (oM h1) ?_;conv=>whnf
   refine aL ?_;conv=>whnf
   refine .eff [] [1] _ _ rfl (aG h2) ?_;conv=>whnf
   refine aL ?_;conv=>whnf
   refine .eff [] [1] _ _ rfl (aG h3) ?_;conv=>whnf
   refine aL ?_;conv=>whnf;conv=>whnf
   refine aL ?_;conv=>whnf;conv=>whnf
   refine aL ?_;conv=>whnf
   refine ⟨⟨by simp only [maxLen];simp;omega,by simp;omega⟩,?_⟩;conv=>whnf
   refine aL ?_;conv=>whnf;conv=>whnf
   refine aL ?_;conv=>whnf
   refine gW hE ?_;conv=>whnf
   refine aJ ?_
   refine gW hE ?_;conv=>whnf
   refine To.part [0,2,4,8,9] [0,1,2,3] rfl rfl rfl ?_
   exact next
  .have hd:m<=0\/p.b=true:=by
    by_cases h1:0<m
    .right
     cases hb:p.b with
     | true=>rfl
     | false=>exact absurd ⟨h1,hb⟩ h0
    .left;omega
   rw [JT _ hd] at hq
   cases hq
   exact fin m hm hd
open C8 (leN PS pO pNum pGan pVec aG oM wW aC aK wM)
set_option maxRecDepth 10000
abbrev J4:Res:=.ret (.tup [Sta.nil.av,ii 10])
def FK (s:List UInt8) (X:Sta) (Q:PS):Res:=if Q.b=false/\Q.s=[]/\gA X=true/\cN X=s then .ret (.tup [X.av,ii 0]) else J4
theorem aB9 (s:List UInt8) (c:Con) (now nxt:Int) (hi:List Nat) (ps:List Pn) (RS:List Rn) (Q:PS) (hc:c.sm) (hp:ps.length<=1048576) (hs:Sm RS) (m:Int) (hm:m<=9223372036854775807) (hd:m<=0\/Q.b=true):
  To E mZ (.pure (FK s ⟨c,now,nxt,ps,RS,hi⟩ Q)) (.head (stk mZ 1) (rdF s 10 m) (rdR c now nxt hi ps RS Q)):=by
 obtain ⟨z,b⟩:=Q
 unfold FK
 cases b with
 | true=>
  rw [if_neg fun h=>absurd (show true=false from h.1) (by decide)]
  refine gW hE ?_;conv=>whnf
  repeat' first | (refine gN hE ?_;conv=>whnf) | exact rfl | refine aY ?_ | refine aN ?_ | refine aT fun h=>?_ | refine aF fun h=>?_ | refine ⟨fun h=>?_,fun h=>?_⟩ | refine aJ ?_ | refine ⟨_,rfl,?_⟩ | refine aD ?_ | fail
 | false=>
  have hm0:m<=0:=hd.resolve_right fun h=>absurd (show false=true from h) (by decide)
  by_cases hz:z=[]
  .subst hz
   have hk:=qAb ⟨c,now,nxt,ps,RS,hi⟩ hc hp hs
   cases hq:gA ⟨c,now,nxt,ps,RS,hi⟩ with
   | false=>
    rw [hq] at hk
    have hk:aA Tryz.prog 25 [Sta.av ⟨c,now,nxt,ps,RS,hi⟩] [] (.ret (ii 1)) []:=hk
    rw [if_neg fun h=>absurd h.2.2.1 (by decide)]
    refine gW hE ?_;conv=>whnf
    refine aF fun h=>?_
    repeat' first | (refine gN hE ?_;conv=>whnf) | refine .pure _ [] (aA.strip hk) ?_ | exact rfl | refine aY ?_ | refine aN ?_ | refine aT fun h=>?_ | refine aF fun h=>?_ | refine ⟨fun h=>?_,fun h=>?_⟩ | refine aJ ?_ | refine ⟨_,rfl,?_⟩ | refine aD ?_ | fail
   | true=>
    rw [hq] at hk
    have hk:aA Tryz.prog 25 [Sta.av ⟨c,now,nxt,ps,RS,hi⟩] [] (.ret (ii 0)) []:=hk
    have hw:=QC ⟨c,now,nxt,ps,RS,hi⟩ (IM hq)
    generalize cN ⟨c,now,nxt,ps,RS,hi⟩=B at hw
    by_cases hB:B=s
    .subst hB
     have e1:(!(B==B))=false:=by simp
     rw [if_pos ⟨rfl,rfl,rfl,rfl⟩]
     refine gW hE ?_;conv=>whnf
     refine aF fun h=>?_
     repeat' first | (refine gN hE ?_;conv=>whnf) | refine .pure _ [] (aA.strip hk) ?_ | refine .pure _ [] (aA.strip hw) ?_ | refine Aa (fun h=>absurd (e1.symm.trans h) (by decide)) (fun _=>?_) | exact rfl | refine aY ?_ | refine aN ?_ | refine aT fun h=>?_ | refine aF fun h=>?_ | refine ⟨fun h=>?_,fun h=>?_⟩ | refine aJ ?_ | refine ⟨_,rfl,?_⟩ | refine aD ?_ | fail
    .have e1:(!(B==s))=true:=by simpa using hB
     rw [if_neg fun h=>hB h.2.2.2]
     refine gW hE ?_;conv=>whnf
     refine aF fun h=>?_
     repeat' first | (refine gN hE ?_;conv=>whnf) | refine .pure _ [] (aA.strip hk) ?_ | refine .pure _ [] (aA.strip hw) ?_ | refine Aa (fun _=>?_) (fun h=>absurd (e1.symm.trans h) (by decide)) | exact rfl | refine aY ?_ | refine aN ?_ | refine aT fun h=>?_ | refine aF fun h=>?_ | refine ⟨fun h=>?_,fun h=>?_⟩ | refine aJ ?_ | refine ⟨_,rfl,?_⟩ | refine aD ?_ | fail
  .have e1:(!(z==[]))=true:=by simpa using hz
   rw [if_neg fun h=>hz h.2.1]
   refine gW hE ?_;conv=>whnf
   refine aF fun h=>?_
   repeat' first | (refine gN hE ?_;conv=>whnf) | refine Aa (fun _=>?_) (fun h=>absurd (e1.symm.trans h) (by decide)) | exact rfl | refine aY ?_ | refine aN ?_ | refine aT fun h=>?_ | refine aF fun h=>?_ | refine ⟨fun h=>?_,fun h=>?_⟩ | refine aJ ?_ | refine ⟨_,rfl,?_⟩ | refine aD ?_ | fail
open C8 (leN PS pO pNum pGan pVec aG oM wW aC aK wM rdecX rdecE)
set_option maxRecDepth 10000
def T1 (s:List UInt8) (c:Con) (p:PS):Res:=
 let a:=pNum p
 let b:=pNum a.2
 let h:=pNum b.2
 let H:=qHi (h.2.s.length+1) h.1 [] h.2
 let n:=pNum H.2
 let P:=qP (n.2.s.length+1) n.1 [] n.2
 let r:=pNum P.2
 let R:=qR (r.2.s.length+1) r.1 [] r.2
 FK s ⟨c,a.1,b.1,P.1,R.1,H.1⟩ R.2
def qA (s:List UInt8):Res:=
 let a:=pNum ⟨s,false⟩
 if a.2.b=true\/(a.2.s.length:Int)<a.1 then J4
 else if rdecE (a.2.s.take a.1.toNat)=0/\(rdecX (a.2.s.take a.1.toNat)).k=1 then T1 s (rdecX (a.2.s.take a.1.toNat)).c ⟨a.2.s.drop a.1.toNat,false⟩
 else J4
theorem MA {t:List UInt8} (h:rdecE t=0):(rdecX t).c.sm:=by
 unfold rdecE at h
 unfold rdecX
 split at h
 .rename_i x hx
  rw [hx]
  rw [C8.rdec_eq] at hx
  have T:=C8.chk_told (C8.dec_spec hx).2
  have t1:=T.ln
  have t2:=T.lh
  simp only [Cv] at t1 t2
  exact ⟨by show x.c.ns.length<=_;omega,by show x.c.hs.length<=_;omega⟩
 .cases h
theorem VQ (t:List UInt8):rdecE t=0\/rdecE t=10:=by
 unfold rdecE
 split
 .exact .inl rfl
 .exact .inr rfl
theorem B2:∀ (f:Nat) (m:Int) (hi:List Nat) (p:PS),(qHi f m hi p).1.length<=hi.length+f/\(qHi f m hi p).2.s.length<=p.s.length
 | 0,_,hi,p=>⟨Bc _,Bc _⟩
 | f+1,m,hi,p=>by
  unfold qHi
  split
  .split
   .have:=B2 f (m-1) (hi++[0]) ⟨p.s,true⟩
    simp only [Ag,Ao,Bg] at this
    exact ⟨by omega,this.2⟩
   .have:=B2 f (m-1) (hi++[leN (p.s.take 8)]) ⟨p.s.drop 8,false⟩
    simp only [Ag,Ao,Bg,Dy] at this
    exact ⟨by omega,by omega⟩
  .exact ⟨by show hi.length<=_;omega,Bc _⟩
theorem TJ (s:List UInt8) (hs:s.length<=1000000):aA Tryz.prog 9 [.str s] [] (qA s) []:=by
 obtain ⟨R,hR⟩:∃ R,qA s=R:=⟨_,rfl⟩
 rw [hR]
 unfold qA at hR
 dsimp only at hR
 refine aC (o:=pNum ⟨s,false⟩) fun n p1 h1=>?_
 rw [h1] at hR
 dsimp only at hR
 have d1:=bA h1
 obtain ⟨z,b⟩:=p1
 dsimp only at hR d1
 have c1:aA Tryz.prog 21 [.ref 0 0] (pO ⟨s,false⟩) (.ret (ii n)) [.cells 54 [.str z,.bool b]]:=aG h1
 cases b with
 | true=>
  rw [if_pos (.inl rfl)] at hR
  subst hR
  refine cT (E:=E) (fn:=Tryz.f9) (g:=.pure _) fun _=>?_
  refine gW hE ?_;conv=>whnf
  refine .eff [] [1] _ _ rfl c1 ?_
  repeat' first | (refine gN hE ?_;conv=>whnf) | exact rfl | refine aY ?_ | refine aN ?_ | refine aT fun h=>?_ | refine aF fun h=>?_ | refine ⟨fun h=>?_,fun h=>?_⟩ | refine aJ ?_ | refine ⟨_,rfl,?_⟩ | refine aD ?_ | fail
 | false=>
  by_cases hn:(z.length:Int)<n
  .rw [if_pos (.inr hn)] at hR
   subst hR
   refine cT (E:=E) (fn:=Tryz.f9) (g:=.pure _) fun _=>?_
   refine gW hE ?_;conv=>whnf
   refine .eff [] [1] _ _ rfl c1 ?_
   repeat' first | (refine gN hE ?_;conv=>whnf) | exact rfl | refine aY ?_ | refine aN ?_ | refine aT fun h=>?_ | refine aF fun h=>?_ | refine ⟨fun h=>?_,fun h=>?_⟩ | refine aJ ?_ | refine ⟨_,rfl,?_⟩ | refine aD ?_ | fail
  .rw [if_neg fun h=>h.elim (fun h=>by cases h) hn] at hR
   have hn0:n=((n.toNat:Nat):Int):=by omega
   have hz:z.length<=1000000:=Cx d1.2.1 hs
   have hd:=C8.rdec_ok (z.take n.toNat)
   have hsm:=MA (t:=z.take n.toNat)
   have h01:=VQ (z.take n.toNat)
   generalize rdecX (z.take n.toNat)=x at hd hR hsm
   generalize rdecE (z.take n.toNat)=e at hd hR hsm h01
   rcases h01 with he | he
   .subst he
    have hsm:=hsm rfl
    by_cases hk:x.k=1
    .rw [if_pos ⟨rfl,hk⟩] at hR
     unfold T1 at hR
     dsimp only at hR
     refine aC (o:=pNum ⟨z.drop n.toNat,false⟩) fun now p2 h2=>?_
     rw [h2] at hR
     dsimp only at hR
     refine aC (o:=pNum p2) fun nxt p3 h3=>?_
     rw [h3] at hR
     dsimp only at hR
     refine aC (o:=pNum p3) fun k p4 h4=>?_
     rw [h4] at hR
     dsimp only at hR
     refine aC (o:=qHi (p4.s.length+1) k [] p4) fun H p5 h5=>?_
     rw [h5] at hR
     dsimp only at hR
     refine aC (o:=pNum p5) fun m p6 h6=>?_
     rw [h6] at hR
     dsimp only at hR
     refine aC (o:=qP (p6.s.length+1) m [] p6) fun PP p7 h7=>?_
     rw [h7] at hR
     dsimp only at hR
     refine aC (o:=pNum p7) fun w p8 h8=>?_
     rw [h8] at hR
     dsimp only at hR
     refine aC (o:=qR (p8.s.length+1) w [] p8) fun RS p9 h9=>?_
     rw [h9] at hR
     dsimp only at hR
     have d2:=bA h2
     have d3:=bA h3
     have d4:=bA h4
     have d5:=B2 (p4.s.length+1) k [] p4
     rw [h5] at d5
     have d6:=bA h6
     have d7:=P9 (p6.s.length+1) m [] p6
     rw [h7] at d7
     have d8:=bA h8
     simp only [Bg,Dy] at d2 d5 d7
     have d9:=P8 1000001 (p8.s.length+1) w [] p8 (by omega) (fun x hx=>by cases hx)
     rw [h9] at d9
     simp only [Bg] at d9
     have sm:Sm RS:=⟨by omega,fun y hy=>by have:=d9.2 y hy;omega⟩
     have hh:=W5 d4.1 (by omega) h5
     have fin:=fun (m':Int) (hm:m'<=9223372036854775807) (hq:m'<=0\/p9.b=true)=>aB9 s x.c now nxt H PP RS p9 hsm (by omega) sm m' hm hq
     rw [hR] at fin
     have mid:=fun (m':Int) (_:m'<=9223372036854775807) (hq:m'<=0\/p7.b=true)=>aBb s x.c now nxt H PP R p7 (by omega) m' hq w p8 h8 RS p9 h9 fin
     have next:=YD s x.c now nxt H R PP p7 mid (p6.s.length+1) m [] p6 d6.1.2 (fun _=>by omega) (by simp;omega) h7
     clear fin mid hR h7 h8 h9 d9 d8 d7
     refine cT (E:=E) (fn:=Tryz.f9) (g:=.pure _) fun _=>?_
     refine gW hE ?_;conv=>whnf
     refine .eff [] [1] _ _ rfl c1 ?_
     refine gW hE ?_;conv=>whnf
     refine aN ?_
     refine gW hE ?_;conv=>whnf
     refine aF fun h=>?_
     refine gW hE ?_;conv=>whnf
     refine ⟨n.toNat,hn0,?_⟩
     refine gW hE ?_;conv=>whnf
     refine ⟨by omega,?_⟩
     refine gW hE ?_;conv=>whnf
     refine .pure _ [] hd ?_
     refine gW hE ?_;conv=>whnf
     refine Aa (fun h=>absurd h (by decide)) (fun _=>?_)
     refine gW hE ?_;conv=>whnf
     refine Aa (fun h=>absurd h (by simp [hk])) (fun _=>?_)
     refine gW hE ?_;conv=>whnf
     refine ⟨n.toNat,hn0,?_⟩
     refine gW hE ?_;conv=>whnf
     refine ⟨by omega,?_⟩
     refine bW hE 13 ?_;conv=>whnf
     refine To.permT hE [0,1,2,4] [3,5,6,7,8] (by rfl) ?_;conv=>whnf
     refine aL ?_;conv=>whnf
     refine ⟨?_,?_,trivial⟩
     .refine .eff [] [1] _ _ rfl (aG h2) ?_;conv=>whnf
      refine aL ?_;conv=>whnf
      refine ⟨?_,?_,trivial⟩
      .refine .eff [] [1] _ _ rfl (aG h3) ?_;conv=>whnf
       refine aL ?_;conv=>whnf
       refine ⟨?_,?_,trivial⟩
       .conv=>whnf
        refine aL ?_;conv=>whnf
        refine ⟨?_,trivial⟩;conv=>whnf
        refine aL ?_;conv=>whnf
        refine ⟨?_,trivial⟩;conv=>whnf
        refine aL ?_;conv=>whnf
        refine gW hE ?_;conv=>whnf
        refine .eff [] [1] _ _ rfl (aG h4) ?_
        refine gW hE ?_;conv=>whnf
        refine .eff [] [1] _ _ rfl hh ?_
        refine gW hE ?_;conv=>whnf
        refine .eff [] [1] _ _ rfl (aG h6) ?_
        refine gW hE ?_;conv=>whnf
        refine To.part [0,2,4,8,9] [0,1,3] rfl rfl rfl ?_
        refine To.begin 2 6 67 rfl rfl ?_
        exact next
       .conv=>whnf
        refine aL ?_;conv=>whnf
        refine ⟨?_,trivial⟩;conv=>whnf
        refine aL ?_;conv=>whnf
        refine ⟨?_,trivial⟩;conv=>whnf
        refine aL ?_;conv=>whnf
        refine gW hE ?_;conv=>whnf
        refine .eff [] [1] _ _ rfl (aG h4) ?_
        refine gW hE ?_;conv=>whnf
        refine .eff [] [1] _ _ rfl hh ?_
        refine gW hE ?_;conv=>whnf
        refine .eff [] [1] _ _ rfl (aG h6) ?_
        refine gW hE ?_;conv=>whnf
        refine To.part [0,2,4,8,9] [0,1,3] rfl rfl rfl ?_
        refine To.begin 2 6 67 rfl rfl ?_
        exact next
      .conv=>whnf
       refine aL ?_;conv=>whnf
       refine ⟨?_,trivial⟩
       refine .eff [] [1] _ _ rfl (aG h3) ?_;conv=>whnf
       refine aL ?_;conv=>whnf
       refine ⟨?_,trivial⟩;conv=>whnf
       refine aL ?_;conv=>whnf
       refine ⟨?_,trivial⟩;conv=>whnf
       refine aL ?_;conv=>whnf
       refine gW hE ?_;conv=>whnf
       refine .eff [] [1] _ _ rfl (aG h4) ?_
       refine gW hE ?_;conv=>whnf
       refine .eff [] [1] _ _ rfl hh ?_
       refine gW hE ?_;conv=>whnf
       refine .eff [] [1] _ _ rfl (aG h6) ?_
       refine gW hE ?_;conv=>whnf
       refine To.part [0,2,4,8,9] [0,1,3] rfl rfl rfl ?_
       refine To.begin 2 6 67 rfl rfl ?_
       exact next
     .conv=>whnf
      refine aL ?_;conv=>whnf
      refine ⟨?_,trivial⟩
      refine .eff [] [1] _ _ rfl (aG h2) ?_;conv=>whnf
      refine aL ?_;conv=>whnf
      refine ⟨?_,trivial⟩
      refine .eff [] [1] _ _ rfl (aG h3) ?_;conv=>whnf
      refine aL ?_;conv=>whnf
      refine ⟨?_,trivial⟩;conv=>whnf
      refine aL ?_;conv=>whnf
      refine ⟨?_,trivial⟩;conv=>whnf
      refine aL ?_;conv=>whnf
      refine gW hE ?_;conv=>whnf
      refine .eff [] [1] _ _ rfl (aG h4) ?_
      refine gW hE ?_;conv=>whnf
      refine .eff [] [1] _ _ rfl hh ?_
      refine gW hE ?_;conv=>whnf
      refine .eff [] [1] _ _ rfl (aG h6) ?_
      refine gW hE ?_;conv=>whnf
      refine To.part [0,2,4,8,9] [0,1,3] rfl rfl rfl ?_
      refine To.begin 2 6 67 rfl rfl ?_
      exact next
    .rw [if_neg fun h=>hk h.2] at hR
     subst hR
     have e1:(!(decide (x.k=1)))=true:=by simp [hk]
     refine cT (E:=E) (fn:=Tryz.f9) (g:=.pure _) fun _=>?_
     refine gW hE ?_;conv=>whnf
     refine .eff [] [1] _ _ rfl c1 ?_
     repeat' first | (refine gN hE ?_;conv=>whnf) | refine ⟨n.toNat,hn0,?_⟩ | refine .pure _ [] hd ?_ | refine Aa (fun _=>?_) (fun h=>absurd (e1.symm.trans h) (by decide)) | refine ⟨show n.toNat<=z.length by omega,?_⟩ | exact rfl | refine aY ?_ | refine aN ?_ | refine aT fun h=>?_ | refine aF fun h=>?_ | refine ⟨fun h=>?_,fun h=>?_⟩ | refine aJ ?_ | refine ⟨_,rfl,?_⟩ | refine aD ?_ | fail
   .subst he
    rw [if_neg fun h=>by cases h.1] at hR
    subst hR
    refine cT (E:=E) (fn:=Tryz.f9) (g:=.pure _) fun _=>?_
    refine gW hE ?_;conv=>whnf
    refine .eff [] [1] _ _ rfl c1 ?_
    repeat' first | (refine gN hE ?_;conv=>whnf) | refine ⟨n.toNat,hn0,?_⟩ | refine .pure _ [] hd ?_ | refine ⟨show n.toNat<=z.length by omega,?_⟩ | exact rfl | refine aY ?_ | refine aN ?_ | refine aT fun h=>?_ | refine aF fun h=>?_ | refine ⟨fun h=>?_,fun h=>?_⟩ | refine aJ ?_ | refine ⟨_,rfl,?_⟩ | refine aD ?_ | fail
open C8 (leN PS pNum pGan bB rGan rCount wM rdecX rdecE)
theorem JR:∀ (m f:Nat) (hs H:List Int) (s s':List UInt8),m<=f->jW m hs s=some (H,s')->qHo f m hs ⟨s,false⟩=(H,⟨s',false⟩)
 | 0,f,hs,H,s,s',_,h=>by
  cases h
  exact wP _ (.inl (Gi _)) _
 | m+1,0,_,_,_,_,hm,_=>by omega
 | m+1,f+1,hs,H,s,s',hm,h=>by
  unfold jW at h
  split at h
  .cases h
  .rename_i h1
   unfold qHo
   rw [if_pos ⟨by omega,rfl⟩,C8.pNum_of h1]
   have:=JR m f _ H _ s' (by omega) h
   rwa [show ((m+1:Nat):Int)-1=(m:Int) from by omega]
theorem Y6 {c:Con} {now nxt:Int} {hi:List Nat} {ps:List Pn} {x:Sta} {s':List UInt8}:∀ (m f:Nat) (rs:List Rn) (s:List UInt8),m<=f->rR c now nxt hi ps m rs s=some ((x,true),s')->∃ RS,qR f m rs ⟨s,false⟩=(RS,⟨[],false⟩)/\x=⟨c,now,nxt,ps,RS,hi⟩
 | 0,f,rs,s,_,h=>by
  unfold rR at h
  have h:=Fl h
  have h1:=(Fm (Fm h).1)
  refine ⟨rs,?_,h1.1.symm⟩
  rw [eq_of_beq h1.2]
  exact JS f (.inl (Gi _)) rs
 | m+1,0,_,_,hm,_=>by omega
 | m+1,f+1,rs,s,hm,h=>by
  unfold rR at h
  split at h
  .cases h
  .rename_i g s1 h1
   split at h
   .cases h
   .rename_i q s2 h2
    split at h
    .cases h
    .rename_i a s3 h3
     split at h
     .cases h
     .rename_i t s4 h4
      split at h
      .cases h
      .rename_i l s5 h5
       split at h
       .cases (Fm (Fm (Fl h)).1).2
       .rename_i h6
        split at h
        .cases h
        .rename_i hs s6 h7
         have b1:=wO h1
         have h6:¬ ((s5.length:Int)<g.pods):=fun e=>h6 (decide_eq_true e)
         have e:=JR g.pods.toNat (s5.length+1) [] hs s5 s6 (by omega) h7
         rw [show ((g.pods.toNat:Nat):Int)=g.pods from by omega] at e
         obtain ⟨RS,k1,k2⟩:=Y6 m f _ s6 (by omega) h
         refine ⟨RS,?_,k2⟩
         unfold qR
         rw [if_pos ⟨by omega,rfl⟩]
         simp only [C8.pGan_of h1,C8.pNum_of h2,C8.pNum_of h3,C8.pNum_of h4,C8.pNum_of h5,e]
         rwa [show ((m+1:Nat):Int)-1=(m:Int) from by omega]
theorem Y7 {c:Con} {now nxt:Int} {hi:List Nat} {r:Option ((Sta×Bool)×List UInt8)} (hr:r≠none):∀ (m f:Nat) (ps:List Pn) (s:List UInt8),m<=f->rP c now nxt hi m ps s=r->∃ PP z,qP f m ps ⟨s,false⟩=(PP,⟨z,false⟩)/\rRs c now nxt hi PP z=r
 | 0,f,ps,s,_,h=>⟨ps,s,JT f (.inl (Gi _)) ps,h⟩
 | m+1,0,_,_,hm,_=>by omega
 | m+1,f+1,ps,s,hm,h=>by
  unfold rP at h
  split at h
  .exact absurd h.symm hr
  .rename_i g s1 h1
   split at h
   .exact absurd h.symm hr
   .rename_i q s2 h2
    split at h
    .exact absurd h.symm hr
    .rename_i a s3 h3
     obtain ⟨PP,z,k1,k2⟩:=Y7 hr m f _ s3 (by omega) h
     refine ⟨PP,z,?_,k2⟩
     unfold qP
     rw [if_pos ⟨by omega,rfl⟩]
     simp only [C8.pGan_of h1,C8.pNum_of h2,C8.pNum_of h3]
     rwa [show ((m+1:Nat):Int)-1=(m:Int) from by omega]
theorem Y8 {c:Con} {now nxt:Int} {x:Sta} {s':List UInt8}:∀ (m f:Nat) (hi:List Nat) (s:List UInt8),m<=f->rH c now nxt m hi s=some ((x,true),s')->∃ H z,qHi f m hi ⟨s,false⟩=(H,⟨z,false⟩)/\rPs c now nxt H z=some ((x,true),s')
 | 0,f,hi,s,_,h=>⟨hi,s,D5 f (Gi _) hi _,h⟩
 | m+1,0,_,_,hm,_=>by omega
 | m+1,f+1,hi,s,hm,h=>by
  unfold rH at h
  split at h
  .cases (Fm (Fm (Fl h)).1).2
  .rename_i h8
   obtain ⟨H,z,k1,k2⟩:=Y8 m f _ _ (by omega) h
   refine ⟨H,z,?_,k2⟩
   unfold qHi
   rw [if_pos ⟨by omega,rfl⟩,if_neg h8]
   rwa [show ((m+1:Nat):Int)-1=(m:Int) from by omega]
theorem oL {s s':List UInt8} {n:Int} (h:rCount s=some (n,s')):pNum ⟨s,false⟩=(n,⟨s',false⟩)/\0<=n/\n.toNat<=s'.length:=by
 unfold C8.rCount at h
 split at h
 .rename_i k t h1
  have b:=C8.rNum_b h1
  split at h
  .rename_i h2
   cases h
   have h2:=of_decide_eq_true h2
   exact ⟨C8.pNum_of h1,b.1,by omega⟩
  .cases h
 .cases h
theorem aBC {S:List UInt8} {c:Con} {x:Sta} {s s':List UInt8} (h:rB c s=some ((x,true),s')):T1 S c ⟨s,false⟩=FK S x ⟨[],false⟩:=by
 unfold rB at h
 split at h
 .cases h
 .rename_i now s1 h1
  split at h
  .cases h
  .rename_i nxt s2 h2
   split at h
   .cases h
   .rename_i n s3 h3
    obtain ⟨c1,c2,c3⟩:=oL h3
    obtain ⟨H,z,k1,k2⟩:=Y8 n.toNat (s3.length+1) [] s3 (by omega) h
    rw [show ((n.toNat:Nat):Int)=n from by omega] at k1
    unfold rPs at k2
    split at k2
    .cases k2
    .rename_i m s4 h4
     obtain ⟨d1,d2,d3⟩:=oL h4
     obtain ⟨PP,y,l1,l2⟩:=Y7 (fun e=>by cases e) m.toNat (s4.length+1) [] s4 (by omega) k2
     rw [show ((m.toNat:Nat):Int)=m from by omega] at l1
     unfold rRs at l2
     split at l2
     .cases l2
     .rename_i w s5 h5
      obtain ⟨e1,e2,e3⟩:=oL h5
      obtain ⟨RS,m1,m2⟩:=Y6 w.toNat (s5.length+1) [] s5 (by omega) l2
      rw [show ((w.toNat:Nat):Int)=w from by omega] at m1
      unfold T1
      simp only [C8.pNum_of h1,C8.pNum_of h2,c1,k1,d1,l1,e1,m1]
      rw [m2]
theorem HC:∀ (f:Nat) (m:Int) (hi:List Nat) (p:PS),(∀ x∈hi,x<18446744073709551616)->∀ x∈(qHi f m hi p).1,x<18446744073709551616
 | 0,_,hi,p,h=>h
 | f+1,m,hi,p,h=>by
  have app:∀ y,y<18446744073709551616->∀ x∈hi++[y],x<18446744073709551616:=fun y hy x hx=>by
   rcases Ba.1 hx with hx | hx
   .exact h x hx
   .rw [Df.1 hx];exact hy
  unfold qHi
  split
  .split
   .exact HC f _ _ _ (app 0 (by decide))
   .refine HC f _ _ _ (app _ ?_)
    have h1:=C8.leN_lt (p.s.take 8)
    have h2:(p.s.take 8).length<=8:=by rw [Cq];omega
    have h3:2 ^ (8*(p.s.take 8).length)<=2 ^ 64:=Dm (by decide) (by omega)
    have h4:(2:Nat) ^ 64=18446744073709551616:=by decide
    omega
  .exact h
theorem TL (s:List UInt8):qA s= .ret (.tup [(yQ s).av,ii (zV s)]):=by
 unfold yQ zV
 cases hd:rO s with
 | none=>
  show qA s=J4
  unfold qA
  dsimp only
  split
  .rfl
  .split
   .unfold T1
    dsimp only
    unfold FK
    refine if_neg fun h=>?_
    have:=K2 h.2.2.1 (HC _ _ _ _ fun x hx=>by cases hx)
    rw [h.2.2.2,hd] at this
    cases this
   .rfl
 | some x=>
  have hp:=JV hd
  unfold rO at hd
  split at hd
  .rename_i y b s' h1
   split at hd
   .rename_i hb
    cases hd
    obtain ⟨hb1,hb2⟩:=hb
    subst hb1
    unfold rSt at h1
    split at h1
    .cases h1
    .rename_i n s1 h2
     obtain ⟨c1,c2,c3⟩:=oL h2
     split at h1
     .cases (Fm (Fm (Fl h1)).1).2
     .rename_i y h3
      split at h1
      .rename_i hk
       rw [<-C8.rdec_eq] at h3
       have e1:rdecE (s1.take n.toNat)=0:=by unfold C8.rdecE;rw [h3]
       have e2:rdecX (s1.take n.toNat)=y:=by unfold C8.rdecX;rw [h3];rfl
       unfold qA
       simp only [c1]
       rw [if_neg (fun h=>h.elim (fun h=>by cases h) (fun h=>by omega)),e1,e2,if_pos ⟨rfl,hk⟩,aBC h1]
       exact if_pos ⟨rfl,rfl,hp.2,hp.1⟩
      .cases (Fm (Fm (Fl h1)).1).2
   .cases hd
  .cases hd
theorem YG {s:List UInt8} (hl:s.length<=1000000):Sm (yQ s).run/\(yQ s).hist.length<=1048576:=by
 unfold yQ
 cases hd:rO s with
 | none=>exact ⟨HN.2,Bm _⟩
 | some x=>
  obtain ⟨⟨_,k2,_⟩,_,_,_,k6,_⟩:=C1 (JV hd).2
  exact ⟨(NG hd hl).2,by show x.hist.length<=_;omega⟩
theorem DK (s:List UInt8):aA Tryz.prog 3 [.str s] [] (.ret (.bool true)) []:=by
 have h0:=IS
 by_cases hl:s.length<=20000
 .have h1:=BN s (by omega)
  have h2:=TJ s (by omega)
  rw [TL] at h2
  obtain ⟨k1,k2⟩:=YG (s:=s) (by omega)
  have h3:=tS (yQ s) k1 k2
  have he:zV s=0\/zV s=10:=by
   unfold zV
   split
   .exact .inl rfl
   .exact .inr rfl
  generalize yQ s=x at h1 h2 h3
  generalize zV s=e at h1 h2 he
  rcases he with e | e
  all_goals
   subst e
   refine cT (E:=E) (fn:=Tryz.f3) (g:=.pure _) fun _=>?_
   refine gW hE ?_;conv=>whnf
   refine aF fun h=>?_
   repeat' first | (refine gN hE ?_;conv=>whnf) | refine .pure _ [] h0 ?_ | refine .pure _ [] h1 ?_ | refine .pure _ [] h2 ?_ | refine .pure _ [] h3 ?_ | exact rfl | refine aY ?_ | refine aN ?_ | refine aT fun h=>?_ | refine aF fun h=>?_ | refine ⟨fun h=>?_,fun h=>?_⟩ | refine aJ ?_ | refine ⟨_,rfl,?_⟩ | refine aD ?_ | fail
 .refine cT (E:=E) (fn:=Tryz.f3) (g:=.pure _) fun _=>?_
  refine gW hE ?_;conv=>whnf
  refine aT fun h=>?_
  repeat' first | (refine gN hE ?_;conv=>whnf) | refine .pure _ [] h0 ?_ | exact rfl | refine aY ?_ | refine aN ?_ | refine aT fun h=>?_ | refine aF fun h=>?_ | refine ⟨fun h=>?_,fun h=>?_⟩ | refine aJ ?_ | refine ⟨_,rfl,?_⟩ | refine aD ?_ | fail
open Go.ChangeShapes Go.WideShapes Go.ChangeAt Go.RowKit
set_option maxRecDepth 100000
section
variable {N:Nat}
end
section
variable {N:Nat}
end
section
variable {H:Type} {enc:TypeId×Value->H} {W:World} {r:Reach} {base b0:Nat} {spare:Nat->Bool} {held:Bool} {v:Value} {d:DataW H} {ps:List MemPlace}
end
structure StaSm (s:Sta):Prop where
 c:s.c.sm
 pend:s.pend.length<=1048576
 run:Sm s.run
 hist:s.hist.length<=1048576
 fix:∀ x∈s.hist,x<18446744073709551616
section
variable {H:Type} {enc:TypeId×Value->H} {W:World} {r:Reach} {base b0:Nat} {spare:Nat->Bool} {held:Bool} {v:Value} {d:DataW H} {ps:List MemPlace}
theorem MJ (hv:Js Tryz.prog W r b0 9 v):∃ l:List UInt8,Rep (Mw W) [] v (.str l):=by
 obtain ⟨l,rfl,h⟩:=WE (by kernel_rfl) (QV (by kernel_rfl) hv)
 exact ⟨l,.str l h⟩
end
end Go.Proofs.YtmalnhgopkfdaaaGreat
