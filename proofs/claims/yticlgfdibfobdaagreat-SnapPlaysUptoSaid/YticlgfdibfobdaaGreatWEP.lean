/-
  The engine, second make, fifth part: what a walk answers by itself. Over any program.
-/
import Derived.Test.YticlgfdibfobdaaGreatWDP
set_option linter.all false
namespace Go.AW
theorem To.partR {E:Env} {fn:Func} {g:Goal} {st:List KI} {fr a:List (Nat×AVal)} {obs ob':List AObj} (h:To E fn g (.head st a ob'))
  (f:N7 g.n0 (List.range ob'.length) (aE obs) (kW (a.map (·.1)) fr)=a) (e:gK g.n0 (List.range ob'.length) obs=ob') (c:E.df=[]) (i:kP (List.range ob'.length) obs=true) (d:iS g.n0 0 (List.range ob'.length)=true) (b:g.strict=true):To E fn g (.head st fr obs):=
 To.part (a.map (·.1)) (List.range ob'.length) c i d (by rw [f,e];exact h) b
theorem zE {c:Bool} {p q:Prop} (h:c=true) (k:p):(c=true->p)/\(c=false->q):=⟨fun _=>k,fun h'=>absurd (h.symm.trans h') (by decide)⟩
theorem zF {c:Bool} {p q:Prop} (h:c=false) (k:q):(c=true->p)/\(c=false->q):=⟨fun h'=>absurd (h.symm.trans h') (by decide),fun _=>k⟩
theorem zP {E:Env} {fn:Func} {g:Goal} {st:List KI} {fr fr':List (Nat×AVal)} {obs ob':List AObj} (h:To E fn g (.head st fr' ob'):=by assumption)
  (hf:N7 g.n0 (List.range ob'.length) (aE obs) (kW (fr'.map (·.1)) fr)=fr':=by rfl) (ho:gK g.n0 (List.range ob'.length) obs=ob':=by rfl) (hdf:E.df=[]:=by rfl) (hk:kP (List.range ob'.length) obs=true:=by rfl) (hb:iS g.n0 0 (List.range ob'.length)=true:=by rfl) (hstr:g.strict=true:=by rfl):To E fn g (.head st fr obs):=
 To.partR h hf ho hdf hk hb hstr
theorem zM {a b p:Prop} (h:p) (h1:a:=by simp only [maxLen];simp;omega) (h2:b:=by simp;omega):(a/\b)/\p:=⟨⟨h1,h2⟩,h⟩
theorem zW {P:Prop} (h:P:=by
 repeat' first
  | (refine gN (by first | exact hE | exact hEo _ _ | exact hEr _ _ | exact hEl _ _ _ _ | assumption) ?_;conv=>whnf)
  | exact rfl
  | assumption
  | refine aY ?_
  | refine aN ?_
  | refine .pure _ [] (by assumption) ?_
  | refine .pure _ [] (hz1 _) ?_
  | refine .pure _ [] (hz2 _ _) ?_
  | refine .pure _ [] (hz3 _ _ _) ?_
  | refine .eff [] [0] _ _ rfl (by assumption) ?_
  | refine .eff [] [1] _ _ rfl (by assumption) ?_
  | refine .eff [] [0,1] _ _ rfl (by assumption) ?_
  | refine ⟨_,by assumption,?_⟩
  | refine zE (by assumption) ?_
  | refine zF (by assumption) ?_
  | refine aT fun h=>?_
  | refine aF fun h=>?_
  | refine ⟨fun h=>?_,fun h=>?_⟩
  | refine aJ ?_
  | refine ⟨_,rfl,?_⟩
  | refine aD ?_
  | exact zP
  | refine zM ?_
  | refine And.intro (BA (by assumption) (by decide)) ?_
  | exact ⟨⟨rfl,rfl⟩,rfl,rfl⟩
  | exact ⟨[],[0],⟨rfl,rfl⟩,rfl,rfl⟩
  | exact ⟨[],[0,1],⟨rfl,rfl⟩,rfl,rfl⟩
  | exact ⟨[],[1],⟨rfl,rfl⟩,rfl,rfl⟩
  | exact ⟨[],[],⟨rfl,rfl⟩,rfl,rfl⟩
  | refine .pure _ [] (aA.strip (by assumption)) ?_
  | refine .eff [] [0,1,2] _ _ rfl (by assumption) ?_
  | refine .eff [] [2] _ _ rfl (by assumption) ?_
  | refine .pure _ _ (by assumption) ?_
  | exact ⟨[],[0,1,2],⟨rfl,rfl⟩,rfl,rfl⟩
  | exact ⟨[],[2],⟨rfl,rfl⟩,rfl,rfl⟩
  | (exfalso;simp only [decide_eq_true_eq,decide_eq_false_iff_not] at *;omega)
  | fail):P:=h
theorem gV {P Q:Prop} (k:Q) (h:Q->P:=by intro k;refine gW (by first | exact hE | exact hEo _ _ | exact hEr _ _ | exact hEl _ _ _ _ | assumption) ?_;(conv=>whnf);exact k):P:=h k
end Go.AW
