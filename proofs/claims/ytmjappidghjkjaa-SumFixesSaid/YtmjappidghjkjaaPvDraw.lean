/- A region whose order is drawn: operations that know nothing of one another may change places; so all orders end alike. -/
import Derived.Test.YtmjappidghjkjaaPvLoc
import Derived.Orders
namespace Go.Pv
noncomputable section

/-! ### names -/
mutual
def EV.names : EV → List Nat
  | .at_ m _ => [m]
  | .oel m _ _ _ _ => [m]
  | .loc m _ => [m]
  | .tup l => EV.namesL l
  | .fn _ l => EV.namesL l
  | .maybe _ _ v => v.names
  | _ => []
def EV.namesL : List EV → List Nat
  | [] => []
  | x :: r => x.names ++ EV.namesL r
end

mutual
def EV.hangN : EV → List Nat
  | .maybe t _ v => t :: v.hangN
  | .tup l => EV.hangNL l
  | .fn _ l => EV.hangNL l
  | _ => []
def EV.hangNL : List EV → List Nat
  | [] => []
  | x :: r => x.hangN ++ EV.hangNL r
end

mutual
theorem hits_names : ∀ (e : EV) (n : Nat) (b : Bool), e.hits n b = true → n ∈ e.names
  | .at_ m _, n, b, h => by simp [EV.hits] at h; simp [EV.names, h]
  | .oel m _ _ _ _, n, b, h => by simp [EV.hits] at h; simp [EV.names, h]
  | .loc m _, n, b, h => by simp [EV.hits] at h; simp [EV.names, h]
  | .tup l, n, b, h => by simp only [EV.hits] at h; simp only [EV.names]; exact hitsL_names l n b h
  | .fn _ l, n, b, h => by simp only [EV.hits] at h; simp only [EV.names]; exact hitsL_names l n b h
  | .maybe _ _ v, n, b, h => by simp only [EV.hits] at h; simp only [EV.names]; exact hits_names v n b h
  | .dead, n, b, h => by simp [EV.hits] at h
  | .val _, n, b, h => by simp [EV.hits] at h
  | .cst _, n, b, h => by simp [EV.hits] at h
  | .clip _ _, n, b, h => by simp [EV.hits] at h
  | .ref _, n, b, h => by simp [EV.hits] at h
theorem hitsL_names : ∀ (l : List EV) (n : Nat) (b : Bool), EV.hitsL n b l = true → n ∈ EV.namesL l
  | [], n, b, h => by simp [EV.hitsL] at h
  | x :: l, n, b, h => by
    simp only [EV.hitsL, Bool.or_eq_true] at h
    simp only [EV.namesL, List.mem_append]
    exact h.imp (hits_names x n b) (hitsL_names l n b)
end

mutual
theorem hangs_names : ∀ (e : EV) (t : Nat), e.hangs t = true → t ∈ e.hangN
  | .tup l, t, h => by simp only [EV.hangs] at h; simp only [EV.hangN]; exact hangsL_names l t h
  | .fn _ l, t, h => by simp only [EV.hangs] at h; simp only [EV.hangN]; exact hangsL_names l t h
  | .maybe t' _ v, t, h => by
    simp only [EV.hangs, Bool.or_eq_true] at h
    simp only [EV.hangN, List.mem_cons]
    exact h.imp Nat.eq_of_beq_eq_true (hangs_names v t)
  | .dead, t, h => by simp [EV.hangs] at h
  | .val _, t, h => by simp [EV.hangs] at h
  | .cst _, t, h => by simp [EV.hangs] at h
  | .clip _ _, t, h => by simp [EV.hangs] at h
  | .ref _, t, h => by simp [EV.hangs] at h
  | .at_ _ _, t, h => by simp [EV.hangs] at h
  | .loc _ _, t, h => by simp [EV.hangs] at h
  | .oel _ _ _ _ _, t, h => by simp [EV.hangs] at h
theorem hangsL_names : ∀ (l : List EV) (t : Nat), EV.hangsL t l = true → t ∈ EV.hangNL l
  | [], t, h => by simp [EV.hangsL] at h
  | x :: l, t, h => by
    simp only [EV.hangsL, Bool.or_eq_true] at h
    simp only [EV.hangNL, List.mem_append]
    exact h.imp (hangs_names x t) (hangsL_names l t)
end

/-! ### what a step makes of a state, slot by slot and place by place -/
def f1 (u : Nat × Upd) (e : EV) : EV := match u.2 with
  | .del => bif e.hits u.1 true then .dead else e
  | .new _ => bif e.hits u.1 true then .dead else e
  | .set _ => bif e.hits u.1 false then .dead else e
  | .keep _ => e

def fU : Upds → EV → EV
  | [], e => e
  | u :: r, e => fU r (f1 u e)

def fM : Option Nat → EV → EV
  | none, e => e
  | some d, e => bif e.hangs d then .dead else e

def p1 (u : Nat × Upd) (n : Nat) (x : Option Dyn) : Option Dyn := if n = u.1 then (match u.2 with | .del => none | .new d => some d | .set d => some d | .keep d => some d) else x

def plU : Upds → Nat → Option Dyn → Option Dyn
  | [], _, x => x
  | u :: r, n, x => plU r n (p1 u n x)

theorem lk_kill (n : Nat) (b : Bool) (t : Nat) (env : Env) : lk t (kill n b env) = (lk t env).map fun e => bif e.hits n b then .dead else e := lk_map (fun x : Nat × EV => bif x.2.hits n b then EV.dead else x.2) t env

theorem lk_killM (d t : Nat) (env : Env) : lk t (killM d env) = (lk t env).map fun e => bif e.hangs d then .dead else e := lk_map (fun x : Nat × EV => bif x.2.hangs d then EV.dead else x.2) t env

theorem apply1_lk (u : Nat × Upd) (s : St) (t : Nat) : lk t (apply1 u s).env = (lk t s.env).map (f1 u) := by
  obtain ⟨n, u⟩ := u
  cases u
  · exact lk_kill n true t s.env
  · exact lk_kill n true t s.env
  · exact lk_kill n false t s.env
  · show lk t s.env = (lk t s.env).map fun e => e
    simp

theorem applyU_lk : ∀ (U : Upds) (s : St) (t : Nat), lk t (applyU U s).env = (lk t s.env).map (fU U)
  | [], s, t => by
    show lk t s.env = (lk t s.env).map fun e => e
    simp
  | u :: r, s, t => by
    simp only [applyU]
    rw [applyU_lk r (apply1 u s) t, apply1_lk, Option.map_map]
    rfl

theorem applyU_plk : ∀ (U : Upds) (s : St) (n : Nat), lk n (applyU U s).pl = plU U n (lk n s.pl)
  | [], s, n => rfl
  | u :: r, s, n => by
    simp only [applyU, plU]
    rw [applyU_plk r (apply1 u s) n, apply1_pl]
    rfl

theorem plU_other : ∀ (U : Upds) (n : Nat) (x : Option Dyn), n ∉ updNames U → plU U n x = x
  | [], n, x, _ => rfl
  | u :: r, n, x, h => by
    simp only [updNames, List.map_cons, List.mem_cons, not_or] at h
    simp only [plU]
    rw [plU_other r n _ h.2]
    unfold p1
    rw [if_neg h.1]

/-- it stays or dies -/
def Kil (f : EV → EV) : Prop := f .dead = .dead ∧ ∀ e, f e = e ∨ f e = .dead

theorem Kil.comp {f g : EV → EV} (hf : Kil f) (hg : Kil g) : Kil (fun e => f (g e)) := by
  refine ⟨by show f (g .dead) = _; rw [hg.1, hf.1], fun e => ?_⟩
  rcases hg.2 e with h | h
  · show f (g e) = e ∨ f (g e) = .dead
    rw [h]; exact hf.2 e
  · show f (g e) = e ∨ f (g e) = .dead
    rw [h]; exact .inr hf.1

theorem Kil.comm {f g : EV → EV} (hf : Kil f) (hg : Kil g) (e : EV) : f (g e) = g (f e) := by
  rcases hg.2 e with h | h <;> rcases hf.2 e with h' | h' <;> simp [h, h', hf.1, hg.1]

theorem f1_kil (u : Nat × Upd) : Kil (f1 u) := by
  obtain ⟨n, u⟩ := u
  cases u <;> refine ⟨by simp [f1, EV.hits], fun e => ?_⟩ <;> simp only [f1]
  · cases e.hits n true <;> simp
  · cases e.hits n true <;> simp
  · cases e.hits n false <;> simp
  · simp

theorem fU_kil : ∀ U : Upds, Kil (fU U)
  | [] => ⟨rfl, fun _ => .inl rfl⟩
  | u :: r => (fU_kil r).comp (f1_kil u)

theorem fM_kil (d : Option Nat) : Kil (fM d) := by
  cases d with
  | none => exact ⟨rfl, fun _ => .inl rfl⟩
  | some d =>
    refine ⟨by simp [fM, EV.hangs], fun e => ?_⟩
    simp only [fM]
    cases e.hangs d <;> simp

def killNames : Upds → List Nat
  | [] => []
  | (_, .keep _) :: r => killNames r
  | (n, _) :: r => n :: killNames r

theorem fU_stays : ∀ (U : Upds) (e : EV), (∀ n ∈ killNames U, n ∉ e.names) → fU U e = e
  | [], e, _ => rfl
  | (n, u) :: r, e, h => by
    have h1 : f1 (n, u) e = e := by
      have hh : ∀ b, n ∉ e.names → (bif e.hits n b then EV.dead else e) = e := fun b hn => by
        cases hb : e.hits n b with
        | false => rfl
        | true => exact absurd (hits_names e n b hb) hn
      cases u
      · exact hh true (h n (by simp [killNames]))
      · exact hh true (h n (by simp [killNames]))
      · exact hh false (h n (by simp [killNames]))
      · rfl
    simp only [fU]
    rw [h1]
    refine fU_stays r e fun m hm => h m ?_
    cases u <;> simp [killNames, hm]

theorem fM_stays {d : Option Nat} {e : EV} (h : ∀ t, d = some t → t ∉ e.hangN) : fM d e = e := by
  cases d with
  | none => rfl
  | some d =>
    simp only [fM]
    cases hb : e.hangs d with
    | false => rfl
    | true => exact absurd (hangs_names e d hb) (h d rfl)

theorem putO_lk {nt : Nat} {dst : Option Nat} {e : EV} {U : Upds} {s s' : St} (h : putO nt dst e (applyU U s) = some s') :
    (∀ t, lk t s'.env = if dst = some t then some e else (lk t s.env).map fun x => fM dst (fU U x)) ∧ ∀ n, lk n s'.pl = plU U n (lk n s.pl) := by
  cases dst with
  | none =>
    obtain rfl := Option.some.inj h
    refine ⟨fun t => ?_, applyU_plk U s⟩
    rw [if_neg (by simp)]
    exact applyU_lk U s t
  | some d =>
    simp only [putO] at h
    split at h
    · obtain rfl := Option.some.inj h
      refine ⟨fun t => ?_, applyU_plk U s⟩
      show lk t (put d e (killM d (applyU U s).env)) = _
      rw [lk_put]
      by_cases ht : t = d
      · rw [if_pos ht, if_pos (by rw [ht])]
      · rw [if_neg ht, if_neg (by simpa using fun h => ht h.symm), lk_killM, applyU_lk, Option.map_map]
        rfl
    · cases h

theorem putO_some {nt : Nat} {dst : Option Nat} {e : EV} {s s' : St} (h : putO nt dst e s = some s') (t : St) : ∃ t', putO nt dst e t = some t' := by
  cases dst with
  | none => exact ⟨t, rfl⟩
  | some d =>
    simp only [putO] at h ⊢
    split at h
    · rename_i hc
      exact ⟨_, by rw [if_pos hc]⟩
    · cases h

/-! ### one operation -/
section
variable (P : Program) (Γ : Nat → Option CSem) (ops : Array Oper)

def Prod (o : Oper) (s : St) (e : EV) (U : Upds) : Prop :=
  (o.guard = none ∧ ∃ (r : ORes) (x : r.α), opE P Γ (look s) s.env none (o.dst.getD 0) o.op o.type = some r ∧ r.run = some x ∧ e = (r.out x).ev ∧ U = (r.out x).upd) ∨
  (∃ (j : Nat) (want : Bool) (t : Nat) (g : Bool) (r : ORes) (x : r.α), o.guard = some (j, want) ∧ guardE ops s j = some (t, g) ∧ opE P Γ (look s) s.env (some (t, want)) (o.dst.getD 0) o.op o.type = some r ∧
    ((bif want then g else !g) = true → r.run = some x) ∧ mergeU (bif want then g else !g) (look s) (r.out x).upd = some U ∧ e = .maybe t want (r.out x).ev)

def one {α : Type} (o : Oper) (s : St) (κ : EV → Upds → Option α) : Option α := match o.guard with
  | none => (opE P Γ (fun n => lk n s.pl) s.env none (o.dst.getD 0) o.op o.type).bind fun e => e.run.bind fun x => κ (e.out x).ev (e.out x).upd
  | some (j, want) => (guardE ops s j).bind fun tg => (opE P Γ (fun n => lk n s.pl) s.env (some (tg.1, want)) (o.dst.getD 0) o.op o.type).bind fun e =>
      guardR (bif want then tg.2 else !tg.2) e.run e.dflt fun x => (mergeU (bif want then tg.2 else !tg.2) (fun n => lk n s.pl) (e.out x).upd).bind fun u => κ (.maybe tg.1 want (e.out x).ev) u
end

section
variable {P : Program} {Γ : Nat → Option CSem} {ops : Array Oper}

theorem one_prod {α : Type} {o : Oper} {s : St} {κ : EV → Upds → Option α} {r : α} (h : one P Γ ops o s κ = some r) : ∃ e U, Prod P Γ ops o s e U ∧ κ e U = some r := by
  unfold one at h
  cases hg : o.guard with
  | none =>
    rw [hg] at h
    obtain ⟨e, h1, h⟩ := bind_some h
    obtain ⟨x, h2, h⟩ := bind_some h
    exact ⟨_, _, .inl ⟨hg, e, x, h1, h2, rfl, rfl⟩, h⟩
  | some jw =>
    obtain ⟨j, want⟩ := jw
    rw [hg] at h
    obtain ⟨⟨t, g⟩, h0, h⟩ := bind_some h
    obtain ⟨e, h1, h⟩ := bind_some h
    obtain ⟨x, h2, h⟩ := guardR_some h
    obtain ⟨u, h3, h⟩ := bind_some h
    exact ⟨_, _, .inr ⟨j, want, t, g, e, x, hg, h0, h1, h2, h3, rfl⟩, h⟩

theorem prod_wp {X : Cx} {st st' : St} {a : Act} {w : World} {B : Nat → Prop} {G : Nat → PG} {Q : Exit → Act → World → Prop} (h : Inv X st a w B G) (hΓ : ∀ f sem, Γ f = some sem → Contract X.P f sem) {o : Oper} {e : EV} {U : Upds} (hp : Prod X.P Γ ops o st e U)
    (hput : putO X.nt o.dst e (applyU U st) = some st') {K : Act → World → Prop} (hK : ∀ a' w' B' G', Inv X st' a' w' B' G' → K a' w') :
    if Region.wanted o (yielded ops a.tmps) then o.wp X.P a w K Q ∨ (o.asks X.P a w ∧ LetsOut Q) else K (a.put o.dst undef) w := by
  rcases hp with ⟨hgd, r, x, h1, h2, rfl, rfl⟩ | ⟨j, want, t, g, r, x, hgd, hg, h1, h2, h3, rfl⟩
  · have hw : Region.wanted o (yielded ops a.tmps) = true := by simp [Region.wanted, hgd]
    rw [if_pos hw]
    left
    exact opE_ok h hΓ (by simp) h1 h2 _ _ fun v w' B' G' hI hv => hK _ w' B' G' (putO_ok hI hv hput)
  · obtain ⟨hd, ht⟩ := guardE_ok h hg
    have hy := yielded_ok hd ht
    have hwant : Region.wanted o (yielded ops a.tmps) = (g == want) := by
      simp only [Region.wanted, hgd, hy]
      cases g <;> cases want <;> rfl
    by_cases hgw : g = want
    · subst hgw
      have hb : (bif g then g else !g) = true := by cases g <;> rfl
      rw [hb] at h3
      have h2 := h2 hb
      have hu := mergeU_true _ _ _ h3
      subst hu
      rw [hwant, if_pos (by simp)]
      left
      exact opE_ok h hΓ (fun t' b e => by obtain ⟨rfl, rfl⟩ := Prod.mk.inj (Option.some.inj e); exact ht) h1 h2 _ _ fun v w' B' G' hI hv => hK _ w' B' G' (putO_ok hI (by simp only [EVR]; exact fun _ => hv) hput)
    · have hb : (bif want then g else !g) = false := by cases g <;> cases want <;> first | rfl | (exact absurd rfl hgw)
      rw [hb] at h3
      rw [hwant, if_neg (by simpa using hgw)]
      have hI := h.idle (mergeU_false _ _ _ h3)
      refine hK _ w B G (putO_ok hI ?_ hput)
      simp only [EVR]
      intro htt
      rw [ht] at htt
      cases htt
      exact absurd rfl hgw

end
end
end Go.Pv
