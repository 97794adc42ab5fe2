/- AN ABSTRACT MACHINE, 19: code: what is to be shown of a body; it is enough. No condition of its own. -/
import Derived.Test.YtbkpmljdmlhmhaaA17
set_option linter.unusedVariables false
set_option linter.unusedSimpArgs false
namespace Go.AM
open Go AM

/-- whatever is as s says is as s' says -/
def Le (s s' : AState) : Prop := ∀ c gv N a w, Holds c gv N s a w → Holds c gv N s' a w
theorem Le.refl (s : AState) : Le s s := fun _ _ _ _ _ h => h
theorem Le.trans {s t r : AState} (h : Le s t) (k : Le t r) : Le s r := fun c gv N a w hh => k c gv N a w (h c gv N a w hh)

def condW (b : AV) (yes no : Prop) : Prop :=
  match b with
  | .bool c => (c = true → yes) ∧ (c = false → no)
  | _ => False
def thenQ (K : AState → Prop) (Q : Exit → AState → Prop) : Exit → AState → Prop
  | .normal, s => K s
  | e, s => Q e s
def blockQ (id : Nat) (Q : Exit → AState → Prop) : Exit → AState → Prop
  | .exit j, s => if j = id then Q .normal s else Q (.exit j) s
  | e, s => Q e s
/-- what is to be shown of code -/
def aw (E : Env) : Code → (Exit → AState → Prop) → AState → Prop
  | .skip, Q, s => Q .normal s
  | .region _ ops false, Q, s => aops E ops (Q .normal) ops.toList s
  | .region _ ops true, Q, s => ordOk ops = true ∧ aopsD E ops (Q .normal) ops.toList s []
  | .seq a b, Q, s => aw E a (thenQ (fun s => ∃ s', Le s s' ∧ aw E b Q s') Q) s
  | .cond c x y, Q, s => condW (evA s.tm c) (aw E x Q s) (aw E y Q s)
  | .block id b, Q, s => aw E b (blockQ id Q) s
  | .loop b, Q, s => ∃ (α : Type) (J : α → AState) (μ : α → Nat) (x : α), Le s (J x) ∧ ∀ x, aw E b (thenQ (fun s => ∃ x', μ x' < μ x ∧ Le s (J x')) Q) (J x)
  | .exit id, Q, s => Q (.exit id) s
  | .ret, Q, s => Q .ret s
  | _, _, _ => False
def dstOk (N : Nat) : Code → Bool
  | .region _ ops _ => ops.toList.all fun o => match o.dst with
    | some d => decide (d < N)
    | none => true
  | .seq a b => dstOk N a && dstOk N b
  | .cond _ x y => dstOk N x && dstOk N y
  | .block _ b => dstOk N b
  | .loop b => dstOk N b
  | _ => true

structure EnvOk (E : Env) : Prop where
  τ : TTok E.P E.τ
  mixed : E.P.follows .mixedOrders = true

def postOf (c : Ctx) (gv : List Value) (N : Nat) (Q : Exit → AState → Prop) (e : Exit) (a : Act) (w : World) : Prop := ∃ s, Q e s ∧ Holds c gv N s a w

theorem cond_val {c : Ctx} {gv : List Value} {N : Nat} {s : AState} {a : Act} {w : World} (H : Holds c gv N s a w) {x : Operand} {b : Bool} (h : evA s.tm x = .bool b) : a.eval x = .bool b := by
  obtain ⟨hd, fp, _, h2, _⟩ := H
  have := evA_ok h2 x
  rw [h] at this
  simpa only [AVok] using this

theorem aw_ok {E : Env} (hE : EnvOk E) {c : Ctx} {gv : List Value} {N : Nat} : ∀ (code : Code) {Q : Exit → AState → Prop} {s : AState} {a : Act} {w : World}, aw E code Q s → dstOk N code = true → Holds c gv N s a w → code.wp E.P (postOf c gv N Q) a w
  | .skip, Q, s, a, w, h, hN, H => wp_skip ⟨s, h, H⟩
  | .region id ops false, Q, s, a, w, h, hN, H => by
    simp only [aw] at h
    simp only [dstOk, List.all_eq_true] at hN
    refine wp_region ?_
    rw [List.range_eq_range']
    exact aops_ok hE.τ (K := Q .normal) (fun s a w k hh => ⟨s, k, hh⟩) (fun o ho d hd => by have := hN o ho; rw [hd] at this; simpa using this) ops.size 0 (by simp) (by simpa using h) H
  | .region id ops true, Q, s, a, w, h, hN, H => by
    simp only [aw] at h
    simp only [dstOk, List.all_eq_true] at hN
    obtain ⟨ho, h⟩ := h
    refine wp_region_any hE.mixed ?_
    have H' : Holds c gv N s a { w with drawn := w.drawn + 1 } := by
      obtain ⟨hd, fp, h1, h2⟩ := H
      exact ⟨hd, fp, { h1 with }, h2⟩
    obtain ⟨lgs, s', q1, q2, q3, q4⟩ := aopsD_run ops.toList 0 rfl (by simp) h
    refine any_ok hE.τ (K := Q .normal) (fun s a w k hh => ⟨s, k, hh⟩) (fun o ho d hd => by have := hN o ho; rw [hd] at this; simpa using this) ho (lg := lgs) (by simpa using q2) q3 ops.size (List.range ops.size) _ (by simp) (by simp) ?_ (fun i => ?_) (fun i hi => ?_) ?_ H'
    · exact List.pairwise_lt_range
    · rw [List.mem_range]
      constructor
      · intro hlt
        refine ⟨hlt, ?_⟩
        rw [Array.getD_eq_getD_getElem?, Array.getElem?_replicate, if_pos hlt]; rfl
      · exact fun h => h.1
    · have hi : (Array.replicate ops.size false).getD i false = true := hi
      rw [Array.getD_eq_getD_getElem?, Array.getElem?_replicate] at hi
      split at hi <;> simp at hi
    · rw [List.range_eq_range']
      simpa using q4
  | .seq x y, Q, s, a, w, h, hN, H => by
    simp only [aw] at h
    simp only [dstOk, Bool.and_eq_true] at hN
    refine wp_seq (wp_mono (aw_ok hE x h hN.1 H) fun e a' w' hq => ?_)
    obtain ⟨s', k, hh⟩ := hq
    cases e <;> first | exact ⟨s', k, hh⟩ | skip
    obtain ⟨t, hle, k⟩ := k
    exact aw_ok hE y k hN.2 (hle _ _ _ _ _ hh)
  | .cond x p q, Q, s, a, w, h, hN, H => by
    simp only [aw] at h
    simp only [dstOk, Bool.and_eq_true] at hN
    unfold condW at h
    split at h
    · rename_i b hb
      refine wp_cond_split (cond_val H hb) (fun hb' => ?_) (fun hb' => ?_)
      · exact aw_ok hE p (h.1 hb') hN.1 H
      · exact aw_ok hE q (h.2 hb') hN.2 H
    · exact h.elim
  | .block id b, Q, s, a, w, h, hN, H => by
    simp only [aw] at h
    simp only [dstOk] at hN
    refine wp_block (wp_mono (aw_ok hE b h hN H) fun e a' w' hq => ?_)
    obtain ⟨s', k, hh⟩ := hq
    cases e with
    | exit j =>
      simp only [Exit.inBlock, blockQ] at k ⊢
      split at k
      · rename_i hj; rw [if_pos hj]; exact ⟨s', k, hh⟩
      · rename_i hj; rw [if_neg hj]; exact ⟨s', k, hh⟩
    | _ => exact ⟨s', k, hh⟩
  | .loop b, Q, s, a, w, h, hN, H => by
    simp only [aw] at h
    simp only [dstOk] at hN
    obtain ⟨α, J, μ, x, h0, hr⟩ := h
    have H0 := h0 _ _ _ _ _ H
    -- the least measure of what holds
    have least : ∀ (a : Act) (w : World), (∃ x, Holds c gv N (J x) a w) → ∃ x, Holds c gv N (J x) a w ∧ ∀ y, Holds c gv N (J y) a w → μ x ≤ μ y := by
      intro a w ⟨x, hx⟩
      have : ∀ n x, μ x = n → Holds c gv N (J x) a w → ∃ x, Holds c gv N (J x) a w ∧ ∀ y, Holds c gv N (J y) a w → μ x ≤ μ y := by
        intro n
        induction n using Nat.strongRecOn with
        | _ n ih =>
          intro x hn hx
          by_cases hall : ∀ y, Holds c gv N (J y) a w → μ x ≤ μ y
          · exact ⟨x, hx, hall⟩
          · have : ∃ y, Holds c gv N (J y) a w ∧ μ y < μ x := by
              refine Classical.byContradiction fun hno => hall fun y hy => ?_
              exact Nat.le_of_not_lt fun hlt => hno ⟨y, hy, hlt⟩
            obtain ⟨y, hy, hlt⟩ := this
            exact ih (μ y) (hn ▸ hlt) y rfl hy
      exact this _ x rfl hx
    let M : Act → World → Nat := fun a w => @dite Nat (∃ x, Holds c gv N (J x) a w) (Classical.propDecidable _) (fun h => μ (Classical.choose (least a w h))) (fun _ => 0)
    have hM : ∀ a w, (∃ x, Holds c gv N (J x) a w) → ∃ x, Holds c gv N (J x) a w ∧ M a w = μ x ∧ ∀ y, Holds c gv N (J y) a w → M a w ≤ μ y := by
      intro a w h
      have e : M a w = μ (Classical.choose (least a w h)) := dif_pos h
      have sp := Classical.choose_spec (least a w h)
      exact ⟨_, sp.1, e, fun y hy => by rw [e]; exact sp.2 y hy⟩
    refine wp_loop (fun a w => ∃ x, Holds c gv N (J x) a w) M ⟨x, H0⟩ fun a w hI => ?_
    obtain ⟨x, hx, ex, hle⟩ := hM a w hI
    refine wp_mono (aw_ok hE b (hr x) hN hx) fun e a' w' hq => ?_
    obtain ⟨s', k, hh⟩ := hq
    cases e with
    | normal =>
      obtain ⟨x', hlt, hl⟩ := k
      have hx' := hl _ _ _ _ _ hh
      obtain ⟨y, _, _, hle'⟩ := hM a' w' ⟨x', hx'⟩
      refine ⟨⟨x', hx'⟩, ?_⟩
      rw [ex]
      exact Nat.lt_of_le_of_lt (hle' x' hx') hlt
    | _ => exact ⟨s', k, hh⟩
  | .exit id, Q, s, a, w, h, hN, H => wp_exit ⟨s, h, H⟩
  | .ret, Q, s, a, w, h, hN, H => wp_ret ⟨s, h, H⟩
  | .rangeFunc .., Q, s, a, w, h, hN, H => by simp only [aw] at h
  | .scope _, Q, s, a, w, h, hN, H => by simp only [aw] at h
  | .label _, Q, s, a, w, h, hN, H => by simp only [aw] at h
  | .goto _, Q, s, a, w, h, hN, H => by simp only [aw] at h
  | .refuse _, Q, s, a, w, h, hN, H => by simp only [aw] at h

theorem wpo_mono {P : Program} {α : Type} {L L' : α → Mem → Prop} (h : ∀ v m, L v m → L' v m) : ∀ {p : AM α} {m : Mem}, wpo P p m L → wpo P p m L'
  | .ret v, m, k => h _ _ k
  | .fail, m, k => k
  | .req p q, m, k => ⟨k.1, wpo_mono h k.2⟩
  | .pick q, m, k => fun b => wpo_mono h (k b)
  | .look l q, m, k => wpo_mono (p := q l) h k
  | .get nm q, m, k => wpo_mono (p := q (m nm)) h k
  | .set nm b q, m, k => wpo_mono (p := q) h k
  | .call f pas q, m, k => by obtain ⟨res, pbs, g, k⟩ := k; exact ⟨res, pbs, g, wpo_mono h k⟩
theorem wpoL_mono {P : Program} {L L' : AV → Mem → List Nat → List Nat → Prop} (h : ∀ v m A W, L v m A W → L' v m A W) : ∀ {p : AM AV} {m : Mem} {A W : List Nat}, wpoL P p m A W L → wpoL P p m A W L'
  | .ret v, m, A, W, k => h _ _ _ _ k
  | .fail, m, A, W, k => k
  | .req p q, m, A, W, k => ⟨k.1, wpoL_mono h k.2⟩
  | .pick q, m, A, W, k => k
  | .look l q, m, A, W, k => wpoL_mono (p := q l) h k
  | .get nm q, m, A, W, k => wpoL_mono (p := q (m nm)) h k
  | .set nm b q, m, A, W, k => wpoL_mono (p := q) h k
  | .call f pas q, m, A, W, k => by obtain ⟨res, pbs, g, k⟩ := k; exact ⟨res, pbs, g, wpoL_mono h k⟩
theorem guardW_mono {b : AV} {want : Bool} {y n y' n' : Prop} (hy : y → y') (hn : n → n') (h : guardW b want y n) : guardW b want y' n' := by
  unfold guardW at *
  split at h
  · exact ⟨fun e => hy (h.1 e), fun e => hn (h.2 e)⟩
  · exact hn h
  · exact h
theorem aops_mono {E : Env} {all : Array Oper} {K K' : AState → Prop} (h : ∀ s, K s → K' s) : ∀ {r : List Oper} {s : AState}, aops E all K r s → aops E all K' r s
  | [], s, k => h _ k
  | o :: r, s, k => by
    unfold aops at k ⊢
    split at k
    · exact wpo_mono (fun v m q => aops_mono h q) k
    · exact guardW_mono (wpo_mono (fun v m q => aops_mono h q)) (aops_mono h) k
theorem aopsD_mono {E : Env} {all : Array Oper} {K K' : AState → Prop} (h : ∀ s, K s → K' s) : ∀ {r : List Oper} {s : AState} {lg : List (List Nat × List Nat)}, aopsD E all K r s lg → aopsD E all K' r s lg
  | [], s, lg, k => ⟨k.1, h _ k.2⟩
  | o :: r, s, lg, k => by
    unfold aopsD at k ⊢
    split at k
    · exact wpoL_mono (fun v m A W q => aopsD_mono h q) k
    · exact guardW_mono (wpoL_mono (fun v m A W q => aopsD_mono h q)) (aopsD_mono h) k
theorem aw_mono {E : Env} : ∀ (code : Code) {Q Q' : Exit → AState → Prop} {s : AState}, (∀ e s, Q e s → Q' e s) → aw E code Q s → aw E code Q' s
  | .skip, Q, Q', s, h, k => h _ _ k
  | .region _ ops false, Q, Q', s, h, k => aops_mono (h .normal) k
  | .region _ ops true, Q, Q', s, h, k => ⟨k.1, aopsD_mono (h .normal) k.2⟩
  | .seq a b, Q, Q', s, h, k => aw_mono a (fun e s q => by
    cases e <;> first | exact h _ _ q | skip
    obtain ⟨s', h1, h2⟩ := q
    exact ⟨s', h1, aw_mono b h h2⟩) k
  | .cond c x y, Q, Q', s, h, k => by
    simp only [aw] at k ⊢
    unfold condW at *
    split at k
    · exact ⟨fun e => aw_mono x h (k.1 e), fun e => aw_mono y h (k.2 e)⟩
    · exact k
  | .block id b, Q, Q', s, h, k => aw_mono b (fun e s q => by
    cases e <;> first | exact h _ _ q | skip
    simp only [blockQ] at q ⊢
    split at q
    · rename_i e; rw [if_pos e]; exact h _ _ q
    · rename_i e; rw [if_neg e]; exact h _ _ q) k
  | .loop b, Q, Q', s, h, k => by
    obtain ⟨α, J, μ, x, h0, hr⟩ := k
    exact ⟨α, J, μ, x, h0, fun x => aw_mono b (fun e s q => by cases e <;> first | exact h _ _ q | exact q) (hr x)⟩
  | .exit id, Q, Q', s, h, k => h _ _ k
  | .ret, Q, Q', s, h, k => h _ _ k
  | .rangeFunc .., Q, Q', s, h, k => k
  | .scope _, Q, Q', s, h, k => k
  | .label _, Q, Q', s, h, k => k
  | .goto _, Q, Q', s, h, k => k
  | .refuse _, Q, Q', s, h, k => k
end Go.AM
