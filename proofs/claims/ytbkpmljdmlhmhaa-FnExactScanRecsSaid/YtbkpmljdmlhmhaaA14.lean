/- AN ABSTRACT MACHINE, 15: what is handed to a call, what comes back. No condition of its own. -/
import Derived.Test.YtbkpmljdmlhmhaaA13
set_option linter.unusedVariables false
set_option linter.unusedSimpArgs false
namespace Go.AM
open Go AM

mutual
/-- a plain tree bears no tag -/
theorem Ow.plainT {h : Heap} {T T' : List Value} : ∀ (t : Tr) {v F}, t.plain → Ow h T t v F → Ow h T' t v F
  | .int .., v, F, _, H | .bool _, v, F, _, H | .str _, v, F, _, H => by simpa only [Ow] using H
  | .row sz n cs, v, F, hp, H => by
    simp only [Ow] at H ⊢
    simp only [Tr.plain] at hp
    refine ⟨H.1, H.2.imp id ?_⟩
    rintro ⟨g, cap, cur, e, fr, G, h1, h2, h3, h4, h5, h6, h7, rfl⟩
    exact ⟨g, cap, cur, e, fr, G, h1, h2, h3, h4, h5, h6, OwL.plainT cs hp h7, rfl⟩
  | .agg cs, v, F, hp, H => by
    simp only [Ow] at H ⊢
    obtain ⟨vs, h1, h2⟩ := H
    exact ⟨vs, h1, OwL.plainT cs (by simpa only [Tr.plain] using hp) h2⟩
  | .box .., v, F, hp, H | .tag _, v, F, hp, H | .hole, v, F, hp, H | .tup _, v, F, hp, H => by simp only [Tr.plain] at hp
theorem OwL.plainT {h : Heap} {T T' : List Value} : ∀ (ts : List Tr) {vs F}, Tr.plainL ts → OwL h T ts vs F → OwL h T' ts vs F
  | [], vs, F, _, H => by simpa only [OwL] using H
  | t :: ts, vs, F, hp, H => by
    simp only [OwL] at H ⊢
    simp only [Tr.plainL] at hp
    obtain ⟨v, us, F1, F2, rfl, h1, h2, rfl⟩ := H
    exact ⟨v, us, F1, F2, rfl, Ow.plainT t hp.1 h1, OwL.plainT ts hp.2 h2, rfl⟩
end
mutual
theorem PAok.mono {h : Heap} {S S' : Nat → Prop} (hs : ∀ k, S k → S' k) : ∀ (p : PA) {v F T}, PAok h S p v F T → PAok h S' p v F T
  | .ro t, v, F, T, H => by simp only [PAok] at H ⊢; exact ⟨Rd.frame t H.1 (fun k hk => ⟨hs k hk, rfl⟩), H.2⟩
  | .own t, v, F, T, H => by simpa only [PAok] using H
  | .box t cs, v, F, T, H => by
    simp only [PAok] at H ⊢
    obtain ⟨g, cur, e, fr, G, h1, h2, h3, h4, h5, h6⟩ := H
    exact ⟨g, cur, e, fr, G, h1, h2, h3, PAokL.mono hs cs h4, h5, h6⟩
  | .agg cs, v, F, T, H => by
    simp only [PAok] at H ⊢
    obtain ⟨vs, h1, h2, h3⟩ := H
    exact ⟨vs, h1, PAokL.mono hs cs h2, h3⟩
  | .fn f, v, F, T, H => by simpa only [PAok] using H
  | .nils, v, F, T, H => by simpa only [PAok] using H
theorem PAokL.mono {h : Heap} {S S' : Nat → Prop} (hs : ∀ k, S k → S' k) : ∀ (ps : List PA) {vs F T}, PAokL h S ps vs F T → PAokL h S' ps vs F T
  | [], vs, F, T, H => by simpa only [PAokL] using H
  | p :: ps, vs, F, T, H => by
    simp only [PAokL] at H ⊢
    obtain ⟨v, us, F1, F2, T1, T2, h1, h2, h3, h4, h5⟩ := H
    exact ⟨v, us, F1, F2, T1, T2, h1, PAok.mono hs p h2, PAokL.mono hs ps h3, h4, h5⟩
end

section
variable {P : Program} {c : Ctx} {hd : Nat → Value} {fp : Nat → List Nat} {m m' : Mem} {w : World} {X : List Nat} {u : Nat → Bool} {A W : List Nat} {v : AV} {τ : TTab} {α : Type} {y : α}

theorem AVokL.append {h : Heap} : ∀ {xs ys : List AV} {vs us : List Value}, AVokL c hd m h xs vs → AVokL c hd m h ys us → AVokL c hd m h (xs ++ ys) (vs ++ us)
  | [], ys, vs, us, H, K => by simp only [AVokL] at H; subst H; simpa using K
  | x :: xs, ys, vs, us, H, K => by
    simp only [AVokL] at H
    obtain ⟨v, zs, rfl, h1, h2⟩ := H
    simp only [List.cons_append, AVokL]
    exact ⟨v, zs ++ us, rfl, h1, AVokL.append h2 K⟩

/-- where that lies which is read: what came in, or the rows of the names that l names -/
def supp (c : Ctx) (fp : Nat → List Nat) (l : List AV) (k : Nat) : Prop := c.safe k ∨ ∃ x, x ∈ l ∧ ∃ nm, AV.nm x = some nm ∧ k ∈ fp nm
def isRowB : Option Blk → Prop
  | some (.row ..) => True
  | _ => False
/-- what is a row still is the row that it was -/
def Tk (m : Mem) (fp : Nat → List Nat) (m1 : Mem) (fp1 : Nat → List Nat) : Prop := ∀ nm, isRowB (m1 nm) → m1 nm = m nm ∧ fp1 nm = fp nm
theorem Tk.refl (m : Mem) (fp : Nat → List Nat) : Tk m fp m fp := fun _ _ => ⟨rfl, rfl⟩
theorem Tk.trans {m1 m2 : Mem} {fp1 fp2 : Nat → List Nat} (h : Tk m fp m1 fp1) (k : Tk m1 fp1 m2 fp2) : Tk m fp m2 fp2 := fun nm hn => by
  obtain ⟨a1, a2⟩ := k nm hn
  obtain ⟨b1, b2⟩ := h nm (a1 ▸ hn)
  exact ⟨a1.trans b1, a2.trans b2⟩
def BkFor (b : Bk) (x : AV) : Prop :=
  match b with
  | .none => True
  | .nil => x = .nils
  | .row nm g _ _ _ => x = .own nm g
  | .inn nm g i j v _ _ => x = .inn nm g i j v
  | .box nm g t os => False
  | .agg bs => False
def BkForL : List Bk → List AV → Prop
  | [], [] => True
  | b :: bs, x :: xs => BkFor b x ∧ BkForL bs xs
  | _, _ => False
def BkForA (b : Bk) (x : AV) : Prop :=
  match b with
  | .box nm g t os => x = .ptr nm g 0 0
  | .agg bs => ∃ xs, x = .agg xs ∧ BkForL bs xs
  | b => BkFor b x
def BkForAL : List Bk → List AV → Prop
  | [], [] => True
  | b :: bs, x :: xs => BkForA b x ∧ BkForAL bs xs
  | _, _ => False
theorem BkForL.inn : ∀ {bs : List Bk} {xs : List AV}, BkForL bs xs → xs.any AV.isInn = false → bs.any Bk.inn1 = false
  | [], [], _, _ => rfl
  | b :: bs, x :: xs, h, hx => by
    simp only [BkForL] at h
    simp only [List.any_cons, Bool.or_eq_false_iff] at hx ⊢
    refine ⟨?_, BkForL.inn h.2 hx.2⟩
    cases b <;> simp only [BkFor] at h <;> first | rfl | (rw [h.1] at hx; simp [AV.isInn] at hx) | (exact h.1.elim)
/-- nothing that is read may be turned -/
def Gd (p : Bk → Bool) (bs : List Bk) (l : List AV) (m : Mem) : Prop := (bs.any p = false ∨ ∀ x, x ∈ l → AV.nm x = none) ∧ ∀ x, x ∈ l → ∀ nm, AV.nm x = some nm → isRowB (m nm)

/-- the block of a name is lent -/
theorem HM.lend (H : HM c hd fp m w X) {nm : Nat} {b b' : Blk} (hb : m nm = some b) (hg : b.gen = b'.gen) (hl : (match b' with | .lent .. => True | .lentB .. => True | _ => False)) (he : EvB (hd nm) (hd nm) w.heap w.heap b b') :
    HM c hd (upd fp nm []) (upd m nm (some b')) w (fp nm ++ X) ∧ Evo hd m w.heap hd (upd m nm (some b')) w.heap := by
  have hh : upd hd nm (hd nm) = hd := by funext k; unfold upd; split <;> simp_all
  have := HM.step (w := w) (Y := []) (X := X) (w' := w) (by simpa using H) nm (blk := b') (v := hd nm) (F := []) (Y' := fp nm) rfl rfl rfl (Nat.le_refl _) (fun _ _ _ _ => rfl) (by simpa using H.nd nm)
    (fun k hk => .inl (by simpa using hk)) (fun k hk => H.lt hk) (fun b0 h0 => by
      rw [hb] at h0; injection h0 with h0; subst h0
      exact ⟨Nat.le_of_eq hg, fun _ => he⟩) (fun _ => by
      cases b' with
      | lent _ _ _ _ => rfl
      | lentB _ _ => rfl
      | _ => exact hl.elim)
  rw [hh] at this
  exact this
theorem Tk.lend {b' : Blk} {nm : Nat} (hl : ¬ isRowB (some b')) : Tk m fp (upd m nm (some b')) (upd fp nm []) := fun nm' hn => by
  by_cases e : nm' = nm
  · subst e; rw [upd_same] at hn; exact absurd hn hl
  · exact ⟨upd_ne _ _ e, upd_ne _ _ e⟩

theorem isRo_nm {x : AV} (h : AV.isRo x = true) : AV.nm x = none := by cases x <;> simp [AV.isRo] at h <;> rfl
theorem nm_name (x : AV) : AV.nm x = x.name := by cases x <;> rfl
theorem reads_pa {x : AV} {xv : Value} {sz n : Nat} {cs : List Tr} (H : HM c hd fp m w X) (hr : Reads c fp w x xv sz n cs) (hp : AV.isRo x = true ∨ Tr.plainL cs) : Rd w.heap (supp c fp [x]) (.row sz n cs) xv ∧ xv.oneCell' = true := by
  obtain ⟨B, C, vs, rfl, k1, k2, k3, k4, k5, k6⟩ := hr
  refine ⟨?_, rfl⟩
  simp only [Rd]
  refine ⟨k3, B, C, vs, rfl, k1, k2, ?_, fun hne => ?_⟩
  · rcases k6 with ⟨_, k6⟩ | ⟨nm, G, h1, k6, h3⟩
    · exact RdL.frame _ k6 (fun k hk => ⟨.inl hk, H.same k hk⟩)
    · rcases hp with hp | hp
      · rw [← nm_name, isRo_nm hp] at h1; cases h1
      · exact RdL.frame _ (OwL.rd k6 hp) (fun k hk => ⟨.inr ⟨x, by simp, nm, by rw [nm_name]; exact h1, h3 k hk⟩, rfl⟩)
  · obtain ⟨a, e1, e2, e3⟩ := k5 hne
    refine ⟨a, e1, ?_, e2⟩
    rcases e3 with ⟨_, e3⟩ | ⟨nm, h1, h2⟩
    · exact .inl e3
    · exact .inr ⟨x, by simp, nm, by rw [nm_name]; exact h1, h2⟩

theorem hnd_ok {how : Hn} {ck : CK} {x : AV} {xv : Value} {k : PA → Bk → List AV → AM α} (H : HM c hd fp m w X) (hx : AVok c hd m w.heap x xv) (hE : Ex P (hnd how ck x k) u m y m' A W) :
    ∃ p b l m1 fp1 F T A1 W1, Ex P (k p b l) u m1 y m' A1 W1 ∧ HM c hd fp1 m1 w (F ++ X) ∧ PAok w.heap (supp c fp l) p xv F T ∧ AVokL c hd m w.heap l T ∧ Evo hd m w.heap hd m1 w.heap ∧ (b.inn1 = false → Tk m fp m1 fp1) ∧ BkFor b x ∧ xv.oneCell' = true ∧ (∀ t, t ∈ T → t.oneCell' = true) := by
  unfold hnd at hE
  split at hE
  · simp only [AVok] at hx; subst hx
    exact ⟨_, _, _, m, fp, [], [], A, W, hE, H, by simp [PAok, Rd, Tr.isRow], by simp [AVokL], Evo.refl _ _ _, fun _ => Tk.refl _ _, trivial, rfl, by simp⟩
  · simp only [AVok] at hx; subst hx
    exact ⟨_, _, _, m, fp, [], [], A, W, hE, H, by simp [PAok, Rd, Tr.isRow], by simp [AVokL], Evo.refl _ _ _, fun _ => Tk.refl _ _, trivial, rfl, by simp⟩
  · simp only [AVok] at hx; subst hx
    exact ⟨_, _, _, m, fp, [], [], A, W, hE, H, by simp [PAok, Rd, Tr.isRow], by simp [AVokL], Evo.refl _ _ _, fun _ => Tk.refl _ _, trivial, rfl, by simp⟩
  · have ro : ∀ {l : List AV} {k : PA → Bk → List AV → AM α} {A W : List Nat} {sz : Nat} {x : AV}, AVok c hd m w.heap x xv → Ex P (rdRow sz x fun n cs => if AV.isRo x then k (.ro (.row sz n cs)) .none [x] else .req (Tr.plainL cs) (k (.ro (.row sz n cs)) .none [x])) u m y m' A W →
        ∃ p b l m1 fp1 F T A1 W1, Ex P (k p b l) u m1 y m' A1 W1 ∧ HM c hd fp1 m1 w (F ++ X) ∧ PAok w.heap (supp c fp l) p xv F T ∧ AVokL c hd m w.heap l T ∧ Evo hd m w.heap hd m1 w.heap ∧ (b.inn1 = false → Tk m fp m1 fp1) ∧ BkFor b x ∧ xv.oneCell' = true ∧ (∀ t, t ∈ T → t.oneCell' = true) := by
      intro l k A W sz x hx hE
      obtain ⟨n, cs, A1, hE, hr⟩ := rdRow_ok H hx hE
      split at hE
      · rename_i hro
        obtain ⟨q1, q2⟩ := reads_pa H hr (.inl hro)
        exact ⟨_, _, _, m, fp, [], [xv], A1, W, hE, H, by simp only [PAok]; exact ⟨q1, trivial, by simp [Tr.isRow]⟩, by simp only [AVokL]; exact ⟨xv, [], rfl, hx, rfl⟩, Evo.refl _ _ _, fun _ => Tk.refl _ _, trivial, q2, by simpa using q2⟩
      · simp only [Ex] at hE
        obtain ⟨hpl, hE⟩ := hE
        obtain ⟨q1, q2⟩ := reads_pa H hr (.inr hpl)
        exact ⟨_, _, _, m, fp, [], [xv], A1, W, hE, H, by simp only [PAok]; exact ⟨q1, trivial, by simp [Tr.isRow]⟩, by simp only [AVokL]; exact ⟨xv, [], rfl, hx, rfl⟩, Evo.refl _ _ _, fun _ => Tk.refl _ _, trivial, q2, by simpa using q2⟩
    split at hE
    · exact ro (l := []) hx hE
    · simp only [AVok] at hx
      exact ⟨_, _, _, m, fp, [], [], A, W, hE, H, by simp only [PAok]; exact ⟨hx, trivial, trivial⟩, by simp [AVokL], Evo.refl _ _ _, fun _ => Tk.refl _ _, trivial, by obtain ⟨B, rfl⟩ := hx; rfl, by simp⟩
    · rename_i nm g _
      obtain ⟨vv, n, cs, B, rfl, hm, hE⟩ := getRow_ok hE
      simp only [Ex] at hE
      obtain ⟨hpl, B2, V, _, _, hE⟩ := hE
      have hv := own_eq hx hm
      subst hv
      have hb := H.blk nm _ hm
      simp only [BlkOk] at hb
      obtain ⟨h1, h2⟩ := H.lend hm (b' := .lent g vv _ n) rfl trivial ⟨rfl, rfl, rfl, Nat.le_refl _⟩
      have h1c : (hd nm).oneCell' = true := by simp only [AVok] at hx; exact hx.1
      exact ⟨_, _, _, _, _, fp nm, [], _, _, hE, h1, by simp only [PAok]; exact ⟨rfl, Ow.plainT _ (by simp only [Tr.plain]; exact hpl) hb, trivial⟩, by simp [AVokL], h2, fun _ => Tk.lend (fun h => h), rfl, h1c, by simp⟩
    · rename_i nm g i j vv _
      have h1c : xv.oneCell' = true := by simp only [AVok] at hx; exact hx.1
      obtain ⟨n, cs, m1, fp1, F, A1, W1, e1, e2, e3, e4, _⟩ := takeInn_ok H hx hE
      simp only [Ex] at e1
      obtain ⟨hpl, e1⟩ := e1
      exact ⟨_, _, _, m1, fp1, F, [], _, _, e1, e2, by simp only [PAok]; exact ⟨rfl, Ow.plainT _ (by simp only [Tr.plain]; exact hpl) e3, trivial⟩, by simp [AVokL], e4, fun h => by simp [Bk.inn1] at h, rfl, h1c, by simp⟩
    · have hx' := hx
      simp only [AVok] at hx
      obtain ⟨B, rfl⟩ := hx
      exact ⟨_, _, _, m, fp, [], [], A, W, hE, H, by simp [PAok, Tr.isRow, Ow, cells1], by simp [AVokL], Evo.refl _ _ _, fun _ => Tk.refl _ _, rfl, rfl, by simp⟩
    · exact ro (l := []) hx hE
  · simp only [Ex] at hE

theorem supp_mono {l l' : List AV} {m1 : Mem} {fp1 : Nat → List Nat} (hl : ∀ x, x ∈ l → x ∈ l') (h : (∀ x, x ∈ l → AV.nm x = none) ∨ (Tk m fp m1 fp1 ∧ ∀ x, x ∈ l → ∀ nm, AV.nm x = some nm → isRowB (m1 nm))) : ∀ k, supp c fp l k → supp c fp1 l' k := by
  rintro k (hk | ⟨x, hx, nm, hn, hk⟩)
  · exact .inl hk
  · rcases h with h | ⟨h1, h2⟩
    · rw [h x hx] at hn; cases hn
    · exact .inr ⟨x, hl x hx, nm, hn, by rw [(h1 nm (h2 x hx nm hn)).2]; exact hk⟩
/-- the first's Gd and the others' -/
theorem Gd.cons {p : Bk → Bool} {b : Bk} {bs : List Bk} {l l2 : List AV} {m1 m2 : Mem} {fp1 fp2 : Nat → List Nat} (h : Gd p (b :: bs) (l ++ l2) m2) (ht : bs.any p = false → Tk m1 fp1 m2 fp2) : Gd p [b] l m1 ∧ Gd p bs l2 m2 ∧ (∀ k, supp c fp1 l k → supp c fp2 (l ++ l2) k) ∧ (∀ k, supp c fp2 l2 k → supp c fp2 (l ++ l2) k) := by
  obtain ⟨h1, h2⟩ := h
  rcases h1 with h1 | h1
  · simp only [List.any_cons, Bool.or_eq_false_iff] at h1
    have hT := ht h1.2
    refine ⟨⟨.inl (by simpa using h1.1), fun x hx nm hn => ?_⟩, ⟨.inl h1.2, fun x hx => h2 x (by simp [hx])⟩, supp_mono (by simp_all) (.inr ⟨hT, fun x hx => h2 x (by simp [hx])⟩), supp_mono (m := m2) (by simp_all) (.inr ⟨Tk.refl _ _, fun x hx => h2 x (by simp [hx])⟩)⟩
    have := h2 x (by simp [hx]) nm hn
    rw [(hT nm this).1] at this
    exact this
  · have a1 : ∀ x, x ∈ l → AV.nm x = none := fun x hx => h1 x (by simp [hx])
    have a2 : ∀ x, x ∈ l2 → AV.nm x = none := fun x hx => h1 x (by simp [hx])
    exact ⟨⟨.inr a1, fun x hx nm hn => by rw [a1 x hx] at hn; cases hn⟩, ⟨.inr a2, fun x hx nm hn => by rw [a2 x hx] at hn; cases hn⟩, supp_mono (m := m1) (m1 := m2) (by simp_all) (.inl a1), supp_mono (m := m1) (m1 := m2) (by simp_all) (.inl a2)⟩

theorem hndL_ok {how : Hn} : ∀ (cks : List CK) (xs : List AV) {fp : Nat → List Nat} {m : Mem} {X A W : List Nat} {vs : List Value} {k : List PA → List Bk → List AV → AM α}, HM c hd fp m w X → AVokL c hd m w.heap xs vs → Ex P (hndL how cks xs k) u m y m' A W →
    ∃ ps bs l m1 fp1 F T A1 W1, Ex P (k ps bs l) u m1 y m' A1 W1 ∧ HM c hd fp1 m1 w (F ++ X) ∧ (Gd Bk.inn1 bs l m1 → PAokL w.heap (supp c fp1 l) ps vs F T) ∧ AVokL c hd m1 w.heap l T ∧ Evo hd m w.heap hd m1 w.heap ∧ (bs.any Bk.inn1 = false → Tk m fp m1 fp1) ∧ BkForL bs xs ∧ (∀ v, v ∈ vs → v.oneCell' = true) ∧ (∀ t, t ∈ T → t.oneCell' = true)
  | [], [], fp, m, X, A, W, vs, k, H, hx, hE => by
    simp only [hndL] at hE
    simp only [AVokL] at hx
    subst hx
    exact ⟨[], [], [], m, fp, [], [], A, W, hE, H, fun _ => by simp [PAokL], by simp [AVokL], Evo.refl _ _ _, fun _ => Tk.refl _ _, trivial, by simp, by simp⟩
  | ck :: cks, x :: xs, fp, m, X, A, W, vs, k, H, hx, hE => by
    simp only [hndL] at hE
    simp only [AVokL] at hx
    obtain ⟨v, us, rfl, h1, h2⟩ := hx
    obtain ⟨p, b, l, m1, fp1, F1, T1, A1, W1, e1, e2, e3, e4, e5, e6, e7, e8, e9⟩ := hnd_ok H h1 hE
    obtain ⟨ps, bs, l2, m2, fp2, F2, T2, A2, W2, q1, q2, q3, q4, q5, q6, q7, q8, q9⟩ := hndL_ok cks xs e2 (AVokL.evo e5 xs h2) e1
    refine ⟨p :: ps, b :: bs, l ++ l2, m2, fp2, F1 ++ F2, T1 ++ T2, A2, W2, q1, q2.pocket ?_, fun hg => ?_, AVokL.append (AVokL.evo (e5.trans q5) l e4) q4, e5.trans q5, fun h => ?_, ⟨e7, q7⟩, ?_, ?_⟩
    · rw [← List.append_assoc]; exact List.perm_append_comm.append_right X
    · obtain ⟨g1, g2, g3, g4⟩ := Gd.cons (c := c) (fp1 := fp1) (fp2 := fp2) (m1 := m1) hg q6
      have g5 : ∀ k, supp c fp l k → supp c fp2 (l ++ l2) k := by
        obtain ⟨g0, g0'⟩ := hg
        rcases g0 with g0 | g0
        · simp only [List.any_cons, Bool.or_eq_false_iff] at g0
          exact supp_mono (m := m) (m1 := m2) (by simp_all) (.inr ⟨(e6 g0.1).trans (q6 g0.2), fun x hx => g0' x (by simp [hx])⟩)
        · exact supp_mono (m := m) (m1 := m2) (by simp_all) (.inl fun x hx => g0 x (by simp [hx]))
      simp only [PAokL]
      exact ⟨v, us, F1, F2, T1, T2, rfl, PAok.mono g5 p e3, PAokL.mono g4 ps (q3 g2), rfl, rfl⟩
    · simp only [List.any_cons, Bool.or_eq_false_iff] at h
      exact (e6 h.1).trans (q6 h.2)
    · intro z hz
      rcases List.mem_cons.1 hz with rfl | hz
      · exact e8
      · exact q8 z hz
    · intro z hz
      rcases List.mem_append.1 hz with hz | hz
      · exact e9 z hz
      · exact q9 z hz
  | [], x :: xs, fp, m, X, A, W, vs, k, H, hx, hE => by simp only [hndL, Ex] at hE
  | ck :: cks, [], fp, m, X, A, W, vs, k, H, hx, hE => by simp only [hndL, Ex] at hE

theorem hndA_ok {how : Hn} {t : Nat} {x : AV} {v : Value} {k : PA → Bk → List AV → AM α} (H : HM c hd fp m w X) (hx : AVok c hd m w.heap x v) (hE : Ex P (hndA τ how t x k) u m y m' A W) :
    ∃ p b l m1 fp1 F T A1 W1, Ex P (k p b l) u m1 y m' A1 W1 ∧ HM c hd fp1 m1 w (F ++ X) ∧ (Gd Bk.isInn [b] l m1 → PAok w.heap (supp c fp1 l) p v F T) ∧ AVokL c hd m1 w.heap l T ∧ Evo hd m w.heap hd m1 w.heap ∧ (b.isInn = false → Tk m fp m1 fp1) ∧ BkForA b x ∧ (∀ t, t ∈ T → t.oneCell' = true) := by
  have one : ∀ {c1 : CK}, Ex P (hnd how c1 x k) u m y m' A W → ∃ p b l m1 fp1 F T A1 W1, Ex P (k p b l) u m1 y m' A1 W1 ∧ HM c hd fp1 m1 w (F ++ X) ∧ (Gd Bk.isInn [b] l m1 → PAok w.heap (supp c fp1 l) p v F T) ∧ AVokL c hd m1 w.heap l T ∧ Evo hd m w.heap hd m1 w.heap ∧ (b.isInn = false → Tk m fp m1 fp1) ∧ BkForA b x ∧ (∀ t, t ∈ T → t.oneCell' = true) := by
    intro c1 hE
    obtain ⟨p, b, l, m1, fp1, F1, T1, A1, W1, e1, e2, e3, e4, e5, e6, e7, e8, e9⟩ := hnd_ok H hx hE
    have hb : b.isInn = b.inn1 := by cases b <;> first | rfl | exact e7.elim
    have hb2 : BkForA b x := by cases b <;> first | exact e7 | exact e7.elim
    refine ⟨p, b, l, m1, fp1, F1, T1, A1, W1, e1, e2, fun hg => PAok.mono ?_ p e3, AVokL.evo e5 l e4, e5, fun h => e6 (hb ▸ h), hb2, e9⟩
    obtain ⟨g0, g0'⟩ := hg
    rcases g0 with g0 | g0
    · exact supp_mono (m := m) (m1 := m1) (fun _ h => h) (.inr ⟨e6 (by simpa [hb] using g0), g0'⟩)
    · exact supp_mono (m := m) (m1 := m1) (fun _ h => h) (.inl g0)
  unfold hndA at hE
  split at hE
  · rename_i f
    simp only [AVok] at hx
    subst hx
    exact ⟨_, _, _, m, fp, [], [], A, W, hE, H, fun _ => by simp [PAok], by simp [AVokL], Evo.refl _ _ _, fun _ => Tk.refl _ _, trivial, by simp⟩
  · rename_i xs
    split at hE
    · split at hE
      · simp only [AVok] at hx
        obtain ⟨vs, rfl, h2, h3⟩ := hx
        obtain ⟨ps, bs, l, m1, fp1, F, T, A1, W1, q1, q2, q3, q4, q5, q6, q7, q8, q9⟩ := hndL_ok _ _ H h2 hE
        refine ⟨_, _, _, m1, fp1, F, T, A1, W1, q1, q2, fun hg => ?_, q4, q5, fun h => q6 h, ⟨xs, rfl, q7⟩, q9⟩
        simp only [PAok]
        exact ⟨vs, rfl, q3 ⟨by simpa [Bk.isInn] using hg.1, hg.2⟩, h3⟩
      · simp only [Ex] at hE
    · simp only [Ex] at hE
  · rename_i nm g
    · obtain ⟨t', cs, B, rfl, hm, hE⟩ := getBox_ok hE
      · split at hE
        · rename_i j hj
          simp only [Ex] at hE
          obtain ⟨B2, V, _, _, hE⟩ := hE
          have hb := H.blk nm _ hm
          simp only [BlkOk] at hb
          obtain ⟨b, cur, e0, fr, h1, h2, h3, h4, h5, h6⟩ := hb
          obtain ⟨k1, k2⟩ := H.lend hm (b' := .lentB g t') rfl trivial (by simp only [EvB])
          obtain ⟨ps, bs, l, m1, fp1, F, T, A1, W1, q1, q2, q3, q4, q5, q6, q7, q8, q9⟩ := hndL_ok _ _ k1 (AVokL.evo k2 cs h4) hE
          rw [h6] at q2
          refine ⟨_, _, _, m1, fp1, b :: F, T, A1, W1, q1, q2.pocket ?_, fun hg => ?_, q4, k2.trans q5, fun h => (Tk.lend (b' := .lentB g t') (fun h => h)).trans (q6 (BkForL.inn q7 (by simpa [Bk.isInn, Bk.inn1] using h))), rfl, q9⟩
          · rw [List.cons_append]
            exact (List.perm_middle (l₁ := F) (l₂ := X) (a := b)).symm
          · simp only [PAok]
            have hv : v = .pointer (some ⟨b, 0, none⟩) := by
              simp only [AVok] at hx
              obtain ⟨b2, hb2, hg2, hk2⟩ := hx.2
              rw [hm] at hb2; injection hb2 with hb2; subst hb2
              obtain ⟨_, b3, r1, r2⟩ := hk2 rfl
              rw [h1] at r1; injection r1 with r1; injection r1 with r1; injection r1 with r1
              rw [r2, r1]
            refine ⟨b, cur, e0, fr, F, hv, h2, h3, q3 ⟨?_, hg.2⟩, h5, rfl⟩
            rcases hg.1 with h | h
            · exact .inl (BkForL.inn q7 (by simpa [Bk.isInn, Bk.inn1] using h))
            · exact .inr h
        · simp only [Ex] at hE
  · split at hE
    · split at hE
      · simp only [Ex] at hE
      · exact one hE
    · simp only [Ex] at hE

theorem hndAL_ok : ∀ (ms : List Hn) (ts : List Nat) (xs : List AV) {fp : Nat → List Nat} {m : Mem} {X A W : List Nat} {vs : List Value} {k : List PA → List Bk → List AV → AM α}, HM c hd fp m w X → AVokL c hd m w.heap xs vs → Ex P (hndAL τ ms ts xs k) u m y m' A W →
    ∃ ps bs l m1 fp1 F T A1 W1, Ex P (k ps bs l) u m1 y m' A1 W1 ∧ HM c hd fp1 m1 w (F ++ X) ∧ (Gd Bk.isInn bs l m1 → PAokL w.heap (supp c fp1 l) ps vs F T) ∧ AVokL c hd m1 w.heap l T ∧ Evo hd m w.heap hd m1 w.heap ∧ (bs.any Bk.isInn = false → Tk m fp m1 fp1) ∧ BkForAL bs xs ∧ (∀ t, t ∈ T → t.oneCell' = true)
  | ms, [], [], fp, m, X, A, W, vs, k, H, hx, hE => by
    simp only [hndAL] at hE
    simp only [AVokL] at hx
    subst hx
    exact ⟨[], [], [], m, fp, [], [], A, W, hE, H, fun _ => by simp [PAokL], by simp [AVokL], Evo.refl _ _ _, fun _ => Tk.refl _ _, trivial, by simp⟩
  | ms, t :: ts, x :: xs, fp, m, X, A, W, vs, k, H, hx, hE => by
    simp only [hndAL] at hE
    simp only [AVokL] at hx
    obtain ⟨v, us, rfl, h1, h2⟩ := hx
    obtain ⟨p, b, l, m1, fp1, F1, T1, A1, W1, e1, e2, e3, e4, e5, e6, e7, e9⟩ := hndA_ok H h1 hE
    obtain ⟨ps, bs, l2, m2, fp2, F2, T2, A2, W2, q1, q2, q3, q4, q5, q6, q7, q9⟩ := hndAL_ok ms.tail ts xs e2 (AVokL.evo e5 xs h2) e1
    refine ⟨p :: ps, b :: bs, l ++ l2, m2, fp2, F1 ++ F2, T1 ++ T2, A2, W2, q1, q2.pocket ?_, fun hg => ?_, AVokL.append (AVokL.evo q5 l e4) q4, e5.trans q5, fun h => ?_, ⟨e7, q7⟩, ?_⟩
    · rw [← List.append_assoc]; exact List.perm_append_comm.append_right X
    · obtain ⟨g1, g2, g3, g4⟩ := Gd.cons (c := c) (fp1 := fp1) (fp2 := fp2) (m1 := m1) hg q6
      simp only [PAokL]
      exact ⟨v, us, F1, F2, T1, T2, rfl, PAok.mono g3 p (e3 g1), PAokL.mono g4 ps (q3 g2), rfl, rfl⟩
    · simp only [List.any_cons, Bool.or_eq_false_iff] at h
      exact (e6 h.1).trans (q6 h.2)
    · intro z hz
      rcases List.mem_append.1 hz with hz | hz
      · exact e9 z hz
      · exact q9 z hz
  | ms, [], x :: xs, fp, m, X, A, W, vs, k, H, hx, hE => by simp only [hndAL, Ex] at hE
  | ms, t :: ts, [], fp, m, X, A, W, vs, k, H, hx, hE => by simp only [hndAL, Ex] at hE

theorem chk_ok {bs : List Bk} : ∀ (l : List AV) {k : AM α} {A : List Nat}, Ex P (chk bs l k) u m y m' A W → ∃ A1, Ex P k u m y m' A1 W ∧ Gd Bk.isInn bs l m
  | [], k, A, hE => ⟨A, by simpa only [chk] using hE, .inr (by simp), by simp⟩
  | x :: xs, k, A, hE => by
    simp only [chk] at hE
    cases hn : AV.nm x with
    | none =>
      rw [hn] at hE
      obtain ⟨A1, h1, h2, h3⟩ := chk_ok xs hE
      refine ⟨A1, h1, h2.imp id (fun h z hz => ?_), fun z hz => ?_⟩
      · rcases List.mem_cons.1 hz with rfl | hz
        · exact hn
        · exact h z hz
      · rcases List.mem_cons.1 hz with rfl | hz
        · intro nm h; rw [hn] at h; cases h
        · exact h3 z hz
    | some nm =>
      rw [hn] at hE
      simp only [Ex] at hE
      obtain ⟨B, rfl, hE⟩ := hE
      cases hm : m nm with
      | none => rw [hm] at hE; simp only [Ex] at hE
      | some b =>
        rw [hm] at hE
        cases b with
        | row g v sz n cs =>
          simp only at hE
          split at hE
          · simp only [Ex] at hE
          · rename_i hno
            obtain ⟨A1, h1, h2, h3⟩ := chk_ok xs hE
            refine ⟨A1, h1, .inl (by simpa using hno), fun z hz => ?_⟩
            rcases List.mem_cons.1 hz with rfl | hz
            · intro nm' h; rw [hn] at h; injection h with h; subst h; rw [hm]; trivial
            · exact h3 z hz
        | _ => simp only [Ex] at hE
end
end Go.AM
