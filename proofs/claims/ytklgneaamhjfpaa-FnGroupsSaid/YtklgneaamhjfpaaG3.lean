/-
  Contracts: OpenChosen; the walks of the exact laws over groups and single ints.
-/
import Derived.Test.YtklgneaamhjfpaaG2
namespace Go.Proofs.Ytklgneaamhjfpaa
open Go.RowKit
set_option linter.unusedVariables false
set_option linter.unusedSimpArgs false

set_option maxHeartbeats 1000000 in
theorem i_OpenChosen (P Q G f b c i x0 x1 : Int) (w : World) (hP0 : Fits P) (hQ0 : Fits Q) (hG0 : Fits G) (hf : Fits f) (hb0 : Fits b) (hc0 : Fits c) (hi0 : Fits i) (hx0 : Fits x0) (hx1 : Fits x1) :
    Calls Try.prog 20 #[.agg #[.int .i64 P, .int .i64 Q, .int .i64 G], .int .i64 f, .int .i64 b, .int .i64 c, .int .i64 i, .int .i64 x0, .int .i64 x1] w fun e w' => e = .returned (.tuple #[.int .i64 (openChosen P Q G f b c i x0 x1).1, .bool (openChosen P Q G f b c i x0 x1).2]) ∧ Below w.heap.size w w' := by
  cases h1 : chB P Q G f b i with
  | false =>
    have hcp := chosenPad_f h1
    have hch : (firstB P Q G f && (inB b 0 (Q - 1) && inB i 0 39)) = false := h1
    rw [show openChosen P Q G f b c i x0 x1 = (0, false) by unfold openChosen; rw [hch]; rfl]
    go_enter Try.func20, Try.ntmps20
    go_wp2_with (first | (go_at_call 33; refine (i_ChosenPad _ _ _ _ _ _ _ hP0 hQ0 hG0 hf hb0 hi0).mono ?_; rintro e w' ⟨rfl, hb⟩; (first | (have H := gbox1 hb) | (have H := Gx.on gb0 hb; clear gb0 k0 k1 k2)); have gb0 := H; have kk := H; clear H; obtain ⟨k0, k1, k2⟩ := kk) | (go_at_call 79; refine (i_bitB _ _).mono ?_; rintro e w' ⟨rfl, rfl⟩) | (go_at_call 80; refine (i_isLabel _ _).mono ?_; rintro e w' ⟨rfl, rfl⟩))
    all_goals
      go_ret2
      exact ⟨rfl, by (repeat (first | exact Below.refl _ _ | assumption | refine bel_trans ?_ (bel_alloc _ _) | refine bel_set ?_ (by first | (dsimp only; omega) | (simp; omega) | simp) _ | refine bel_trans ?_ (bel_drewN _ _) | refine bel_trans ?_ (bel_drew _) | refine bel_trans ?_ (by assumption)))⟩
  | true =>
    have hcp := chosenPad_t h1
    have hch : (firstB P Q G f && (inB b 0 (Q - 1) && inB i 0 39)) = true := h1
    cases h2 : inB c 0 1 with
    | false =>
      rw [show openChosen P Q G f b c i x0 x1 = (0, false) by simp [openChosen, chB, h2]]
      go_enter Try.func20, Try.ntmps20
      go_wp2_with (first | (go_at_call 33; refine (i_ChosenPad _ _ _ _ _ _ _ hP0 hQ0 hG0 hf hb0 hi0).mono ?_; rintro e w' ⟨rfl, hb⟩; (first | (have H := gbox1 hb) | (have H := Gx.on gb0 hb; clear gb0 k0 k1 k2)); have gb0 := H; have kk := H; clear H; obtain ⟨k0, k1, k2⟩ := kk) | (go_at_call 79; refine (i_bitB _ _).mono ?_; rintro e w' ⟨rfl, rfl⟩) | (go_at_call 80; refine (i_isLabel _ _).mono ?_; rintro e w' ⟨rfl, rfl⟩))
      all_goals
        go_ret2
        exact ⟨rfl, by (repeat (first | exact Below.refl _ _ | assumption | refine bel_trans ?_ (bel_alloc _ _) | refine bel_set ?_ (by first | (dsimp only; omega) | (simp; omega) | simp) _ | refine bel_trans ?_ (bel_drewN _ _) | refine bel_trans ?_ (bel_drew _) | refine bel_trans ?_ (by assumption)))⟩
    | true =>
      cases h3 : inB x0 0 65535 with
      | false =>
        rw [show openChosen P Q G f b c i x0 x1 = (0, false) by simp [openChosen, chB, h3]]
        go_enter Try.func20, Try.ntmps20
        go_wp2_with (first | (go_at_call 33; refine (i_ChosenPad _ _ _ _ _ _ _ hP0 hQ0 hG0 hf hb0 hi0).mono ?_; rintro e w' ⟨rfl, hb⟩; (first | (have H := gbox1 hb) | (have H := Gx.on gb0 hb; clear gb0 k0 k1 k2)); have gb0 := H; have kk := H; clear H; obtain ⟨k0, k1, k2⟩ := kk) | (go_at_call 79; refine (i_bitB _ _).mono ?_; rintro e w' ⟨rfl, rfl⟩) | (go_at_call 80; refine (i_isLabel _ _).mono ?_; rintro e w' ⟨rfl, rfl⟩))
        all_goals
          go_ret2
          exact ⟨rfl, by (repeat (first | exact Below.refl _ _ | assumption | refine bel_trans ?_ (bel_alloc _ _) | refine bel_set ?_ (by first | (dsimp only; omega) | (simp; omega) | simp) _ | refine bel_trans ?_ (bel_drewN _ _) | refine bel_trans ?_ (bel_drew _) | refine bel_trans ?_ (by assumption)))⟩
      | true =>
        cases h4 : inB x1 0 65535 with
        | false =>
          rw [show openChosen P Q G f b c i x0 x1 = (0, false) by simp [openChosen, chB, h4]]
          go_enter Try.func20, Try.ntmps20
          go_wp2_with (first | (go_at_call 33; refine (i_ChosenPad _ _ _ _ _ _ _ hP0 hQ0 hG0 hf hb0 hi0).mono ?_; rintro e w' ⟨rfl, hb⟩; (first | (have H := gbox1 hb) | (have H := Gx.on gb0 hb; clear gb0 k0 k1 k2)); have gb0 := H; have kk := H; clear H; obtain ⟨k0, k1, k2⟩ := kk) | (go_at_call 79; refine (i_bitB _ _).mono ?_; rintro e w' ⟨rfl, rfl⟩) | (go_at_call 80; refine (i_isLabel _ _).mono ?_; rintro e w' ⟨rfl, rfl⟩))
          all_goals
            go_ret2
            exact ⟨rfl, by (repeat (first | exact Below.refl _ _ | assumption | refine bel_trans ?_ (bel_alloc _ _) | refine bel_set ?_ (by first | (dsimp only; omega) | (simp; omega) | simp) _ | refine bel_trans ?_ (bel_drewN _ _) | refine bel_trans ?_ (bel_drew _) | refine bel_trans ?_ (by assumption)))⟩
        | true =>
          by_cases h5 : c = 1
          · subst h5
            rw [show openChosen P Q G f b 1 i x0 x1 = (bits .xor .i64 x1 (padOf (gpw P Q f b) i), true) by simp [openChosen, hch, h2, h3, h4]]
            go_enter Try.func20, Try.ntmps20
            go_wp2_with (first | (go_at_call 33; refine (i_ChosenPad _ _ _ _ _ _ _ hP0 hQ0 hG0 hf hb0 hi0).mono ?_; rintro e w' ⟨rfl, hb⟩; (first | (have H := gbox1 hb) | (have H := Gx.on gb0 hb; clear gb0 k0 k1 k2)); have gb0 := H; have kk := H; clear H; obtain ⟨k0, k1, k2⟩ := kk) | (go_at_call 79; refine (i_bitB _ _).mono ?_; rintro e w' ⟨rfl, rfl⟩) | (go_at_call 80; refine (i_isLabel _ _).mono ?_; rintro e w' ⟨rfl, rfl⟩))
            all_goals
              go_ret2
              exact ⟨rfl, by (repeat (first | exact Below.refl _ _ | assumption | refine bel_trans ?_ (bel_alloc _ _) | refine bel_set ?_ (by first | (dsimp only; omega) | (simp; omega) | simp) _ | refine bel_trans ?_ (bel_drewN _ _) | refine bel_trans ?_ (bel_drew _) | refine bel_trans ?_ (by assumption)))⟩
          · have h5b : (c == 1) = false := by simp [h5]
            rw [show openChosen P Q G f b c i x0 x1 = (bits .xor .i64 x0 (padOf (gpw P Q f b) i), true) by simp [openChosen, hch, h2, h3, h4, h5]]
            go_enter Try.func20, Try.ntmps20
            go_wp2_with (first | (go_at_call 33; refine (i_ChosenPad _ _ _ _ _ _ _ hP0 hQ0 hG0 hf hb0 hi0).mono ?_; rintro e w' ⟨rfl, hb⟩; (first | (have H := gbox1 hb) | (have H := Gx.on gb0 hb; clear gb0 k0 k1 k2)); have gb0 := H; have kk := H; clear H; obtain ⟨k0, k1, k2⟩ := kk) | (go_at_call 79; refine (i_bitB _ _).mono ?_; rintro e w' ⟨rfl, rfl⟩) | (go_at_call 80; refine (i_isLabel _ _).mono ?_; rintro e w' ⟨rfl, rfl⟩))
            all_goals
              go_ret2
              exact ⟨rfl, by (repeat (first | exact Below.refl _ _ | assumption | refine bel_trans ?_ (bel_alloc _ _) | refine bel_set ?_ (by first | (dsimp only; omega) | (simp; omega) | simp) _ | refine bel_trans ?_ (bel_drewN _ _) | refine bel_trans ?_ (bel_drew _) | refine bel_trans ?_ (by assumption)))⟩

set_option maxHeartbeats 1000000 in
theorem s_OpenChosen (P Q G f b c i x0 x1 : Int) (w : World) (hP0 : Fits P) (hQ0 : Fits Q) (hG0 : Fits G) (hf : Fits f) (hb0 : Fits b) (hc0 : Fits c) (hi0 : Fits i) (hx0 : Fits x0) (hx1 : Fits x1) :
    Calls Try.prog 21 #[.agg #[.int .i64 P, .int .i64 Q, .int .i64 G], .int .i64 f, .int .i64 b, .int .i64 c, .int .i64 i, .int .i64 x0, .int .i64 x1] w fun e w' => e = .returned (.tuple #[.int .i64 (openChosen P Q G f b c i x0 x1).1, .bool (openChosen P Q G f b c i x0 x1).2]) ∧ Below w.heap.size w w' := by
  cases h1 : firstB P Q G f with
  | false =>
    rw [show openChosen P Q G f b c i x0 x1 = (0, false) by simp [openChosen, chB, h1]]
    go_enter Try.func21, Try.ntmps21
    go_wp2_with (first | (go_at_call 81; refine (s_otFirst _ _ _ _ _).mono ?_; rintro e w' ⟨rfl, hb⟩; (first | (have H := gbox1 hb) | (have H := Gx.on gb0 hb; clear gb0 k0 k1 k2)); have gb0 := H; have kk := H; clear H; obtain ⟨k0, k1, k2⟩ := kk) | (go_at_call 82; refine (s_otReceiver _ _ _ _ _ (by assumption) (by assumption)).mono ?_; rintro e w' ⟨rfl, hb⟩; (first | (have H := gbox1 hb) | (have H := Gx.on gb0 hb; clear gb0 k0 k1 k2)); have gb0 := H; have kk := H; clear H; obtain ⟨k0, k1, k2⟩ := kk) | (go_at_call 64; refine (s_l1In _ _ _ _).mono ?_; rintro e w' ⟨rfl, rfl⟩) | (go_at_call 83; refine (s_otNumber _ _).mono ?_; rintro e w' ⟨rfl, rfl⟩) | (go_at_call 84; refine (s_otMessage _ _).mono ?_; rintro e w' ⟨rfl, rfl⟩))
    all_goals
      go_ret2
      exact ⟨rfl, by (repeat (first | exact Below.refl _ _ | assumption | refine bel_trans ?_ (bel_alloc _ _) | refine bel_set ?_ (by first | (dsimp only; omega) | (simp; omega) | simp) _ | refine bel_trans ?_ (bel_drewN _ _) | refine bel_trans ?_ (bel_drew _) | refine bel_trans ?_ (by assumption)))⟩
  | true =>
    obtain ⟨hg, hh, hne⟩ := firstB_iff.1 h1
    obtain ⟨hP, hQ, hG⟩ := grB_lo hg
    obtain ⟨f1, f2⟩ := hasB_lo hh
    clear hg hh
    cases h2 : inB b 0 (Q - 1) with
    | false =>
      rw [show openChosen P Q G f b c i x0 x1 = (0, false) by simp [openChosen, chB, h2]]
      go_enter Try.func21, Try.ntmps21
      go_wp2_with (first | (go_at_call 81; refine (s_otFirst _ _ _ _ _).mono ?_; rintro e w' ⟨rfl, hb⟩; (first | (have H := gbox1 hb) | (have H := Gx.on gb0 hb; clear gb0 k0 k1 k2)); have gb0 := H; have kk := H; clear H; obtain ⟨k0, k1, k2⟩ := kk) | (go_at_call 82; refine (s_otReceiver _ _ _ _ _ (by assumption) (by assumption)).mono ?_; rintro e w' ⟨rfl, hb⟩; (first | (have H := gbox1 hb) | (have H := Gx.on gb0 hb; clear gb0 k0 k1 k2)); have gb0 := H; have kk := H; clear H; obtain ⟨k0, k1, k2⟩ := kk) | (go_at_call 64; refine (s_l1In _ _ _ _).mono ?_; rintro e w' ⟨rfl, rfl⟩) | (go_at_call 83; refine (s_otNumber _ _).mono ?_; rintro e w' ⟨rfl, rfl⟩) | (go_at_call 84; refine (s_otMessage _ _).mono ?_; rintro e w' ⟨rfl, rfl⟩))
      all_goals
        go_ret2
        exact ⟨rfl, by (repeat (first | exact Below.refl _ _ | assumption | refine bel_trans ?_ (bel_alloc _ _) | refine bel_set ?_ (by first | (dsimp only; omega) | (simp; omega) | simp) _ | refine bel_trans ?_ (bel_drewN _ _) | refine bel_trans ?_ (bel_drew _) | refine bel_trans ?_ (by assumption)))⟩
    | true =>
      obtain ⟨b1, b2⟩ := inB_iff.1 h2
      cases h3 : inB c 0 1 with
      | false =>
        rw [show openChosen P Q G f b c i x0 x1 = (0, false) by simp [openChosen, chB, h3]]
        go_enter Try.func21, Try.ntmps21
        go_wp2_with (first | (go_at_call 81; refine (s_otFirst _ _ _ _ _).mono ?_; rintro e w' ⟨rfl, hb⟩; (first | (have H := gbox1 hb) | (have H := Gx.on gb0 hb; clear gb0 k0 k1 k2)); have gb0 := H; have kk := H; clear H; obtain ⟨k0, k1, k2⟩ := kk) | (go_at_call 82; refine (s_otReceiver _ _ _ _ _ (by assumption) (by assumption)).mono ?_; rintro e w' ⟨rfl, hb⟩; (first | (have H := gbox1 hb) | (have H := Gx.on gb0 hb; clear gb0 k0 k1 k2)); have gb0 := H; have kk := H; clear H; obtain ⟨k0, k1, k2⟩ := kk) | (go_at_call 64; refine (s_l1In _ _ _ _).mono ?_; rintro e w' ⟨rfl, rfl⟩) | (go_at_call 83; refine (s_otNumber _ _).mono ?_; rintro e w' ⟨rfl, rfl⟩) | (go_at_call 84; refine (s_otMessage _ _).mono ?_; rintro e w' ⟨rfl, rfl⟩))
        all_goals
          go_ret2
          exact ⟨rfl, by (repeat (first | exact Below.refl _ _ | assumption | refine bel_trans ?_ (bel_alloc _ _) | refine bel_set ?_ (by first | (dsimp only; omega) | (simp; omega) | simp) _ | refine bel_trans ?_ (bel_drewN _ _) | refine bel_trans ?_ (bel_drew _) | refine bel_trans ?_ (by assumption)))⟩
      | true =>
        cases h4 : inB i 0 39 with
        | false =>
          rw [show openChosen P Q G f b c i x0 x1 = (0, false) by simp [openChosen, chB, h4]]
          go_enter Try.func21, Try.ntmps21
          go_wp2_with (first | (go_at_call 81; refine (s_otFirst _ _ _ _ _).mono ?_; rintro e w' ⟨rfl, hb⟩; (first | (have H := gbox1 hb) | (have H := Gx.on gb0 hb; clear gb0 k0 k1 k2)); have gb0 := H; have kk := H; clear H; obtain ⟨k0, k1, k2⟩ := kk) | (go_at_call 82; refine (s_otReceiver _ _ _ _ _ (by assumption) (by assumption)).mono ?_; rintro e w' ⟨rfl, hb⟩; (first | (have H := gbox1 hb) | (have H := Gx.on gb0 hb; clear gb0 k0 k1 k2)); have gb0 := H; have kk := H; clear H; obtain ⟨k0, k1, k2⟩ := kk) | (go_at_call 64; refine (s_l1In _ _ _ _).mono ?_; rintro e w' ⟨rfl, rfl⟩) | (go_at_call 83; refine (s_otNumber _ _).mono ?_; rintro e w' ⟨rfl, rfl⟩) | (go_at_call 84; refine (s_otMessage _ _).mono ?_; rintro e w' ⟨rfl, rfl⟩))
          all_goals
            go_ret2
            exact ⟨rfl, by (repeat (first | exact Below.refl _ _ | assumption | refine bel_trans ?_ (bel_alloc _ _) | refine bel_set ?_ (by first | (dsimp only; omega) | (simp; omega) | simp) _ | refine bel_trans ?_ (bel_drewN _ _) | refine bel_trans ?_ (bel_drew _) | refine bel_trans ?_ (by assumption)))⟩
        | true =>
          obtain ⟨i1, i2⟩ := inB_iff.1 h4
          obtain ⟨p1, p2⟩ := gpw_bd P Q f b (by omega)
          cases h5 : inB x0 0 65535 with
          | false =>
            rw [show openChosen P Q G f b c i x0 x1 = (0, false) by simp [openChosen, chB, h5]]
            go_enter Try.func21, Try.ntmps21
            go_wp2_with (first | (go_at_call 81; refine (s_otFirst _ _ _ _ _).mono ?_; rintro e w' ⟨rfl, hb⟩; (first | (have H := gbox1 hb) | (have H := Gx.on gb0 hb; clear gb0 k0 k1 k2)); have gb0 := H; have kk := H; clear H; obtain ⟨k0, k1, k2⟩ := kk) | (go_at_call 82; refine (s_otReceiver _ _ _ _ _ (by assumption) (by assumption)).mono ?_; rintro e w' ⟨rfl, hb⟩; (first | (have H := gbox1 hb) | (have H := Gx.on gb0 hb; clear gb0 k0 k1 k2)); have gb0 := H; have kk := H; clear H; obtain ⟨k0, k1, k2⟩ := kk) | (go_at_call 64; refine (s_l1In _ _ _ _).mono ?_; rintro e w' ⟨rfl, rfl⟩) | (go_at_call 83; refine (s_otNumber _ _).mono ?_; rintro e w' ⟨rfl, rfl⟩) | (go_at_call 84; refine (s_otMessage _ _).mono ?_; rintro e w' ⟨rfl, rfl⟩))
            all_goals
              go_ret2
              exact ⟨rfl, by (repeat (first | exact Below.refl _ _ | assumption | refine bel_trans ?_ (bel_alloc _ _) | refine bel_set ?_ (by first | (dsimp only; omega) | (simp; omega) | simp) _ | refine bel_trans ?_ (bel_drewN _ _) | refine bel_trans ?_ (bel_drew _) | refine bel_trans ?_ (by assumption)))⟩
          | true =>
            cases h6 : inB x1 0 65535 with
            | false =>
              rw [show openChosen P Q G f b c i x0 x1 = (0, false) by simp [openChosen, chB, h6]]
              go_enter Try.func21, Try.ntmps21
              go_wp2_with (first | (go_at_call 81; refine (s_otFirst _ _ _ _ _).mono ?_; rintro e w' ⟨rfl, hb⟩; (first | (have H := gbox1 hb) | (have H := Gx.on gb0 hb; clear gb0 k0 k1 k2)); have gb0 := H; have kk := H; clear H; obtain ⟨k0, k1, k2⟩ := kk) | (go_at_call 82; refine (s_otReceiver _ _ _ _ _ (by assumption) (by assumption)).mono ?_; rintro e w' ⟨rfl, hb⟩; (first | (have H := gbox1 hb) | (have H := Gx.on gb0 hb; clear gb0 k0 k1 k2)); have gb0 := H; have kk := H; clear H; obtain ⟨k0, k1, k2⟩ := kk) | (go_at_call 64; refine (s_l1In _ _ _ _).mono ?_; rintro e w' ⟨rfl, rfl⟩) | (go_at_call 83; refine (s_otNumber _ _).mono ?_; rintro e w' ⟨rfl, rfl⟩) | (go_at_call 84; refine (s_otMessage _ _).mono ?_; rintro e w' ⟨rfl, rfl⟩))
              all_goals
                go_ret2
                exact ⟨rfl, by (repeat (first | exact Below.refl _ _ | assumption | refine bel_trans ?_ (bel_alloc _ _) | refine bel_set ?_ (by first | (dsimp only; omega) | (simp; omega) | simp) _ | refine bel_trans ?_ (bel_drewN _ _) | refine bel_trans ?_ (bel_drew _) | refine bel_trans ?_ (by assumption)))⟩
            | true =>
              by_cases h7 : c = 1
              · subst h7
                rw [show openChosen P Q G f b 1 i x0 x1 = (bits .xor .i64 x1 (padOf (gpw P Q f b) i), true) by simp [openChosen, h1, h2, h3, h4, h5, h6]]
                go_enter Try.func21, Try.ntmps21
                go_wp2_with (first | (go_at_call 81; refine (s_otFirst _ _ _ _ _).mono ?_; rintro e w' ⟨rfl, hb⟩; (first | (have H := gbox1 hb) | (have H := Gx.on gb0 hb; clear gb0 k0 k1 k2)); have gb0 := H; have kk := H; clear H; obtain ⟨k0, k1, k2⟩ := kk) | (go_at_call 82; refine (s_otReceiver _ _ _ _ _ (by assumption) (by assumption)).mono ?_; rintro e w' ⟨rfl, hb⟩; (first | (have H := gbox1 hb) | (have H := Gx.on gb0 hb; clear gb0 k0 k1 k2)); have gb0 := H; have kk := H; clear H; obtain ⟨k0, k1, k2⟩ := kk) | (go_at_call 64; refine (s_l1In _ _ _ _).mono ?_; rintro e w' ⟨rfl, rfl⟩) | (go_at_call 83; refine (s_otNumber _ _).mono ?_; rintro e w' ⟨rfl, rfl⟩) | (go_at_call 84; refine (s_otMessage _ _).mono ?_; rintro e w' ⟨rfl, rfl⟩) | (go_at_call 65; refine (s_grTo _ _ _ _ _ _ hP hQ (by omega) (by omega)).mono ?_; rintro e w' ⟨rfl, hb⟩; (first | (have H := gbox1 hb) | (have H := Gx.on gb0 hb; clear gb0 k0 k1 k2)); have gb0 := H; have kk := H; clear H; obtain ⟨k0, k1, k2⟩ := kk) | (go_at_call 85; refine (s_otPad _ _ _ (by omega) (by omega)).mono ?_; rintro e w' ⟨rfl, hb⟩))
                all_goals
                  go_ret2
                  exact ⟨rfl, by (repeat (first | exact Below.refl _ _ | assumption | refine bel_trans ?_ (bel_alloc _ _) | refine bel_set ?_ (by first | (dsimp only; omega) | (simp; omega) | simp) _ | refine bel_trans ?_ (bel_drewN _ _) | refine bel_trans ?_ (bel_drew _) | refine bel_trans ?_ (by assumption)))⟩
              · have h7b : (c == 1) = false := by simp [h7]
                rw [show openChosen P Q G f b c i x0 x1 = (bits .xor .i64 x0 (padOf (gpw P Q f b) i), true) by simp [openChosen, h1, h2, h3, h4, h5, h6, h7]]
                go_enter Try.func21, Try.ntmps21
                go_wp2_with (first | (go_at_call 81; refine (s_otFirst _ _ _ _ _).mono ?_; rintro e w' ⟨rfl, hb⟩; (first | (have H := gbox1 hb) | (have H := Gx.on gb0 hb; clear gb0 k0 k1 k2)); have gb0 := H; have kk := H; clear H; obtain ⟨k0, k1, k2⟩ := kk) | (go_at_call 82; refine (s_otReceiver _ _ _ _ _ (by assumption) (by assumption)).mono ?_; rintro e w' ⟨rfl, hb⟩; (first | (have H := gbox1 hb) | (have H := Gx.on gb0 hb; clear gb0 k0 k1 k2)); have gb0 := H; have kk := H; clear H; obtain ⟨k0, k1, k2⟩ := kk) | (go_at_call 64; refine (s_l1In _ _ _ _).mono ?_; rintro e w' ⟨rfl, rfl⟩) | (go_at_call 83; refine (s_otNumber _ _).mono ?_; rintro e w' ⟨rfl, rfl⟩) | (go_at_call 84; refine (s_otMessage _ _).mono ?_; rintro e w' ⟨rfl, rfl⟩) | (go_at_call 65; refine (s_grTo _ _ _ _ _ _ hP hQ (by omega) (by omega)).mono ?_; rintro e w' ⟨rfl, hb⟩; (first | (have H := gbox1 hb) | (have H := Gx.on gb0 hb; clear gb0 k0 k1 k2)); have gb0 := H; have kk := H; clear H; obtain ⟨k0, k1, k2⟩ := kk) | (go_at_call 85; refine (s_otPad _ _ _ (by omega) (by omega)).mono ?_; rintro e w' ⟨rfl, hb⟩))
                all_goals
                  go_ret2
                  exact ⟨rfl, by (repeat (first | exact Below.refl _ _ | assumption | refine bel_trans ?_ (bel_alloc _ _) | refine bel_set ?_ (by first | (dsimp only; omega) | (simp; omega) | simp) _ | refine bel_trans ?_ (bel_drewN _ _) | refine bel_trans ?_ (bel_drew _) | refine bel_trans ?_ (by assumption)))⟩
