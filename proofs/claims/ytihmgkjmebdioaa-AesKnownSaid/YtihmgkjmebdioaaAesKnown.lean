/- The walk of AesKnown: a closed statement. -/
import Derived.Test.YtihmgkjmebdioaaRows
import Derived.Test.YtihmgkjmebdioaaAesForms
namespace Go.Proofs.Ytihmgkjmebdioaa
open Go.RowKit
set_option maxRecDepth 100000
set_option linter.unusedVariables false
set_option linter.unusedSimpArgs false

theorem size_at (k : Nat) (hk : k < 4) : ∃ s : Nat, (#[Value.int .i64 0, .int .i64 15, .int .i64 17, .int .i64 33] : Array Value)[k]? = some (.int .i64 (s : Int)) ∧ s ≤ 33 ∧ ¬ s = 16 ∧ ¬ s = 24 ∧ ¬ s = 32 := by
  rcases k with _ | _ | _ | _ | k
  · exact ⟨0, rfl, by decide⟩
  · exact ⟨15, rfl, by decide⟩
  · exact ⟨17, rfl, by decide⟩
  · exact ⟨33, rfl, by decide⟩
  · omega
set_option maxHeartbeats 8000000 in
theorem aesKnown.walk (w : World) : Calls Try.prog 4 #[] w fun e w' => e = .returned (.bool true) ∧ Below w.heap.size w w' := by
  obtain ⟨i0, hi, hz0, hz1, hz2⟩ := info_parts info8
  have HI := Lib.hid (And.intro hi (And.intro hz0 (And.intro hz1 hz2)))
  clear hi hz0 hz1 hz2
  have H1 := Lib.hid ((Env.start w).newK 3 #[.int .i64 0, .int .i64 15, .int .i64 17, .int .i64 33])
  go_enter Try.func4, Try.ntmps4
  go_wp2_with fail
  obtain ⟨bs, hbs⟩ : ∃ bs, bs = w.heap.size := ⟨_, rfl⟩
  have H2 : Hid (Env w (w.alloc (.cells #[.int .i64 0, .int .i64 15, .int .i64 17, .int .i64 33] 3)) [obK bs 3 #[.int .i64 0, .int .i64 15, .int .i64 17, .int .i64 33]]) := by rw [hbs]; exact H1
  rw [← hbs]
  clear hbs H1
  go_loopw [2] (fun i w1 => ∃ k : Nat, k ≤ 4 ∧ i = .int .i64 (k : Int) ∧ Hid (Env w w1 [obK bs 3 #[.int .i64 0, .int .i64 15, .int .i64 17, .int .i64 33]])) (fun i _ => 4 - (intOf i).toNat)
  case atStart => exact ⟨0, by omega, rfl, H2⟩
  case round =>
    obtain ⟨k, hk, rfl, H⟩ := hrel
    clear H2
    by_cases hlt : k < 4
    · obtain ⟨s, hs, hs33, hs3⟩ := size_at k hlt
      have c0 := (H.out.blk 0 rfl).cellAt k hs
      have hb := (H.out.blk 0 rfl).lt
      clear hs
      obtain ⟨hi, hz0, hz1, hz2⟩ := HI.out
      go_wp2_with (refine wpList_make_full _ rfl _ _ 22 rfl 0 5 i0 _ 1 Try.underlying22 hi hz0 hz1 .i64 .i64 _ _ s rfl rfl rfl rfl (mk48 (by omega) hz2) (mkmax (by omega)) (Nat.zero_le _) ?_)
      intro w2 hown hgrow
      have ho := made_bs hown
      have hb2 := (Below.refl wr.heap.size wr).grown hgrow (Nat.le_refl _) (fun k hk => by cases hk)
      have H3 := Lib.hid (H.out.below hb2)
      have HO := Lib.hid ho.rd
      clear hown hgrow hi hz0 hz1 hz2 ho hb2 H c0 hb
      go_wp2_with fail
      refine (newC_off _ _ (List.replicate s 0) w2 HO.out (by rw [List.length_replicate]; exact hs3)).mono ?_
      rintro e w' ⟨rfl, rfl⟩
      go_wp2
      go_roundw
      case rel => exact ⟨k + 1, by omega, by go_num, H3⟩
      case measure => simp [intOf]; omega
    · obtain rfl : k = 4 := by omega
      go_wp2_with fail
      refine (newP_env H.out).mono ?_
      rintro e w3 ⟨l, rfl, h5⟩
      have H3 := Lib.hid h5
      clear h5 H
      obtain ⟨hi, hz0, hz1, hz2⟩ := HI.out
      go_wp2_with (refine wpList_make_full _ rfl _ _ 22 rfl 0 5 i0 _ 1 Try.underlying22 hi hz0 hz1 .i64 .i64 _ _ 16 rfl rfl rfl rfl (mk48 (by omega) hz2) (mkmax (by omega)) (Nat.zero_le _) ?_)
      intro w4 hown hgrow
      have ho := made_bs hown
      have hb6 := (Below.refl w3.heap.size w3).grown hgrow (Nat.le_refl _) (fun k hk => by cases hk)
      have H4 := Lib.hid (H3.out.pushB ho hb6 (fun x hx => by
        have e : w3.heap.size = x := by simpa [fpv, Value.ownBlock] using hx
        omega))
      clear hown hgrow hi hz0 hz1 hz2 ho hb6 H3
      go_wp2_with fail
      refine (newC_env H4.out 1 rfl (Few.nil.room (by omega)) (Src.whole H4.out 1 2 (by decide) rfl) (by rw [List.length_replicate]; exact .inl rfl)).mono ?_
      rintro e w5 ⟨c, rfl, h5⟩
      obtain ⟨S, hS⟩ : ∃ S, S = sched (List.replicate 16 0) := ⟨_, rfl⟩
      rw [List.length_replicate, ← hS] at h5
      obtain ⟨y1, hy1⟩ : ∃ y, y = obK bs 3 #[.int .i64 0, .int .i64 15, .int .i64 17, .int .i64 33] := ⟨_, rfl⟩
      obtain ⟨y2, hy2⟩ : ∃ y, y = obB (.slice (some ⟨w3.heap.size, 0, none⟩) 16 16) (List.replicate 16 0) := ⟨_, rfl⟩
      have H5 : Hid (Env w w5 [y1, obP l (some [⟨4, 16, 1⟩]), y2, obC (.pointer (some ⟨c, 0, none⟩)) (some (16, S))]) := by rw [hy1, hy2]; exact Lib.hid h5
      clear h5 H4 hS hy1 hy2
      have F0 : Few [(⟨4, 16, 1⟩ : Rn)] 1 := ⟨by decide, by decide⟩
      have hz := zero16
      obtain ⟨zl, hzl⟩ : ∃ zl : List UInt8, zl = List.replicate 16 0 := ⟨_, rfl⟩
      rw [← hzl] at hz
      have hzl16 : zl.length = 16 := by rw [hzl]; rfl
      have hzs : (barr zl).size = 16 := by rw [barr_size]; exact hzl16
      have hzne : ¬ barr zl = #[] := by intro hh; rw [hh] at hzs; simp at hzs
      clear hzl
      go_wp2_with fail
      refine (encC_env H5.out 3 1 (by decide) rfl rfl (F0.room (by omega)) (by decide) zl hzl16).mono ?_
      rintro e w6 ⟨rfl, h5⟩
      have H6 : Hid (Env w w6 [y1, obP l (some [⟨4, 16, 1⟩, ⟨5, 16, 1⟩]), y2, obC (.pointer (some ⟨c, 0, none⟩)) (some (16, S))]) := Lib.hid h5
      have F1 : Few [(⟨4, 16, 1⟩ : Rn), ⟨5, 16, 1⟩] 2 := ⟨by decide, by decide⟩
      clear h5 H5
      go_wp2_with fail
      refine (decC_env H6.out 3 1 (by decide) rfl rfl (F1.room (by omega)) (by decide) zl hzl16).mono ?_
      rintro e w7 ⟨rfl, h5⟩
      have H7 : Hid (Env w w7 [y1, obP l (some [⟨4, 16, 1⟩, ⟨5, 16, 2⟩]), y2, obC (.pointer (some ⟨c, 0, none⟩)) (some (16, S))]) := Lib.hid h5
      have F2 : Few [(⟨4, 16, 1⟩ : Rn), ⟨5, 16, 2⟩] 3 := ⟨by decide, by decide⟩
      clear h5 H6
      go_wp2_with fail
      refine (wipeC_env H7.out 3 1 (by decide) rfl rfl (F2.room (by omega)) (by decide)).mono ?_
      rintro e w8 ⟨rfl, h5⟩
      have H8 : Hid (Env w w8 [y1, obP l (some [⟨4, 16, 1⟩, ⟨5, 16, 2⟩, ⟨8, 176, 1⟩]), y2, obC (.pointer (some ⟨c, 0, none⟩)) (some (0, zeroK))]) := Lib.hid h5
      clear h5 H7 hz hzs hzne
      go_wp2_with fail
      refine (runs5_any 16 2 w8 (by decide)).mono ?_
      rintro e w9 ⟨u, rfl, h1, h2, h3⟩
      have hrow : (w9.alloc (.cells #[.int .u8 8, .int .i64 176, .int .i64 1] 44)).ownsRow 0 44 3 u 2 (flatR [⟨4, 16, 1⟩, ⟨5, 16, 2⟩]) := World.ownsRow.alloc h1 _
      have HR := Lib.hid hrow
      have HM := Lib.hid (And.intro h1 (And.intro h2 h3))
      clear h1 h2 h3 hrow
      obtain ⟨j0, hj, hj0, hj1, hj2⟩ := info_parts infoRun
      go_wp2_with (at_builtin; refine wpList_append_lies _ rfl _ _ 38 rfl 0 44 j0 _ 3 24 Try.underlying38 hj hj0 hj1 hj2 rfl (by decide) u 2 (flatR [⟨4, 16, 1⟩, ⟨5, 16, 2⟩]) rfl HR.out ⟨w9.heap.size, 0, none⟩ 1 1 [.int .u8 8, .int .i64 176, .int .i64 1] rfl rfl (World.news_of_block (heap_alloc_new _ _)) (three_cells 8 176 1) (by decide) (by decide) (by decide) (Nat.zero_le _) _ rfl ?_)
      intro g' cap' w10 hown hgrow hat hlt2
      obtain ⟨m1, m2, m3⟩ := RunsAt.more (w := w8) (rs := [⟨4, 16, 1⟩, ⟨5, 16, 2⟩]) (r := ⟨8, 176, 1⟩) rfl HM.out.1 HM.out.2.1 HM.out.2.2 hown hgrow (fun x hx => by
        have e : g' = x := by simpa [Value.ownBlock] using hx
        subst e
        rcases hat with hat | hat
        · exact .inl hat
        · right; rw [hat]; simp)
      have H10 := Lib.hid (H8.out.pushRuns m1 m2 m3)
      clear hown hgrow hat hlt2 hj hj0 hj1 hj2 m1 m2 m3 HM HR H8
      go_wp2_with fail
      refine (aesAwake_any w10).mono ?_
      rintro e w11 ⟨rfl, hb⟩
      have h5 := H10.out.below hb
      clear hb
      have H11 := Lib.hid h5
      clear h5 H10
      go_wp2_with fail
      refine (runsP_env H11.out 1 rfl (by simp)).mono ?_
      rintro e w12 ⟨vp, rfl, h5⟩
      have H12 := Lib.hid h5
      clear h5 H11
      go_wp2_with fail
      refine (sameRuns_env H12.out (H12.out.runs 5 rfl).rd (H12.out.runs 4 rfl).rd).mono ?_
      rintro e w13 ⟨he, h5⟩
      have he' : e = .returned (.bool true) := by rw [he]; rfl
      subst he'
      have H13 := Lib.hid h5
      clear h5 he H12
      go_wp2_with fail
      refine (lenC_env H13.out 3 rfl).mono ?_
      rintro e w' ⟨he, rfl⟩
      have he' : e = .returned (.int .i64 0) := he
      subst he'
      go_wp2
      go_ret
      exact ⟨rfl, H13.out.base⟩
end Go.Proofs.Ytihmgkjmebdioaa
