/- Equality of flags, names and BPDUs, decided. -/
import Derived.Test.YtidcjbanhdpkkaaBpF
namespace Go.Proofs.Ytidcjbanhdpkkaa
open Go.RowKit
def Bp.vals (b : Bp) : List Value := .int .i64 b.kind :: (b.fl.vals ++ (b.root.vals ++ (.int .i64 b.cost :: (b.sender.vals ++ (b.port.vals ++ [.int .i64 b.age, .int .i64 b.max, .int .i64 b.hello, .int .i64 b.wait])))))
theorem Bp.len (b : Bp) : b.vals.length = 31 := rfl
theorem Bp.one (b : Bp) : ∀ v ∈ b.vals, v.oneCell' = true := fun v hv => by
  simp only [Bp.vals, List.mem_cons, List.mem_append, List.not_mem_nil, or_false] at hv
  rcases hv with rfl | hv | hv | rfl | hv | hv | rfl | rfl | rfl | rfl
  · rfl
  · exact Fl.one _ v hv
  · exact Br.one _ v hv
  · rfl
  · exact Br.one _ v hv
  · exact Pt.one _ v hv
  · rfl
  · rfl
  · rfl
  · rfl
set_option maxRecDepth 100000 in
set_option maxHeartbeats 1000000 in
theorem fl_eqIn (x y : Fl) (d : Nat) (W : World) : (Op.equalIn (d + 1 + 1) 46 (.agg x.vals.toArray) (.agg y.vals.toArray)).run Try.prog W = .ok (decide (x = y)) W := by
  have u3 := Try.underlying3
  have a3 := Try.isAgg3
  have z3 := Try.sizeOf3
  have u4 := Try.underlying4
  have a4 := Try.isAgg4
  have z4 := Try.sizeOf4
  have hS : Try.prog.underlying 46 = some (.struct (Try.prog.fieldsOf 46)) := by kernel_rfl
  have hp : Try.prog.stoodInHeld 46 = false := by kernel_rfl
  obtain ⟨c, p, r, l, s, g, a⟩ := x
  obtain ⟨c', p', r', l', s', g', a'⟩ := y
  simp only [Fl.vals]
  rw [run_equalIn_agg W (d + 1) 46 _ _ hS hp]
  simp only [Program.fieldsOf, Try.underlying46]
  go_simp
  repeat' split
  all_goals simp_all
set_option maxRecDepth 100000 in
set_option maxHeartbeats 1000000 in
theorem pt_eqIn (x y : Pt) (d : Nat) (W : World) : (Op.equalIn (d + 1 + 1) 90 (.agg x.vals.toArray) (.agg y.vals.toArray)).run Try.prog W = .ok (decide (x = y)) W := by
  have u3 := Try.underlying3
  have a3 := Try.isAgg3
  have z3 := Try.sizeOf3
  have hS : Try.prog.underlying 90 = some (.struct (Try.prog.fieldsOf 90)) := by kernel_rfl
  have hp : Try.prog.stoodInHeld 90 = false := by kernel_rfl
  obtain ⟨c, p⟩ := x
  obtain ⟨c', p'⟩ := y
  simp only [Pt.vals]
  rw [run_equalIn_agg W (d + 1) 90 _ _ hS hp]
  simp only [Program.fieldsOf, Try.underlying90]
  go_simp
  repeat' split
  all_goals simp_all
set_option maxRecDepth 100000 in
set_option maxHeartbeats 1000000 in
theorem br_eqIn (x y : Br) (d : Nat) (W : World) : (Op.equalIn (d + 1 + 1 + 1) 92 (.agg x.vals.toArray) (.agg y.vals.toArray)).run Try.prog W = .ok (decide (x = y)) W := by
  have u3 := Try.underlying3
  have a3 := Try.isAgg3
  have z3 := Try.sizeOf3
  have aA := Try.isAgg52
  have zA := Try.sizeOf52
  have hS : Try.prog.underlying 92 = some (.struct (Try.prog.fieldsOf 92)) := by kernel_rfl
  have hp : Try.prog.stoodInHeld 92 = false := by kernel_rfl
  obtain ⟨p, e, ad⟩ := x
  obtain ⟨p', e', ad'⟩ := y
  have h1 := ad_eqIn ad ad' d W
  have hd : decide (Br.mk p e ad = Br.mk p' e' ad') = (decide (p = p') && (decide (e = e') && decide (ad = ad'))) := by simp
  rw [hd]
  generalize decide (ad = ad') = q at *
  clear hd
  obtain ⟨x1, x2, x3, x4, x5, x6⟩ := ad
  obtain ⟨y1, y2, y3, y4, y5, y6⟩ := ad'
  simp only [Ad.vals] at h1
  simp only [Br.vals, Ad.vals]
  rw [run_equalIn_agg W (d + 1 + 1) 92 _ _ hS hp]
  simp only [Program.fieldsOf, Try.underlying92]
  cases q
  all_goals
    go_simp
    repeat' split
    all_goals simp_all
set_option maxRecDepth 100000 in
set_option maxHeartbeats 4000000 in
theorem bp_eqIn (x y : Bp) (d : Nat) (W : World) : (Op.equalIn (d + 1 + 1 + 1 + 1) 94 (.agg x.vals.toArray) (.agg y.vals.toArray)).run Try.prog W = .ok (decide (x = y)) W := by
  have u3 := Try.underlying3
  have a3 := Try.isAgg3
  have z3 := Try.sizeOf3
  have aF := Try.isAgg46
  have zF := Try.sizeOf46
  have aB := Try.isAgg92
  have zB := Try.sizeOf92
  have aP := Try.isAgg90
  have zP := Try.sizeOf90
  have hS : Try.prog.underlying 94 = some (.struct (Try.prog.fieldsOf 94)) := by kernel_rfl
  have hp : Try.prog.stoodInHeld 94 = false := by kernel_rfl
  obtain ⟨k, f, r, c, s, p, n1, n2, n3, n4⟩ := x
  obtain ⟨k', f', r', c', s', p', m1, m2, m3, m4⟩ := y
  have h1 := fl_eqIn f f' (d + 1) W
  have h2 := br_eqIn r r' d W
  have h3 := br_eqIn s s' d W
  have h4 := pt_eqIn p p' (d + 1) W
  have hd : decide (Bp.mk k f r c s p n1 n2 n3 n4 = Bp.mk k' f' r' c' s' p' m1 m2 m3 m4) = (decide (k = k') && (decide (f = f') && (decide (r = r') && (decide (c = c') && (decide (s = s') && (decide (p = p') && (decide (n1 = m1) && (decide (n2 = m2) && (decide (n3 = m3) && decide (n4 = m4)))))))))) := by simp
  rw [hd]
  generalize decide (f = f') = q1 at *
  generalize decide (r = r') = q2 at *
  generalize decide (s = s') = q3 at *
  generalize decide (p = p') = q4 at *
  clear hd
  obtain ⟨f1, f2, f3, f4, f5, f6, f7⟩ := f
  obtain ⟨g1, g2, g3, g4, g5, g6, g7⟩ := f'
  obtain ⟨r1, r2, ⟨x1, x2, x3, x4, x5, x6⟩⟩ := r
  obtain ⟨t1, t2, ⟨y1, y2, y3, y4, y5, y6⟩⟩ := r'
  obtain ⟨s1, s2, ⟨z1, z2, z3, z4, z5, z6⟩⟩ := s
  obtain ⟨o1, o2, ⟨v1, v2, v3, v4, v5, v6⟩⟩ := s'
  obtain ⟨p1, p2⟩ := p
  obtain ⟨i1, i2⟩ := p'
  simp only [Fl.vals, Br.vals, Pt.vals, Ad.vals] at h1 h2 h3 h4
  simp only [Bp.vals, Fl.vals, Br.vals, Pt.vals, Ad.vals, List.cons_append, List.nil_append]
  rw [run_equalIn_agg W (d + 1 + 1 + 1) 94 _ _ hS hp]
  have hI : ∀ (a b : Int) (W : World), (Op.equalIn (d + 1 + 1 + 1) 3 (.int .i64 a) (.int .i64 b)).run Try.prog W = .ok (a == b) W := fun a b W => run_equalIn_int W (d + 1 + 1) 3 .i64 .i64 a b u3
  generalize d + 1 + 1 + 1 = D at *
  simp only [Program.fieldsOf, Try.underlying94]
  by_cases e0 : k = k'
  · subst e0
    cases q1
    · go_simp
    ·
      cases q2
      · go_simp
      ·
        by_cases e3 : c = c'
        · subst e3
          cases q3
          · go_simp
          ·
            cases q4
            · go_simp
            ·
              by_cases e6 : n1 = m1
              · subst e6
                by_cases e7 : n2 = m2
                · subst e7
                  by_cases e8 : n3 = m3
                  · subst e8
                    by_cases e9 : n4 = m4
                    · subst e9
                      go_simp
                    · have e9b : (n4 == m4) = false := by rw [beq_eq_false_iff_ne]; exact e9
                      go_simp
                  · have e8b : (n3 == m3) = false := by rw [beq_eq_false_iff_ne]; exact e8
                    go_simp
                · have e7b : (n2 == m2) = false := by rw [beq_eq_false_iff_ne]; exact e7
                  go_simp
              · have e6b : (n1 == m1) = false := by rw [beq_eq_false_iff_ne]; exact e6
                go_simp
        · have e3b : (c == c') = false := by rw [beq_eq_false_iff_ne]; exact e3
          go_simp
  · have e0b : (k == k') = false := by rw [beq_eq_false_iff_ne]; exact e0
    go_simp
theorem bp_eq (x y : Bp) (W : World) : (binOp .eql 94 (.agg x.vals.toArray) (.agg y.vals.toArray)).run Try.prog W = .ok (.bool (decide (x = y))) W := by
  rw [run_eql_struct, show (10000 : Nat) = 9996 + 1 + 1 + 1 + 1 from rfl, bp_eqIn]; rfl
theorem bp_neq (x y : Bp) (W : World) : (binOp .neq 94 (.agg x.vals.toArray) (.agg y.vals.toArray)).run Try.prog W = .ok (.bool (!decide (x = y))) W := by
  rw [run_neq_struct, show (10000 : Nat) = 9996 + 1 + 1 + 1 + 1 from rfl, bp_eqIn]; rfl
theorem bp_guard (op : BinOp) (x y : Bp) (p q : Operand) (W : World) : (eqGuard op 94 p q (.agg x.vals.toArray) (.agg y.vals.toArray)).run Try.prog W = .ok () W := run_eqGuard_agg W op _ p q _ _ (by kernel_rfl)
theorem fl_eq (x y : Fl) (W : World) : (binOp .eql 46 (.agg x.vals.toArray) (.agg y.vals.toArray)).run Try.prog W = .ok (.bool (decide (x = y))) W := by
  rw [run_eql_struct, show (10000 : Nat) = 9998 + 1 + 1 from rfl, fl_eqIn]; rfl
theorem fl_neq (x y : Fl) (W : World) : (binOp .neq 46 (.agg x.vals.toArray) (.agg y.vals.toArray)).run Try.prog W = .ok (.bool (!decide (x = y))) W := by
  rw [run_neq_struct, show (10000 : Nat) = 9998 + 1 + 1 from rfl, fl_eqIn]; rfl
theorem fl_guard (op : BinOp) (x y : Fl) (p q : Operand) (W : World) : (eqGuard op 46 p q (.agg x.vals.toArray) (.agg y.vals.toArray)).run Try.prog W = .ok () W := run_eqGuard_agg W op _ p q _ _ (by kernel_rfl)
end Go.Proofs.Ytidcjbanhdpkkaa
