/- The plain law of trees, part 3: shapes; what mending comes to. No program in sight. No conditions. -/
import Derived.Test.YtdglignjoojimaaT2
set_option linter.unusedVariables false
set_option linter.unusedSimpArgs false
namespace Go.Proofs.Ytdglignjoojimaa

/-- A leaf has no kids, a node one more than keys. -/
def Sh : Nat → Tr → Prop
  | 0, .leaf _ => True
  | _ + 1, .node ks ts => ts.length = ks.length + 1
  | _, _ => False
theorem In.sh : ∀ {d : Nat} {t : Tr} {lo hi : Int}, In d lo hi t → Sh d t
  | 0, .leaf _, _, _, _ => trivial
  | d + 1, .node ks ts, _, _, h => Ch.len h
theorem Sh.both : ∀ {d : Nat} {a b : Tr} {s : Int}, Sh d a → Sh d b → Sh d (bothT a s b)
  | 0, .leaf _, .leaf _, _, _, _ => trivial
  | d + 1, .node k1 t1, .node k2 t2, s, h1, h2 => by
    have h1 : t1.length = k1.length + 1 := h1
    have h2 : t2.length = k2.length + 1 := h2
    show (t1 ++ t2).length = (k1 ++ s :: k2).length + 1
    simp; omega
theorem cutT_le : ∀ {t : Tr}, nk t ≤ 7 → cutT t = (t, none)
  | .leaf l, h => by
    have h : (keysP l).length ≤ 7 := h
    rw [cutT_0, if_pos (by simpa [keysP] using h)]
  | .node ks ts, h => by
    have h : ks.length ≤ 7 := h
    rw [cutT_s, if_pos h]
theorem cutT_gt : ∀ {t : Tr}, ¬ nk t ≤ 7 → (cutT t).2.isSome = true
  | .leaf l, h => by
    have h : ¬ (keysP l).length ≤ 7 := h
    rw [cutT_0, if_neg (by simpa [keysP] using h)]; rfl
  | .node ks ts, h => by
    have h : ¬ ks.length ≤ 7 := h
    rw [cutT_s, if_neg h]; rfl
theorem mendT_le {ks : List Int} {ts : List Tr} {i : Nat} {a b : Tr} {s : Int} (h1 : ts[i]? = some a) (h2 : ts[i + 1]? = some b) (h3 : ks[i]? = some s) (h : nk (bothT a s b) ≤ 7) :
    mendT ks ts i = (ks.take i ++ ks.drop (i + 1), (ts.take (i + 1) ++ ts.drop (i + 2)).set i (bothT a s b)) := by
  unfold mendT
  simp only [h1, h2, h3, cutT_le h]
theorem mendT_gt {ks : List Int} {ts : List Tr} {i : Nat} {a b l r : Tr} {s s' : Int} (h1 : ts[i]? = some a) (h2 : ts[i + 1]? = some b) (h3 : ks[i]? = some s) (h : cutT (bothT a s b) = (l, some (s', r))) :
    mendT ks ts i = (ks.set i s', (ts.set i l).set (i + 1) r) := by
  unfold mendT
  simp only [h1, h2, h3, h]
theorem keysP_del (l : List Pr) (i j : Nat) : keysP (l.take i ++ l.drop j) = (keysP l).take i ++ (keysP l).drop j := by simp [keysP, List.map_take, List.map_drop]
end Go.Proofs.Ytdglignjoojimaa
