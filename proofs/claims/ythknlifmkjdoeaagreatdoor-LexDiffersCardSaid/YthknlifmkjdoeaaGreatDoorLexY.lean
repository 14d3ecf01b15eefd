/-
  What the rows say of the library's variables.
-/
import Derived.Test.YthknlifmkjdoeaaGreatDoorRows
import Derived.Test.YthknlifmkjdoeaaGreatDoorLexX
import Derived.Lib.LaidTab
import Derived.LaidSub
import Derived.Stop.LaidErr
namespace Go.Proofs.YthknlifmkjdoeaaGreatDoor
open Go.RowKit Lode Go.Shelf
theorem starES : "*" ++ "errors.errorString" = "*errors.errorString" := by decide
theorem rowES (u : TypeId) (h : Tryz.prog.typeName? 3 u = some "*errors.errorString") : u = 189 :=
  typeName_ptr_named (nm := "errors.errorString") (by rw [starES]; kernel_rfl) (by kernel_rfl) (by decide) u (by rw [starES]; exact h)
set_option maxRecDepth 100000 in
theorem glob_of (w : World) (hL : laidMet Tryz.prog Rows.lexReadsRow.laid w) : Glob w := by
  refine ⟨?_, ?_, ?_⟩
  · have h := hL.filter (fun x => x.1 == "strings.asciiSpace")
    have e : (Rows.lexReadsRow.laid.filter fun x => x.1 == "strings.asciiSpace") = [("strings.asciiSpace", Lib.tabData .u8 Lib.asciiSpaceTab)] := by rfl
    rw [e] at h
    exact Lib.tabIs_of_head (g := 1) (t := 141) (e := 5) (n := 256) (by kernel_rfl) (by kernel_rfl) (by kernel_rfl) (by kernel_rfl) (by kernel_rfl) (by kernel_rfl) h
  · have h := hL.filter (fun x => x.1 == "internal/strconv.uint64pow10")
    have e : (Rows.lexReadsRow.laid.filter fun x => x.1 == "internal/strconv.uint64pow10") = [("internal/strconv.uint64pow10", Lib.tabData .u64 Lib.pow10Tab)] := by rfl
    rw [e] at h
    exact Lib.tabIs_of_head (g := 7) (t := 193) (e := 137) (n := 20) (by kernel_rfl) (by kernel_rfl) (by kernel_rfl) (by kernel_rfl) (by kernel_rfl) (by kernel_rfl) h
  · have h := hL.filter (fun x => x.1 == "strconv.ErrRange")
    have e : (Rows.lexReadsRow.laid.filter fun x => x.1 == "strconv.ErrRange") = [("strconv.ErrRange", .iface "*errors.errorString" (.ptr (.agg [.lit (.string [118, 97, 108, 117, 101, 32, 111, 117, 116, 32, 111, 102, 32, 114, 97, 110, 103, 101])])))] := by rfl
    rw [e] at h
    obtain ⟨a, s, hv, _⟩ := laid_sentinel (g := 6) (tp := 189) (te := 191) (ts := 9) (ti := 84) h (by kernel_rfl) (by kernel_rfl) Tryz.underlying84 rowES Tryz.underlying189 Tryz.underlying191 rfl rfl (by kernel_rfl) (by kernel_rfl) (by kernel_rfl)
    exact ⟨_, _, hv⟩
end Go.Proofs.YthknlifmkjdoeaaGreatDoor
