/- Laws' contracts: troubles. -/
import Derived.Test.YtpbpkpghkbcjdaaCc
import Derived.Test.YtpbpkpghkbcjdaaAby
namespace Go.Proofs.Ytpbpkpghkbcjdaa
open Go Go.Ab

theorem l_FnExactTroubleName (pargs : List PV) (h : fitsAll [.one (.int .i64)] pargs) : HFn Try.prog 3 pargs [] (.bool true) [] := by
  obtain ⟨p, q, rfl, h0, hz⟩ := fitsAll_cons h
  obtain rfl := fitsAll_nil hz
  obtain ⟨n, rfl, _⟩ := fits_int h0
  exact c_law_TroubleName n

theorem l_FnExactTroubleText (pargs : List PV) (h : fitsAll [.agg [.int .i64, .str, .str]] pargs) : HFn Try.prog 4 pargs [] (.bool true) [] := by
  obtain ⟨p, q, rfl, ⟨cs, rfl, h0⟩, hz⟩ := fitsAll_cons h
  obtain rfl := fitsAll_nil hz
  obtain ⟨_, _, rfl, h1, h0⟩ := fitsL_cons h0
  obtain ⟨_, _, rfl, h2, h0⟩ := fitsL_cons h0
  obtain ⟨_, _, rfl, h3, h0⟩ := fitsL_cons h0
  obtain rfl := fitsL_nil h0
  obtain ⟨k, rfl, _⟩ := fits_int h1
  obtain ⟨s, rfl, hs⟩ := fits_str h2
  obtain ⟨t, rfl, ht⟩ := fits_str h3
  exact c_law_TroubleText k s t hs ht
end Go.Proofs.Ytpbpkpghkbcjdaa
