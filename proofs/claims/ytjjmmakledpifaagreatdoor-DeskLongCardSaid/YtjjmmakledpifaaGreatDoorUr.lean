/-
  The law's function, run, for each class of lengths of its text.
-/
import Derived.Test.YtjjmmakledpifaaGreatDoorUa
namespace Go.Proofs.YtjjmmakledpifaaGreatDoor
open Go.Ra
set_option maxRecDepth 100000 in
theorem long_run0 : saysTrue (callA ft1 (exec ft1 100000) (bid 3) (.cs (.text 0 1) .nl) (glH gl) 1000) = true := by decide +kernel
set_option maxRecDepth 100000 in
theorem long_run1 : saysTrue (callA ft1 (exec ft1 100000) (bid 3) (.cs (.text 1 2) .nl) (glH gl) 1000) = true := by decide +kernel
set_option maxRecDepth 100000 in
theorem long_run2 : saysTrue (callA ft1 (exec ft1 100000) (bid 3) (.cs (.text 2 4) .nl) (glH gl) 1000) = true := by decide +kernel
set_option maxRecDepth 100000 in
theorem long_run3 : saysTrue (callA ft1 (exec ft1 100000) (bid 3) (.cs (.text 4 8) .nl) (glH gl) 1000) = true := by decide +kernel
set_option maxRecDepth 100000 in
theorem long_run4 : saysTrue (callA ft1 (exec ft1 100000) (bid 3) (.cs (.text 8 16) .nl) (glH gl) 1000) = true := by decide +kernel
set_option maxRecDepth 100000 in
theorem long_run5 : saysTrue (callA ft1 (exec ft1 100000) (bid 3) (.cs (.text 16 32) .nl) (glH gl) 1000) = true := by decide +kernel
set_option maxRecDepth 100000 in
theorem long_run6 : saysTrue (callA ft1 (exec ft1 100000) (bid 3) (.cs (.text 32 64) .nl) (glH gl) 1000) = true := by decide +kernel
set_option maxRecDepth 100000 in
theorem long_run7 : saysTrue (callA ft1 (exec ft1 100000) (bid 3) (.cs (.text 64 128) .nl) (glH gl) 1000) = true := by decide +kernel
set_option maxRecDepth 100000 in
theorem long_run8 : saysTrue (callA ft1 (exec ft1 100000) (bid 3) (.cs (.text 128 256) .nl) (glH gl) 1000) = true := by decide +kernel
set_option maxRecDepth 100000 in
theorem long_run9 : saysTrue (callA ft1 (exec ft1 100000) (bid 3) (.cs (.text 256 512) .nl) (glH gl) 1000) = true := by decide +kernel
set_option maxRecDepth 100000 in
theorem long_run10 : saysTrue (callA ft1 (exec ft1 100000) (bid 3) (.cs (.text 512 1024) .nl) (glH gl) 1000) = true := by decide +kernel
set_option maxRecDepth 100000 in
theorem long_run11 : saysTrue (callA ft1 (exec ft1 100000) (bid 3) (.cs (.text 1024 2048) .nl) (glH gl) 1000) = true := by decide +kernel
set_option maxRecDepth 100000 in
theorem long_run12 : saysTrue (callA ft1 (exec ft1 100000) (bid 3) (.cs (.text 2048 4096) .nl) (glH gl) 1000) = true := by decide +kernel
set_option maxRecDepth 100000 in
theorem long_run13 : saysTrue (callA ft1 (exec ft1 100000) (bid 3) (.cs (.text 4096 8192) .nl) (glH gl) 1000) = true := by decide +kernel
set_option maxRecDepth 100000 in
theorem long_run14 : saysTrue (callA ft1 (exec ft1 100000) (bid 3) (.cs (.text 8192 16384) .nl) (glH gl) 1000) = true := by decide +kernel
set_option maxRecDepth 100000 in
theorem long_run15 : saysTrue (callA ft1 (exec ft1 100000) (bid 3) (.cs (.text 16384 32768) .nl) (glH gl) 1000) = true := by decide +kernel
set_option maxRecDepth 100000 in
theorem long_run16 : saysTrue (callA ft1 (exec ft1 100000) (bid 3) (.cs (.text 32768 65536) .nl) (glH gl) 1000) = true := by decide +kernel
set_option maxRecDepth 100000 in
theorem long_run17 : saysTrue (callA ft1 (exec ft1 100000) (bid 3) (.cs (.text 65536 70001) .nl) (glH gl) 1000) = true := by decide +kernel
set_option maxRecDepth 100000 in
theorem long_run18 : saysTrue (callA ft1 (exec ft1 100000) (bid 3) (.cs (.text 70001 9223372036854775808) .nl) (glH gl) 1000) = true := by decide +kernel
set_option maxRecDepth 100000 in
theorem accept_run : saysV accA (callA ftN (exec ftN 100000) (bid 473) keyA (glH .nil) 1000) = true := by decide +kernel
theorem accept_fn : isFn (TF.get (bid 473) ftN) = true := by decide +kernel
theorem long_fn : isFn (TF.get (bid 3) ft1) = true := by decide +kernel
theorem wakes_fn : isFn (TF.get (bid 5) ft0) = true := by decide +kernel
theorem need_fn : isFn (TF.get (bid 23) ftN) = true := by decide +kernel
theorem itoa_fn : isFn (TF.get (bid 61) ftN) = true := by decide +kernel
theorem need_run : saysV (.tuple .nl) (callA ftN (exec ftN 1000) (bid 23) (.cs (.bool true) .nl) (glH .nil) 1000) = true := by decide +kernel
theorem itoa_run : saysV (.str 3 3158065) (callA ftN (exec ftN 1000) (bid 61) (.cs (.int .i64 100) .nl) (glH gl) 1000) = true := by decide +kernel
end Go.Proofs.YtjjmmakledpifaaGreatDoor
