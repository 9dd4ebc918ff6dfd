/- All functions that are reached. Written by a program of this part. -/
import Derived.Test.YtnbfkndicldppaaF0
